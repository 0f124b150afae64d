/- Operations, one by one: read-only calls. -/
import Derived.Test.YtdefmnljihnfoaaGreatDoorB6
namespace Go.Ab
open Go
set_option linter.unusedSectionVars false
set_option linter.unusedSimpArgs false
set_option linter.unusedVariables false
variable [Vals]
variable {ρ ρ' : Gh} {w w' : World} {P : Program} {G : Gl} {X : Exts} {A : Adv} {s s' : St} {env : Env} {a : Act} {lo : Nat} {d : D} {C : Caller} {al : Option Nat}
theorem StRel.ro_of {b : Bool} (h : StRel ρ s w) : StRel ρ { s with ro := b } w := ⟨h.lt, h.ok, h.no, h.live, h.size⟩
theorem StRel.of_ro {b : Bool} (h : StRel ρ { s with ro := b } w) : StRel ρ s w := ⟨h.lt, h.ok, h.no, h.live, h.size⟩
section
variable (he : EnvRel ρ w lo env a.tmps) (hg : GlOk G ρ w) (hs : StRel ρ s w)
include he hg hs
theorem ok_callro (hC : CallerOk P G C) {f : FuncId} {args' : Array Operand} {args : List Opd} (ha : opds G args' = some args) (h : opF C env s al (.call true f args) = some (d, s')) {o : Oper} {tys : Array TypeId}
    (ho : o.op = .call { callee := .value (.func f), args := args', argTypes := tys }) : OpOk P ρ w env a.tmps d s' ((execOp a.eval o).run P w) := by
  simp only [opF] at h
  split at h
  · rename_i l hl
    split at h
    · rename_i d1 s1 h1
      simp only [Option.some.injEq, Prod.mk.injEq] at h
      obtain ⟨rfl, rfl⟩ := h
      have hr := evs_rep he hg _ _ l ha hl
      have hrun : (execOp a.eval o).run P w = .ok (.enter f (args'.map a.eval)) w := by
        simp only [execOp, ho, resolve, Act.eval, Deferred.ofValue]
        have := hC.enter _ _ _ _ h1 (args'.map a.eval) w
        simpa [invoke] using this
      rw [hrun]
      refine ⟨rfl, ?_⟩
      have := hC.calls _ _ _ _ _ ρ w _ h1 hs.ro_of hg hr
      have hs1 : s1 = { s with ro := true } := hC.ro _ _ _ _ _ rfl h1
      subst hs1
      have e : (List.map a.eval args'.toList).toArray = args'.map a.eval := by simp [← Array.toList_map]
      rw [e] at this
      refine this.mono fun en w' hp => ?_
      cases en with
      | returned v => obtain ⟨ρ', k1, k2, k3⟩ := hp; exact ⟨ρ', k1, k2.of_ro, k3⟩
      | panicked _ => exact hp
      | outgrown => exact hp
    · cases h
  · cases h
end
end Go.Ab
