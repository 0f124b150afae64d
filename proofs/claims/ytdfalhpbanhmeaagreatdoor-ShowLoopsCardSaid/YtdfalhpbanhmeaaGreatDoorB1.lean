/- Operations, one by one: type assertions; least and greatest; strings iterated. -/
import Derived.Test.YtdfalhpbanhmeaaGreatDoorA18
namespace Go.Ab
open Go
set_option linter.unusedSectionVars false
set_option linter.unusedSimpArgs false
set_option linter.unusedVariables false
variable [Vals]
variable {ρ ρ' : Gh} {w w' : World} {P : Program} {pn : Pins} {G : Gl} {X : Exts} {A : Adv} {s s' : St} {env : Env} {a : Act} {lo : Nat} {d : D} {C : Caller} {al : Option Nat}
section
variable (he : EnvRel ρ w lo env a.tmps) (hg : GlOk pn G ρ w) (hs : StRel ρ s w)
include he hg hs

omit he hg hs in
theorem info_lt {t : TypeId} {i : TypeInfo} (h : P.types[t]? = some i) : P.info? t = some i := by
  have hlt : t < P.types.size := by
    rcases Nat.lt_or_ge t P.types.size with h1 | h1
    · exact h1
    · rw [Array.getElem?_eq_none h1] at h; cases h
  unfold Tables.info?
  rw [if_pos hlt, h]
omit he hg hs in
theorem okD_rep {ok b : Bool} {v : D} {u : Value} (h : Rep ρ w v u) : Rep ρ w (okD ok v b) (if ok then .tuple #[u, .bool b] else u) := by
  cases ok with
  | false => simpa [okD] using h
  | true => simp only [okD, if_true, Rep, RepL]; exact ⟨_, rfl, _, _, rfl, h, _, _, rfl, rfl, rfl⟩

theorem ok_tassert {t xt : TypeId} {z : D} {ok : Bool} {x' : Operand} {x : Opd} (hx : opd G x' = some x) {e : TypeDesc} (hu : P.underlying t = some e) (hni : ∀ ms, e ≠ .interface ms) (hz : zeroB P t = some z)
    (h : opF C env s al (.tassert t z ok x) = some (d, s')) {o : Oper} (ho : o.op = .typeAssert x' xt t ok) : OpOk P ρ w env a.tmps d s' ((execOp a.eval o).run P w) := by
  obtain ⟨zv, z1, z2, _⟩ := zero_run (w := w) hz
  have hzr : Rep ρ w z zv := ofV_rep _ _ z2
  have hfail : ∀ dy : Option TypeId, ok = true → Rep ρ w (.tup [z, .bool false]) (.tuple #[zv, .bool false]) := fun _ _ => by
    simp only [Rep, RepL]; exact ⟨_, rfl, _, _, rfl, hzr, _, _, rfl, rfl, rfl⟩
  simp only [opF] at h
  split at h
  · rename_i u v hp
    have hv := opd_rep hx he hg hp
    simp only [Rep] at hv
    obtain ⟨q, hv, hq⟩ := hv
    split at h
    · rename_i hb
      obtain rfl := Nat.eq_of_beq_eq_true hb
      simp only [Option.some.injEq, Prod.mk.injEq] at h
      obtain ⟨rfl, rfl⟩ := h
      have hr : (execOp a.eval o).run P w = .ok (.value (if ok then .tuple #[q, .bool true] else q)) w := by
        simp only [execOp, ho, hv, Instr.typeAssert]
        cases e <;> first
          | exact absurd rfl (hni _)
          | (simp [run_underlying hu])
      rw [hr]; exact .rep hs (okD_rep hq)
    · rename_i hb
      have hne : u ≠ t := by rintro rfl; rw [Nat.beq_refl] at hb; cases hb
      split at h
      · simp only [Option.some.injEq, Prod.mk.injEq] at h
        obtain ⟨rfl, rfl⟩ := h
        have hr : (execOp a.eval o).run P w = .ok (.value (.tuple #[zv, .bool false])) w := by
          simp only [execOp, ho, hv, Instr.typeAssert]
          cases e <;> first
            | exact absurd rfl (hni _)
            | (simp [run_underlying hu, hne, z1])
        rw [hr]; exact .rep hs (hfail none rfl)
      · cases h
  · rename_i hp
    have hv := opd_rep hx he hg hp
    simp only [Rep] at hv
    split at h
    · simp only [Option.some.injEq, Prod.mk.injEq] at h
      obtain ⟨rfl, rfl⟩ := h
      have hr : (execOp a.eval o).run P w = .ok (.value (.tuple #[zv, .bool false])) w := by
        simp only [execOp, ho, hv, Instr.typeAssert]
        cases e <;> first
          | exact absurd rfl (hni _)
          | (simp [run_underlying hu, z1])
      rw [hr]; exact .rep hs (hfail none rfl)
    · cases h
  · cases h

omit he hg hs in
theorem memN_iff {o : Nat} : ∀ {l : List Nat}, memN o l = true ↔ o ∈ l
  | [] => by simp [memN]
  | x :: r => by
    simp only [memN, List.mem_cons]
    split
    · rename_i h; exact ⟨fun _ => .inl (Nat.eq_of_beq_eq_true h).symm, fun _ => rfl⟩
    · rename_i h
      rw [memN_iff]
      exact ⟨.inr, fun q => q.resolve_left (by rintro rfl; rw [Nat.beq_refl] at h; cases h)⟩

omit he hg hs in
theorem implB_mem {want : Array (String × TypeId)} {u : Nat} : memN u (implB P want) = true ↔ ∃ i, P.types[u]? = some i ∧ Instr.missingMethod want i.methods = none := by
  rw [memN_iff]
  unfold implB
  simp only [List.mem_filterMap, Prod.exists]
  constructor
  · rintro ⟨i, t, h1, h2⟩
    rw [List.mem_zipIdx_iff_getElem?] at h1
    split at h2
    · rename_i hm
      simp only [Option.some.injEq] at h2; subst h2
      exact ⟨i, by simpa using h1, hm⟩
    · cases h2
  · rintro ⟨i, h1, h2⟩
    refine ⟨i, u, ?_, ?_⟩
    · rw [List.mem_zipIdx_iff_getElem?]; simpa using h1
    · simp only [h2]

theorem ok_tassertI {t xt : TypeId} {want : Array (String × TypeId)} {ok : Bool} {x' : Operand} {x : Opd} (hx : opd G x' = some x) (hu : P.underlying t = some (.interface want)) (hz : zeroB P t = some .nili)
    (h : opF C env s al (.tassertI P.types.size (implB P want) ok x) = some (d, s')) {o : Oper} (ho : o.op = .typeAssert x' xt t ok) : OpOk P ρ w env a.tmps d s' ((execOp a.eval o).run P w) := by
  obtain ⟨zv, z1, z2, _⟩ := zero_run (w := w) hz
  have hzr : Rep ρ w .nili zv := ofV_rep _ _ z2
  have hfail : Rep ρ w (.tup [.nili, .bool false]) (.tuple #[zv, .bool false]) := by
    simp only [Rep, RepL] at *; exact ⟨_, rfl, _, _, rfl, hzr, _, _, rfl, rfl, rfl⟩
  simp only [opF] at h
  split at h
  · rename_i u v hp
    have hv := opd_rep hx he hg hp
    have hv0 := hv
    simp only [Rep] at hv
    obtain ⟨q, hv, hq⟩ := hv
    split at h
    · rename_i hb
      obtain ⟨i, hi, hm⟩ := implB_mem.1 hb
      simp only [Option.some.injEq, Prod.mk.injEq] at h
      obtain ⟨rfl, rfl⟩ := h
      have hr : (execOp a.eval o).run P w = .ok (.value (if ok then .tuple #[a.eval x', .bool true] else a.eval x')) w := by
        simp only [execOp, ho, hv, Instr.typeAssert]
        simp [run_underlying hu, typeInfo, info_lt hi, hm]
      rw [hr]; exact .rep hs (okD_rep hv0)
    · rename_i hb
      split at h
      · rename_i hc
        simp only [Bool.and_eq_true] at hc
        obtain ⟨rfl, hlt⟩ := hc
        have hlt : u < P.types.size := Nat.le_of_ble_eq_true hlt
        simp only [Option.some.injEq, Prod.mk.injEq] at h
        obtain ⟨rfl, rfl⟩ := h
        have hi : P.types[u]? = some P.types[u] := Array.getElem?_eq_getElem hlt
        cases hm : Instr.missingMethod want P.types[u].methods with
        | none => exact absurd (implB_mem.2 ⟨_, hi, hm⟩) (by rw [hb]; simp)
        | some msg =>
          have hr : (execOp a.eval o).run P w = .ok (.value (.tuple #[zv, .bool false])) w := by
            simp only [execOp, ho, hv, Instr.typeAssert]
            simp [run_underlying hu, typeInfo, info_lt hi, hm, z1]
          rw [hr]; exact .rep hs hfail
      · cases h
  · rename_i hp
    have hv := opd_rep hx he hg hp
    simp only [Rep] at hv
    split at h
    · simp only [Option.some.injEq, Prod.mk.injEq] at h
      obtain ⟨rfl, rfl⟩ := h
      have hr : (execOp a.eval o).run P w = .ok (.value (.tuple #[zv, .bool false])) w := by
        simp only [execOp, ho, hv, Instr.typeAssert]
        simp [run_underlying hu, z1]
      rw [hr]; exact .rep hs hfail
    · cases h
  · cases h

omit he hg hs in
theorem minI_ok {mx : Bool} : ∀ (l : List D) (vs : List Value) (d0 d : D) (v0 : Value), minI mx d0 l = some d → Rep ρ w d0 v0 → RepL ρ w l vs → ∃ v, (vs.foldlM (if mx then Builtin.max2 else Builtin.min2) v0).run P w = .ok v w ∧ Rep ρ w d v
  | [], vs, d0, d, v0, h, h0, hl => by
    simp only [RepL] at hl; subst hl
    have : minI mx d0 [] = some d0 := by cases d0 <;> rfl
    rw [this] at h
    simp only [Option.some.injEq] at h; subst h
    exact ⟨v0, by simp, h0⟩
  | x :: l, vs, d0, d, v0, h, h0, hl => by
    simp only [RepL] at hl
    obtain ⟨v1, r, rfl, h1, h2⟩ := hl
    unfold minI at h
    split at h
    · rename_i hh; cases hh
    · rename_i k p j q l2 hh
      simp only [List.cons.injEq] at hh
      obtain ⟨rfl, rfl⟩ := hh
      split at h
      · rename_i hk
        obtain rfl := of_decide_eq_true hk
        simp only [Rep] at h0 h1
        subst h0 h1
        obtain ⟨v, g1, g2⟩ := minI_ok l r _ d _ h rfl h2
        refine ⟨v, ?_, g2⟩
        rw [List.foldlM_cons]
        cases mx <;> simpa [Builtin.max2, Builtin.min2] using g1
      · cases h
    · cases h

theorem ok_minmax {mx : Bool} {l' : List Operand} {l : List Opd} {tys : Array TypeId} (hl : l'.mapM (opd G) = some l) (h : opF C env s al (.minmax mx l) = some (d, s')) {o : Oper} (ho : o.op = .call { callee := .builtin (if mx then .max else .min), args := l'.toArray, argTypes := tys }) :
    OpOk P ρ w env a.tmps d s' ((execOp a.eval o).run P w) := by
  simp only [opF] at h
  split at h
  · rename_i d0 r hev
    obtain ⟨h1, rfl⟩ := ofO_some h
    have hr := evs_rep he hg _ _ _ hl hev
    simp only [RepL] at hr
    obtain ⟨v0, vr, e1, e2, e3⟩ := hr
    obtain ⟨v, g1, g2⟩ := minI_ok (P := P) r vr d0 d v0 h1 e2 e3
    have hrun : (execOp a.eval o).run P w = .ok (.value v) w := by
      cases mx with
      | false =>
        rw [run_builtin (b := .min) ho]
        simp only [builtin, Builtin.min_, List.map_toArray, e1]
        rw [Sem.run_bind]
        simp only [if_false, Bool.false_eq_true] at g1
        rw [g1]; rfl
      | true =>
        rw [run_builtin (b := .max) ho]
        simp only [builtin, Builtin.max_, List.map_toArray, e1]
        rw [Sem.run_bind]
        simp only [if_true] at g1
        rw [g1]; rfl
    rw [hrun]; exact .rep hs g2
  · cases h
end
end Go.Ab
