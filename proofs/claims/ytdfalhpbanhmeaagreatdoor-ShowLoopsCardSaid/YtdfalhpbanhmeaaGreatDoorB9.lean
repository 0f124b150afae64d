/- Operations, one by one: strings as bytes. -/
import Derived.Test.YtdfalhpbanhmeaaGreatDoorB8
import Derived.Lib.ConvBytes
namespace Go.Ab
open Go
set_option linter.unusedSectionVars false
set_option linter.unusedSimpArgs false
set_option linter.unusedVariables false
variable [Vals]
variable {ρ ρ' : Gh} {w w' : World} {P : Program} {pn : Pins} {G : Gl} {X : Exts} {A : Adv} {s s' : St} {env : Env} {a : Act} {lo : Nat} {d : D} {C : Caller} {al : Option Nat}

theorem new_rowf (hs : StRel ρ s w) {z cp : Nat} {l : List D} {vs rest : List Value} {cs : Array Value} {e : TypeId} {k f1 f2 : Nat} (hf : cs.size ≤ f1) (z0 : 0 < z) (hm : s.mk' al (.arr z e l 0) = some (k, s')) (hl : RepC ρ w z l vs) (hcs : cs.toList = vs ++ rest) (hsz : cs.size = cp * z) (hle : l.length ≤ cp)
    (hh : w'.heap = w.heap.push (.cells cs e (f1, f2))) (ho : w'.os = w.os) (ht : w'.tape = w.tape) (hu : w'.output = w.output) :
    ∃ ρ', Kp ρ w ρ' w' ∧ StRel ρ' s' w' ∧ Rep ρ' w' (.sl k 0 l.length l.length) (.slice (some ⟨w.heap.size, 0, none⟩) l.length cp) := by
  obtain ⟨n1, n2, n3, n4⟩ := new_ok (w' := w') hs hm z l.length cp hh ho ht hu (fun hK hone hb => by
    refine ⟨z0, by simp [Gh.new], by omega, ⟨w.heap.size, hone.1, by simp [Gh.new], fun b h _ => hone.2 b h⟩, fun b hb' => ?_, hl.allSz⟩
    obtain rfl := hone.2 b hb'
    refine ⟨by simp [Gh.new], by simp [Gh.new], by simp [Gh.new]; exact hle, fun j hj => ?_, ⟨_, _, hb⟩, fun _ i d h1 h2 h3 => ?_⟩
    · simp only [Gh.new, if_true] at hj
      rw [← hsz] at hj
      refine ⟨by rw [cell_block hb]; simp [hj], ?_⟩
      have : ¬ f1 ≤ j := by omega
      simp [World.frozen?, hb, this]
    · obtain ⟨v, v1, v2, v3, v4⟩ := (hl.mono hK).get (w' := w') (rangeAt_block' hb hcs) i d h3
      refine ⟨v, v1, v2, ?_⟩
      simpa [Gh.new] using v3)
  refine ⟨_, n1, n2, ?_⟩
  simp only [Rep, Gh.at, n4]
  exact ⟨w.heap.size, n3, by simp [Gh.new], by simp [Gh.new], Nat.le_refl _, 0, cp, rfl, hle, .inr (by simp), by simp [Gh.new]⟩

section
variable (he : EnvRel ρ w lo env a.tmps) (hg : GlOk pn G ρ w) (hs : StRel ρ s w)
include he hg hs

theorem ok_strToBytes {t u e : TypeId} {x' : Operand} {x : Opd} (hx : opd G x' = some x) (ht : P.underlying t = some .string) (hu : P.underlying u = some (.slice e)) (he8 : P.underlying e = some (.int .u8)) (h : opF C env s al (.strToBytes e x) = some (d, s')) {o : Oper} (ho : o.op = .convert t u x') :
    OpOk P ρ w env a.tmps d s' ((execOp a.eval o).run P w) := by
  simp only [opF] at h
  split at h
  · rename_i l hp
    have hv := opd_rep hx he hg hp
    simp only [Rep] at hv
    split at h
    · rename_i hle
      have hle := Nat.le_of_ble_eq_true hle
      split at h
      · rename_i k s2 hm
        simp only [Option.some.injEq, Prod.mk.injEq] at h
        obtain ⟨rfl, rfl⟩ := h
        let S : ByteArray := ⟨⟨l⟩⟩
        have hS : S.size = l.length := by simp [S, ByteArray.size_mk']
        have hcap : l.length ≤ grownCap w S.size 0 e := by
          have := grownCap_ge w S.size 0 e
          omega
        have hcs : (Lib.bytesCells w e S).toList = (l.map fun b => Value.int .u8 b.toNat) ++ List.replicate (grownCap w S.size 0 e - S.size) (.int .u8 0) := by
          simp [Lib.bytesCells, S]
        have hsz : (Lib.bytesCells w e S).size = grownCap w S.size 0 e * 1 := by
          have := congrArg List.length hcs
          simp at this
          omega
        have hheap : (Lib.bytesWorld w e S).heap = w.heap.push (.cells (Lib.bytesCells w e S) e ((Lib.bytesCells w e S).size, (Lib.bytesCells w e S).size + 1)) := by
          apply Array.ext_getElem?
          intro i
          rcases Nat.lt_trichotomy i w.heap.size with hi | hi | hi
          · rw [Lib.bytesWorld_at_old w e S i hi, Array.getElem?_push, if_neg (by omega)]
          · subst hi; rw [Lib.bytesWorld_at_new, Array.getElem?_push, if_pos rfl]
          · rw [Array.getElem?_eq_none (by rw [Lib.bytesWorld_size]; omega), Array.getElem?_eq_none (by simp; omega)]
        obtain ⟨ρ', n1, n2, n3⟩ := new_rowf (w' := Lib.bytesWorld w e S) (cs := Lib.bytesCells w e S) (cp := grownCap w S.size 0 e) hs (Nat.le_refl _) Nat.one_pos hm (bytes_repC l) hcs hsz (by simpa using hcap) hheap rfl rfl rfl
        have hr : (execOp a.eval o).run P w = .ok (.value (.slice (some ⟨w.heap.size, 0, none⟩) l.length (grownCap w S.size 0 e))) (Lib.bytesWorld w e S) := by
          simp only [execOp, ho, hv]
          rw [Sem.run_bind, Lib.run_convert_string_bytes w t u e S ht hu he8, hS]
          rfl
        rw [hr]
        simp only [List.length_map] at n3
        exact .val n1 n2 n3
      · cases h
    · cases h
  · cases h
end
end Go.Ab
