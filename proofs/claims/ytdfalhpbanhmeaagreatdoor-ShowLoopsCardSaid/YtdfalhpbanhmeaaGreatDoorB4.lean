/- Operations, one by one: slices made. -/
import Derived.Test.YtdfalhpbanhmeaaGreatDoorB3
import Derived.Laws.Runes
namespace Go.Ab
open Go
set_option linter.unusedSectionVars false
set_option linter.unusedSimpArgs false
set_option linter.unusedVariables false
variable [Vals]
variable {ρ ρ' : Gh} {w w' : World} {P : Program} {pn : Pins} {G : Gl} {X : Exts} {A : Adv} {s s' : St} {env : Env} {a : Act} {lo : Nat} {d : D} {C : Caller} {al : Option Nat}

section
variable (he : EnvRel ρ w lo env a.tmps) (hg : GlOk pn G ρ w) (hs : StRel ρ s w)
include he hg hs

theorem ok_mkslice {t e : TypeId} {m bytes : Nat} {i : TypeInfo} {z : D} {l' c' : Operand} {l c : Opd} (hl : opd G l' = some l) (hc : opd G c' = some c) (hu : P.underlying t = some (.slice e)) (hsz : sizeB P e = some (m + 1)) (hz : zeroB P e = some z) (hi : P.info? e = some i) (hb : i.bytes = bytes)
    (h : opF C env s al (.mkslice (m + 1) bytes e z l c) = some (d, s')) {o : Oper} (ho : o.op = .makeSlice t l' c') : OpOk P ρ w env a.tmps d s' ((execOp a.eval o).run P w) := by
  simp only [opF] at h
  split at h
  · rename_i dl dc hdl hdc
    have hlv := opd_rep hl he hg hdl
    have hcv := opd_rep hc he hg hdc
    split at h
    · rename_i nl nc hnl hnc
      split at h
      · rename_i h1 h2 h3
        simp only [Bool.and_eq_true] at h1
        obtain ⟨h1, hall⟩ := h1
        have h1 := Nat.le_of_ble_eq_true h1
        have h2 := Nat.le_of_ble_eq_true h2
        have h3 := Nat.le_of_ble_eq_true h3
        have hmx : maxElems = 2147483648 := rfl
        split at h
        · rename_i k s2 hm
          simp only [Option.some.injEq, Prod.mk.injEq] at h
          obtain ⟨rfl, rfl⟩ := h
          obtain ⟨kl, vl, e1, e2⟩ : ∃ k n, a.eval l' = .int k n ∧ (0 ≤ n ∧ n.toNat = nl) := by
            unfold idx at hnl
            split at hnl
            · split at hnl
              · simp only [Option.some.injEq] at hnl
                simp only [Rep] at hlv
                exact ⟨_, _, hlv, by assumption, hnl⟩
              · cases hnl
            · cases hnl
          obtain ⟨kc, vc, e3, e4⟩ : ∃ k n, a.eval c' = .int k n ∧ (0 ≤ n ∧ n.toNat = nc) := by
            unfold idx at hnc
            split at hnc
            · split at hnc
              · simp only [Option.some.injEq] at hnc
                simp only [Rep] at hcv
                exact ⟨_, _, hcv, by assumption, hnc⟩
              · cases hnc
            · cases hnc
          obtain ⟨zv, z1, z2, z3⟩ := zero_run (w := w) hz
          have hzv := ofV_rep (ρ := ρ) (w := w) zv z z2
          have hzs : zv.cells.size = m + 1 ∧ z.st = true := by
            have := allSz_iff.1 hall z (by simp)
            exact ⟨by rw [hzv.size this.2]; exact this.1, this.2⟩
          have hel : vl = (nl : Int) := by omega
          have hec : vc = (nc : Int) := by omega
          let cs : Array Value := (Array.range (nc * (m + 1))).map (zv.cells[· % (m + 1)]!)
          have hcs : cs.toList = (List.replicate nc zv.cells.toList).flatten := by
            have := range_mod zv.cells (by omega) nc
            rw [hzs.1] at this
            exact this
          have hsplit : cs.toList = (List.replicate nl zv.cells.toList).flatten ++ (List.replicate (nc - nl) zv.cells.toList).flatten := by
            rw [hcs, ← List.flatten_append, List.replicate_append_replicate]
            congr 2; omega
          obtain ⟨ρ', n1, n2, n3⟩ := new_row (w' := w.alloc (.cells cs e)) (cs := cs) (cp := nc) hs (Nat.succ_pos m) hm (RepC.replicate hzv hzs.1 hzs.2 nl) hsplit (by simp [cs]) (by simpa using h1) rfl rfl rfl rfl
          have hr : (execOp a.eval o).run P w = .ok (.value (.slice (some ⟨w.heap.size, 0, none⟩) nl nc)) (w.alloc (.cells cs e)) := by
            simp only [execOp, ho, e1, e3, hel, hec]
            have hti : (typeInfo e).run P w = .ok i w := by simp [typeInfo, hi]
            have w1 := wrap_small (nl : Int) (by omega) (by omega)
            have w2 := wrap_small (nc : Int) (by omega) (by omega)
            have hbig : ¬ ((i.bytes : Int) * (nc : Int) > 2 ^ 48) := by
              rw [hb]
              have : ((bytes : Int) * (nc : Int)) = ((nc * bytes : Nat) : Int) := by rw [Int.natCast_mul, Int.mul_comm]
              rw [this]; omega
            have hl1 : ¬ ((nl : Int) < 0) := by omega
            have hc1 : ¬ ((nc : Int) < 0) := by omega
            have hlc : ¬ ((nl : Int) > (nc : Int)) := by omega
            have hroom : ¬ (nc * i.bytes > roomBytes) := by
              have : roomBytes = 2 ^ 47 := rfl
              rw [this, hb]; omega
            have hbig' : ¬ ((2 : Int) ^ 48 < (i.bytes : Int) * (nc : Int)) := hbig
            have hask : (askRoom (nc * i.bytes)).run P w = .ok () w := by unfold askRoom; rw [if_neg hroom]; rfl
            unfold Instr.makeSlice
            rw [Sem.run_bind, Sem.run_bind, run_underlying hu]
            simp only [Result.andThen_ok, asInt, asIntOf, Sem.run_bind, Sem.run_pure, hti, w1, w2]
            have hbig2 : ¬ ((281474976710656 : Int) < (i.bytes : Int) * (nc : Int)) := hbig'
            simp [hl1, hc1, hlc, hbig2, hask, sizeOf_run hsz]
            have hle : nl ≤ nc := h1
            by_cases h0 : nc * (m + 1) = 0
            · have hn0 : nc = 0 := by
                rcases Nat.mul_eq_zero.1 h0 with h | h
                · exact h
                · omega
              have hc0 : cs = #[] := by apply Array.ext'; rw [hcs, hn0]; rfl
              rw [hc0]
              have hE : ∀ f : Nat → Value, Array.map f (Array.range 0) = #[] := fun f => by apply Array.ext'; simp
              simp [hle, hn0, newRow, newObj, hE]
              rfl
            · simp [hle, h0, z1, hzs.1, newRow, newObj]
              rfl
          rw [hr]
          simp only [List.length_replicate] at n3
          exact .val n1 n2 n3
        · cases h
      · cases h
    · cases h
  · cases h
end
end Go.Ab
