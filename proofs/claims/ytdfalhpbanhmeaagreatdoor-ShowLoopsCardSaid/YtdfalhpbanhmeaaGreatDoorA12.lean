/- Operations, one by one: slices cut, maps asked, texts out of bytes, assertions, structs built. -/
import Derived.Test.YtdfalhpbanhmeaaGreatDoorA11
namespace Go.Ab
open Go
set_option linter.unusedSectionVars false
set_option linter.unusedSimpArgs false
set_option linter.unusedVariables false
variable [Vals]
variable {ρ : Gh} {w : World} {P : Program} {pn : Pins} {G : Gl} {X : Exts} {A : Adv} {s s' : St} {env : Env} {a : Act} {lo : Nat} {d : D} {C : Caller} {al : Option Nat}

theorem zero_run {t : TypeId} {z : D} (h : zeroB P t = some z) : ∃ v, (zeroValue t).run P w = .ok v w ∧ ofV v = some z ∧ (P.info? t).bind (·.zero) = some v := by
  unfold zeroB at h
  simp only [Option.bind_eq_some_iff] at h
  obtain ⟨v, ⟨i, h1, h2⟩, h3⟩ := h
  exact ⟨v, by simp [zeroValue, typeInfo, h1, h2], h3, by simp [h1, h2]⟩

theorem slice_run {t e : TypeId} {sz : Nat} {p : Option Addr} {len cap y z M : Nat} {lo' hi' mx' : Option Value} (hu : P.underlying t = some (.slice e)) (hsz : sizeB P e = some sz)
    (hyz : y ≤ z) (hzM : z ≤ M) (hM : M ≤ cap)
    (bm : (mx' = none ∧ M = cap) ∨ (hi'.isSome = true ∧ ∃ v, mx' = some v ∧ ∀ code m, M ≤ m → (Instr.sliceBound v m code).run P w = .ok M w))
    (bh : (hi' = none ∧ z = len) ∨ (∃ v, hi' = some v ∧ ∀ code m, z ≤ m → (Instr.sliceBound v m code).run P w = .ok z w))
    (bl : (lo' = none ∧ y = 0) ∨ (∃ v, lo' = some v ∧ ∀ code m, y ≤ m → (Instr.sliceBound v m code).run P w = .ok y w)) :
    (Instr.sliceAt t (.slice p len cap) lo' hi' mx').run P w = .ok (.slice (if M = y then p else p.map (·.add (y * sz))) (z - y) (M - y)) w := by
  have e1 : (Instr.sliceBounds true len cap lo' hi' mx').run P w = .ok (y, z, M) w := by
    unfold Instr.sliceBounds
    rcases bm with ⟨rfl, rfl⟩ | ⟨hh, v1, rfl, b1⟩
    · rcases bh with ⟨rfl, rfl⟩ | ⟨v2, rfl, b2⟩ <;> rcases bl with ⟨rfl, rfl⟩ | ⟨v3, rfl, b3⟩
      · simp
      · simp [b3 _ _ hyz]
      · simp [b2 _ _ hzM]
      · simp [b2 _ _ hzM, b3 _ _ hyz]
    · rcases bh with ⟨rfl, rfl⟩ | ⟨v2, rfl, b2⟩
      · simp at hh
      · rcases bl with ⟨rfl, rfl⟩ | ⟨v3, rfl, b3⟩
        · simp [b1 _ _ hM, b2 _ _ hzM]
        · simp [b1 _ _ hM, b2 _ _ hzM, b3 _ _ hyz]
  simp only [Instr.sliceAt, Sem.run_bind, run_underlying hu, Result.andThen_ok, Instr.slice, e1, sizeOf_run hsz, Sem.run_pure]

theorem bound_all {x : Option Value} {r : Option D} {k y : Nat} (hr : (r = none ∧ x = none) ∨ (∃ d v, r = some d ∧ x = some v ∧ Rep ρ w d v)) (hi : idxo k r = some y) :
    (r = none ∧ x = none ∧ y = k) ∨ (r.isSome = true ∧ ∃ v, x = some v ∧ ∀ code m, y ≤ m → (Instr.sliceBound v m code).run P w = .ok y w) := by
  rcases hr with ⟨rfl, rfl⟩ | ⟨d, v, rfl, rfl, h⟩
  · simp only [idxo, Option.some.injEq] at hi; exact .inl ⟨rfl, rfl, hi.symm⟩
  · simp only [idxo] at hi
    obtain ⟨kk, rfl⟩ := idx_int hi h
    refine .inr ⟨rfl, _, rfl, fun code m hm => ?_⟩
    have : (0 : Int) ≤ (y : Int) ∧ (y : Int) ≤ (m : Int) := by omega
    simp [Instr.sliceBound, asIntOf, this]

section
variable (he : EnvRel ρ w lo env a.tmps) (hg : GlOk pn G ρ w) (hs : StRel ρ s w)
include he hg hs

theorem ok_ssl {t e : TypeId} {m : Nat} {x' : Operand} {x : Opd} {lo' hi' mx' : Option Operand} {l0 h0 m0 : Option Opd} (hx : opd G x' = some x) (hl : opdo G lo' = some l0) (hh : opdo G hi' = some h0) (hm : opdo G mx' = some m0)
    (hu : P.underlying t = some (.slice e)) (hsz : sizeB P e = some (m + 1)) (hmh : mx'.isSome = true → hi'.isSome = true)
    (h : opF C env s al (.ssl (m + 1) x l0 h0 m0) = some (d, s')) {o : Oper} (ho : o.op = .slice t x' lo' hi' mx') : OpOk P ρ w env a.tmps d s' ((execOp a.eval o).run P w) := by
  simp only [opF] at h
  split at h
  · rename_i p ra rb rc hp hra hrb hrc
    split at h
    · rename_i y z M hy hz hM
      split at h
      · rename_i zz l hit
        split at h
        · rename_i hzl
          obtain ⟨h1, rfl⟩ := ofO_some h
          have hv := opd_rep hx he hg hp
          have bl := bound_all (P := P) (evo_rep he hg hl hra) hy
          have bh := bound_all (P := P) (evo_rep he hg hh hrb) hz
          have bm := bound_all (P := P) (evo_rep he hg hm hrc) hM
          have fin : ∀ v, (Instr.sliceAt t (a.eval x') (lo'.map a.eval) (hi'.map a.eval) (mx'.map a.eval)).run P w = .ok v w → (execOp a.eval o).run P w = .ok (.value v) w := by
            intro v hv
            simp only [execOp, ho]
            rw [Sem.run_bind, hv]; rfl
          have bl' : (lo'.map a.eval = none ∧ y = 0) ∨ (∃ v, lo'.map a.eval = some v ∧ ∀ code m, y ≤ m → (Instr.sliceBound v m code).run P w = .ok y w) := by
            rcases bl with ⟨_, h1, h2⟩ | ⟨_, h1⟩
            · exact .inl ⟨h1, h2⟩
            · exact .inr h1
          cases p with
          | vs nl zz' l' =>
            simp only [items, Option.some.injEq, Prod.mk.injEq] at hit
            obtain ⟨hzz, hll⟩ := hit
            subst zz' l'
            simp only [cutD] at h1
            split at h1
            · rename_i c1 c2 c3
              simp only [Option.some.injEq] at h1; subst h1
              have c1 := Nat.le_of_ble_eq_true c1
              have c2 := Nat.le_of_ble_eq_true c2
              have c3 := Nat.le_of_ble_eq_true c3
              simp only [Rep] at hv
              -- the bounds as the model has them
              have hz' : ∀ len, len = l.length → (hi'.map a.eval = none ∧ Option.getD (someIf rb z) l.length = len) ∨ (∃ v, hi'.map a.eval = some v ∧ ∀ code m, Option.getD (someIf rb z) l.length ≤ m → (Instr.sliceBound v m code).run P w = .ok (Option.getD (someIf rb z) l.length) w) := by
                intro len hlen
                rcases bh with ⟨rfl, g1, g2⟩ | ⟨g0, v, g1, g2⟩
                · exact .inl ⟨g1, by simp [someIf, hlen]⟩
                · cases rb with
                  | none => simp at g0
                  | some q => exact .inr ⟨v, g1, by simpa [someIf] using g2⟩
              generalize Option.getD (someIf rb z) l.length = Z at *
              have hM' : ∀ cap, l.length ≤ cap → ∃ MM, Z ≤ MM ∧ MM ≤ cap ∧ ((mx'.map a.eval = none ∧ MM = cap) ∨ ((hi'.map a.eval).isSome = true ∧ ∃ v, mx'.map a.eval = some v ∧ ∀ code m, MM ≤ m → (Instr.sliceBound v m code).run P w = .ok MM w)) := by
                intro cap hcap
                rcases bm with ⟨rfl, g1, g2⟩ | ⟨g0, v, g1, g2⟩
                · exact ⟨cap, by simp [someIf] at c2 c3; omega, Nat.le_refl _, .inl ⟨g1, rfl⟩⟩
                · cases rc with
                  | none => simp at g0
                  | some q =>
                    simp only [someIf, Option.getD_some] at c2 c3
                    refine ⟨M, c2, by omega, .inr ⟨?_, v, g1, g2⟩⟩
                    have : mx'.isSome = true := by cases mx' <;> simp_all
                    have := hmh this
                    cases hi' <;> simp_all
              rcases hv with ⟨rfl, rfl, hv⟩ | ⟨rfl, ad, cap, hv, hle, hl2⟩
              · obtain ⟨MM, m1, m2, m3⟩ := hM' 0 (by simp)
                have hr := slice_run (P := P) (w := w) (p := none) (len := 0) (cap := 0) hu hsz c1 m1 m2 m3 (hz' 0 (by simp)) bl'
                rw [fin _ (by rw [hv]; exact hr)]
                refine .rep hs ?_
                simp only [Rep]
                refine .inl ⟨trivial, by simp, ?_⟩
                have : MM = 0 := by omega
                subst this
                have : Z = 0 := by omega
                subst this
                simp
              · obtain ⟨MM, m1, m2, m3⟩ := hM' cap hle
                have hr := slice_run (P := P) (w := w) (p := some ad) (len := l.length) (cap := cap) hu hsz c1 m1 m2 m3 (hz' _ rfl) bl'
                rw [fin _ (by rw [hv]; exact hr)]
                refine .rep hs ?_
                have hZl : Z ≤ l.length := by
                  rcases bm with ⟨rfl, _, _⟩ | ⟨g0, v, _, _⟩
                  · simpa [someIf] using c2
                  · omega
                have hlen : ((l.take Z).drop y).length = Z - y := by simp; omega
                simp only [Rep]
                refine .inr ⟨trivial, ?_⟩
                by_cases hMy : MM = y
                · refine ⟨ad, MM - y, by rw [if_pos hMy, hlen], by rw [hlen]; omega, .inl ?_⟩
                  exact List.eq_nil_of_length_eq_zero (by rw [hlen]; omega)
                · refine ⟨ad.add (y * (m + 1)), MM - y, ?_, by rw [hlen]; omega, ?_⟩
                  · rw [if_neg hMy, hlen]; first | rfl | simp
                  · rcases hl2 with rfl | ⟨b, q, rfl, hb, hE⟩
                    · exact .inl (by simp)
                    · by_cases hzz : l = []
                      · subst hzz; exact .inl (by simp)
                      · have hzm : zz = m + 1 := by
                          simp only [Bool.or_eq_true] at hzl
                          rcases hzl with hzl | hzl
                          · exact Nat.eq_of_beq_eq_true hzl
                          · split at hzl <;> simp_all
                        subst hzm
                        exact .inr ⟨b, q + y * (m + 1), by simp [Addr.add_mid], hb, (hE.take Z).drop y⟩
            · cases h1
          | sl ob off len cp =>
            simp only [items] at hit
            split at hit
            · rename_i z2 ty es st hx2
              split at hit
              · rename_i i1 i2
                simp only [Option.some.injEq, Prod.mk.injEq] at hit
                obtain ⟨rfl, rfl⟩ := hit
                obtain ⟨hz0, k1, _, _, hbl, hall⟩ := hs.ok _ _ hx2
                simp only [Rep, Gh.at, k1] at hv
                obtain ⟨b, hb, q1, q2, q3, xx, cap, q4, q5, q6, q7⟩ := hv
                -- is the slice of this element size? (it is, where it holds anything)
                simp only [cutD] at h1
                have hz' : (hi'.map a.eval = none ∧ Option.getD (someIf rb z) len = len) ∨ (∃ v, hi'.map a.eval = some v ∧ ∀ code m, Option.getD (someIf rb z) len ≤ m → (Instr.sliceBound v m code).run P w = .ok (Option.getD (someIf rb z) len) w) := by
                  rcases bh with ⟨rfl, g1, g2⟩ | ⟨g0, v, g1, g2⟩
                  · exact .inl ⟨g1, by simp [someIf]⟩
                  · cases rb with
                    | none => simp at g0
                    | some q => exact .inr ⟨v, g1, by simpa [someIf] using g2⟩
                generalize Option.getD (someIf rb z) len = Z at *
                have key : ∀ MM, y ≤ Z → Z ≤ MM → MM ≤ cap → ((mx'.map a.eval = none ∧ MM = cap) ∨ ((hi'.map a.eval).isSome = true ∧ ∃ v, mx'.map a.eval = some v ∧ ∀ code m, MM ≤ m → (Instr.sliceBound v m code).run P w = .ok MM w)) →
                    ∀ cp', Z ≤ cp' → cp' ≤ MM → cp' ≤ cp → z2 = m + 1 → OpOk P ρ w env a.tmps (.sl ob (off + y) (Z - y) (cp' - y)) s' ((execOp a.eval o).run P w) := by
                  intro MM hyZ hZM hMc hm3 cp' g1 g2 g3 hzm
                  subst hzm
                  have hr := slice_run (P := P) (w := w) (p := some ⟨b, xx, none⟩) (len := len) (cap := cap) hu hsz hyZ hZM hMc hm3 hz' bl'
                  rw [fin _ (by rw [q4]; exact hr)]
                  refine .rep hs ?_
                  simp only [Rep, Gh.at, k1]
                  by_cases hMy : MM = y
                  · refine ⟨b, hb, by omega, by omega, by omega, xx, MM - y, by rw [if_pos hMy], by omega, .inl (by omega), by omega⟩
                  · refine ⟨b, hb, by omega, by omega, by omega, xx + y * (m + 1), MM - y, ?_, by omega, .inr ?_, by omega⟩
                    · rw [if_neg hMy]; simp [Addr.add_mid]
                    · rcases q6 with q6 | q6
                      · omega
                      · rw [q6, show off + y - ρ.sh b = (off - ρ.sh b) + y by omega, Nat.add_mul]
                have hzm : z2 = m + 1 := by
                  simp only [Bool.or_eq_true] at hzl
                  rcases hzl with hzl | hzl
                  · exact Nat.eq_of_beq_eq_true hzl
                  · simp at hzl
                rcases bm with ⟨rfl, g1, g2⟩ | ⟨g0, v, g1, g2⟩
                · simp only [someIf] at h1
                  split at h1
                  · rename_i c1 c2
                    simp only [Option.some.injEq] at h1; subst h1
                    have c1 := Nat.le_of_ble_eq_true c1
                    have c2 := Nat.le_of_ble_eq_true c2
                    exact key cap c1 (by omega) (Nat.le_refl _) (.inl ⟨g1, rfl⟩) cp c2 q5 (Nat.le_refl _) hzm
                  · cases h1
                · cases rc with
                  | none => simp at g0
                  | some q =>
                    simp only [someIf] at h1
                    split at h1
                    · rename_i c1 c2 c3
                      simp only [Option.some.injEq] at h1; subst h1
                      have c1 := Nat.le_of_ble_eq_true c1
                      have c2 := Nat.le_of_ble_eq_true c2
                      have c3 := Nat.le_of_ble_eq_true c3
                      have hmi : (hi'.map a.eval).isSome = true := by
                        have : mx'.isSome = true := by cases mx' <;> simp_all
                        have := hmh this
                        cases hi' <;> simp_all
                      exact key M c1 c2 (by omega) (.inr ⟨hmi, v, g1, g2⟩) M c2 (Nat.le_refl _) c3 hzm
                    · cases h1
              · cases hit
            · cases hit
          | _ => simp [items] at hit
        · cases h
      · cases h
    · cases h
  · cases h
end
end Go.Ab
