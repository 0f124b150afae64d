/- Operations, one by one: texts cut, addresses, reading. -/
import Derived.Test.YtdfalhpbanhmeaaGreatDoorA8
import Derived.Lib.Strings
namespace Go.Ab
open Go
set_option linter.unusedSectionVars false
set_option linter.unusedSimpArgs false
set_option linter.unusedVariables false
variable [Vals]
variable {ρ : Gh} {w : World} {P : Program} {pn : Pins} {G : Gl} {X : Exts} {A : Adv} {s s' : St} {env : Env} {a : Act} {lo : Nat} {d : D} {C : Caller} {al : Option Nat}

theorem idx_int {n : D} {i : Nat} {v : Value} (h : idx n = some i) (hr : Rep ρ w n v) : ∃ k, v = .int k (i : Int) := by
  cases n <;> simp only [idx] at h <;> (try cases h)
  rename_i k m
  split at h
  · rename_i hm
    simp only [Option.some.injEq] at h; subst h
    simp only [Rep] at hr
    exact ⟨k, by rw [hr, Int.toNat_of_nonneg hm]⟩
  · cases h

theorem sizeOf_run {t : TypeId} {n : Nat} (h : sizeB P t = some n) : (sizeOf t).run P w = .ok n w := by
  cases hq : P.info? t with
  | none => simp [sizeB, hq] at h
  | some i =>
    have : i.size = n := by simpa [sizeB, hq] using h
    simp [sizeOf, typeInfo, hq, this]

theorem mk_extract (l : List UInt8) (x y : Nat) : (⟨⟨l⟩⟩ : ByteArray).extract x y = ⟨⟨(l.take y).drop x⟩⟩ := by
  have h := Lib.extract_data (⟨⟨l⟩⟩ : ByteArray) x y
  have h2 : ((⟨⟨l⟩⟩ : ByteArray).extract x y).data.toList = (l.take y).drop x := by
    rw [h, List.drop_take]
  generalize (⟨⟨l⟩⟩ : ByteArray).extract x y = q at *
  obtain ⟨⟨m⟩⟩ := q
  simp only at h2
  rw [h2]

section
variable (he : EnvRel ρ w lo env a.tmps) (hg : GlOk pn G ρ w) (hs : StRel ρ s w)
include he hg

theorem evo_rep {x' : Option Operand} {x : Option Opd} {r : Option D} (hx : opdo G x' = some x) (h : evo env x = some r) :
    (r = none ∧ x'.map a.eval = none) ∨ (∃ d v, r = some d ∧ x'.map a.eval = some v ∧ Rep ρ w d v) := by
  cases x' with
  | none =>
    simp only [opdo, Option.some.injEq] at hx; subst hx
    simp only [evo, Option.some.injEq] at h; subst h
    exact .inl ⟨rfl, rfl⟩
  | some y =>
    simp only [opdo, Option.map_eq_some_iff] at hx
    obtain ⟨z, hz, rfl⟩ := hx
    simp only [evo] at h
    split at h
    · rename_i d hd
      simp only [Option.some.injEq] at h; subst h
      exact .inr ⟨d, _, rfl, rfl, opd_rep hz he hg hd⟩
    · cases h

omit he hg in
theorem bound_ok {x : Option Value} {r : Option D} {k y : Nat} {code : BoundsCode} (hr : (r = none ∧ x = none) ∨ (∃ d v, r = some d ∧ x = some v ∧ Rep ρ w d v)) (hi : idxo k r = some y) :
    (r = none ∧ x = none ∧ y = k) ∨ (∃ v, r.isSome = true ∧ x = some v ∧ ∀ m, y ≤ m → (Instr.sliceBound v m code).run P w = .ok y w) := by
  rcases hr with ⟨rfl, rfl⟩ | ⟨d, v, rfl, rfl, h⟩
  · simp only [idxo, Option.some.injEq] at hi; exact .inl ⟨rfl, rfl, hi.symm⟩
  · simp only [idxo] at hi
    obtain ⟨kk, rfl⟩ := idx_int hi h
    refine .inr ⟨_, rfl, rfl, fun m hm => ?_⟩
    have : (0 : Int) ≤ (y : Int) ∧ (y : Int) ≤ (m : Int) := by omega
    simp [Instr.sliceBound, asIntOf, this]

include hs
theorem ok_sstr {t : TypeId} {x' : Operand} {x : Opd} {lo' hi' : Option Operand} {l0 h0 : Option Opd} (hx : opd G x' = some x) (hl : opdo G lo' = some l0) (hh : opdo G hi' = some h0) (hu : P.underlying t = some .string)
    (h : opF C env s al (.sstr x l0 h0) = some (d, s')) {o : Oper} (ho : o.op = .slice t x' lo' hi' none) : OpOk P ρ w env a.tmps d s' ((execOp a.eval o).run P w) := by
  simp only [opF] at h
  split at h
  · rename_i l p q hp hlo hhi
    split at h
    · rename_i y z hy hz
      split at h
      · rename_i hb1 hb2
        simp only [Option.some.injEq, Prod.mk.injEq] at h
        obtain ⟨rfl, rfl⟩ := h
        have hyz := Nat.le_of_ble_eq_true hb1
        have hzl := Nat.le_of_ble_eq_true hb2
        have hv := opd_rep hx he hg hp
        simp only [Rep] at hv
        have b1 := bound_ok (P := P) (code := .sliceAlen) (evo_rep he hg hh hhi) hz
        have b2 := bound_ok (P := P) (code := .sliceB) (evo_rep he hg hl hlo) hy
        have hr : (execOp a.eval o).run P w = .ok (.value (.string ((⟨⟨l⟩⟩ : ByteArray).extract y z))) w := by
          simp only [execOp, ho, Option.map_none]
          rw [Sem.run_bind]
          have e1 : (Instr.sliceAt t (a.eval x') (lo'.map a.eval) (hi'.map a.eval) none).run P w = .ok (.string ((⟨⟨l⟩⟩ : ByteArray).extract y z)) w := by
            rw [hv]
            simp only [Instr.sliceAt, Instr.slice, Instr.sliceBounds]
            rcases b1 with ⟨_, e, rfl⟩ | ⟨v1, _, e, e1⟩ <;> rcases b2 with ⟨_, f, rfl⟩ | ⟨v2, _, f, f1⟩ <;> rw [e, f]
            · simp [run_underlying hu]; rw [mk_extract]; simp
            · simp [run_underlying hu, ByteArray.size_mk', f1 _ hyz]
            · simp [run_underlying hu, ByteArray.size_mk', e1 _ hzl]
            · simp [run_underlying hu, ByteArray.size_mk', e1 _ hzl, f1 _ hyz]
          rw [e1]; rfl
        rw [hr]
        exact .rep hs (by simp only [Rep]; rw [mk_extract])
      · cases h
    · cases h
  · cases h

theorem ok_faddr {t : TypeId} {i : Nat} {x' : Operand} {x : Opd} {fs : Array Field} {f : Field} {m : Nat} (hx : opd G x' = some x) (hu : P.underlying t = some (.struct fs)) (hf : fs[i]? = some f) (hsz : sizeB P f.type = some (m + 1))
    (h : opF C env s al (.faddr f.offset x) = some (d, s')) {o : Oper} (ho : o.op = .fieldAddr t x' i) : OpOk P ρ w env a.tmps d s' ((execOp a.eval o).run P w) := by
  have key : ∀ b c, a.eval x' = .pointer (some ⟨b, c, none⟩) → (execOp a.eval o).run P w = .ok (.value (.pointer (some ⟨b, c + f.offset, none⟩))) w := by
    intro b c hv
    simp only [execOp, ho, hv, Instr.fieldAt, Instr.sureAddr]
    simp [run_underlying hu, hf, fieldPlace, sizeOf_run hsz, Addr.add_mid]
  simp only [opF] at h
  split at h
  · rename_i b c hp
    split at h
    · rename_i hlv
      simp only [Option.some.injEq, Prod.mk.injEq] at h
      obtain ⟨rfl, rfl⟩ := h
      obtain ⟨y, hy⟩ := isLv_some hlv
      obtain ⟨bb, h2, h3⟩ := opd_rel hx he hg hp y hy
      rw [key _ _ h3]
      exact .pure hs (by simp only [ResRel]; exact fun _ _ => ⟨bb, h2, rfl⟩)
    · cases h
  · rename_i b c hp
    simp only [Option.some.injEq, Prod.mk.injEq] at h
    obtain ⟨rfl, rfl⟩ := h
    have h1 := opd_rel hx he hg hp
    simp only [ResRel, Rep] at h1
    unfold Gh.at at h1
    split at h1
    · exact h1.elim
    · rename_i hk
      obtain ⟨⟨q1, q2, q3⟩, hq⟩ := h1
      simp only [execOp, ho, hq, Instr.fieldAt, Instr.sureAddr]
      simp only [Sem.run_bind, run_underlying hu, Result.andThen_ok, hf, Sem.run_pure, fieldPlace, sizeOf_run hsz]
      simp only [Nat.add_eq_zero_iff, Nat.one_ne_zero, and_false, if_false, Sem.run_pure, Result.andThen_ok]
      exact .rep hs (by simp only [Rep, Gh.at, hk]; exact ⟨_, rfl⟩)
    · rename_i sz hk
      obtain ⟨bb, h2, h3⟩ := h1
      rw [key _ _ h3]
      exact .rep hs (by simp only [Rep, Gh.at, hk]; exact ⟨bb, h2, rfl⟩)
  · rename_i b i2 c z hp
    simp only [Option.some.injEq, Prod.mk.injEq] at h
    obtain ⟨rfl, rfl⟩ := h
    have h1 := opd_rel hx he hg hp
    simp only [ResRel, Rep] at h1
    unfold Gh.at at h1
    split at h1
    · exact h1.elim
    · rename_i hk
      obtain ⟨⟨q1, q2, q3⟩, hq⟩ := h1
      simp only [execOp, ho, hq, Instr.fieldAt, Instr.sureAddr]
      simp only [Sem.run_bind, run_underlying hu, Result.andThen_ok, hf, Sem.run_pure, fieldPlace, sizeOf_run hsz]
      simp only [Nat.add_eq_zero_iff, Nat.one_ne_zero, and_false, if_false, Sem.run_pure, Result.andThen_ok]
      exact .rep hs (by simp only [Rep, Gh.at, hk]; exact ⟨_, rfl⟩)
    · rename_i sz hk
      obtain ⟨bb, h2, h3, h4, h5, h6⟩ := h1
      rw [key _ _ h6]
      exact .rep hs (by simp only [Rep, Gh.at, hk]; exact ⟨bb, h2, h3, h4, h5, by rw [Nat.add_assoc]⟩)
  · rename_i e c hp
    simp only [Option.some.injEq, Prod.mk.injEq] at h
    obtain ⟨rfl, rfl⟩ := h
    have h1 := opd_rel hx he hg hp
    simp only [ResRel, Rep] at h1
    obtain ⟨b, xx, u, q1, q2, q3, q4, q5⟩ := h1
    rw [key _ _ q5]
    exact .rep hs (by simp only [Rep]; exact ⟨b, xx, u, q1, q2, q3, q4, by rw [Nat.add_assoc]⟩)
  · cases h
end
end Go.Ab
