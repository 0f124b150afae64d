/- Read-only calls: nothing is written while nothing may be written. -/
import Derived.Test.YtdfalhpbanhmeaaGreatDoorB5
namespace Go.Ab
open Go
set_option linter.unusedSectionVars false
set_option linter.unusedSimpArgs false
set_option linter.unusedVariables false
variable {s s' : St} {C : Caller} {L : Looper} {e : Env} {al : Option Nat} {d : D}

theorem ofO_st0 {x : Option D} (h : ofO s x = some (d, s')) : s' = s := by cases x <;> simp [ofO] at h; exact h.2.symm
theorem set_ro (hr : s.ro = true) (o : Nat) (x : Obj) : s.set o x = none := by unfold St.set; rw [hr]
theorem mk_ro (hr : s.ro = true) (al : Option Nat) (x : Obj) : s.mk' al x = none := by unfold St.mk'; rw [hr]
theorem storeD_ro (hr : s.ro = true) (sz : Nat) (p v : D) : storeD s sz p v = none := by
  unfold storeD
  repeat' split
  all_goals first
    | rfl
    | exact set_ro hr _ _
theorem fillSl_ro (hr : s.ro = true) {sz : Nat} {p : D} {l : List D} (h : fillSl s sz p l = some s') : s' = s := by
  unfold fillSl at h
  repeat' split at h
  all_goals first
    | (cases h; done)
    | (rw [set_ro hr] at h; cases h; done)
    | (simp only [Option.some.injEq] at h; exact h.symm)
theorem appendD_ro (hr : s.ro = true) {sz ty : Nat} {x : D} {l : List D} (h : appendD s al sz ty x l = some (d, s')) : s' = s := by
  unfold appendD at h
  simp only [set_ro hr, mk_ro hr] at h
  repeat' split at h
  all_goals first
    | (cases h; done)
    | (simp only [Option.some.injEq, Prod.mk.injEq] at h; exact h.2.symm)
    | (simp at h; done)
theorem extD_ro (hr : s.ro = true) {k : Ext} {l : List D} (h : extD s k l = some (d, s')) : s' = s := by
  unfold extD at h
  simp only [storeD_ro hr, ofS] at h
  repeat' split at h
  all_goals first
    | (cases h; done)
    | (simp only [Option.some.injEq, Prod.mk.injEq] at h; exact h.2.symm)
    | (simp at h; done)

/-- A caller that keeps to it. -/
def RoC (C : Caller) : Prop := ∀ f l s d s', s.ro = true → C f l s = some (d, s') → s' = s
def RoL (L : Looper) : Prop := ∀ k a fr s e fr' s', s.ro = true → L k a fr s = some (e, fr', s') → s' = s

theorem opF_ro (hC : RoC C) (hr : s.ro = true) {p : AOp} (h : opF C e s al p = some (d, s')) : s' = s := by
  cases p <;> simp only [opF, set_ro hr, mk_ro hr, storeD_ro hr, ofS] at h
  all_goals
    (repeat' split at h)
    all_goals first
      | (cases h; done)
      | exact ofO_st0 h
      | (simp only [Option.some.injEq, Prod.mk.injEq] at h; exact h.2.symm)
      | exact hC _ _ _ _ _ hr h
      | exact appendD_ro hr h
      | exact extD_ro hr h
      | (rename_i h1; simp only [Option.some.injEq, Prod.mk.injEq] at h; obtain ⟨rfl, rfl⟩ := h; exact fillSl_ro hr h1)
      | trace_state

theorem oper_ro (hC : RoC C) (hr : s.ro = true) {b : Nat} {o : AOper} {fr fr' : Fr} (h : oper C b o fr s = some (fr', s')) : s' = s := by
  unfold oper at h
  split at h
  · split at h
    · split at h
      · simp only [Option.some.injEq, Prod.mk.injEq] at h; exact h.2.symm
      · cases h
    · split at h
      · split at h
        · simp only [Option.some.injEq, Prod.mk.injEq] at h; exact h.2.symm
        · cases h
      · cases h
    · split at h
      · split at h
        · split at h
          · simp only [Option.some.injEq, Prod.mk.injEq] at h; exact h.2.symm
          · cases h
        · cases h
      · cases h
    · split at h
      · rename_i h1
        simp only [Option.some.injEq, Prod.mk.injEq] at h
        obtain ⟨_, rfl⟩ := h
        exact opF_ro hC hr h1
      · cases h
  · simp only [Option.some.injEq, Prod.mk.injEq] at h; exact h.2.symm
  · cases h
theorem opers_ro (hC : RoC C) {b : Nat} : ∀ {l : List AOper} {s s' : St} {fr fr' : Fr}, s.ro = true → opers C b l fr s = some (fr', s') → s' = s
  | [], s, s', fr, fr', hr, h => by simp only [opers, Option.some.injEq, Prod.mk.injEq] at h; exact h.2.symm
  | o :: r, s, s', fr, fr', hr, h => by
    simp only [opers] at h
    split at h
    · rename_i h1
      obtain rfl := oper_ro hC hr h1
      exact opers_ro hC hr h
    · cases h
theorem dopers_ro (hC : RoC C) {b : Nat} : ∀ {l : List (AOper × List Nat)} {acc : List Fp} {s s' : St} {fr fr' : Fr}, s.ro = true → dopers C b l acc fr s = some (fr', s') → s' = s
  | [], _, s, s', fr, fr', hr, h => by simp only [dopers, Option.some.injEq, Prod.mk.injEq] at h; exact h.2.symm
  | (o, q) :: r, _, s, s', fr, fr', hr, h => by
    simp only [dopers] at h
    split at h
    · split at h
      · rename_i h1
        obtain rfl := oper_ro hC hr h1
        split at h
        · exact dopers_ro hC hr h
        · cases h
      · cases h
    · cases h
theorem execS_ro (hC : RoC C) (hL : RoL L) : ∀ {a : AC} {s s' : St} {fr fr' : Fr} {e : Ex}, s.ro = true → execS C L a fr s = some (e, fr', s') → s' = s
  | .skip, s, s', fr, fr', e, hr, h => by simp only [execS, Option.some.injEq, Prod.mk.injEq] at h; exact h.2.2.symm
  | .reg ops, s, s', fr, fr', e, hr, h => by
    simp only [execS] at h
    split at h
    · rename_i h1
      simp only [Option.some.injEq, Prod.mk.injEq] at h
      obtain ⟨_, _, rfl⟩ := h
      exact opers_ro hC hr h1
    · cases h
  | .dreg k ops, s, s', fr, fr', e, hr, h => by
    simp only [execS] at h
    split at h
    · cases h
    · rename_i hk
      split at h
      · rename_i h1
        simp only [Option.some.injEq, Prod.mk.injEq] at h
        obtain ⟨_, _, rfl⟩ := h
        have hk0 : k = 0 := by
          rw [hr, Bool.true_and] at hk
          rcases Nat.eq_zero_or_pos k with h | h
          · exact h
          · have : Nat.blt 0 k = true := Nat.ble_eq_true_of_le h
            rw [this] at hk; cases hk
        subst hk0
        exact dopers_ro (s := s) hC hr h1
      · cases h
  | .seq a b, s, s', fr, fr', e, hr, h => by
    simp only [execS] at h
    split at h
    · rename_i h1
      obtain rfl := execS_ro hC hL hr h1
      exact execS_ro hC hL hr h
    · exact execS_ro hC hL hr h
  | .cond c a b, s, s', fr, fr', e, hr, h => by
    simp only [execS] at h
    split at h
    · exact execS_ro hC hL hr h
    · exact execS_ro hC hL hr h
    · cases h
  | .block id a, s, s', fr, fr', e, hr, h => by
    simp only [execS] at h
    split at h
    · rename_i h1
      obtain rfl := execS_ro hC hL hr h1
      split at h
      · simp only [Option.some.injEq, Prod.mk.injEq] at h; exact h.2.2.symm
      · simp only [Option.some.injEq, Prod.mk.injEq] at h; exact h.2.2.symm
    · exact execS_ro hC hL hr h
  | .loop keep a, s, s', fr, fr', e, hr, h => by
    simp only [execS] at h
    exact hL _ _ _ _ _ _ _ hr h
  | .exit id, s, s', fr, fr', e, hr, h => by simp only [execS, Option.some.injEq, Prod.mk.injEq] at h; exact h.2.2.symm
  | .ret, s, s', fr, fr', e, hr, h => by simp only [execS, Option.some.injEq, Prod.mk.injEq] at h; exact h.2.2.symm
  | .bad, s, s', fr, fr', e, hr, h => by simp [execS] at h
theorem leave_ro (hC : RoC C) : ∀ {l : List (D × List D)} {s s' : St}, s.ro = true → leave C l s = some s' → s' = s
  | [], s, s', hr, h => by simp only [leave, Option.some.injEq] at h; exact h.symm
  | (f, l) :: r, s, s', hr, h => by
    unfold leave at h
    split at h
    · rename_i hh; cases hh
    · rename_i hh
      simp only [List.cons.injEq, Prod.mk.injEq] at hh
      obtain ⟨⟨rfl, rfl⟩, rfl⟩ := hh
      split at h
      · rename_i h1
        obtain rfl := hC _ _ _ _ _ hr h1
        exact leave_ro hC hr h
      · cases h
    · cases h
theorem runFn_ro {CD : Caller} (hC : RoC C) (hCD : RoC CD) (hL : RoL L) (hr : s.ro = true) {fn : AFn} {args : List D} (h : runFn C CD L fn args s = some (d, s')) : s' = s := by
  unfold runFn at h
  split at h
  · cases h
  · rename_i h1
    obtain rfl := execS_ro hC hL hr h1
    split at h
    · rename_i h2
      obtain rfl := leave_ro hCD hr h2
      split at h
      · simp only [Option.some.injEq, Prod.mk.injEq] at h; exact h.2.symm
      · cases h
    · cases h
  · cases h
theorem callD_ro {T : Nat → Option AFn} (hC : RoC C) (hL : RoL L) : RoC (callD T C L) := by
  intro f l s d s' hr h
  unfold callD at h
  split at h
  · unfold runFnD at h
    split at h
    · cases h
    · rename_i h1
      obtain rfl := execS_ro hC hL hr h1
      split at h
      · split at h
        · simp only [Option.some.injEq, Prod.mk.injEq] at h; exact h.2.symm
        · cases h
      · cases h
    · cases h
  · cases h
theorem callN_ro {T : Nat → Option AFn} {H : Caller} (hH : RoC H) : ∀ n, RoC (callN T H n) ∧ RoL (loopN T H n)
  | 0 => ⟨fun f l s d s' _ h => by simp [callN] at h, fun k a fr s e fr' s' _ h => by simp [loopN] at h⟩
  | n + 1 => by
    obtain ⟨i1, i2⟩ := callN_ro (T := T) hH n
    refine ⟨fun f l s d s' hr h => ?_, fun k a fr s e fr' s' hr h => ?_⟩
    · simp only [callN] at h
      split at h
      · exact hH _ _ _ _ _ hr h
      · split at h
        · exact runFn_ro i1 (callD_ro i1 i2) i2 hr h
        · exact hH _ _ _ _ _ hr h
    · simp only [loopN] at h
      split at h
      · rename_i h1
        obtain rfl := execS_ro i1 i2 hr h1
        exact i2 _ _ _ _ _ _ _ hr h
      · exact execS_ro i1 i2 hr h
end Go.Ab
