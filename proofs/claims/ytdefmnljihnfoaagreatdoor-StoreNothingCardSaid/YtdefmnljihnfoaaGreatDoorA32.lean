/- More fuel changes nothing: what a run gives in the limit, by rules. -/
import Derived.Test.YtdefmnljihnfoaaGreatDoorA31
namespace Go.Ab
open Go
set_option linter.unusedSectionVars false
set_option linter.unusedSimpArgs false
set_option linter.unusedVariables false
variable {C C' : Caller} {L L' : Looper} {T : Nat → Option AFn} {H : Caller}

def LeC (C C' : Caller) : Prop := ∀ f l s r, C f l s = some r → C' f l s = some r
def LeL (L L' : Looper) : Prop := ∀ k a fr s r, L k a fr s = some r → L' k a fr s = some r

theorem opF_mono (h : LeC C C') {e : Env} {s : St} {al : Option Nat} {p : AOp} {r : D × St} (hr : opF C e s al p = some r) : opF C' e s al p = some r := by
  cases p
  case call ro f args =>
    simp only [opF] at hr ⊢
    split at hr
    · rename_i l hl
      cases ro with
      | false => simp only at hr ⊢; exact h _ _ _ _ hr
      | true =>
        simp only at hr ⊢
        split at hr
        · rename_i d s1 h1
          rw [h _ _ _ _ h1]; exact hr
        · cases hr
    · cases hr
  case callv f args =>
    simp only [opF] at hr ⊢
    split at hr
    · exact h _ _ _ _ hr
    · cases hr
  case invoke tbl x args =>
    simp only [opF] at hr ⊢
    split at hr
    · rename_i t v l hx hl
      split at hr
      · rename_i f r0 hf
        split at hr
        · rename_i u hu
          try simp only [hu]
          exact h _ _ _ _ hr
        · cases hr
      · cases hr
    · cases hr
  all_goals exact hr

theorem oper_mono (h : LeC C C') {b : Nat} {o : AOper} {fr : Fr} {s : St} {r : Fr × St} (hr : oper C b o fr s = some r) : oper C' b o fr s = some r := by
  unfold oper at hr ⊢
  split at hr
  · split at hr
    · exact hr
    · exact hr
    · exact hr
    · rename_i op h1 h2 h3
      split at hr
      · rename_i d s1 hop
        rw [opF_mono h hop]; exact hr
      · cases hr
  · exact hr
  · cases hr
theorem opers_mono (h : LeC C C') {b : Nat} : ∀ {l : List AOper} {fr : Fr} {s : St} {r : Fr × St}, opers C b l fr s = some r → opers C' b l fr s = some r
  | [], _, _, _, hr => hr
  | o :: l, fr, s, r, hr => by
    simp only [opers] at hr ⊢
    split at hr
    · rename_i h1; rw [oper_mono h h1]; exact opers_mono h hr
    · cases hr
theorem dopers_mono (h : LeC C C') {b : Nat} : ∀ {l : List (AOper × List Nat)} {acc : List Fp} {fr : Fr} {s : St} {r : Fr × St}, dopers C b l acc fr s = some r → dopers C' b l acc fr s = some r
  | [], _, _, _, _, hr => hr
  | (o, q) :: l, acc, fr, s, r, hr => by
    simp only [dopers] at hr ⊢
    split at hr
    · split at hr
      · rename_i h1
        rw [oper_mono h h1]
        split at hr
        · rename_i h2
          simp only [h2]; exact dopers_mono h hr
        · cases hr
      · cases hr
    · cases hr
theorem execS_mono (h : LeC C C') (hL : LeL L L') : ∀ {a : AC} {fr : Fr} {s : St} {r : Ex × Fr × St}, execS C L a fr s = some r → execS C' L' a fr s = some r
  | .skip, _, _, _, hr => hr
  | .reg ops, fr, s, r, hr => by
    simp only [execS] at hr ⊢
    split at hr
    · rename_i h1; rw [opers_mono h h1]; exact hr
    · cases hr
  | .dreg k ops, fr, s, r, hr => by
    simp only [execS] at hr ⊢
    split at hr
    · cases hr
    · split at hr
      · rename_i h1; rw [dopers_mono h h1]; exact hr
      · cases hr
  | .seq a b, fr, s, r, hr => by
    simp only [execS] at hr ⊢
    split at hr
    · rename_i h1; rw [execS_mono h hL h1]; exact execS_mono h hL hr
    · rename_i hn
      rw [execS_mono h hL hr]
      split
      · rename_i h2
        simp only [Option.some.injEq] at h2; subst h2
        exact absurd hr (hn _ _)
      · rfl
  | .cond c a b, fr, s, r, hr => by
    simp only [execS] at hr ⊢
    split at hr
    · exact execS_mono h hL hr
    · exact execS_mono h hL hr
    · cases hr
  | .block id a, fr, s, r, hr => by
    simp only [execS] at hr ⊢
    split at hr
    · rename_i h1; rw [execS_mono h hL h1]; exact hr
    · rename_i hn
      rw [execS_mono h hL hr]
      split
      · rename_i h2
        simp only [Option.some.injEq] at h2; subst h2
        exact absurd hr (hn _ _ _)
      · rfl
  | .loop keep a, fr, s, r, hr => by
    simp only [execS] at hr ⊢
    exact hL _ _ _ _ _ hr
  | .exit id, _, _, _, hr => hr
  | .ret, _, _, _, hr => hr
  | .bad, _, _, _, hr => by simp [execS] at hr
theorem leave_mono (h : LeC C C') : ∀ {l : List (D × List D)} {s s' : St}, leave C l s = some s' → leave C' l s = some s'
  | [], _, _, hr => hr
  | (f, l) :: q, s, s', hr => by
    unfold leave at hr ⊢
    split at hr
    · rename_i hh; cases hh
    · rename_i hh
      simp only [List.cons.injEq, Prod.mk.injEq] at hh
      obtain ⟨⟨rfl, rfl⟩, rfl⟩ := hh
      split at hr
      · rename_i h1
        simp only [h _ _ _ _ h1]; exact leave_mono h hr
      · cases hr
    · cases hr
theorem runFn_mono {CD CD' : Caller} (h : LeC C C') (hD : LeC CD CD') (hL : LeL L L') {fn : AFn} {args : List D} {s : St} {r : D × St} (hr : runFn C CD L fn args s = some r) : runFn C' CD' L' fn args s = some r := by
  unfold runFn at hr ⊢
  split at hr
  · cases hr
  · rename_i e fr s1 hne h1
    rw [execS_mono h hL h1]
    split at hr
    · rename_i s2 h2
      cases e with
      | exit i => exact absurd rfl (hne i)
      | normal => simp only [leave_mono hD h2]; exact hr
      | ret => simp only [leave_mono hD h2]; exact hr
    · cases hr
  · cases hr
theorem callD_mono (h : LeC C C') (hL : LeL L L') : LeC (callD T C L) (callD T C' L') := by
  intro f l s r hr
  unfold callD at hr ⊢
  split at hr
  · rename_i fn hf
    unfold runFnD at hr ⊢
    split at hr
    · cases hr
    · rename_i e fr s1 hne h1
      rw [execS_mono h hL h1]
      cases e with
      | exit i => exact absurd rfl (hne i)
      | normal => exact hr
      | ret => exact hr
    · cases hr
  · cases hr
theorem callN_step : ∀ n, LeC (callN T H n) (callN T H (n + 1)) ∧ LeL (loopN T H n) (loopN T H (n + 1))
  | 0 => ⟨fun f l s r hr => by simp [callN] at hr, fun k a fr s r hr => by simp [loopN] at hr⟩
  | n + 1 => by
    obtain ⟨i1, i2⟩ := callN_step n
    refine ⟨fun f l s r hr => ?_, fun k a fr s r hr => ?_⟩
    · rw [callN] at hr ⊢
      split at hr
      · exact runFn_mono i1 (callD_mono i1 i2) i2 hr
      · exact hr
    · rw [loopN] at hr ⊢
      split at hr
      · rename_i h1
        rw [execS_mono i1 i2 h1]
        exact i2 _ _ _ _ _ hr
      · rename_i hn
        rw [execS_mono i1 i2 hr]
        split
        · rename_i h2
          simp only [Option.some.injEq] at h2; subst h2
          exact absurd hr (hn _ _)
        · rfl
theorem callN_le {n m : Nat} (h : n ≤ m) : LeC (callN T H n) (callN T H m) ∧ LeL (loopN T H n) (loopN T H m) := by
  induction h with
  | refl => exact ⟨fun _ _ _ _ h => h, fun _ _ _ _ _ h => h⟩
  | step _ ih => exact ⟨fun f l s r hr => (callN_step _).1 f l s r (ih.1 f l s r hr), fun k a fr s r hr => (callN_step _).2 k a fr s r (ih.2 k a fr s r hr)⟩

/-! ### In the limit -/
/-- A call ends so. -/
def Ev (T : Nat → Option AFn) (H : Caller) (f : Nat) (l : List D) (s : St) (r : D × St) : Prop := ∃ n, callN T H n f l s = some r
/-- Code ends so. -/
def Ex' (T : Nat → Option AFn) (H : Caller) (a : AC) (fr : Fr) (s : St) (r : Ex × Fr × St) : Prop := ∃ n, execS (callN T H n) (loopN T H n) a fr s = some r
/-- Operations end so. -/
def Op' (T : Nat → Option AFn) (H : Caller) (b : Nat) (l : List AOper) (fr : Fr) (s : St) (r : Fr × St) : Prop := ∃ n, opers (callN T H n) b l fr s = some r

theorem Ev.mk {f : Nat} {fn : AFn} {l : List D} {s : St} {e : Ex} {fr : Fr} {s1 : St} {rs : List D} (hT : T f = some fn) (hx : Ex' T H fn.body { env := env0 0 l, defers := [] } s (e, fr, s1)) (he : ∀ i, e ≠ .exit i) (hd : fr.defers = []) (hr : resD fr.env s1 fn.results = some rs) : Ev T H f l s (single rs, s1) := by
  obtain ⟨n, hn⟩ := hx
  refine ⟨n + 1, ?_⟩
  rw [callN, hT]
  simp only [runFn, hn]
  cases e with
  | exit i => exact absurd rfl (he i)
  | normal => simp only [hd, leave, hr]
  | ret => simp only [hd, leave, hr]
theorem Ev.hook {f : Nat} {l : List D} {s : St} {r : D × St} (hT : T f = none) (h : H f l s = some r) : Ev T H f l s r := ⟨1, by rw [callN, hT]; exact h⟩

theorem Ex'.seq {a b : AC} {fr fr1 : Fr} {s s1 : St} {r : Ex × Fr × St} (h1 : Ex' T H a fr s (.normal, fr1, s1)) (h2 : Ex' T H b fr1 s1 r) : Ex' T H (.seq a b) fr s r := by
  obtain ⟨n, hn⟩ := h1
  obtain ⟨m, hm⟩ := h2
  refine ⟨max n m, ?_⟩
  have l1 := callN_le (T := T) (H := H) (Nat.le_max_left n m)
  have l2 := callN_le (T := T) (H := H) (Nat.le_max_right n m)
  rw [execS, execS_mono l1.1 l1.2 hn]
  exact execS_mono l2.1 l2.2 hm
theorem Ex'.seqx {a b : AC} {fr fr1 : Fr} {s s1 : St} {e : Ex} (h1 : Ex' T H a fr s (e, fr1, s1)) (he : e ≠ .normal) : Ex' T H (.seq a b) fr s (e, fr1, s1) := by
  obtain ⟨n, hn⟩ := h1
  refine ⟨n, ?_⟩
  rw [execS, hn]
  cases e with
  | normal => exact absurd rfl he
  | exit i => rfl
  | ret => rfl
theorem Ex'.condT {c : Opd} {a b : AC} {fr : Fr} {s : St} {r : Ex × Fr × St} (hc : c.ev fr.env = some (.bool true)) (h : Ex' T H a fr s r) : Ex' T H (.cond c a b) fr s r := by
  obtain ⟨n, hn⟩ := h
  exact ⟨n, by rw [execS, hc]; exact hn⟩
theorem Ex'.condF {c : Opd} {a b : AC} {fr : Fr} {s : St} {r : Ex × Fr × St} (hc : c.ev fr.env = some (.bool false)) (h : Ex' T H b fr s r) : Ex' T H (.cond c a b) fr s r := by
  obtain ⟨n, hn⟩ := h
  exact ⟨n, by rw [execS, hc]; exact hn⟩
theorem Ex'.skip {fr : Fr} {s : St} : Ex' T H .skip fr s (.normal, fr, s) := ⟨0, rfl⟩
theorem Ex'.ret {fr : Fr} {s : St} : Ex' T H .ret fr s (.ret, fr, s) := ⟨0, rfl⟩
theorem Ex'.exit {i : Nat} {fr : Fr} {s : St} : Ex' T H (.exit i) fr s (.exit i, fr, s) := ⟨0, rfl⟩
theorem Ex'.reg {l : List AOper} {fr fr1 : Fr} {s s1 : St} (h : Op' T H 0 l fr s (fr1, s1)) : Ex' T H (.reg l) fr s (.normal, fr1, s1) := by
  obtain ⟨n, hn⟩ := h
  exact ⟨n, by rw [execS, hn]⟩
theorem Ex'.block {id : Nat} {a : AC} {fr fr1 : Fr} {s s1 : St} {e : Ex} (h : Ex' T H a fr s (e, fr1, s1)) (he : e ≠ .exit id) : Ex' T H (.block id a) fr s (e, fr1, s1) := by
  obtain ⟨n, hn⟩ := h
  refine ⟨n, ?_⟩
  rw [execS, hn]
  cases e with
  | normal => rfl
  | ret => rfl
  | exit i =>
    have : Nat.beq i id = false := by
      cases hb : Nat.beq i id with
      | false => rfl
      | true => exact absurd (by rw [Nat.eq_of_beq_eq_true hb]) he
    simp only [this]
theorem Ex'.blockx {id : Nat} {a : AC} {fr fr1 : Fr} {s s1 : St} (h : Ex' T H a fr s (.exit id, fr1, s1)) : Ex' T H (.block id a) fr s (.normal, fr1, s1) := by
  obtain ⟨n, hn⟩ := h
  refine ⟨n, ?_⟩
  rw [execS, hn]
  simp only [Nat.beq_refl]
/-- A loop: once more. -/
theorem Ex'.again {k : List Nat} {a : AC} {fr fr1 : Fr} {s s1 : St} {r : Ex × Fr × St} (h1 : Ex' T H a { fr with env := fr.env.keep k } s (.normal, fr1, s1)) (h2 : Ex' T H (.loop k a) fr1 s1 r) : Ex' T H (.loop k a) fr s r := by
  obtain ⟨n, hn⟩ := h1
  obtain ⟨m, hm⟩ := h2
  refine ⟨max n m + 1, ?_⟩
  have l1 := callN_le (T := T) (H := H) (Nat.le_max_left n m)
  have l2 := callN_le (T := T) (H := H) (Nat.le_max_right n m)
  rw [execS, loopN, execS_mono l1.1 l1.2 hn]
  rw [execS] at hm
  exact l2.2 _ _ _ _ _ hm
/-- A loop is left. -/
theorem Ex'.stop {k : List Nat} {a : AC} {fr fr1 : Fr} {s s1 : St} {e : Ex} (h : Ex' T H a { fr with env := fr.env.keep k } s (e, fr1, s1)) (he : e ≠ .normal) : Ex' T H (.loop k a) fr s (e, fr1, s1) := by
  obtain ⟨n, hn⟩ := h
  refine ⟨n + 1, ?_⟩
  rw [execS, loopN, hn]
  cases e with
  | normal => exact absurd rfl he
  | exit i => rfl
  | ret => rfl

theorem Op'.nil {b : Nat} {fr : Fr} {s : St} : Op' T H b [] fr s (fr, s) := ⟨0, rfl⟩
/-- An operation that calls nothing. -/
theorem Op'.cons {b : Nat} {o : AOper} {l : List AOper} {fr fr1 : Fr} {s s1 : St} {r : Fr × St} (h1 : oper noCall b o fr s = some (fr1, s1)) (h2 : Op' T H b l fr1 s1 r) : Op' T H b (o :: l) fr s r := by
  obtain ⟨n, hn⟩ := h2
  refine ⟨n, ?_⟩
  rw [opers, oper_mono (C' := callN T H n) (fun f l s r h => by simp [noCall] at h) h1]
  exact hn
/-- An operation that calls. -/
theorem Op'.call {b : Nat} {o : AOper} {l : List AOper} {fr fr1 : Fr} {s s1 : St} {r : Fr × St} {f : Nat} {x : List D} {q : D × St} (hq : Ev T H f x s q) (h1 : ∀ C : Caller, C f x s = some q → oper C b o fr s = some (fr1, s1)) (h2 : Op' T H b l fr1 s1 r) : Op' T H b (o :: l) fr s r := by
  obtain ⟨n, hn⟩ := hq
  obtain ⟨m, hm⟩ := h2
  refine ⟨max n m, ?_⟩
  have l1 := callN_le (T := T) (H := H) (Nat.le_max_left n m)
  have l2 := callN_le (T := T) (H := H) (Nat.le_max_right n m)
  rw [opers, h1 _ (l1.1 _ _ _ _ hn)]
  exact opers_mono l2.1 hm
end Go.Ab
