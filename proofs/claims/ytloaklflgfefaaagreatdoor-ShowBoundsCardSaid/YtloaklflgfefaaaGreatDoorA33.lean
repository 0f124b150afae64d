/- A calculus for runs in the limit: what is asked behind a piece of code. -/
import Derived.Test.YtloaklflgfefaaaGreatDoorA31
namespace Go.Ab
open Go
set_option linter.unusedSectionVars false
set_option linter.unusedSimpArgs false
set_option linter.unusedVariables false
variable {C C' : Caller} {L L' : Looper} {T : Nat → Option AFn} {H : Caller}

def LeC (C C' : Caller) : Prop := ∀ f l s r, C f l s = some r → C' f l s = some r
def LeL (L L' : Looper) : Prop := ∀ k a fr s r, L k a fr s = some r → L' k a fr s = some r

theorem opF_mono (h : LeC C C') {e : Env} {s : St} {al : Option Nat} {p : AOp} {r : D × St} (hr : opF C e s al p = some r) : opF C' e s al p = some r := by
  cases p
  case call ro f args =>
    simp only [opF] at hr ⊢
    split at hr
    · rename_i l hl
      cases ro with
      | false => simp only at hr ⊢; exact h _ _ _ _ hr
      | true =>
        simp only at hr ⊢
        split at hr
        · rename_i d s1 h1
          rw [h _ _ _ _ h1]; exact hr
        · cases hr
    · cases hr
  case callv f args =>
    simp only [opF] at hr ⊢
    split at hr
    · exact h _ _ _ _ hr
    · exact h _ _ _ _ hr
    · cases hr
  case invoke tbl x args =>
    simp only [opF] at hr ⊢
    split at hr
    · rename_i t v l hx hl
      split at hr
      · rename_i f r0 hf
        split at hr
        · rename_i u hu
          try simp only [hu]
          exact h _ _ _ _ hr
        · cases hr
      · cases hr
    · cases hr
  all_goals exact hr

theorem oper_mono (h : LeC C C') {b : Nat} {o : AOper} {fr : Fr} {s : St} {r : Fr × St} (hr : oper C b o fr s = some r) : oper C' b o fr s = some r := by
  unfold oper at hr ⊢
  split at hr
  · split at hr
    · exact hr
    · exact hr
    · exact hr
    · rename_i op h1 h2 h3
      split at hr
      · rename_i d s1 hop
        rw [opF_mono h hop]; exact hr
      · cases hr
  · exact hr
  · cases hr
theorem opers_mono (h : LeC C C') {b : Nat} : ∀ {l : List AOper} {fr : Fr} {s : St} {r : Fr × St}, opers C b l fr s = some r → opers C' b l fr s = some r
  | [], _, _, _, hr => hr
  | o :: l, fr, s, r, hr => by
    simp only [opers] at hr ⊢
    split at hr
    · rename_i h1; rw [oper_mono h h1]; exact opers_mono h hr
    · cases hr
theorem dopers_mono (h : LeC C C') {b : Nat} : ∀ {l : List (AOper × List Nat)} {acc : List Fp} {fr : Fr} {s : St} {r : Fr × St}, dopers C b l acc fr s = some r → dopers C' b l acc fr s = some r
  | [], _, _, _, _, hr => hr
  | (o, q) :: l, acc, fr, s, r, hr => by
    simp only [dopers] at hr ⊢
    split at hr
    · split at hr
      · rename_i h1
        rw [oper_mono h h1]
        split at hr
        · rename_i h2
          simp only [h2]; exact dopers_mono h hr
        · cases hr
      · cases hr
    · cases hr
theorem execS_mono (h : LeC C C') (hL : LeL L L') : ∀ {a : AC} {fr : Fr} {s : St} {r : Ex × Fr × St}, execS C L a fr s = some r → execS C' L' a fr s = some r
  | .skip, _, _, _, hr => hr
  | .reg ops, fr, s, r, hr => by
    simp only [execS] at hr ⊢
    split at hr
    · rename_i h1; rw [opers_mono h h1]; exact hr
    · cases hr
  | .dreg k ops, fr, s, r, hr => by
    simp only [execS] at hr ⊢
    split at hr
    · cases hr
    · split at hr
      · rename_i h1; rw [dopers_mono h h1]; exact hr
      · cases hr
  | .seq a b, fr, s, r, hr => by
    simp only [execS] at hr ⊢
    split at hr
    · rename_i h1; rw [execS_mono h hL h1]; exact execS_mono h hL hr
    · rename_i hn
      rw [execS_mono h hL hr]
      split
      · rename_i h2
        simp only [Option.some.injEq] at h2; subst h2
        exact absurd hr (hn _ _)
      · rfl
  | .cond c a b, fr, s, r, hr => by
    simp only [execS] at hr ⊢
    split at hr
    · exact execS_mono h hL hr
    · exact execS_mono h hL hr
    · cases hr
  | .block id a, fr, s, r, hr => by
    simp only [execS] at hr ⊢
    split at hr
    · rename_i h1; rw [execS_mono h hL h1]; exact hr
    · rename_i hn
      rw [execS_mono h hL hr]
      split
      · rename_i h2
        simp only [Option.some.injEq] at h2; subst h2
        exact absurd hr (hn _ _ _)
      · rfl
  | .loop keep a, fr, s, r, hr => by
    simp only [execS] at hr ⊢
    exact hL _ _ _ _ _ hr
  | .rangef keep g ps x y, fr, s, r, hr => by
    simp only [execS] at hr ⊢
    exact hL _ _ _ _ _ hr
  | .exit id, _, _, _, hr => hr
  | .ret, _, _, _, hr => hr
  | .bad, _, _, _, hr => by simp [execS] at hr
theorem leave_mono (h : LeC C C') : ∀ {l : List (D × List D)} {s s' : St}, leave C l s = some s' → leave C' l s = some s'
  | [], _, _, hr => hr
  | (f, l) :: q, s, s', hr => by
    unfold leave at hr ⊢
    split at hr
    · rename_i hh; cases hh
    · rename_i hh
      simp only [List.cons.injEq, Prod.mk.injEq] at hh
      obtain ⟨⟨rfl, rfl⟩, rfl⟩ := hh
      split at hr
      · rename_i h1
        simp only [h _ _ _ _ h1]; exact leave_mono h hr
      · cases hr
    · rename_i hh
      simp only [List.cons.injEq, Prod.mk.injEq] at hh
      obtain ⟨⟨rfl, rfl⟩, rfl⟩ := hh
      exact leave_mono h hr
    · cases hr
theorem runFn_mono {CD CD' : Caller} (h : LeC C C') (hD : LeC CD CD') (hL : LeL L L') {fn : AFn} {args : List D} {s : St} {r : D × St} (hr : runFn C CD L fn args s = some r) : runFn C' CD' L' fn args s = some r := by
  unfold runFn at hr ⊢
  split at hr
  · cases hr
  · rename_i e fr s1 hne h1
    rw [execS_mono h hL h1]
    split at hr
    · rename_i s2 h2
      cases e with
      | exit i => exact absurd rfl (hne i)
      | normal => simp only [leave_mono hD h2]; exact hr
      | ret => simp only [leave_mono hD h2]; exact hr
    · cases hr
  · cases hr
theorem callD_mono (h : LeC C C') (hL : LeL L L') : LeC (callD T C L) (callD T C' L') := by
  intro f l s r hr
  unfold callD at hr ⊢
  split at hr
  · rename_i fn hf
    unfold runFnD at hr ⊢
    split at hr
    · cases hr
    · rename_i e fr s1 hne h1
      rw [execS_mono h hL h1]
      cases e with
      | exit i => exact absurd rfl (hne i)
      | normal => exact hr
      | ret => exact hr
    · cases hr
  · cases hr
abbrev LeE (x y : Fr → St → Option (Ex × Fr × St)) : Prop := ∀ fr s r, x fr s = some r → y fr s = some r
theorem yHook_mono {k : Nat} {ps : List Nat} {e : Env} {x x' y y' : Fr → St → Option (Ex × Fr × St)} {H H' : Caller} (hx : LeE x x') (hy : LeE y y') (hH : LeC H H') : LeC (yHook k ps e x y H) (yHook k ps e x' y' H') := by
  intro f l s r hr
  unfold yHook at hr ⊢
  split at hr
  · split at hr
    · split at hr
      · rename_i e1 h1 h2
        try simp only [h1, h2]
        unfold midR at hr ⊢
        split at hr
        · rename_i fr1 s1 h3
          rw [hx _ _ _ h3]
          split at hr
          · rename_i h4
            simp only [h4]
            split at hr
            · rename_i s2 h5
              try simp only [h5]
              unfold endR at hr ⊢
              split at hr
              · rename_i h6
                rw [hy _ _ _ h6]; exact hr
              · cases hr
            · cases hr
          · cases hr
        · cases hr
      · cases hr
    · exact hH _ _ _ _ hr
  · exact hH _ _ _ _ hr
theorem rangeF_mono {C C' : Nat → Env → Caller} (h : ∀ k e, LeC (C k e) (C' k e)) {keep : List Nat} {g : Opd} {fr : Fr} {s : St} {r : Ex × Fr × St} (hr : rangeF C keep g fr s = some r) : rangeF C' keep g fr s = some r := by
  unfold rangeF at hr ⊢
  split at hr
  · rename_i gf caps h1 h2
    split at hr
    · rename_i h3
      try simp only [h3]
      unfold endRF at hr
      split at hr
      · rename_i d s1 h4
        rw [h _ _ _ _ _ _ h4]; exact hr
      · cases hr
    · cases hr
  · cases hr
theorem callN_mono : ∀ n {H H' : Caller}, LeC H H' → LeC (callN T H n) (callN T H' n) ∧ LeL (loopN T H n) (loopN T H' n)
  | 0, H, H', hH => ⟨fun f l s r hr => by simp [callN] at hr, fun k a fr s r hr => by simp [loopN] at hr⟩
  | n + 1, H, H', hH => by
    obtain ⟨i1, i2⟩ := callN_mono n hH
    refine ⟨fun f l s r hr => ?_, fun k a fr s r hr => ?_⟩
    · rw [callN] at hr ⊢
      split at hr
      · exact hH _ _ _ _ hr
      · split at hr
        · exact runFn_mono i1 (callD_mono i1 i2) i2 hr
        · exact hH _ _ _ _ hr
    · cases hb : a.isRangef with
      | true =>
        cases a <;> first | (cases hb; done) | skip
        rw [loopN_range] at hr ⊢
        exact rangeF_mono (fun k e => (callN_mono n (yHook_mono (fun _ _ _ h => execS_mono i1 i2 h) (fun _ _ _ h => execS_mono i1 i2 h) hH)).1) hr
      | false =>
        rw [loopN_plain _ _ _ _ hb] at hr ⊢
        split at hr
        · rename_i h1
          rw [execS_mono i1 i2 h1]
          exact i2 _ _ _ _ _ hr
        · rename_i hn
          rw [execS_mono i1 i2 hr]
          split
          · rename_i h2
            simp only [Option.some.injEq] at h2; subst h2
            exact absurd hr (hn _ _)
          · rfl
theorem callN_step : ∀ n {H : Caller}, LeC (callN T H n) (callN T H (n + 1)) ∧ LeL (loopN T H n) (loopN T H (n + 1))
  | 0, H => ⟨fun f l s r hr => by simp [callN] at hr, fun k a fr s r hr => by simp [loopN] at hr⟩
  | n + 1, H => by
    obtain ⟨i1, i2⟩ := callN_step n (H := H)
    refine ⟨fun f l s r hr => ?_, fun k a fr s r hr => ?_⟩
    · rw [callN] at hr ⊢
      split at hr
      · exact hr
      · split at hr
        · exact runFn_mono i1 (callD_mono i1 i2) i2 hr
        · exact hr
    · cases hb : a.isRangef with
      | true =>
        cases a <;> first | (cases hb; done) | skip
        rw [loopN_range] at hr ⊢
        refine rangeF_mono (fun k e f l s r h => ?_) hr
        exact (callN_step n).1 f l s r ((callN_mono n (yHook_mono (fun _ _ _ h => execS_mono i1 i2 h) (fun _ _ _ h => execS_mono i1 i2 h) (fun _ _ _ _ h => h))).1 f l s r h)
      | false =>
        rw [loopN_plain _ _ _ _ hb] at hr ⊢
        split at hr
        · rename_i h1
          rw [execS_mono i1 i2 h1]
          exact i2 _ _ _ _ _ hr
        · rename_i hn
          rw [execS_mono i1 i2 hr]
          split
          · rename_i h2
            simp only [Option.some.injEq] at h2; subst h2
            exact absurd hr (hn _ _)
          · rfl
theorem callN_le {n m : Nat} (h : n ≤ m) : LeC (callN T H n) (callN T H m) ∧ LeL (loopN T H n) (loopN T H m) := by
  induction h with
  | refl => exact ⟨fun _ _ _ _ h => h, fun _ _ _ _ _ h => h⟩
  | step _ ih => exact ⟨fun f l s r hr => (callN_step _).1 f l s r (ih.1 f l s r hr), fun k a fr s r hr => (callN_step _).2 k a fr s r (ih.2 k a fr s r hr)⟩

/-! ### In the limit -/
/-- A call ends so. -/
def Ev (T : Nat → Option AFn) (H : Caller) (f : Nat) (l : List D) (s : St) (r : D × St) : Prop := ∃ n, callN T H n f l s = some r
/-- Code ends so. -/
def Ex' (T : Nat → Option AFn) (H : Caller) (a : AC) (fr : Fr) (s : St) (r : Ex × Fr × St) : Prop := ∃ n, execS (callN T H n) (loopN T H n) a fr s = some r
/-- Operations end so. -/
def Op' (T : Nat → Option AFn) (H : Caller) (b : Nat) (l : List AOper) (fr : Fr) (s : St) (r : Fr × St) : Prop := ∃ n, opers (callN T H n) b l fr s = some r

/-- Has a frame put off no call? (Marks alone.) -/
def marks : List (D × List D) → Bool
  | [] => true
  | (d, _) :: r => match d with
    | .nilf => marks r
    | _ => false
theorem leave_marks {C : Caller} {s : St} : ∀ {l : List (D × List D)}, marks l = true → leave C l s = some s
  | [], _ => rfl
  | (d, q) :: r, h => by
    simp only [marks] at h
    split at h
    · simp only [leave]; exact leave_marks h
    · cases h
theorem Ev.mk {f : Nat} {fn : AFn} {l : List D} {s : St} {e : Ex} {fr : Fr} {s1 : St} {rs : List D} (hT : T f = some fn) (hx : Ex' T H fn.body { env := env0 0 l, defers := [] } s (e, fr, s1)) (he : ∀ i, e ≠ .exit i) (hd : marks fr.defers = true) (hr : resD fr.env s1 fn.results = some rs) (hy : yS l = false := by rfl) : Ev T H f l s (single rs, s1) := by
  obtain ⟨n, hn⟩ := hx
  refine ⟨n + 1, ?_⟩
  rw [callN, hT, hy]
  simp only [runFn, hn]
  cases e with
  | exit i => exact absurd rfl (he i)
  | normal => simp only [leave_marks hd, hr]
  | ret => simp only [leave_marks hd, hr]
theorem Ev.hook {f : Nat} {l : List D} {s : St} {r : D × St} (hT : T f = none) (h : H f l s = some r) : Ev T H f l s r := ⟨1, by
  rw [callN, hT]
  cases yS l <;> exact h⟩

theorem Ex'.seq {a b : AC} {fr fr1 : Fr} {s s1 : St} {r : Ex × Fr × St} (h1 : Ex' T H a fr s (.normal, fr1, s1)) (h2 : Ex' T H b fr1 s1 r) : Ex' T H (.seq a b) fr s r := by
  obtain ⟨n, hn⟩ := h1
  obtain ⟨m, hm⟩ := h2
  refine ⟨max n m, ?_⟩
  have l1 := callN_le (T := T) (H := H) (Nat.le_max_left n m)
  have l2 := callN_le (T := T) (H := H) (Nat.le_max_right n m)
  rw [execS, execS_mono l1.1 l1.2 hn]
  exact execS_mono l2.1 l2.2 hm
theorem Ex'.seqx {a b : AC} {fr fr1 : Fr} {s s1 : St} {e : Ex} (h1 : Ex' T H a fr s (e, fr1, s1)) (he : e ≠ .normal) : Ex' T H (.seq a b) fr s (e, fr1, s1) := by
  obtain ⟨n, hn⟩ := h1
  refine ⟨n, ?_⟩
  rw [execS, hn]
  cases e with
  | normal => exact absurd rfl he
  | exit i => rfl
  | ret => rfl
theorem Ex'.condT {c : Opd} {a b : AC} {fr : Fr} {s : St} {r : Ex × Fr × St} (hc : c.ev fr.env = some (.bool true)) (h : Ex' T H a fr s r) : Ex' T H (.cond c a b) fr s r := by
  obtain ⟨n, hn⟩ := h
  exact ⟨n, by rw [execS, hc]; exact hn⟩
theorem Ex'.condF {c : Opd} {a b : AC} {fr : Fr} {s : St} {r : Ex × Fr × St} (hc : c.ev fr.env = some (.bool false)) (h : Ex' T H b fr s r) : Ex' T H (.cond c a b) fr s r := by
  obtain ⟨n, hn⟩ := h
  exact ⟨n, by rw [execS, hc]; exact hn⟩
theorem Ex'.skip {fr : Fr} {s : St} : Ex' T H .skip fr s (.normal, fr, s) := ⟨0, rfl⟩
theorem Ex'.ret {fr : Fr} {s : St} : Ex' T H .ret fr s (.ret, fr, s) := ⟨0, rfl⟩
theorem Ex'.exit {i : Nat} {fr : Fr} {s : St} : Ex' T H (.exit i) fr s (.exit i, fr, s) := ⟨0, rfl⟩
theorem Ex'.reg {l : List AOper} {fr fr1 : Fr} {s s1 : St} (h : Op' T H 0 l fr s (fr1, s1)) : Ex' T H (.reg l) fr s (.normal, fr1, s1) := by
  obtain ⟨n, hn⟩ := h
  exact ⟨n, by rw [execS, hn]⟩
theorem Ex'.block {id : Nat} {a : AC} {fr fr1 : Fr} {s s1 : St} {e : Ex} (h : Ex' T H a fr s (e, fr1, s1)) (he : e ≠ .exit id) : Ex' T H (.block id a) fr s (e, fr1, s1) := by
  obtain ⟨n, hn⟩ := h
  refine ⟨n, ?_⟩
  rw [execS, hn]
  cases e with
  | normal => rfl
  | ret => rfl
  | exit i =>
    have : Nat.beq i id = false := by
      cases hb : Nat.beq i id with
      | false => rfl
      | true => exact absurd (by rw [Nat.eq_of_beq_eq_true hb]) he
    simp only [this]
theorem Ex'.blockx {id : Nat} {a : AC} {fr fr1 : Fr} {s s1 : St} (h : Ex' T H a fr s (.exit id, fr1, s1)) : Ex' T H (.block id a) fr s (.normal, fr1, s1) := by
  obtain ⟨n, hn⟩ := h
  refine ⟨n, ?_⟩
  rw [execS, hn]
  simp only [Nat.beq_refl]
/-- A loop: once more. -/
theorem Ex'.again {k : List Nat} {a : AC} {fr fr1 : Fr} {s s1 : St} {r : Ex × Fr × St} (h1 : Ex' T H a { fr with env := fr.env.keep k } s (.normal, fr1, s1)) (h2 : Ex' T H (.loop k a) fr1 s1 r) (hb : a.isRangef = false := by rfl) : Ex' T H (.loop k a) fr s r := by
  obtain ⟨n, hn⟩ := h1
  obtain ⟨m, hm⟩ := h2
  refine ⟨max n m + 1, ?_⟩
  have l1 := callN_le (T := T) (H := H) (Nat.le_max_left n m)
  have l2 := callN_le (T := T) (H := H) (Nat.le_max_right n m)
  rw [execS, loopN_plain _ _ _ _ hb, execS_mono l1.1 l1.2 hn]
  rw [execS] at hm
  exact l2.2 _ _ _ _ _ hm
/-- A loop is left. -/
theorem Ex'.stop {k : List Nat} {a : AC} {fr fr1 : Fr} {s s1 : St} {e : Ex} (h : Ex' T H a { fr with env := fr.env.keep k } s (e, fr1, s1)) (he : e ≠ .normal) (hb : a.isRangef = false := by rfl) : Ex' T H (.loop k a) fr s (e, fr1, s1) := by
  obtain ⟨n, hn⟩ := h
  refine ⟨n + 1, ?_⟩
  rw [execS, loopN_plain _ _ _ _ hb, hn]
  cases e with
  | normal => exact absurd rfl he
  | exit i => rfl
  | ret => rfl

theorem Op'.nil {b : Nat} {fr : Fr} {s : St} : Op' T H b [] fr s (fr, s) := ⟨0, rfl⟩
/-- An operation that calls nothing. -/
theorem Op'.cons {b : Nat} {o : AOper} {l : List AOper} {fr fr1 : Fr} {s s1 : St} {r : Fr × St} (h1 : oper noCall b o fr s = some (fr1, s1)) (h2 : Op' T H b l fr1 s1 r) : Op' T H b (o :: l) fr s r := by
  obtain ⟨n, hn⟩ := h2
  refine ⟨n, ?_⟩
  rw [opers, oper_mono (C' := callN T H n) (fun f l s r h => by simp [noCall] at h) h1]
  exact hn
/-- An operation that calls. -/
theorem Op'.call {b : Nat} {o : AOper} {l : List AOper} {fr fr1 : Fr} {s s1 : St} {r : Fr × St} {f : Nat} {x : List D} {q : D × St} (hq : Ev T H f x s q) (h1 : ∀ C : Caller, C f x s = some q → oper C b o fr s = some (fr1, s1)) (h2 : Op' T H b l fr1 s1 r) : Op' T H b (o :: l) fr s r := by
  obtain ⟨n, hn⟩ := hq
  obtain ⟨m, hm⟩ := h2
  refine ⟨max n m, ?_⟩
  have l1 := callN_le (T := T) (H := H) (Nat.le_max_left n m)
  have l2 := callN_le (T := T) (H := H) (Nat.le_max_right n m)
  rw [opers, h1 _ (l1.1 _ _ _ _ hn)]
  exact opers_mono l2.1 hm
end Go.Ab

namespace Go.Ab
open Go
set_option linter.unusedSectionVars false
set_option linter.unusedSimpArgs false
set_option linter.unusedVariables false
variable {T : Nat → Option AFn} {H : Caller} {b : Nat} {fr fr1 : Fr} {s s1 : St} {a c : AC} {l : List AOper}

def Wp (T : Nat → Option AFn) (H : Caller) (a : AC) (fr : Fr) (s : St) (Q : Ex → Fr → St → Prop) : Prop := ∃ e fr' s', Ex' T H a fr s (e, fr', s') ∧ Q e fr' s'
def WpO (T : Nat → Option AFn) (H : Caller) (b : Nat) (l : List AOper) (fr : Fr) (s : St) (Q : Fr → St → Prop) : Prop := ∃ fr' s', Op' T H b l fr s (fr', s') ∧ Q fr' s'
/-- Operations that call nothing, one behind the other. -/
def wpo (b : Nat) : List AOper → Fr → St → (Fr → St → Prop) → Prop
  | [], fr, s, Q => Q fr s
  | o :: l, fr, s, Q => match oper noCall b o fr s with
    | some (fr1, s1) => wpo b l fr1 s1 Q
    | none => False
theorem wpo_sound {Q : Fr → St → Prop} : ∀ {l : List AOper} {fr : Fr} {s : St}, wpo b l fr s Q → WpO T H b l fr s Q
  | [], fr, s, h => ⟨fr, s, .nil, h⟩
  | o :: l, fr, s, h => by
    simp only [wpo] at h
    split at h
    · rename_i f1 s1 h1
      obtain ⟨f2, s2, h2, h3⟩ := wpo_sound h
      exact ⟨f2, s2, .cons h1 h2, h3⟩
    · exact h.elim

theorem wp_seq {Q : Ex → Fr → St → Prop} (h : Wp T H a fr s fun e f1 s1 => match e with | .normal => Wp T H c f1 s1 Q | e => Q e f1 s1) : Wp T H (.seq a c) fr s Q := by
  obtain ⟨e, f1, s1, h1, h2⟩ := h
  cases e with
  | normal => obtain ⟨e2, f2, s2, h3, h4⟩ := h2; exact ⟨e2, f2, s2, .seq h1 h3, h4⟩
  | exit i => exact ⟨_, f1, s1, .seqx h1 (by simp), h2⟩
  | ret => exact ⟨_, f1, s1, .seqx h1 (by simp), h2⟩
theorem wp_reg {Q : Ex → Fr → St → Prop} (h : WpO T H 0 l fr s (Q .normal)) : Wp T H (.reg l) fr s Q := by
  obtain ⟨f1, s1, h1, h2⟩ := h
  exact ⟨_, f1, s1, .reg h1, h2⟩
theorem wp_regp {Q : Ex → Fr → St → Prop} (h : wpo 0 l fr s (Q .normal)) : Wp T H (.reg l) fr s Q := wp_reg (wpo_sound h)
theorem wpo_call {o : AOper} {f : Nat} {x : List D} {q : D × St} {Q : Fr → St → Prop} (hq : Ev T H f x s q) (h1 : ∀ C : Caller, C f x s = some q → oper C b o fr s = some (fr1, s1)) (h2 : WpO T H b l fr1 s1 Q) : WpO T H b (o :: l) fr s Q := by
  obtain ⟨f2, s2, h3, h4⟩ := h2
  exact ⟨f2, s2, .call hq h1 h3, h4⟩
theorem wpo_step {o : AOper} {Q : Fr → St → Prop} (h1 : oper noCall b o fr s = some (fr1, s1)) (h2 : WpO T H b l fr1 s1 Q) : WpO T H b (o :: l) fr s Q := by
  obtain ⟨f2, s2, h3, h4⟩ := h2
  exact ⟨f2, s2, .cons h1 h3, h4⟩
theorem wp_cond {k : Opd} {v : Bool} {Q : Ex → Fr → St → Prop} (hc : k.ev fr.env = some (.bool v)) (h : if v = true then Wp T H a fr s Q else Wp T H c fr s Q) : Wp T H (.cond k a c) fr s Q := by
  cases v with
  | true => obtain ⟨e, f1, s1, h1, h2⟩ := h; exact ⟨e, f1, s1, .condT hc h1, h2⟩
  | false => obtain ⟨e, f1, s1, h1, h2⟩ := h; exact ⟨e, f1, s1, .condF hc h1, h2⟩
theorem wp_skip {Q : Ex → Fr → St → Prop} (h : Q .normal fr s) : Wp T H .skip fr s Q := ⟨_, _, _, .skip, h⟩
theorem wp_ret {Q : Ex → Fr → St → Prop} (h : Q .ret fr s) : Wp T H .ret fr s Q := ⟨_, _, _, .ret, h⟩
theorem wp_exit {i : Nat} {Q : Ex → Fr → St → Prop} (h : Q (.exit i) fr s) : Wp T H (.exit i) fr s Q := ⟨_, _, _, .exit, h⟩
theorem wp_block {id : Nat} {Q : Ex → Fr → St → Prop} (h : Wp T H a fr s fun e f1 s1 => match e with | .exit i => if i = id then Q .normal f1 s1 else Q (.exit i) f1 s1 | e => Q e f1 s1) : Wp T H (.block id a) fr s Q := by
  obtain ⟨e, f1, s1, h1, h2⟩ := h
  cases e with
  | normal => exact ⟨_, f1, s1, .block h1 (by simp), h2⟩
  | ret => exact ⟨_, f1, s1, .block h1 (by simp), h2⟩
  | exit i =>
    by_cases hi : i = id
    · subst hi
      simp only [if_true] at h2
      exact ⟨_, f1, s1, .blockx h1, h2⟩
    · simp only [if_neg hi] at h2
      exact ⟨_, f1, s1, .block h1 (by simpa using hi), h2⟩
/-- A loop, by what stands at its head and a measure. -/
theorem wp_loop {k : List Nat} {Q : Ex → Fr → St → Prop} (I : Nat → Fr → St → Prop) (hI : ∀ n fr s, I n fr s → Wp T H a { fr with env := fr.env.keep k } s fun e f1 s1 => match e with | .normal => ∃ m, m < n ∧ I m f1 s1 | e => Q e f1 s1) (hb : a.isRangef = false := by rfl) :
    ∀ n fr s, I n fr s → Wp T H (.loop k a) fr s Q := by
  intro n
  induction n using Nat.strongRecOn with
  | ind n ih =>
    intro fr s h
    obtain ⟨e, f1, s1, h1, h2⟩ := hI n fr s h
    cases e with
    | normal =>
      obtain ⟨m, hm, h3⟩ := h2
      obtain ⟨e2, f2, s2, h4, h5⟩ := ih m hm f1 s1 h3
      exact ⟨e2, f2, s2, .again h1 h4 hb, h5⟩
    | exit i => exact ⟨_, f1, s1, .stop h1 (by simp) hb, h2⟩
    | ret => exact ⟨_, f1, s1, .stop h1 (by simp) hb, h2⟩
theorem Wp.mono {Q Q' : Ex → Fr → St → Prop} (h : Wp T H a fr s Q) (hQ : ∀ e f1 s1, Q e f1 s1 → Q' e f1 s1) : Wp T H a fr s Q' := by
  obtain ⟨e, f1, s1, h1, h2⟩ := h
  exact ⟨e, f1, s1, h1, hQ _ _ _ h2⟩
/-- A function, by its body. -/
theorem ev_of_wp {f : Nat} {fn : AFn} {x : List D} {R : D → St → Prop} (hT : T f = some fn)
    (h : Wp T H fn.body { env := env0 0 x, defers := [] } s fun e f1 s1 => (∀ i, e ≠ .exit i) ∧ marks f1.defers = true ∧ ∃ rs, resD f1.env s1 fn.results = some rs ∧ R (single rs) s1) (hy : yS x = false := by rfl) : ∃ d s1, Ev T H f x s (d, s1) ∧ R d s1 := by
  obtain ⟨e, f1, s1, h1, h2, h3, rs, h4, h5⟩ := h
  exact ⟨_, s1, .mk hT h1 h2 h3 h4 hy, h5⟩
/-- Regions whose order is drawn, of operations that call nothing and stand apart by themselves. -/
def wpd (b : Nat) : List AOper → Fr → St → (Fr → St → Prop) → Prop
  | [], fr, s, Q => Q fr s
  | o :: l, fr, s, Q => fr.env.isLvo o.dst = false ∧ match oper noCall b o fr s with
    | some (fr1, s1) => fr1.env.isLvo o.dst = false ∧ wpd b l fr1 s1 Q
    | none => False
theorem wpd_sound {Q : Fr → St → Prop} {C : Caller} : ∀ {l : List AOper} {acc : List Fp} {fr : Fr} {s : St}, (l.all fun o => !Nat.beq o.op.kind 5) = true → wpd b l fr s Q → ∃ fr' s', dopers C b (l.map fun o => (o, [])) acc fr s = some (fr', s') ∧ Q fr' s'
  | [], acc, fr, s, _, h => ⟨fr, s, rfl, h⟩
  | o :: l, acc, fr, s, hk, h => by
    simp only [List.all_cons, Bool.and_eq_true, Bool.not_eq_true'] at hk
    simp only [wpd] at h
    obtain ⟨h0, h⟩ := h
    split at h
    · rename_i f1 s1 h1
      obtain ⟨h2, h3⟩ := h
      obtain ⟨f2, s2, h4, h5⟩ := wpd_sound (C := C) (acc := acc ++ [fpOf b fr.env o]) hk.2 h3
      refine ⟨f2, s2, ?_, h5⟩
      simp only [List.map_cons, dopers, chkAll, h0, Bool.not_false, Bool.and_self, oper_mono (C := noCall) (C' := C) (fun f l s r h => by simp [noCall] at h) h1, h2, lost, hk.1, Bool.or_self]
      exact h4
    · exact h.elim
theorem wp_dreg {Q : Ex → Fr → St → Prop} (hk : (l.all fun o => !Nat.beq o.op.kind 5) = true) (h : wpd s.n l fr s (Q .normal)) : Wp T H (.dreg 0 (l.map fun o => (o, []))) fr s Q := by
  obtain ⟨f1, s1, h1, h2⟩ := wpd_sound (C := callN T H 0) (acc := []) hk h
  refine ⟨_, f1, s1, ⟨0, ?_⟩, h2⟩
  have e : { s with n := s.n + 0 } = s := by cases s; rfl
  simp only [execS, Nat.blt, Nat.ble, Bool.and_false, e, h1]
end Go.Ab
