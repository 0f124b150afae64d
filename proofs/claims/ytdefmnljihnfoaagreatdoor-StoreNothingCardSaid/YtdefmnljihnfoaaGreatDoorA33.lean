/- A calculus for runs in the limit: what is asked behind a piece of code. -/
import Derived.Test.YtdefmnljihnfoaaGreatDoorA32
namespace Go.Ab
open Go
set_option linter.unusedSectionVars false
set_option linter.unusedSimpArgs false
set_option linter.unusedVariables false
variable {T : Nat → Option AFn} {H : Caller} {b : Nat} {fr fr1 : Fr} {s s1 : St} {a c : AC} {l : List AOper}

def Wp (T : Nat → Option AFn) (H : Caller) (a : AC) (fr : Fr) (s : St) (Q : Ex → Fr → St → Prop) : Prop := ∃ e fr' s', Ex' T H a fr s (e, fr', s') ∧ Q e fr' s'
def WpO (T : Nat → Option AFn) (H : Caller) (b : Nat) (l : List AOper) (fr : Fr) (s : St) (Q : Fr → St → Prop) : Prop := ∃ fr' s', Op' T H b l fr s (fr', s') ∧ Q fr' s'
/-- Operations that call nothing, one behind the other. -/
def wpo (b : Nat) : List AOper → Fr → St → (Fr → St → Prop) → Prop
  | [], fr, s, Q => Q fr s
  | o :: l, fr, s, Q => match oper noCall b o fr s with
    | some (fr1, s1) => wpo b l fr1 s1 Q
    | none => False
theorem wpo_sound {Q : Fr → St → Prop} : ∀ {l : List AOper} {fr : Fr} {s : St}, wpo b l fr s Q → WpO T H b l fr s Q
  | [], fr, s, h => ⟨fr, s, .nil, h⟩
  | o :: l, fr, s, h => by
    simp only [wpo] at h
    split at h
    · rename_i f1 s1 h1
      obtain ⟨f2, s2, h2, h3⟩ := wpo_sound h
      exact ⟨f2, s2, .cons h1 h2, h3⟩
    · exact h.elim

theorem wp_seq {Q : Ex → Fr → St → Prop} (h : Wp T H a fr s fun e f1 s1 => match e with | .normal => Wp T H c f1 s1 Q | e => Q e f1 s1) : Wp T H (.seq a c) fr s Q := by
  obtain ⟨e, f1, s1, h1, h2⟩ := h
  cases e with
  | normal => obtain ⟨e2, f2, s2, h3, h4⟩ := h2; exact ⟨e2, f2, s2, .seq h1 h3, h4⟩
  | exit i => exact ⟨_, f1, s1, .seqx h1 (by simp), h2⟩
  | ret => exact ⟨_, f1, s1, .seqx h1 (by simp), h2⟩
theorem wp_reg {Q : Ex → Fr → St → Prop} (h : WpO T H 0 l fr s (Q .normal)) : Wp T H (.reg l) fr s Q := by
  obtain ⟨f1, s1, h1, h2⟩ := h
  exact ⟨_, f1, s1, .reg h1, h2⟩
theorem wp_regp {Q : Ex → Fr → St → Prop} (h : wpo 0 l fr s (Q .normal)) : Wp T H (.reg l) fr s Q := wp_reg (wpo_sound h)
theorem wpo_call {o : AOper} {f : Nat} {x : List D} {q : D × St} {Q : Fr → St → Prop} (hq : Ev T H f x s q) (h1 : ∀ C : Caller, C f x s = some q → oper C b o fr s = some (fr1, s1)) (h2 : WpO T H b l fr1 s1 Q) : WpO T H b (o :: l) fr s Q := by
  obtain ⟨f2, s2, h3, h4⟩ := h2
  exact ⟨f2, s2, .call hq h1 h3, h4⟩
theorem wpo_step {o : AOper} {Q : Fr → St → Prop} (h1 : oper noCall b o fr s = some (fr1, s1)) (h2 : WpO T H b l fr1 s1 Q) : WpO T H b (o :: l) fr s Q := by
  obtain ⟨f2, s2, h3, h4⟩ := h2
  exact ⟨f2, s2, .cons h1 h3, h4⟩
theorem wp_cond {k : Opd} {v : Bool} {Q : Ex → Fr → St → Prop} (hc : k.ev fr.env = some (.bool v)) (h : if v = true then Wp T H a fr s Q else Wp T H c fr s Q) : Wp T H (.cond k a c) fr s Q := by
  cases v with
  | true => obtain ⟨e, f1, s1, h1, h2⟩ := h; exact ⟨e, f1, s1, .condT hc h1, h2⟩
  | false => obtain ⟨e, f1, s1, h1, h2⟩ := h; exact ⟨e, f1, s1, .condF hc h1, h2⟩
theorem wp_skip {Q : Ex → Fr → St → Prop} (h : Q .normal fr s) : Wp T H .skip fr s Q := ⟨_, _, _, .skip, h⟩
theorem wp_ret {Q : Ex → Fr → St → Prop} (h : Q .ret fr s) : Wp T H .ret fr s Q := ⟨_, _, _, .ret, h⟩
theorem wp_exit {i : Nat} {Q : Ex → Fr → St → Prop} (h : Q (.exit i) fr s) : Wp T H (.exit i) fr s Q := ⟨_, _, _, .exit, h⟩
theorem wp_block {id : Nat} {Q : Ex → Fr → St → Prop} (h : Wp T H a fr s fun e f1 s1 => match e with | .exit i => if i = id then Q .normal f1 s1 else Q (.exit i) f1 s1 | e => Q e f1 s1) : Wp T H (.block id a) fr s Q := by
  obtain ⟨e, f1, s1, h1, h2⟩ := h
  cases e with
  | normal => exact ⟨_, f1, s1, .block h1 (by simp), h2⟩
  | ret => exact ⟨_, f1, s1, .block h1 (by simp), h2⟩
  | exit i =>
    by_cases hi : i = id
    · subst hi
      simp only [if_true] at h2
      exact ⟨_, f1, s1, .blockx h1, h2⟩
    · simp only [if_neg hi] at h2
      exact ⟨_, f1, s1, .block h1 (by simpa using hi), h2⟩
/-- A loop, by what stands at its head and a measure. -/
theorem wp_loop {k : List Nat} {Q : Ex → Fr → St → Prop} (I : Nat → Fr → St → Prop) (hI : ∀ n fr s, I n fr s → Wp T H a { fr with env := fr.env.keep k } s fun e f1 s1 => match e with | .normal => ∃ m, m < n ∧ I m f1 s1 | e => Q e f1 s1) :
    ∀ n fr s, I n fr s → Wp T H (.loop k a) fr s Q := by
  intro n
  induction n using Nat.strongRecOn with
  | ind n ih =>
    intro fr s h
    obtain ⟨e, f1, s1, h1, h2⟩ := hI n fr s h
    cases e with
    | normal =>
      obtain ⟨m, hm, h3⟩ := h2
      obtain ⟨e2, f2, s2, h4, h5⟩ := ih m hm f1 s1 h3
      exact ⟨e2, f2, s2, .again h1 h4, h5⟩
    | exit i => exact ⟨_, f1, s1, .stop h1 (by simp), h2⟩
    | ret => exact ⟨_, f1, s1, .stop h1 (by simp), h2⟩
theorem Wp.mono {Q Q' : Ex → Fr → St → Prop} (h : Wp T H a fr s Q) (hQ : ∀ e f1 s1, Q e f1 s1 → Q' e f1 s1) : Wp T H a fr s Q' := by
  obtain ⟨e, f1, s1, h1, h2⟩ := h
  exact ⟨e, f1, s1, h1, hQ _ _ _ h2⟩
/-- A function, by its body. -/
theorem ev_of_wp {f : Nat} {fn : AFn} {x : List D} {R : D → St → Prop} (hT : T f = some fn)
    (h : Wp T H fn.body { env := env0 0 x, defers := [] } s fun e f1 s1 => (∀ i, e ≠ .exit i) ∧ f1.defers = [] ∧ ∃ rs, resD f1.env s1 fn.results = some rs ∧ R (single rs) s1) : ∃ d s1, Ev T H f x s (d, s1) ∧ R d s1 := by
  obtain ⟨e, f1, s1, h1, h2, h3, rs, h4, h5⟩ := h
  exact ⟨_, s1, .mk hT h1 h2 h3 h4, h5⟩
/-- Regions whose order is drawn, of operations that call nothing and stand apart by themselves. -/
def wpd (b : Nat) : List AOper → Fr → St → (Fr → St → Prop) → Prop
  | [], fr, s, Q => Q fr s
  | o :: l, fr, s, Q => fr.env.isLvo o.dst = false ∧ match oper noCall b o fr s with
    | some (fr1, s1) => fr1.env.isLvo o.dst = false ∧ wpd b l fr1 s1 Q
    | none => False
theorem wpd_sound {Q : Fr → St → Prop} {C : Caller} : ∀ {l : List AOper} {acc : List Fp} {fr : Fr} {s : St}, (l.all fun o => !Nat.beq o.op.kind 5) = true → wpd b l fr s Q → ∃ fr' s', dopers C b (l.map fun o => (o, [])) acc fr s = some (fr', s') ∧ Q fr' s'
  | [], acc, fr, s, _, h => ⟨fr, s, rfl, h⟩
  | o :: l, acc, fr, s, hk, h => by
    simp only [List.all_cons, Bool.and_eq_true, Bool.not_eq_true'] at hk
    simp only [wpd] at h
    obtain ⟨h0, h⟩ := h
    split at h
    · rename_i f1 s1 h1
      obtain ⟨h2, h3⟩ := h
      obtain ⟨f2, s2, h4, h5⟩ := wpd_sound (C := C) (acc := acc ++ [fpOf b fr.env o]) hk.2 h3
      refine ⟨f2, s2, ?_, h5⟩
      simp only [List.map_cons, dopers, chkAll, h0, Bool.not_false, Bool.and_self, oper_mono (C := noCall) (C' := C) (fun f l s r h => by simp [noCall] at h) h1, h2, lost, hk.1, Bool.or_self]
      exact h4
    · exact h.elim
theorem wp_dreg {Q : Ex → Fr → St → Prop} (hk : (l.all fun o => !Nat.beq o.op.kind 5) = true) (h : wpd s.n l fr s (Q .normal)) : Wp T H (.dreg 0 (l.map fun o => (o, []))) fr s Q := by
  obtain ⟨f1, s1, h1, h2⟩ := wpd_sound (C := callN T H 0) (acc := []) hk h
  refine ⟨_, f1, s1, ⟨0, ?_⟩, h2⟩
  have e : { s with n := s.n + 0 } = s := by cases s; rfl
  simp only [execS, Nat.blt, Nat.ble, Bool.and_false, e, h1]
end Go.Ab
