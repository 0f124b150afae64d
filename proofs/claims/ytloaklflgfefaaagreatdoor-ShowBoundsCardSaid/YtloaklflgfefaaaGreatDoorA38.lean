/- A symbolic machine over the calculus: goals by their form alone (code, operations, ways out, calls), a rule for each, so that a walk is a repetition of rules. -/
import Derived.Test.YtloaklflgfefaaaGreatDoorA36
namespace Go.Ab
open Go
set_option linter.unusedSectionVars false
set_option linter.unusedSimpArgs false
set_option linter.unusedVariables false

theorem St.getS (s : St) (o j : Nat) (x : Obj) : (s.set0 o x).get j = if j = o then some x else s.get j := T.get_set _ _ _ _
theorem St.getP (s : St) (j : Nat) (x : Obj) : (s.push0 x).get j = if j = s.n then some x else s.get j := T.get_set _ _ _ _
theorem St.n_set0 (s : St) (o : Nat) (x : Obj) : (s.set0 o x).n = s.n := rfl
theorem St.n_push0 (s : St) (x : Obj) : (s.push0 x).n = s.n + 1 := rfl
/-- A state in which may be written and made, and in which nothing lies at the numbers not given. -/
structure St.Ok (s : St) : Prop where
  ro : s.ro = false
  lk : s.lk = []
  fresh : ∀ o, s.n ≤ o → s.get o = none
theorem St.Ok.lt {s : St} (h : s.Ok) {o : Nat} {x : Obj} (hx : s.get o = some x) : o < s.n := by
  rcases Nat.lt_or_ge o s.n with h1 | h1
  · exact h1
  · rw [h.fresh o h1] at hx; cases hx
theorem St.Ok.set {s : St} (h : s.Ok) (o : Nat) (x : Obj) : s.set o x = some (s.set0 o x) := by
  simp only [St.set, h.ro, h.lk, memN]
theorem St.Ok.mkN {s : St} (h : s.Ok) (x : Obj) : s.mk' none x = some (s.n, s.push0 x) := by
  simp only [St.mk', h.ro]
theorem St.Ok.set0 {s : St} (h : s.Ok) {o : Nat} (x : Obj) (ho : o < s.n) : (s.set0 o x).Ok := by
  refine ⟨h.ro, h.lk, fun j hj => ?_⟩
  rw [St.getS]
  have : j ≠ o := by
    have : s.n ≤ j := hj
    omega
  rw [if_neg this]
  exact h.fresh j hj
theorem St.Ok.push0 {s : St} (h : s.Ok) (x : Obj) : (s.push0 x).Ok := by
  refine ⟨h.ro, h.lk, fun j hj => ?_⟩
  have hj : s.n + 1 ≤ j := hj
  rw [St.getP, if_neg (by omega)]
  exact h.fresh j (by omega)

/-- What is behind a call: all objects as they were, but for some; new ones. -/
structure Beh (W : Nat → Prop) (s s1 : St) : Prop where
  n : s.n ≤ s1.n
  ok : s1.Ok
  same : ∀ o, o < s.n → ¬ W o → s1.get o = s.get o
def Nil : Nat → Prop := fun _ => False
theorem Beh.refl {W : Nat → Prop} {s : St} (h : s.Ok) : Beh W s s := ⟨Nat.le_refl _, h, fun _ _ _ => rfl⟩
theorem Beh.trans {W : Nat → Prop} {s s1 s2 : St} (h : Beh W s s1) (g : Beh W s1 s2) : Beh W s s2 :=
  ⟨Nat.le_trans h.n g.n, g.ok, fun o ho hw => (g.same o (Nat.lt_of_lt_of_le ho h.n) hw).trans (h.same o ho hw)⟩
/-- What is new in between may be written. -/
theorem Beh.trans' {W W' : Nat → Prop} {s s1 s2 : St} (h : Beh W s s1) (g : Beh W' s1 s2) (hw : ∀ o, W' o → o < s.n → W o) : Beh W s s2 :=
  ⟨Nat.le_trans h.n g.n, g.ok, fun o ho hn => (g.same o (Nat.lt_of_lt_of_le ho h.n) (fun h' => hn (hw o h' ho))).trans (h.same o ho hn)⟩
theorem Beh.mono {W W' : Nat → Prop} {s s1 : St} (h : Beh W s s1) (hw : ∀ o, W o → W' o) : Beh W' s s1 := ⟨h.n, h.ok, fun o ho hn => h.same o ho (fun h' => hn (hw o h'))⟩
theorem Beh.get {W : Nat → Prop} {s s1 : St} (h : Beh W s s1) (hs : s.Ok) {o : Nat} {x : Obj} (hx : s.get o = some x) (hw : ¬ W o) : s1.get o = some x := by
  rw [h.same o (hs.lt hx) hw, hx]
theorem Beh.set {W : Nat → Prop} {s s1 : St} (h : Beh W s s1) {o : Nat} (x : Obj) (ho : o < s1.n) (hw : o < s.n → W o) : Beh W s (s1.set0 o x) := by
  refine ⟨h.n, h.ok.set0 x ho, fun j hj hn => ?_⟩
  rw [St.getS]
  have : j ≠ o := fun e => hn (e ▸ hw (e ▸ hj))
  rw [if_neg this, h.same j hj hn]
theorem Beh.push {W : Nat → Prop} {s s1 : St} (h : Beh W s s1) (x : Obj) : Beh W s (s1.push0 x) := by
  refine ⟨Nat.le_succ_of_le h.n, h.ok.push0 x, fun j hj hn => ?_⟩
  have := h.n
  rw [St.getP, if_neg (by omega), h.same j hj hn]

/-- Numbers kept for objects. -/
def St.up (s : St) (k : Nat) : St := { s with n := s.n + k }
theorem St.n_up (s : St) (k : Nat) : (s.up k).n = s.n + k := rfl
theorem St.get_up {s : St} {k o : Nat} {y : Option Obj} (h : s.get o = y) : (s.up k).get o = y := h
theorem St.Ok.up {s : St} (h : s.Ok) (k : Nat) : (s.up k).Ok := ⟨h.ro, h.lk, fun o ho => h.fresh o (Nat.le_trans (Nat.le_add_right _ _) ho)⟩
theorem Beh.up {W : Nat → Prop} {s s1 : St} (h : Beh W s s1) (k : Nat) : Beh W s (s1.up k) := ⟨Nat.le_trans h.n (Nat.le_add_right _ _), h.ok.up k, h.same⟩
/-! ### Regions whose order is drawn, with calls and with what is made -/
variable {T : Nat → Option AFn} {H : Caller}
def WpD (T : Nat → Option AFn) (H : Caller) (b : Nat) (l : List (AOper × List Nat)) (acc : List Fp) (fr : Fr) (s : St) (Q : Fr → St → Prop) : Prop := ∃ n fr' s', dopers (callN T H n) b l acc fr s = some (fr', s') ∧ Q fr' s'
theorem wpd_nil {b : Nat} {acc : List Fp} {fr : Fr} {s : St} {Q : Fr → St → Prop} (h : Q fr s) : WpD T H b [] acc fr s Q := ⟨0, fr, s, rfl, h⟩
theorem wpd_step {b : Nat} {o : AOper} {q : List Nat} {l : List (AOper × List Nat)} {acc : List Fp} {fr fr1 : Fr} {s s1 : St} {Q : Fr → St → Prop} (h0 : chkAll acc (fpOf b fr.env o) q = true) (h1 : fr.env.isLvo o.dst = false)
    (h2 : oper noCall b o fr s = some (fr1, s1)) (h3 : fr1.env.isLvo o.dst = false) (h4 : Nat.beq o.op.kind 5 = false) (h : WpD T H b l (acc ++ [fpOf b fr.env o]) fr1 s1 Q) : WpD T H b ((o, q) :: l) acc fr s Q := by
  obtain ⟨n, f2, s2, h5, h6⟩ := h
  refine ⟨n, f2, s2, ?_, h6⟩
  simp only [dopers, h0, h1, Bool.not_false, Bool.and_self, oper_mono (C := noCall) (C' := callN T H n) (fun f l s r h => by simp [noCall] at h) h2, h3, lost, h4, Bool.or_self]
  exact h5
theorem wpd_call {b : Nat} {o : AOper} {q : List Nat} {l : List (AOper × List Nat)} {acc : List Fp} {fr fr1 : Fr} {s s1 : St} {f : Nat} {x : List D} {r : D × St} {Q : Fr → St → Prop} (h0 : chkAll acc (fpOf b fr.env o) q = true) (h1 : fr.env.isLvo o.dst = false)
    (hq : ∃ s0, Ev T H f x s0 r ∧ ∀ C : Caller, C f x s0 = some r → oper C b o fr s = some (fr1, s1)) (h3 : fr1.env.isLvo o.dst = false) (h4 : lost acc s s1 o q = false) (h : WpD T H b l (acc ++ [fpOf b fr.env o]) fr1 s1 Q) : WpD T H b ((o, q) :: l) acc fr s Q := by
  obtain ⟨n, f2, s2, h5, h6⟩ := h
  obtain ⟨s0, ⟨m, hm⟩, h2⟩ := hq
  refine ⟨max m n, f2, s2, ?_, h6⟩
  have e1 := h2 _ ((callN_le (T := T) (H := H) (Nat.le_max_left m n)).1 _ _ _ _ hm)
  simp only [dopers, h0, h1, Bool.not_false, Bool.and_self, e1, h3, h4, Bool.or_self]
  exact dopers_mono (callN_le (Nat.le_max_right m n)).1 h5
theorem wp_dregc {k : Nat} {l : List (AOper × List Nat)} {fr : Fr} {s : St} {Q : Ex → Fr → St → Prop} (hro : (s.ro && Nat.blt 0 k) = false) (h : WpD T H s.n l [] fr { s with n := s.n + k } (Q .normal)) : Wp T H (.dreg k l) fr s Q := by
  obtain ⟨n, f1, s1, h1, h2⟩ := h
  refine ⟨_, f1, s1, ⟨n, ?_⟩, h2⟩
  simp only [execS, hro, h1]
/-- A call that does nothing to memory, in a plain region. -/
theorem wpo_call' {b : Nat} {o : AOper} {l : List AOper} {fr fr1 : Fr} {s s1 : St} {f : Nat} {x : List D} {r : D × St} {Q : Fr → St → Prop} (hq : Ev T H f x s r) (h1 : ∀ C : Caller, C f x s = some r → oper C b o fr s = some (fr1, s1)) (h2 : WpO T H b l fr1 s1 Q) : WpO T H b (o :: l) fr s Q := wpo_call hq h1 h2
/-- Some operations ahead of a call. -/
theorem wpo_app {b : Nat} {Q : Fr → St → Prop} : ∀ {l l' : List AOper} {fr : Fr} {s : St}, wpo b l fr s (fun f1 s1 => WpO T H b l' f1 s1 Q) → WpO T H b (l ++ l') fr s Q
  | [], l', fr, s, h => h
  | o :: l, l', fr, s, h => by
    simp only [wpo] at h
    split at h
    · rename_i f1 s1 h1
      obtain ⟨f2, s2, h2, h3⟩ := wpo_app h
      exact ⟨f2, s2, .cons h1 h2, h3⟩
    · exact h.elim
end Go.Ab

namespace Go.Ab.Sm
open Go Go.Ab
set_option linter.unusedSectionVars false
set_option linter.unusedSimpArgs false
set_option linter.unusedVariables false
variable {T : Nat → Option AFn} {H : Caller}

abbrev QP := Ex → Fr → St → Prop
/-- What is still to be done behind a piece of code. -/
inductive Kont where
  | seq (b : AC)
  | block (id : Nat)
  | loop (I : Nat → Env → St → Prop) (keep : List Nat) (m : Nat)
  | again (keep : List Nat) (a : AC)
  | call (rs : List ARes) (dst : Option Nat) (b : Nat) (l : List AOper) (fr : Fr)

def WpOk (T : Nat → Option AFn) (H : Caller) (b : Nat) (l : List AOper) (fr : Fr) (s : St) (Q : Fr → St → Prop) : Prop := WpO T H b l fr s Q
/-- What is asked behind a piece of code, by what is still to be done. -/
def Post (T : Nat → Option AFn) (H : Caller) (Q : QP) : List Kont → Ex → Fr → St → Prop
  | [], e, fr, s => Q e fr s
  | .seq b :: k, .normal, fr, s => Wp T H b fr s (Post T H Q k)
  | .seq _ :: k, .exit i, fr, s => Post T H Q k (.exit i) fr s
  | .seq _ :: k, .ret, fr, s => Post T H Q k .ret fr s
  | .block id :: k, .exit i, fr, s => if i = id then Post T H Q k .normal fr s else Post T H Q k (.exit i) fr s
  | .block _ :: k, .normal, fr, s => Post T H Q k .normal fr s
  | .block _ :: k, .ret, fr, s => Post T H Q k .ret fr s
  | .loop I keep m :: _, .normal, fr, s => ∃ m', m' < m ∧ fr.defers = [] ∧ I m' (fr.env.keep keep) s
  | .loop _ _ _ :: k, .exit i, fr, s => Post T H Q k (.exit i) fr s
  | .loop _ _ _ :: k, .ret, fr, s => Post T H Q k .ret fr s
  | .again keep a :: k, .normal, fr, s => Wp T H (.loop keep a) fr s (Post T H Q k)
  | .again _ _ :: k, .exit i, fr, s => Post T H Q k (.exit i) fr s
  | .again _ _ :: k, .ret, fr, s => Post T H Q k .ret fr s
  | .call rs dst b l fr0 :: k, e, fr, s => (∀ i, e ≠ .exit i) ∧ marks fr.defers = true ∧ ∃ r, resD fr.env s rs = some r ∧ WpO T H b l ⟨putD fr0.env dst (single r), fr0.defers⟩ s (Post T H Q k .normal)

structure Run (T : Nat → Option AFn) (H : Caller) (a : AC) (k : List Kont) (fr : Fr) (s : St) (Q : QP) : Prop where
  out : Wp T H a fr s (Post T H Q k)
structure Ops (T : Nat → Option AFn) (H : Caller) (b : Nat) (l : List AOper) (k : List Kont) (fr : Fr) (s : St) (Q : QP) : Prop where
  out : WpO T H b l fr s (Post T H Q k .normal)
structure Ret (T : Nat → Option AFn) (H : Caller) (e : Ex) (k : List Kont) (fr : Fr) (s : St) (Q : QP) : Prop where
  out : Post T H Q k e fr s
def EvP (T : Nat → Option AFn) (H : Caller) (f : Nat) (x : List D) (s : St) (R : D → St → Prop) : Prop := ∃ d s1, Ev T H f x s (d, s1) ∧ R d s1
structure Call (T : Nat → Option AFn) (H : Caller) (f : Nat) (x : List D) (dst : Option Nat) (b : Nat) (l : List AOper) (k : List Kont) (fr : Fr) (s : St) (Q : QP) : Prop where
  out : EvP T H f x s fun d s1 => WpO T H b l ⟨putD fr.env dst d, fr.defers⟩ s1 (Post T H Q k .normal)

variable {b : Nat} {k : List Kont} {fr : Fr} {s : St} {Q : QP} {l : List AOper}
theorem run_skip (h : Ret T H .normal k fr s Q) : Run T H .skip k fr s Q := by
  have h := h.out
  exact ⟨wp_skip h⟩
theorem run_ret (h : Ret T H .ret k fr s Q) : Run T H .ret k fr s Q := by
  have h := h.out
  exact ⟨wp_ret h⟩
theorem run_exit {i : Nat} (h : Ret T H (.exit i) k fr s Q) : Run T H (.exit i) k fr s Q := by
  have h := h.out
  exact ⟨wp_exit h⟩
theorem run_reg (h : Ops T H 0 l k fr s Q) : Run T H (.reg l) k fr s Q := by
  have h := h.out
  exact ⟨wp_reg h⟩
theorem run_seq {a c : AC} (h : Run T H a (.seq c :: k) fr s Q) : Run T H (.seq a c) k fr s Q := by
  have h := h.out
  exact ⟨wp_seq (Wp.mono h fun e f1 s1 h1 => by cases e <;> exact h1)⟩
theorem run_block {id : Nat} {a : AC} (h : Run T H a (.block id :: k) fr s Q) : Run T H (.block id a) k fr s Q := by
  have h := h.out
  exact ⟨wp_block (Wp.mono h fun e f1 s1 h1 => by cases e <;> exact h1)⟩
theorem run_condT {c : Opd} {x y : AC} (h : Run T H x k fr s Q) (hc : c.ev fr.env = some (.bool true) := by rfl) : Run T H (.cond c x y) k fr s Q := by
  have h := h.out
  exact ⟨wp_cond hc h⟩
theorem run_condF {c : Opd} {x y : AC} (h : Run T H y k fr s Q) (hc : c.ev fr.env = some (.bool false) := by rfl) : Run T H (.cond c x y) k fr s Q := by
  have h := h.out
  exact ⟨wp_cond hc h⟩
theorem run_cond {c : Opd} {x y : AC} {v : Bool} (h1 : v = true → Run T H x k fr s Q) (h2 : v = false → Run T H y k fr s Q) (hc : c.ev fr.env = some (.bool v) := by rfl) : Run T H (.cond c x y) k fr s Q := by
  have h1 := fun hh => (h1 hh).out
  have h2 := fun hh => (h2 hh).out
  refine ⟨?_⟩
  cases v with
  | true => exact (run_condT ⟨h1 rfl⟩ hc).out
  | false => exact (run_condF ⟨h2 rfl⟩ hc).out
/-- A loop: by what holds of what it keeps, and a measure. -/
theorem run_loop {keep : List Nat} {a : AC} (I : Nat → Env → St → Prop) (m : Nat) (hd : fr.defers = []) (h0 : I m (fr.env.keep keep) s)
    (h : ∀ m env s, I m env s → Run T H a (.loop I keep m :: k) ⟨env, []⟩ s Q) (hb : a.isRangef = false := by rfl) : Run T H (.loop keep a) k fr s Q := by
  refine ⟨?_⟩
  refine wp_loop (I := fun m fr s => fr.defers = [] ∧ I m (fr.env.keep keep) s) (fun n fr s hI => ?_) hb m fr s ⟨hd, h0⟩
  obtain ⟨env, ds⟩ := fr
  obtain ⟨hds, hI⟩ := hI
  simp only at hds; subst hds
  exact Wp.mono (h n _ s hI).out fun e f1 s1 h1 => by cases e <;> exact h1
/-- A loop, once more. -/
theorem run_again {keep : List Nat} {a : AC} {env : Env} (h : Run T H a (.again keep a :: k) ⟨env, fr.defers⟩ s Q) (hk : fr.env.keep keep = env := by rfl) (hb : a.isRangef = false := by rfl) : Run T H (.loop keep a) k fr s Q := by
  have h := h.out
  refine ⟨?_⟩
  subst hk
  obtain ⟨e, f1, s1, h1, h2⟩ := h
  cases e with
  | normal =>
    obtain ⟨e2, f2, s2, h3, h4⟩ := h2
    exact ⟨e2, f2, s2, .again h1 h3 hb, h4⟩
  | exit i => exact ⟨_, f1, s1, .stop h1 (by simp) hb, h2⟩
  | ret => exact ⟨_, f1, s1, .stop h1 (by simp) hb, h2⟩
theorem ret_againN {keep : List Nat} {a : AC} (h : Run T H (.loop keep a) k fr s Q) : Ret T H .normal (.again keep a :: k) fr s Q := by
  have h := h.out
  refine ⟨?_⟩
  exact h
theorem ret_againX {keep : List Nat} {a : AC} {i : Nat} (h : Ret T H (.exit i) k fr s Q) : Ret T H (.exit i) (.again keep a :: k) fr s Q := by
  have h := h.out
  refine ⟨?_⟩
  exact h
theorem ret_againR {keep : List Nat} {a : AC} (h : Ret T H .ret k fr s Q) : Ret T H .ret (.again keep a :: k) fr s Q := by
  have h := h.out
  refine ⟨?_⟩
  exact h
theorem ret_nil {e : Ex} (h : Q e fr s) : Ret T H e [] fr s Q := by
  exact ⟨h⟩
theorem ret_seqN {c : AC} (h : Run T H c k fr s Q) : Ret T H .normal (.seq c :: k) fr s Q := by
  have h := h.out
  refine ⟨?_⟩
  exact h
theorem ret_seqX {c : AC} {i : Nat} (h : Ret T H (.exit i) k fr s Q) : Ret T H (.exit i) (.seq c :: k) fr s Q := by
  have h := h.out
  refine ⟨?_⟩
  exact h
theorem ret_seqR {c : AC} (h : Ret T H .ret k fr s Q) : Ret T H .ret (.seq c :: k) fr s Q := by
  have h := h.out
  refine ⟨?_⟩
  exact h
theorem ret_blockN {id : Nat} (h : Ret T H .normal k fr s Q) : Ret T H .normal (.block id :: k) fr s Q := by
  have h := h.out
  refine ⟨?_⟩
  exact h
theorem ret_blockR {id : Nat} (h : Ret T H .ret k fr s Q) : Ret T H .ret (.block id :: k) fr s Q := by
  have h := h.out
  refine ⟨?_⟩
  exact h
theorem ret_blockX {i : Nat} (h : Ret T H .normal k fr s Q) : Ret T H (.exit i) (.block i :: k) fr s Q := by
  have h := h.out
  refine ⟨?_⟩
  show (if i = i then _ else _); rw [if_pos rfl]; exact h
theorem ret_blockY {i id : Nat} (h : Ret T H (.exit i) k fr s Q) (hn : Nat.beq i id = false := by rfl) : Ret T H (.exit i) (.block id :: k) fr s Q := by
  have h := h.out
  refine ⟨?_⟩
  show (if i = id then _ else _)
  rw [if_neg (fun e => by subst e; rw [Nat.beq_refl] at hn; cases hn)]; exact h
theorem ret_loopX {I : Nat → Env → St → Prop} {keep : List Nat} {m i : Nat} (h : Ret T H (.exit i) k fr s Q) : Ret T H (.exit i) (.loop I keep m :: k) fr s Q := by
  have h := h.out
  refine ⟨?_⟩
  exact h
theorem ret_loopR {I : Nat → Env → St → Prop} {keep : List Nat} {m : Nat} (h : Ret T H .ret k fr s Q) : Ret T H .ret (.loop I keep m :: k) fr s Q := by
  have h := h.out
  refine ⟨?_⟩
  exact h
theorem ret_loopN {I : Nat → Env → St → Prop} {keep : List Nat} {m : Nat} (m' : Nat) (hm : m' < m) (hd : fr.defers = []) (h : I m' (fr.env.keep keep) s) : Ret T H .normal (.loop I keep m :: k) fr s Q := by
  exact ⟨m', hm, hd, h⟩
theorem ret_callR {rs : List ARes} {t : Nat} {e0 : Env} {ds : List (D × List D)} {r : List D} {d : D} (h : Ops T H b l k ⟨(t, d) :: e0, ds⟩ s Q) (hd : marks fr.defers = true := by rfl) (hr : resD fr.env s rs = some r := by rfl) (he : single r = d := by rfl) : Ret T H .ret (.call rs (some t) b l ⟨e0, ds⟩ :: k) fr s Q := by
  have h := h.out
  refine ⟨?_⟩
  subst he
  exact ⟨fun i => by simp, hd, r, hr, h⟩
theorem ret_callR0 {rs : List ARes} {t : Nat} {e0 : Env} {ds : List (D × List D)} {r : List D} {d : D} (h : Ops T H b l k ⟨e0, ds⟩ s Q) (hd : marks fr.defers = true := by rfl) (hr : resD fr.env s rs = some r := by rfl) (he : single r = d := by rfl) : Ret T H .ret (.call rs none b l ⟨e0, ds⟩ :: k) fr s Q := by
  have h := h.out
  refine ⟨?_⟩
  subst he
  exact ⟨fun i => by simp, hd, r, hr, h⟩
theorem ret_callN {rs : List ARes} {t : Nat} {e0 : Env} {ds : List (D × List D)} {r : List D} {d : D} (h : Ops T H b l k ⟨(t, d) :: e0, ds⟩ s Q) (hd : marks fr.defers = true := by rfl) (hr : resD fr.env s rs = some r := by rfl) (he : single r = d := by rfl) : Ret T H .normal (.call rs (some t) b l ⟨e0, ds⟩ :: k) fr s Q := by
  have h := h.out
  refine ⟨?_⟩
  subst he
  exact ⟨fun i => by simp, hd, r, hr, h⟩
theorem ret_callN0 {rs : List ARes} {t : Nat} {e0 : Env} {ds : List (D × List D)} {r : List D} {d : D} (h : Ops T H b l k ⟨e0, ds⟩ s Q) (hd : marks fr.defers = true := by rfl) (hr : resD fr.env s rs = some r := by rfl) (he : single r = d := by rfl) : Ret T H .normal (.call rs none b l ⟨e0, ds⟩ :: k) fr s Q := by
  have h := h.out
  refine ⟨?_⟩
  subst he
  exact ⟨fun i => by simp, hd, r, hr, h⟩

/-- A loop that counts: its frame by the count, what holds of the state by the count. -/
def cntI (N : Nat) (F : Nat → Env) (I : Nat → St → Prop) : Nat → Env → St → Prop := fun m env s => ∃ j, j ≤ N ∧ m = N - j ∧ env = F j ∧ I j s
theorem run_cnt {keep : List Nat} {a : AC} (N : Nat) (F : Nat → Env) (I : Nat → St → Prop) (hI : I 0 s) (h : ∀ j s, j ≤ N → I j s → Run T H a (.loop (cntI N F I) keep (N - j) :: k) ⟨F j, []⟩ s Q) (hd : fr.defers = [] := by rfl) (hF : fr.env.keep keep = F 0 := by rfl) (hb : a.isRangef = false := by rfl) : Run T H (.loop keep a) k fr s Q := by
  refine run_loop (cntI N F I) N hd ⟨0, Nat.zero_le _, rfl, hF, hI⟩ ?_ hb
  rintro m env s ⟨j, hj, rfl, rfl, hI⟩
  exact h j s hj hI
theorem ret_cnt {N : Nat} {F : Nat → Env} {I : Nat → St → Prop} {keep : List Nat} {j : Nat} (hj : j < N) (hI : I (j + 1) s) (hd : fr.defers = [] := by rfl) (hF : fr.env.keep keep = F (j + 1) := by rfl) : Ret T H .normal (.loop (cntI N F I) keep (N - j) :: k) fr s Q :=
  ret_loopN (N - (j + 1)) (by omega) hd ⟨j + 1, by omega, rfl, hF, hI⟩

/-! ### Operations -/
theorem oper_of_opF {C : Caller} {o : AOper} {d : D} {s1 : St} (hw : wantedD fr.env o.guard = some true) (ho : opF C fr.env s (match o.al with | some r => some (b + r) | none => none) o.op = some (d, s1)) :
    oper C b o fr s = some ({ fr with env := putD fr.env o.dst d }, s1) := by
  obtain ⟨dst, op, g, al⟩ := o
  unfold oper
  rw [hw]
  cases op
  case defer => simp [opF] at ho
  case lbox => simp [opF] at ho
  case lstore => simp [opF] at ho
  all_goals
    cases al <;>
    · simp only at ho ⊢
      rw [ho]
theorem ops_nil (h : Ret T H .normal k fr s Q) : Ops T H b [] k fr s Q := by
  have h := h.out
  refine ⟨?_⟩
  exact ⟨fr, s, .nil, h⟩
theorem ops_step {o : AOper} {fr1 : Fr} {s1 : St} (h1 : oper noCall b o fr s = some (fr1, s1)) (h : Ops T H b l k fr1 s1 Q) : Ops T H b (o :: l) k fr s Q := by
  have h := h.out
  refine ⟨?_⟩
  exact wpo_step h1 h
theorem ops_any {dst : Option Nat} {op : AOp} {g : Option (Nat × Bool)} {e : Env} {ds : List (D × List D)} {d : D} {s1 : St} (h : Ops T H b l k ⟨putD e dst d, ds⟩ s1 Q) (hw : wantedD e g = some true) (ho : opF noCall e s none op = some (d, s1)) :
    Ops T H b (⟨dst, op, g, none⟩ :: l) k ⟨e, ds⟩ s Q := ops_step (oper_of_opF (o := ⟨dst, op, g, none⟩) (fr := ⟨e, ds⟩) hw ho) h
/-- A call by what is known of it. -/
theorem call_ev {f : Nat} {x : List D} {t : Nat} {e : Env} {ds : List (D × List D)} {R : D → St → Prop} (h : EvP T H f x s R) (h2 : ∀ d s1, R d s1 → Ops T H b l k ⟨(t, d) :: e, ds⟩ s1 Q) : Call T H f x (some t) b l k ⟨e, ds⟩ s Q := by
  have h2 := fun d s1 hh => (h2 d s1 hh).out
  refine ⟨?_⟩
  obtain ⟨d, s1, h1, h3⟩ := h
  exact ⟨d, s1, h1, h2 d s1 h3⟩
theorem call_ev0 {f : Nat} {x : List D} {e : Env} {ds : List (D × List D)} {R : D → St → Prop} (h : EvP T H f x s R) (h2 : ∀ d s1, R d s1 → Ops T H b l k ⟨e, ds⟩ s1 Q) : Call T H f x none b l k ⟨e, ds⟩ s Q := by
  have h2 := fun d s1 hh => (h2 d s1 hh).out
  refine ⟨?_⟩
  obtain ⟨d, s1, h1, h3⟩ := h
  exact ⟨d, s1, h1, h2 d s1 h3⟩
/-- A call by its body. -/
theorem call_in {f : Nat} {fn : AFn} {x : List D} {dst : Option Nat} (hT : T f = some fn) (h : Run T H fn.body (.call fn.results dst b l fr :: k) ⟨env0 0 x, []⟩ s Q) (hy : yS x = false := by rfl) : Call T H f x dst b l k fr s Q := by
  have h := h.out
  refine ⟨?_⟩
  refine ev_of_wp hT (Wp.mono h ?_) hy
  rintro e f1 s1 ⟨h1, h2, r, h3, h4⟩
  exact ⟨h1, h2, r, h3, h4⟩
/-- A function, by its body. -/
def QF (rs : List ARes) (R : D → St → Prop) : QP := fun e f1 s1 => (∀ i, e ≠ .exit i) ∧ marks f1.defers = true ∧ ∃ r, resD f1.env s1 rs = some r ∧ R (single r) s1
theorem evp_in {f : Nat} {fn : AFn} {x : List D} {R : D → St → Prop} (hT : T f = some fn) (h : Run T H fn.body [] ⟨env0 0 x, []⟩ s (QF fn.results R)) (hy : yS x = false := by rfl) : EvP T H f x s R := by
  have h := h.out
  exact ev_of_wp hT h hy
theorem retF_R {rs : List ARes} {R : D → St → Prop} {r : List D} {d : D} (h : R d s) (hd : marks fr.defers = true := by rfl) (hr : resD fr.env s rs = some r := by rfl) (he : single r = d := by rfl) : Ret T H .ret [] fr s (QF rs R) := by
  refine ⟨?_⟩
  subst he
  exact ⟨fun i => by simp, hd, r, hr, h⟩
theorem retF_N {rs : List ARes} {R : D → St → Prop} {r : List D} {d : D} (h : R d s) (hd : marks fr.defers = true := by rfl) (hr : resD fr.env s rs = some r := by rfl) (he : single r = d := by rfl) : Ret T H .normal [] fr s (QF rs R) := by
  refine ⟨?_⟩
  subst he
  exact ⟨fun i => by simp, hd, r, hr, h⟩
theorem EvP.mono {f : Nat} {x : List D} {R R' : D → St → Prop} (h : EvP T H f x s R) (hR : ∀ d s1, R d s1 → R' d s1) : EvP T H f x s R' := by
  obtain ⟨d, s1, h1, h2⟩ := h
  exact ⟨d, s1, h1, hR _ _ h2⟩
theorem _root_.Go.Ab.St.get_set_eq {s : St} {o : Nat} {x : Obj} : (s.set0 o x).get o = some x := by rw [St.getS, if_pos rfl]
theorem _root_.Go.Ab.St.get_push_eq {s : St} {x : Obj} : (s.push0 x).get s.n = some x := by rw [St.getP, if_pos rfl]
theorem _root_.Go.Ab.St.get_set_ne {s : St} {o j : Nat} {x : Obj} {y : Option Obj} (h : s.get j = y) (hn : j ≠ o) : (s.set0 o x).get j = y := by rw [St.getS, if_neg hn]; exact h
theorem _root_.Go.Ab.St.get_push_ne {s : St} {j : Nat} {x : Obj} {y : Option Obj} (h : s.get j = y) (hn : j ≠ s.n) : (s.push0 x).get j = y := by rw [St.getP, if_neg hn]; exact h
theorem idx_i {kd : IntKind} {i : Nat} : idx (.int kd (i : Int)) = some i := by simp [idx]
theorem idx_int {kd : IntKind} {n : Int} (h : 0 ≤ n) : idx (.int kd n) = some n.toNat := by simp [idx, h]
/-- append at the end of an object. -/
theorem append_sl {al : Option Nat} {sz ty o off len cp st : Nat} {es m : List D} (hs : s.Ok) (hg : s.get o = some (.arr sz ty es st)) (he : off + len = es.length) (hst : st ≤ es.length) (hm : len + m.length ≤ maxElems) (hn : m ≠ []) :
    appendD s al sz ty (.sl o off len cp) m = some (.sl o off (len + m.length) (len + m.length), s.set0 o (.arr sz ty (es ++ m) st)) := by
  cases m with
  | nil => exact absurd rfl hn
  | cons x m =>
    have e1 : Nat.ble (off + len) es.length = true := Nat.ble_eq_true_of_le (Nat.le_of_eq he)
    have e2 : Nat.ble st (off + len) = true := Nat.ble_eq_true_of_le (by omega)
    have e3 : Nat.ble (len + (x :: m).length) maxElems = true := Nat.ble_eq_true_of_le hm
    have e4 : Nat.beq (off + len) es.length = true := by rw [he]; exact Nat.beq_refl _
    simp only [appendD, hg, Nat.beq_refl, Bool.and_self, e1, e2, e3, e4, hs.set]
theorem append_nil {sz ty z : Nat} {es m : List D} (hs : s.Ok) (hm : m.length ≤ maxElems) (hn : m ≠ []) :
    appendD s none sz ty (.vs true z es) m = some (.sl s.n 0 m.length m.length, s.push0 (.arr sz ty m 0)) := by
  cases m with
  | nil => exact absurd rfl hn
  | cons x m =>
    have e3 : Nat.ble (x :: m).length maxElems = true := Nat.ble_eq_true_of_le hm
    simp only [appendD, e3, hs.mkN]

section
variable {t : Nat} {e : Env} {ds : List (D × List D)} {g : Option (Nat × Bool)}
theorem ops_op {op : AOp} {d : D} {s1 : St}  (h : Ops T H b l k ⟨(t, d) :: e, ds⟩ s1 Q) (hw : wantedD e g = some true := by rfl) (ho : opF noCall e s none op = some (d, s1) := by rfl) : Ops T H b (⟨(some t), op, g, none⟩ :: l) k ⟨e, ds⟩ s Q := ops_any h hw ho
theorem ops_op0 {op : AOp} {d : D} {s1 : St}  (h : Ops T H b l k ⟨e, ds⟩ s1 Q) (hw : wantedD e g = some true := by rfl) (ho : opF noCall e s none op = some (d, s1) := by rfl) : Ops T H b (⟨none, op, g, none⟩ :: l) k ⟨e, ds⟩ s Q := ops_any h hw ho
theorem ops_bT {op : AOp} {s1 : St}  (h : Ops T H b l k ⟨(t, .bool true) :: e, ds⟩ s1 Q) (hw : wantedD e g = some true := by rfl) (ho : opF noCall e s none op = some (.bool true, s1) := by rfl) : Ops T H b (⟨(some t), op, g, none⟩ :: l) k ⟨e, ds⟩ s Q := ops_any h hw ho
theorem ops_bF {op : AOp} {s1 : St}  (h : Ops T H b l k ⟨(t, .bool false) :: e, ds⟩ s1 Q) (hw : wantedD e g = some true := by rfl) (ho : opF noCall e s none op = some (.bool false, s1) := by rfl) : Ops T H b (⟨(some t), op, g, none⟩ :: l) k ⟨e, ds⟩ s Q := ops_any h hw ho
theorem ops_skip {op : AOp} {al : Option Nat} (h : Ops T H b l k ⟨(t, .tup []) :: e, ds⟩ s Q) (hw : wantedD e g = some false := by rfl) : Ops T H b (⟨some t, op, g, al⟩ :: l) k ⟨e, ds⟩ s Q := by
  refine ops_step (fr1 := ⟨(t, .tup []) :: e, ds⟩) (s1 := s) ?_ h
  unfold oper
  simp only [hw]
  rfl
theorem ops_skip0 {op : AOp} {al : Option Nat} (h : Ops T H b l k ⟨e, ds⟩ s Q) (hw : wantedD e g = some false := by rfl) : Ops T H b (⟨none, op, g, al⟩ :: l) k ⟨e, ds⟩ s Q := by
  refine ops_step (fr1 := ⟨e, ds⟩) (s1 := s) ?_ h
  unfold oper
  simp only [hw]
  rfl
/-- A comparison: whichever way it goes. -/
theorem ops_cmp {op : AOp} {c : Bool} {s1 : St} (h1 : c = true → Ops T H b l k ⟨(t, .bool true) :: e, ds⟩ s1 Q) (h2 : c = false → Ops T H b l k ⟨(t, .bool false) :: e, ds⟩ s1 Q) (hw : wantedD e g = some true := by rfl) (ho : opF noCall e s none op = some (.bool c, s1) := by rfl) :
    Ops T H b (⟨some t, op, g, none⟩ :: l) k ⟨e, ds⟩ s Q := by
  refine ops_any ?_ hw ho
  cases c with
  | true => exact h1 rfl
  | false => exact h2 rfl
theorem ops_call {f : Nat} {args : List Opd} {x : List D} (h : Call T H f x (some t) b l k ⟨e, ds⟩ s Q) (hw : wantedD e g = some true := by rfl) (hx : evs e args = some x := by rfl) : Ops T H b (⟨(some t), .call false f args, g, none⟩ :: l) k ⟨e, ds⟩ s Q := by
  have h := h.out
  refine ⟨?_⟩
  obtain ⟨d, s1, h1, h2⟩ := h
  exact wpo_call h1 (fun C hC => oper_of_opF (o := ⟨(some t), .call false f args, g, none⟩) (fr := ⟨e, ds⟩) hw (by simp only [opF, hx]; exact hC)) h2
/-- A call that only reads. -/
theorem ops_callr {f : Nat} {args : List Opd} {x : List D} {d : D} {R : D → St → Prop} (hE : EvP T H f x { s with ro := true } R) (h : ∀ d s1, R d s1 → Ops T H b l k ⟨(t, d) :: e, ds⟩ s Q) (hw : wantedD e g = some true := by rfl) (hx : evs e args = some x := by rfl) : Ops T H b (⟨(some t), .call true f args, g, none⟩ :: l) k ⟨e, ds⟩ s Q := by
  have h := fun d s1 hh => (h d s1 hh).out
  refine ⟨?_⟩
  obtain ⟨d, s1, h1, h2⟩ := hE
  obtain ⟨f2, s2, h3, h4⟩ := h d s1 h2
  obtain ⟨n, hn⟩ := h1
  obtain ⟨m, hm⟩ := h3
  refine ⟨f2, s2, ⟨max n m, ?_⟩, h4⟩
  have e1 := (callN_le (T := T) (H := H) (Nat.le_max_left n m)).1 _ _ _ _ hn
  have e2 : oper (callN T H (max n m)) b ⟨(some t), .call true f args, g, none⟩ ⟨e, ds⟩ s = some (⟨putD e (some t) d, ds⟩, s) := oper_of_opF (o := ⟨(some t), .call true f args, g, none⟩) (fr := ⟨e, ds⟩) hw (by simp only [opF, hx, e1])
  simp only [opers, e2]
  exact opers_mono (callN_le (Nat.le_max_right n m)).1 hm
theorem ops_callv {f : Opd} {args : List Opd} {x : List D} {gf : Nat} {x1 x2 y : List D} (h : Call T H gf y (some t) b l k ⟨e, ds⟩ s Q) (hw : wantedD e g = some true := by rfl) (hf : f.ev e = some (.fn (.func gf) x1 x2) := by rfl) (hx : evs e args = some x := by rfl) (hy : x1 ++ x ++ x2 = y := by rfl) : Ops T H b (⟨(some t), .callv f args, g, none⟩ :: l) k ⟨e, ds⟩ s Q := by
  have h := h.out
  refine ⟨?_⟩
  subst hy
  obtain ⟨d, s1, h1, h2⟩ := h
  exact wpo_call h1 (fun C hC => oper_of_opF (o := ⟨(some t), .callv f args, g, none⟩) (fr := ⟨e, ds⟩) hw (by simp only [opF, hf, hx]; exact hC)) h2
theorem ops_yield {f : Opd} {args : List Opd} {x : List D} {o : Nat} (h : Call T H 0 (.lv (.yl o) :: x) (some t) b l k ⟨e, ds⟩ s Q) (hw : wantedD e g = some true := by rfl) (hf : f.ev e = some (.yl o) := by rfl) (hx : evs e args = some x := by rfl) : Ops T H b (⟨(some t), .callv f args, g, none⟩ :: l) k ⟨e, ds⟩ s Q := by
  have h := h.out
  refine ⟨?_⟩
  obtain ⟨d, s1, h1, h2⟩ := h
  exact wpo_call h1 (fun C hC => oper_of_opF (o := ⟨(some t), .callv f args, g, none⟩) (fr := ⟨e, ds⟩) hw (by simp only [opF, hf, hx]; exact hC)) h2
theorem ops_invoke {tbl : List (Nat × Nat × Recv)} {x : Opd} {args : List Opd} {y : List D} {ty f : Nat} {v u : D} {r : Recv} (h : Call T H f (u :: y) (some t) b l k ⟨e, ds⟩ s Q) (hw : wantedD e g = some true := by rfl) (hv : x.ev e = some (.ifc ty v) := by rfl) (hx : evs e args = some y := by rfl) (ht : tblR tbl ty = some (f, r) := by rfl) (hu : recvD s v r = some u := by rfl) :
    Ops T H b (⟨(some t), .invoke tbl x args, g, none⟩ :: l) k ⟨e, ds⟩ s Q := by
  have h := h.out
  refine ⟨?_⟩
  obtain ⟨d, s1, h1, h2⟩ := h
  exact wpo_call h1 (fun C hC => oper_of_opF (o := ⟨(some t), .invoke tbl x args, g, none⟩) (fr := ⟨e, ds⟩) hw (by simp only [opF, hv, hx, ht, hu]; exact hC)) h2
theorem ops_call0 {f : Nat} {args : List Opd} {x : List D} (h : Call T H f x none b l k ⟨e, ds⟩ s Q) (hw : wantedD e g = some true := by rfl) (hx : evs e args = some x := by rfl) : Ops T H b (⟨none, .call false f args, g, none⟩ :: l) k ⟨e, ds⟩ s Q := by
  have h := h.out
  refine ⟨?_⟩
  obtain ⟨d, s1, h1, h2⟩ := h
  exact wpo_call h1 (fun C hC => oper_of_opF (o := ⟨none, .call false f args, g, none⟩) (fr := ⟨e, ds⟩) hw (by simp only [opF, hx]; exact hC)) h2
/-- A call that only reads. -/
theorem ops_callr0 {f : Nat} {args : List Opd} {x : List D} {d : D} {R : D → St → Prop} (hE : EvP T H f x { s with ro := true } R) (h : ∀ d s1, R d s1 → Ops T H b l k ⟨e, ds⟩ s Q) (hw : wantedD e g = some true := by rfl) (hx : evs e args = some x := by rfl) : Ops T H b (⟨none, .call true f args, g, none⟩ :: l) k ⟨e, ds⟩ s Q := by
  have h := fun d s1 hh => (h d s1 hh).out
  refine ⟨?_⟩
  obtain ⟨d, s1, h1, h2⟩ := hE
  obtain ⟨f2, s2, h3, h4⟩ := h d s1 h2
  obtain ⟨n, hn⟩ := h1
  obtain ⟨m, hm⟩ := h3
  refine ⟨f2, s2, ⟨max n m, ?_⟩, h4⟩
  have e1 := (callN_le (T := T) (H := H) (Nat.le_max_left n m)).1 _ _ _ _ hn
  have e2 : oper (callN T H (max n m)) b ⟨none, .call true f args, g, none⟩ ⟨e, ds⟩ s = some (⟨putD e none d, ds⟩, s) := oper_of_opF (o := ⟨none, .call true f args, g, none⟩) (fr := ⟨e, ds⟩) hw (by simp only [opF, hx, e1])
  simp only [opers, e2]
  exact opers_mono (callN_le (Nat.le_max_right n m)).1 hm
theorem ops_callv0 {f : Opd} {args : List Opd} {x : List D} {gf : Nat} {x1 x2 y : List D} (h : Call T H gf y none b l k ⟨e, ds⟩ s Q) (hw : wantedD e g = some true := by rfl) (hf : f.ev e = some (.fn (.func gf) x1 x2) := by rfl) (hx : evs e args = some x := by rfl) (hy : x1 ++ x ++ x2 = y := by rfl) : Ops T H b (⟨none, .callv f args, g, none⟩ :: l) k ⟨e, ds⟩ s Q := by
  have h := h.out
  refine ⟨?_⟩
  subst hy
  obtain ⟨d, s1, h1, h2⟩ := h
  exact wpo_call h1 (fun C hC => oper_of_opF (o := ⟨none, .callv f args, g, none⟩) (fr := ⟨e, ds⟩) hw (by simp only [opF, hf, hx]; exact hC)) h2
theorem ops_yield0 {f : Opd} {args : List Opd} {x : List D} {o : Nat} (h : Call T H 0 (.lv (.yl o) :: x) none b l k ⟨e, ds⟩ s Q) (hw : wantedD e g = some true := by rfl) (hf : f.ev e = some (.yl o) := by rfl) (hx : evs e args = some x := by rfl) : Ops T H b (⟨none, .callv f args, g, none⟩ :: l) k ⟨e, ds⟩ s Q := by
  have h := h.out
  refine ⟨?_⟩
  obtain ⟨d, s1, h1, h2⟩ := h
  exact wpo_call h1 (fun C hC => oper_of_opF (o := ⟨none, .callv f args, g, none⟩) (fr := ⟨e, ds⟩) hw (by simp only [opF, hf, hx]; exact hC)) h2
theorem ops_invoke0 {tbl : List (Nat × Nat × Recv)} {x : Opd} {args : List Opd} {y : List D} {ty f : Nat} {v u : D} {r : Recv} (h : Call T H f (u :: y) none b l k ⟨e, ds⟩ s Q) (hw : wantedD e g = some true := by rfl) (hv : x.ev e = some (.ifc ty v) := by rfl) (hx : evs e args = some y := by rfl) (ht : tblR tbl ty = some (f, r) := by rfl) (hu : recvD s v r = some u := by rfl) :
    Ops T H b (⟨none, .invoke tbl x args, g, none⟩ :: l) k ⟨e, ds⟩ s Q := by
  have h := h.out
  refine ⟨?_⟩
  obtain ⟨d, s1, h1, h2⟩ := h
  exact wpo_call h1 (fun C hC => oper_of_opF (o := ⟨none, .invoke tbl x args, g, none⟩) (fr := ⟨e, ds⟩) hw (by simp only [opF, hv, hx, ht, hu]; exact hC)) h2
theorem ops_ldv {sz : Option Nat} {x : Opd} {o c ty : Nat} {v d : D}  (h : Ops T H b l k ⟨(t, d) :: e, ds⟩ s Q) (hw : wantedD e g = some true := by rfl) (hx : x.ev e = some (.ptr o c) := by rfl) (hg : s.get o = some (.var ty v) := by repeat (first | assumption | exact Go.Ab.St.get_set_eq | exact Go.Ab.St.get_push_eq | refine Go.Ab.St.get_set_ne ?_ (by first | assumption | (apply Ne.symm; assumption) | omega | (simp only [Go.Ab.St.n_push0, Go.Ab.St.n_set0, Go.Ab.St.n_up]; omega)) | refine Go.Ab.St.get_push_ne ?_ (by first | assumption | (apply Ne.symm; assumption) | omega | (simp only [Go.Ab.St.n_push0, Go.Ab.St.n_set0, Go.Ab.St.n_up]; omega)) | refine Go.Ab.St.get_up ?_)) (hp : part v.flat c sz = some d := by rfl) : Ops T H b (⟨(some t), .load sz x, g, none⟩ :: l) k ⟨e, ds⟩ s Q :=
  ops_any h hw (by simp only [opF, hx, loadD, hg, hp, ofO])
theorem ops_lde {sz : Option Nat} {x : Opd} {c : Nat} {z d : D}  (h : Ops T H b l k ⟨(t, d) :: e, ds⟩ s Q) (hw : wantedD e g = some true := by rfl) (hx : x.ev e = some (.vptr z c) := by rfl) (hp : part z.flat c sz = some d := by rfl) : Ops T H b (⟨(some t), .load sz x, g, none⟩ :: l) k ⟨e, ds⟩ s Q :=
  ops_any h hw (by simp only [opF, hx, loadD, hp, ofO])
theorem ops_stv {sz : Nat} {x v : Opd} {o c ty : Nat} {d w w1 : D}  (h : Ops T H b l k ⟨(t, .tup []) :: e, ds⟩ (s.set0 o (.var ty w1)) Q) (hw : wantedD e g = some true := by rfl) (hx : x.ev e = some (.ptr o c) := by rfl) (hv : v.ev e = some d := by rfl) (hs : s.Ok := by repeat (first | assumption | refine Go.Ab.St.Ok.push0 ?_ _ | refine Go.Ab.St.Ok.set0 ?_ _ (by first | assumption | omega | (simp only [Go.Ab.St.n_push0, Go.Ab.St.n_set0, Go.Ab.St.n_up]; omega)) | refine Go.Ab.St.Ok.up ?_ _)) (hg : s.get o = some (.var ty w) := by repeat (first | assumption | exact Go.Ab.St.get_set_eq | exact Go.Ab.St.get_push_eq | refine Go.Ab.St.get_set_ne ?_ (by first | assumption | (apply Ne.symm; assumption) | omega | (simp only [Go.Ab.St.n_push0, Go.Ab.St.n_set0, Go.Ab.St.n_up]; omega)) | refine Go.Ab.St.get_push_ne ?_ (by first | assumption | (apply Ne.symm; assumption) | omega | (simp only [Go.Ab.St.n_push0, Go.Ab.St.n_set0, Go.Ab.St.n_up]; omega)) | refine Go.Ab.St.get_up ?_)) (hz : Nat.beq d.flat.length sz = true := by rfl) (hp : w.over c d = some w1 := by rfl) : Ops T H b (⟨(some t), .store sz x v, g, none⟩ :: l) k ⟨e, ds⟩ s Q :=
  ops_any h hw (by simp only [opF, hx, hv, storeD, hz, hg, hp, hs.set, ofS])
theorem ops_stv0 {sz : Nat} {x v : Opd} {o c ty : Nat} {d w w1 : D}  (h : Ops T H b l k ⟨e, ds⟩ (s.set0 o (.var ty w1)) Q) (hw : wantedD e g = some true := by rfl) (hx : x.ev e = some (.ptr o c) := by rfl) (hv : v.ev e = some d := by rfl) (hs : s.Ok := by repeat (first | assumption | refine Go.Ab.St.Ok.push0 ?_ _ | refine Go.Ab.St.Ok.set0 ?_ _ (by first | assumption | omega | (simp only [Go.Ab.St.n_push0, Go.Ab.St.n_set0, Go.Ab.St.n_up]; omega)) | refine Go.Ab.St.Ok.up ?_ _)) (hg : s.get o = some (.var ty w) := by repeat (first | assumption | exact Go.Ab.St.get_set_eq | exact Go.Ab.St.get_push_eq | refine Go.Ab.St.get_set_ne ?_ (by first | assumption | (apply Ne.symm; assumption) | omega | (simp only [Go.Ab.St.n_push0, Go.Ab.St.n_set0, Go.Ab.St.n_up]; omega)) | refine Go.Ab.St.get_push_ne ?_ (by first | assumption | (apply Ne.symm; assumption) | omega | (simp only [Go.Ab.St.n_push0, Go.Ab.St.n_set0, Go.Ab.St.n_up]; omega)) | refine Go.Ab.St.get_up ?_)) (hz : Nat.beq d.flat.length sz = true := by rfl) (hp : w.over c d = some w1 := by rfl) : Ops T H b (⟨none, .store sz x v, g, none⟩ :: l) k ⟨e, ds⟩ s Q :=
  ops_any (d := .tup []) h hw (by simp only [opF, hx, hv, storeD, hz, hg, hp, hs.set, ofS])
theorem ops_box {ty : Nat} {x : Opd} {d : D}  (h : Ops T H b l k ⟨(t, .ptr s.n 0) :: e, ds⟩ (s.push0 (.var ty d)) Q) (hw : wantedD e g = some true := by rfl) (hx : x.ev e = some d := by rfl) (hd : (d.st && Nat.blt 0 d.flat.length) = true := by rfl) (hs : s.Ok := by repeat (first | assumption | refine Go.Ab.St.Ok.push0 ?_ _ | refine Go.Ab.St.Ok.set0 ?_ _ (by first | assumption | omega | (simp only [Go.Ab.St.n_push0, Go.Ab.St.n_set0, Go.Ab.St.n_up]; omega)) | refine Go.Ab.St.Ok.up ?_ _)) : Ops T H b (⟨(some t), .box ty x, g, none⟩ :: l) k ⟨e, ds⟩ s Q := ops_any h hw (by simp only [opF, hx, hd, hs.mkN])
theorem ops_mkmap {r : Option Opd}  (h : Ops T H b l k ⟨(t, .mp s.n) :: e, ds⟩ (s.push0 (.map [] 0)) Q) (hw : wantedD e g = some true := by rfl) (hr : evo e r = some none := by rfl) (hs : s.Ok := by repeat (first | assumption | refine Go.Ab.St.Ok.push0 ?_ _ | refine Go.Ab.St.Ok.set0 ?_ _ (by first | assumption | omega | (simp only [Go.Ab.St.n_push0, Go.Ab.St.n_set0, Go.Ab.St.n_up]; omega)) | refine Go.Ab.St.Ok.up ?_ _)) : Ops T H b (⟨(some t), .mkmap r, g, none⟩ :: l) k ⟨e, ds⟩ s Q := ops_any h hw (by simp only [opF, hr, hs.mkN])
theorem ops_mkmapn {r : Option Opd} {kd : IntKind} {n : Int}  (h : Ops T H b l k ⟨(t, .mp s.n) :: e, ds⟩ (s.push0 (.map [] 0)) Q) (hw : wantedD e g = some true := by rfl) (hr : evo e r = some (some (.int kd n)) := by rfl) (hs : s.Ok := by repeat (first | assumption | refine Go.Ab.St.Ok.push0 ?_ _ | refine Go.Ab.St.Ok.set0 ?_ _ (by first | assumption | omega | (simp only [Go.Ab.St.n_push0, Go.Ab.St.n_set0, Go.Ab.St.n_up]; omega)) | refine Go.Ab.St.Ok.up ?_ _)) : Ops T H b (⟨(some t), .mkmap r, g, none⟩ :: l) k ⟨e, ds⟩ s Q := ops_any h hw (by simp only [opF, hr, hs.mkN])
theorem ops_bslice {sz ty len : Nat} {z : D} {parts : List (Nat × Opd)} {ps : List (Nat × D)} {es : List D}  (h : Ops T H b l k ⟨(t, .sl s.n 0 len len) :: e, ds⟩ (s.push0 (.arr sz ty es 0)) Q) (hw : wantedD e g = some true := by rfl) (hp : evSParts e parts = some ps := by rfl) (hz : allSz sz [z] = true := by rfl) (hf : fillS sz (List.replicate len z) ps = some es := by rfl) (hs : s.Ok := by repeat (first | assumption | refine Go.Ab.St.Ok.push0 ?_ _ | refine Go.Ab.St.Ok.set0 ?_ _ (by first | assumption | omega | (simp only [Go.Ab.St.n_push0, Go.Ab.St.n_set0, Go.Ab.St.n_up]; omega)) | refine Go.Ab.St.Ok.up ?_ _)) : Ops T H b (⟨(some t), .bslice sz ty z len parts, g, none⟩ :: l) k ⟨e, ds⟩ s Q := ops_any h hw (by simp only [opF, hp, hz, hf, hs.mkN])
theorem ops_mkslice {sz bytes ty : Nat} {z dl dc : D} {ln cp : Opd} {l1 c1 : Nat} (hl : idx dl = some l1) (hc : idx dc = some c1) (h1 : l1 ≤ c1) (h2 : c1 * bytes ≤ 140737488355328) (h3 : c1 ≤ maxElems) (h : Ops T H b l k ⟨(t, .sl s.n 0 l1 l1) :: e, ds⟩ (s.push0 (.arr sz ty (List.replicate l1 z) 0)) Q) (hw : wantedD e g = some true := by rfl) (hx : ln.ev e = some dl := by rfl) (hy : cp.ev e = some dc := by rfl) (hz : allSz sz [z] = true := by rfl) (hs : s.Ok := by repeat (first | assumption | refine Go.Ab.St.Ok.push0 ?_ _ | refine Go.Ab.St.Ok.set0 ?_ _ (by first | assumption | omega | (simp only [Go.Ab.St.n_push0, Go.Ab.St.n_set0, Go.Ab.St.n_up]; omega)) | refine Go.Ab.St.Ok.up ?_ _)) : Ops T H b (⟨(some t), .mkslice sz bytes ty z ln cp, g, none⟩ :: l) k ⟨e, ds⟩ s Q := by
  have e1 : Nat.ble l1 c1 = true := Nat.ble_eq_true_of_le h1
  have e2 : Nat.ble (c1 * bytes) 140737488355328 = true := Nat.ble_eq_true_of_le h2
  have e3 : Nat.ble c1 maxElems = true := Nat.ble_eq_true_of_le h3
  exact ops_any h hw (by simp only [opF, hx, hy, hl, hc, e1, e2, e3, hz, Bool.and_self, hs.mkN])
/-- Variables of the frame's own. -/
theorem ops_lbox {x : Opd} {d : D} (h : Ops T H b l k ⟨(t, .lv d) :: e, ds⟩ s Q) (hw : wantedD e g = some true := by rfl) (hx : x.ev e = some d := by rfl) (hn : (e.noL t && d.st) = true := by rfl) : Ops T H b (⟨some t, .lbox x, g, none⟩ :: l) k ⟨e, ds⟩ s Q := by
  refine ops_step (fr1 := ⟨(t, .lv d) :: e, ds⟩) (s1 := s) ?_ h
  unfold oper
  simp only [hw, hx, hn]
theorem ops_lstore0 {a sz c : Nat} {x v : Opd} {d w w1 : D} (h : Ops T H b l k ⟨(a, .lv w1) :: e, ds⟩ s Q) (hw : wantedD e g = some true := by rfl) (hx : x.evp e = some (.lptr a c) := by rfl) (hv : v.ev e = some d := by rfl) (ha : e.get a = some (.lv w) := by rfl) (hz : Nat.beq d.flat.length sz = true := by rfl) (hp : w.over c d = some w1 := by rfl) :
    Ops T H b (⟨none, .lstore a sz x v, g, none⟩ :: l) k ⟨e, ds⟩ s Q := by
  refine ops_step (fr1 := ⟨(a, .lv w1) :: e, ds⟩) (s1 := s) ?_ h
  unfold oper
  simp only [hw, hx, hv, Nat.beq_refl, ha, hz, hp, putD]
theorem ops_lstore {a sz c : Nat} {x v : Opd} {d w w1 : D} (h : Ops T H b l k ⟨(t, .tup []) :: (a, .lv w1) :: e, ds⟩ s Q) (hw : wantedD e g = some true := by rfl) (hx : x.evp e = some (.lptr a c) := by rfl) (hv : v.ev e = some d := by rfl) (ha : e.get a = some (.lv w) := by rfl) (hz : Nat.beq d.flat.length sz = true := by rfl) (hp : w.over c d = some w1 := by rfl) :
    Ops T H b (⟨some t, .lstore a sz x v, g, none⟩ :: l) k ⟨e, ds⟩ s Q := by
  refine ops_step (fr1 := ⟨(t, .tup []) :: (a, .lv w1) :: e, ds⟩) (s1 := s) ?_ h
  unfold oper
  simp only [hw, hx, hv, Nat.beq_refl, ha, hz, hp, putD]
theorem ops_iav {sz : Nat} {x i : Opd} {n : D} {j : Nat} {nl : Bool} {es : List D} {z : D} (h : Ops T H b l k ⟨(t, .vptr z 0) :: e, ds⟩ s Q) (hw : wantedD e g = some true := by rfl) (hx : x.ev e = some (.vs nl sz es) := by rfl) (hi : i.ev e = some n := by rfl) (hj : idx n = some j := by first | exact Go.Ab.Sm.idx_i | rfl | exact Go.Ab.Sm.idx_int (by omega)) (he : es[j]? = some z := by first | assumption | rfl) : Ops T H b (⟨some t, .iaddr sz x i, g, none⟩ :: l) k ⟨e, ds⟩ s Q :=
  ops_any h hw (by simp only [opF, hx, hi, hj, iaddrD, Nat.beq_refl, he, ofO])
theorem ops_ias {sz : Nat} {x i : Opd} {n : D} {j o off len cp ty st : Nat} {es : List D} (h : Ops T H b l k ⟨(t, .eptr o (off + j) 0 (off + len)) :: e, ds⟩ s Q) (hw : wantedD e g = some true := by rfl) (hx : x.ev e = some (.sl o off len cp) := by rfl) (hi : i.ev e = some n := by rfl) (hg : s.get o = some (.arr sz ty es st) := by repeat (first | assumption | exact Go.Ab.St.get_set_eq | exact Go.Ab.St.get_push_eq | refine Go.Ab.St.get_set_ne ?_ (by first | assumption | (apply Ne.symm; assumption) | omega | (simp only [Go.Ab.St.n_push0, Go.Ab.St.n_set0, Go.Ab.St.n_up]; omega)) | refine Go.Ab.St.get_push_ne ?_ (by first | assumption | (apply Ne.symm; assumption) | omega | (simp only [Go.Ab.St.n_push0, Go.Ab.St.n_set0, Go.Ab.St.n_up]; omega)) | refine Go.Ab.St.get_up ?_)) (hj : idx n = some j := by first | exact Go.Ab.Sm.idx_i | rfl | exact Go.Ab.Sm.idx_int (by omega)) (hl : j < len := by first | assumption | omega | (simp only [Go.Ab.maxElems, List.length_append, List.length_cons, List.length_nil, List.length_replicate, List.length_set, List.length_map]; omega)) (h1 : off + len ≤ es.length := by first | assumption | omega | (simp only [Go.Ab.maxElems, List.length_append, List.length_cons, List.length_nil, List.length_replicate, List.length_set, List.length_map]; omega)) (h2 : st ≤ off + len := by first | assumption | omega | (simp only [Go.Ab.maxElems, List.length_append, List.length_cons, List.length_nil, List.length_replicate, List.length_set, List.length_map]; omega)) : Ops T H b (⟨some t, .iaddr sz x i, g, none⟩ :: l) k ⟨e, ds⟩ s Q := by
  have e1 : Nat.blt j len = true := Nat.ble_eq_true_of_le (Nat.succ_le_of_lt hl)
  have e2 : Nat.ble (off + len) es.length = true := Nat.ble_eq_true_of_le h1
  have e3 : Nat.ble st (off + len) = true := Nat.ble_eq_true_of_le h2
  exact ops_any h hw (by simp only [opF, hx, hi, hj, iaddrD, hg, Nat.beq_refl, e1, e2, e3, ofO])
theorem ops_lda {sz : Option Nat} {x : Opd} {o i c en z ty st : Nat} {es : List D} {v d : D} (h : Ops T H b l k ⟨(t, d) :: e, ds⟩ s Q) (hw : wantedD e g = some true := by rfl) (hx : x.ev e = some (.eptr o i c en) := by rfl) (hg : s.get o = some (.arr z ty es st) := by repeat (first | assumption | exact Go.Ab.St.get_set_eq | exact Go.Ab.St.get_push_eq | refine Go.Ab.St.get_set_ne ?_ (by first | assumption | (apply Ne.symm; assumption) | omega | (simp only [Go.Ab.St.n_push0, Go.Ab.St.n_set0, Go.Ab.St.n_up]; omega)) | refine Go.Ab.St.get_push_ne ?_ (by first | assumption | (apply Ne.symm; assumption) | omega | (simp only [Go.Ab.St.n_push0, Go.Ab.St.n_set0, Go.Ab.St.n_up]; omega)) | refine Go.Ab.St.get_up ?_)) (hi : es[i]? = some v := by first | assumption | rfl) (hst : st ≤ en := by first | assumption | omega | (simp only [Go.Ab.maxElems, List.length_append, List.length_cons, List.length_nil, List.length_replicate, List.length_set, List.length_map]; omega)) (hp : part v.flat c sz = some d := by rfl) : Ops T H b (⟨some t, .load sz x, g, none⟩ :: l) k ⟨e, ds⟩ s Q := by
  have e1 : Nat.ble st en = true := Nat.ble_eq_true_of_le hst
  exact ops_any h hw (by simp only [opF, hx, loadD, hg, e1, hi, hp, ofO])
theorem ops_sta {sz : Nat} {x v : Opd} {o i c en z ty st : Nat} {es : List D} {d w w1 : D} (h : Ops T H b l k ⟨(t, .tup []) :: e, ds⟩ (s.set0 o (.arr z ty (es.set i w1) es.length)) Q) (hw : wantedD e g = some true := by rfl) (hx : x.ev e = some (.eptr o i c en) := by rfl) (hv : v.ev e = some d := by rfl) (hs : s.Ok := by repeat (first | assumption | refine Go.Ab.St.Ok.push0 ?_ _ | refine Go.Ab.St.Ok.set0 ?_ _ (by first | assumption | omega | (simp only [Go.Ab.St.n_push0, Go.Ab.St.n_set0, Go.Ab.St.n_up]; omega)) | refine Go.Ab.St.Ok.up ?_ _)) (hg : s.get o = some (.arr z ty es st) := by repeat (first | assumption | exact Go.Ab.St.get_set_eq | exact Go.Ab.St.get_push_eq | refine Go.Ab.St.get_set_ne ?_ (by first | assumption | (apply Ne.symm; assumption) | omega | (simp only [Go.Ab.St.n_push0, Go.Ab.St.n_set0, Go.Ab.St.n_up]; omega)) | refine Go.Ab.St.get_push_ne ?_ (by first | assumption | (apply Ne.symm; assumption) | omega | (simp only [Go.Ab.St.n_push0, Go.Ab.St.n_set0, Go.Ab.St.n_up]; omega)) | refine Go.Ab.St.get_up ?_)) (hi : es[i]? = some w := by first | assumption | rfl) (he : en = es.length := by first | assumption | omega | (simp only [Go.Ab.maxElems, List.length_append, List.length_cons, List.length_nil, List.length_replicate, List.length_set, List.length_map]; omega)) (hz : Nat.beq d.flat.length sz = true := by rfl) (hp : w.over c d = some w1 := by rfl) : Ops T H b (⟨some t, .store sz x v, g, none⟩ :: l) k ⟨e, ds⟩ s Q := by
  subst he
  exact ops_any h hw (by simp only [opF, hx, hv, storeD, hz, hg, Nat.beq_refl, hi, hp, hs.set, ofS])
theorem ops_sta0 {sz : Nat} {x v : Opd} {o i c en z ty st : Nat} {es : List D} {d w w1 : D} (h : Ops T H b l k ⟨e, ds⟩ (s.set0 o (.arr z ty (es.set i w1) es.length)) Q) (hw : wantedD e g = some true := by rfl) (hx : x.ev e = some (.eptr o i c en) := by rfl) (hv : v.ev e = some d := by rfl) (hs : s.Ok := by repeat (first | assumption | refine Go.Ab.St.Ok.push0 ?_ _ | refine Go.Ab.St.Ok.set0 ?_ _ (by first | assumption | omega | (simp only [Go.Ab.St.n_push0, Go.Ab.St.n_set0, Go.Ab.St.n_up]; omega)) | refine Go.Ab.St.Ok.up ?_ _)) (hg : s.get o = some (.arr z ty es st) := by repeat (first | assumption | exact Go.Ab.St.get_set_eq | exact Go.Ab.St.get_push_eq | refine Go.Ab.St.get_set_ne ?_ (by first | assumption | (apply Ne.symm; assumption) | omega | (simp only [Go.Ab.St.n_push0, Go.Ab.St.n_set0, Go.Ab.St.n_up]; omega)) | refine Go.Ab.St.get_push_ne ?_ (by first | assumption | (apply Ne.symm; assumption) | omega | (simp only [Go.Ab.St.n_push0, Go.Ab.St.n_set0, Go.Ab.St.n_up]; omega)) | refine Go.Ab.St.get_up ?_)) (hi : es[i]? = some w := by first | assumption | rfl) (he : en = es.length := by first | assumption | omega | (simp only [Go.Ab.maxElems, List.length_append, List.length_cons, List.length_nil, List.length_replicate, List.length_set, List.length_map]; omega)) (hz : Nat.beq d.flat.length sz = true := by rfl) (hp : w.over c d = some w1 := by rfl) : Ops T H b (⟨none, .store sz x v, g, none⟩ :: l) k ⟨e, ds⟩ s Q := by
  subst he
  exact ops_any (d := .tup []) h hw (by simp only [opF, hx, hv, storeD, hz, hg, Nat.beq_refl, hi, hp, hs.set, ofS])
theorem ops_aps {sz bytes ty : Nat} {x y : Opd} {o off len cp st : Nat} {nl : Bool} {es m : List D} (h : Ops T H b l k ⟨(t, .sl o off (len + m.length) (len + m.length)) :: e, ds⟩ (s.set0 o (.arr sz ty (es ++ m) st)) Q) (hw : wantedD e g = some true := by rfl) (hx : x.ev e = some (.sl o off len cp) := by rfl) (hy : y.ev e = some (.vs nl sz m) := by rfl) (hs : s.Ok := by repeat (first | assumption | refine Go.Ab.St.Ok.push0 ?_ _ | refine Go.Ab.St.Ok.set0 ?_ _ (by first | assumption | omega | (simp only [Go.Ab.St.n_push0, Go.Ab.St.n_set0, Go.Ab.St.n_up]; omega)) | refine Go.Ab.St.Ok.up ?_ _)) (hg : s.get o = some (.arr sz ty es st) := by repeat (first | assumption | exact Go.Ab.St.get_set_eq | exact Go.Ab.St.get_push_eq | refine Go.Ab.St.get_set_ne ?_ (by first | assumption | (apply Ne.symm; assumption) | omega | (simp only [Go.Ab.St.n_push0, Go.Ab.St.n_set0, Go.Ab.St.n_up]; omega)) | refine Go.Ab.St.get_push_ne ?_ (by first | assumption | (apply Ne.symm; assumption) | omega | (simp only [Go.Ab.St.n_push0, Go.Ab.St.n_set0, Go.Ab.St.n_up]; omega)) | refine Go.Ab.St.get_up ?_)) (hb : Nat.ble bytes 4096 = true := by rfl) (ha : allSz sz m = true := by rfl) (hn : m ≠ [] := by simp) (he : off + len = es.length := by first | assumption | omega | (simp only [Go.Ab.maxElems, List.length_append, List.length_cons, List.length_nil, List.length_replicate, List.length_set, List.length_map]; omega)) (hst : st ≤ es.length := by first | assumption | omega | (simp only [Go.Ab.maxElems, List.length_append, List.length_cons, List.length_nil, List.length_replicate, List.length_set, List.length_map]; omega)) (hm : len + m.length ≤ maxElems := by first | assumption | omega | (simp only [Go.Ab.maxElems, List.length_append, List.length_cons, List.length_nil, List.length_replicate, List.length_set, List.length_map]; omega)) : Ops T H b (⟨some t, .append sz bytes ty x y, g, none⟩ :: l) k ⟨e, ds⟩ s Q := by
  refine ops_any h hw ?_
  simp only [opF, hx, hy, items, Nat.beq_refl, Bool.true_or, hb, ha, append_sl hs hg he hst hm hn]
theorem ops_apn {sz bytes ty z : Nat} {x y : Opd} {nl : Bool} {es m : List D} (h : Ops T H b l k ⟨(t, .sl s.n 0 m.length m.length) :: e, ds⟩ (s.push0 (.arr sz ty m 0)) Q) (hw : wantedD e g = some true := by rfl) (hx : x.ev e = some (.vs true z es) := by rfl) (hy : y.ev e = some (.vs nl sz m) := by rfl) (hs : s.Ok := by repeat (first | assumption | refine Go.Ab.St.Ok.push0 ?_ _ | refine Go.Ab.St.Ok.set0 ?_ _ (by first | assumption | omega | (simp only [Go.Ab.St.n_push0, Go.Ab.St.n_set0, Go.Ab.St.n_up]; omega)) | refine Go.Ab.St.Ok.up ?_ _)) (hb : Nat.ble bytes 4096 = true := by rfl) (ha : allSz sz m = true := by rfl) (hn : m ≠ [] := by simp) (hm : m.length ≤ maxElems := by first | assumption | omega | (simp only [Go.Ab.maxElems, List.length_append, List.length_cons, List.length_nil, List.length_replicate, List.length_set, List.length_map]; omega)) : Ops T H b (⟨some t, .append sz bytes ty x y, g, none⟩ :: l) k ⟨e, ds⟩ s Q := by
  refine ops_any h hw ?_
  simp only [opF, hx, hy, items, Nat.beq_refl, Bool.true_or, hb, ha, append_nil hs hm hn]
theorem ops_vs1 {sz : Nat} {z d : D} {x : Opd} (h : Ops T H b l k ⟨(t, .vs false sz [d]) :: e, ds⟩ s Q) (hw : wantedD e g = some true := by rfl) (hx : x.ev e = some d := by rfl) (hz : allSz sz [z] = true := by rfl) (h1 : Nat.beq d.flat.length sz = true := by rfl) (h2 : d.st = true := by rfl) : Ops T H b (⟨some t, .vslice sz z 1 [(0, x)], g, none⟩ :: l) k ⟨e, ds⟩ s Q :=
  ops_any h hw (by simp only [opF, evSParts, hx, hz, fillS, h1, h2, List.replicate, List.length_cons, List.length_nil, Nat.blt, Nat.ble, List.set_cons_zero])
/-- One more. -/
theorem wrap_up {j : Nat} (h : j + 1 < 9223372036854775808) : IntKind.wrap .i64 ((j : Int) + 1) = ((j + 1 : Nat) : Int) := by
  simp only [IntKind.wrap, IntKind.signed, IntKind.bits, Bool.true_and, decide_eq_true_eq, ge_iff_le]
  rw [show ((2 : Int) ^ (64 - 1)) = 9223372036854775808 from rfl, show ((2 : Int) ^ 64) = 18446744073709551616 from rfl]
  split <;> omega
theorem ops_inc {x : Opd} {j : Nat} (h : Ops T H b l k ⟨(t, .int .i64 ((j + 1 : Nat) : Int)) :: e, ds⟩ s Q) (hw : wantedD e g = some true := by rfl) (hx : x.ev e = some (.int .i64 (Nat.cast j)) := by rfl) (hj : j + 1 < 9223372036854775808 := by omega) : Ops T H b (⟨some t, .bin .add x (.c (.int .i64 1)), g, none⟩ :: l) k ⟨e, ds⟩ s Q := by
  have hy : (Opd.c (.int .i64 1)).ev e = some (.int .i64 1) := rfl
  have hb : binD .add (.int .i64 (j : Int)) (.int .i64 1) = some (.int .i64 ((j + 1 : Nat) : Int)) := by
    show some (D.int .i64 (IntKind.wrap .i64 ((j : Int) + 1))) = _
    rw [wrap_up hj]
  exact ops_any h hw (by simp only [opF, hx, hy, hb, ofO])
/-- A string behind a slice. -/
theorem ops_ass {bytes ty : Nat} {x y : Opd} {o off len cp st : Nat} {es : List D} {m : List UInt8} (h : Ops T H b l k ⟨(t, .sl o off (len + m.length) (len + m.length)) :: e, ds⟩ (s.set0 o (.arr 1 ty (es ++ m.map fun c => .int .u8 c.toNat) st)) Q) (hw : wantedD e g = some true := by rfl) (hx : x.ev e = some (.sl o off len cp) := by rfl) (hy : y.ev e = some (.str m) := by rfl) (hs : s.Ok := by repeat (first | assumption | refine Go.Ab.St.Ok.push0 ?_ _ | refine Go.Ab.St.Ok.set0 ?_ _ (by first | assumption | omega | (simp only [Go.Ab.St.n_push0, Go.Ab.St.n_set0, Go.Ab.St.n_up]; omega)) | refine Go.Ab.St.Ok.up ?_ _)) (hg : s.get o = some (.arr 1 ty es st) := by repeat (first | assumption | exact Go.Ab.St.get_set_eq | exact Go.Ab.St.get_push_eq | refine Go.Ab.St.get_set_ne ?_ (by first | assumption | (apply Ne.symm; assumption) | omega | (simp only [Go.Ab.St.n_push0, Go.Ab.St.n_set0, Go.Ab.St.n_up]; omega)) | refine Go.Ab.St.get_push_ne ?_ (by first | assumption | (apply Ne.symm; assumption) | omega | (simp only [Go.Ab.St.n_push0, Go.Ab.St.n_set0, Go.Ab.St.n_up]; omega)) | refine Go.Ab.St.get_up ?_)) (hb : Nat.ble bytes 4096 = true := by rfl) (hn : m ≠ [] := by first | assumption | simp) (he : off + len = es.length := by first | assumption | omega | (simp only [Go.Ab.maxElems, List.length_append, List.length_cons, List.length_nil, List.length_replicate, List.length_set, List.length_map]; omega)) (hst : st ≤ es.length := by first | assumption | omega | (simp only [Go.Ab.maxElems, List.length_append, List.length_cons, List.length_nil, List.length_replicate, List.length_set, List.length_map]; omega)) (hm : len + m.length ≤ maxElems := by first | assumption | omega | (simp only [Go.Ab.maxElems, List.length_append, List.length_cons, List.length_nil, List.length_replicate, List.length_set, List.length_map]; omega)) : Ops T H b (⟨some t, .append 1 bytes ty x y, g, none⟩ :: l) k ⟨e, ds⟩ s Q := by
  refine ops_any h hw ?_
  have hn' : (m.map fun c => D.int .u8 c.toNat) ≠ [] := by simpa using hn
  have := append_sl (al := none) (cp := cp) hs hg he hst (m := m.map fun c => .int .u8 c.toNat) (by rw [List.length_map]; exact hm) hn'
  rw [List.length_map] at this
  simp only [opF, hx, hy, Nat.beq_refl, hb, this]
theorem ops_asn {bytes ty z : Nat} {x y : Opd} {es : List D} {m : List UInt8} (h : Ops T H b l k ⟨(t, .sl s.n 0 m.length m.length) :: e, ds⟩ (s.push0 (.arr 1 ty (m.map fun c => .int .u8 c.toNat) 0)) Q) (hw : wantedD e g = some true := by rfl) (hx : x.ev e = some (.vs true z es) := by rfl) (hy : y.ev e = some (.str m) := by rfl) (hs : s.Ok := by repeat (first | assumption | refine Go.Ab.St.Ok.push0 ?_ _ | refine Go.Ab.St.Ok.set0 ?_ _ (by first | assumption | omega | (simp only [Go.Ab.St.n_push0, Go.Ab.St.n_set0, Go.Ab.St.n_up]; omega)) | refine Go.Ab.St.Ok.up ?_ _)) (hb : Nat.ble bytes 4096 = true := by rfl) (hn : m ≠ [] := by first | assumption | simp) (hm : m.length ≤ maxElems := by first | assumption | omega | (simp only [Go.Ab.maxElems, List.length_append, List.length_cons, List.length_nil, List.length_replicate, List.length_set, List.length_map]; omega)) : Ops T H b (⟨some t, .append 1 bytes ty x y, g, none⟩ :: l) k ⟨e, ds⟩ s Q := by
  refine ops_any h hw ?_
  have hn' : (m.map fun c => D.int .u8 c.toNat) ≠ [] := by simpa using hn
  have := append_nil (sz := 1) (ty := ty) (z := z) (es := es) hs (m := m.map fun c => .int .u8 c.toNat) (by rw [List.length_map]; exact hm) hn'
  rw [List.length_map] at this
  simp only [opF, hx, hy, Nat.beq_refl, hb, this]
/-- A part of a slice. -/
theorem ops_ssl {sz ty : Nat} {x : Opd} {lo hi : Option Opd} {a b' : Option D} {lo' hi' o off len cp st : Nat} {es : List D} (h : Ops T H b l k ⟨(t, .sl o (off + lo') (hi' - lo') (cp - lo')) :: e, ds⟩ s Q) (hw : wantedD e g = some true := by rfl) (hx : x.ev e = some (.sl o off len cp) := by rfl) (ha : evo e lo = some a := by rfl) (hb' : evo e hi = some b' := by rfl) (ha1 : idxo 0 a = some lo' := by first | rfl | exact Go.Ab.Sm.idx_i | exact Go.Ab.Sm.idx_int (by omega)) (hb1 : (match b' with | none => some len | some d => idx d) = some hi' := by first | rfl | exact Go.Ab.Sm.idx_i | exact Go.Ab.Sm.idx_int (by omega)) (hg : s.get o = some (.arr sz ty es st) := by repeat (first | assumption | exact Go.Ab.St.get_set_eq | exact Go.Ab.St.get_push_eq | refine Go.Ab.St.get_set_ne ?_ (by first | assumption | (apply Ne.symm; assumption) | omega | (simp only [Go.Ab.St.n_push0, Go.Ab.St.n_set0, Go.Ab.St.n_up]; omega)) | refine Go.Ab.St.get_push_ne ?_ (by first | assumption | (apply Ne.symm; assumption) | omega | (simp only [Go.Ab.St.n_push0, Go.Ab.St.n_set0, Go.Ab.St.n_up]; omega)) | refine Go.Ab.St.get_up ?_)) (h1 : off + len ≤ es.length := by first | assumption | omega | (simp only [Go.Ab.maxElems, List.length_append, List.length_cons, List.length_nil, List.length_replicate, List.length_set, List.length_map]; omega)) (h2 : st ≤ off + len := by first | assumption | omega | (simp only [Go.Ab.maxElems, List.length_append, List.length_cons, List.length_nil, List.length_replicate, List.length_set, List.length_map]; omega)) (h3 : lo' ≤ hi' := by first | assumption | omega | (simp only [Go.Ab.maxElems, List.length_append, List.length_cons, List.length_nil, List.length_replicate, List.length_set, List.length_map]; omega)) (h4 : hi' ≤ cp := by first | assumption | omega | (simp only [Go.Ab.maxElems, List.length_append, List.length_cons, List.length_nil, List.length_replicate, List.length_set, List.length_map]; omega)) : Ops T H b (⟨some t, .ssl sz x lo hi none, g, none⟩ :: l) k ⟨e, ds⟩ s Q := by
  have e1 : Nat.ble (off + len) es.length = true := Nat.ble_eq_true_of_le h1
  have e2 : Nat.ble st (off + len) = true := Nat.ble_eq_true_of_le h2
  have e3 : Nat.ble lo' hi' = true := Nat.ble_eq_true_of_le h3
  have e4 : Nat.ble hi' cp = true := Nat.ble_eq_true_of_le h4
  have e5 : evo e none = some none := rfl
  have e6 : idxo 0 none = some 0 := rfl
  refine ops_any h hw ?_
  cases b' with
  | none =>
    simp only [Option.some.injEq] at hb1; subst hb1
    simp only [opF, hx, ha, hb', e5, ha1, e6, items, hg, e1, e2, Nat.beq_refl, Bool.true_or, someIf, cutD, Option.getD, e3, e4, ofO]
  | some d =>
    simp only at hb1
    have hb2 : idxo 0 (some d) = some hi' := hb1
    simp only [opF, hx, ha, hb', e5, ha1, e6, hb2, items, hg, e1, e2, Nat.beq_refl, Bool.true_or, someIf, cutD, Option.getD, e3, e4, ofO]
theorem ops_lenm {x : Opd} {o c : Nat} {es : List (Nat × D × D)} (h : Ops T H b l k ⟨(t, .int .i64 (es.length : Nat)) :: e, ds⟩ s Q) (hw : wantedD e g = some true := by rfl) (hx : x.ev e = some (.mp o) := by rfl) (hg : s.get o = some (.map es c) := by repeat (first | assumption | exact Go.Ab.St.get_set_eq | exact Go.Ab.St.get_push_eq | refine Go.Ab.St.get_set_ne ?_ (by first | assumption | (apply Ne.symm; assumption) | omega | (simp only [Go.Ab.St.n_push0, Go.Ab.St.n_set0, Go.Ab.St.n_up]; omega)) | refine Go.Ab.St.get_push_ne ?_ (by first | assumption | (apply Ne.symm; assumption) | omega | (simp only [Go.Ab.St.n_push0, Go.Ab.St.n_set0, Go.Ab.St.n_up]; omega)) | refine Go.Ab.St.get_up ?_)) : Ops T H b (⟨some t, .len 2 x, g, none⟩ :: l) k ⟨e, ds⟩ s Q :=
  ops_any h hw (by simp only [opF, hx, lenD, hg, goI])
/-- Lookups in maps. -/
theorem ops_lk0 {et : ET} {z kd : D} {ok : Bool} {m ky : Opd} {o c : Nat} {es : List (Nat × D × D)} (h : Ops T H b l k ⟨(t, okD ok z false) :: e, ds⟩ s Q) (hw : wantedD e g = some true := by rfl) (hm : m.ev e = some (.mp o) := by rfl) (hky : ky.ev e = some kd := by rfl) (hkd : keyD et kd = true := by rfl) (hg : s.get o = some (.map es c) := by repeat (first | assumption | exact Go.Ab.St.get_set_eq | exact Go.Ab.St.get_push_eq | refine Go.Ab.St.get_set_ne ?_ (by first | assumption | (apply Ne.symm; assumption) | omega | (simp only [Go.Ab.St.n_push0, Go.Ab.St.n_set0, Go.Ab.St.n_up]; omega)) | refine Go.Ab.St.get_push_ne ?_ (by first | assumption | (apply Ne.symm; assumption) | omega | (simp only [Go.Ab.St.n_push0, Go.Ab.St.n_set0, Go.Ab.St.n_up]; omega)) | refine Go.Ab.St.get_up ?_)) (hf : findKey et kd es 0 = some none := by rfl) : Ops T H b (⟨some t, .lookup et z ok m ky, g, none⟩ :: l) k ⟨e, ds⟩ s Q :=
  ops_any h hw (by simp only [opF, hm, hky, hkd, hg, hf])
theorem ops_lk1 {et : ET} {z kd v : D} {ok : Bool} {m ky : Opd} {o c i : Nat} {es : List (Nat × D × D)} (h : Ops T H b l k ⟨(t, okD ok v true) :: e, ds⟩ s Q) (hw : wantedD e g = some true := by rfl) (hm : m.ev e = some (.mp o) := by rfl) (hky : ky.ev e = some kd := by rfl) (hkd : keyD et kd = true := by rfl) (hg : s.get o = some (.map es c) := by repeat (first | assumption | exact Go.Ab.St.get_set_eq | exact Go.Ab.St.get_push_eq | refine Go.Ab.St.get_set_ne ?_ (by first | assumption | (apply Ne.symm; assumption) | omega | (simp only [Go.Ab.St.n_push0, Go.Ab.St.n_set0, Go.Ab.St.n_up]; omega)) | refine Go.Ab.St.get_push_ne ?_ (by first | assumption | (apply Ne.symm; assumption) | omega | (simp only [Go.Ab.St.n_push0, Go.Ab.St.n_set0, Go.Ab.St.n_up]; omega)) | refine Go.Ab.St.get_up ?_)) (hf : findKey et kd es 0 = some (some (i, v)) := by rfl) : Ops T H b (⟨some t, .lookup et z ok m ky, g, none⟩ :: l) k ⟨e, ds⟩ s Q :=
  ops_any h hw (by simp only [opF, hm, hky, hkd, hg, hf])
end
end Go.Ab.Sm
