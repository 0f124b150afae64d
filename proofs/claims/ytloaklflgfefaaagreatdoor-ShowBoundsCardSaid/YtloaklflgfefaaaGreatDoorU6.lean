/- A row is told; what is within; a value. -/
import Derived.Test.YtloaklflgfefaaaGreatDoorU4
namespace Go.Proofs.YtloaklflgfefaaaGreatDoor.Tab
open Go Go.Ab Go.Ab.Sm
set_option linter.unusedSectionVars false
set_option linter.unusedSimpArgs false
set_option linter.unusedVariables false
set_option maxRecDepth 100000
set_option maxHeartbeats 2000000

open Go.Ab.Pieces
/-- The open values' row: how long it is. -/
def ZLen (s : St) (z : D) (d : Nat) : Prop := (z = .vs true 0 [] ∧ d = 0) ∨ ∃ oo cp es, z = .sl oo 0 d cp ∧ d ≤ cp ∧ d ≤ es.length ∧ s.get oo = some (.arr 1 3 es 0)
theorem zlen_of {s : St} {z : D} {V : List Nat} (h : Kids s z V) : ZLen s z V.length := by
  rcases h with _ | ⟨h, hn⟩
  · exact .inl ⟨rfl, rfl⟩
  · exact .inr ⟨_, _, _, rfl, Nat.le_refl _, by rw [List.length_map]; exact Nat.le_refl _, h⟩
theorem kids_sc {s : St} {z : D} {V : List Nat} (h : Kids s z V) : z.sc = true := by
  rcases h with _ | ⟨h, hn⟩ <;> rfl
/-- Something tells pieces. -/
def TellC (T : Nat → Option AFn) (Y : Caller) (sb : St) (so k pb bx : Nat) (f : Nat) (args : List D) (C : List Nat → Prop) (P : List Bs) : Prop :=
  ∀ (s : St) (z y : D) (x : Bs × Bool) (V : List Nat), PS s sb.n so k pb bx z y x → Beh (fun j => sb.n ≤ j) sb s → Kids s z V → (∀ o l c, z = .sl o 0 l c → sb.n ≤ o) → C V →
    EvP T Y f args s fun _ s1 => ∃ z' y', PS s1 sb.n so k pb bx z' y' (emits x P) ∧ ZLen s1 z' V.length ∧ Beh (fun j => sb.n ≤ j) s s1
theorem emits_one (x : Bs × Bool) (p : Bs) : emits x [p] = emit x p := rfl
theorem emits_snoc (x : Bs × Bool) (l : List Bs) (p : Bs) : emits x (l ++ [p]) = emit (emits x l) p := by rw [emits_app]; rfl
section
variable {T : Nat → Option AFn} {H Y : Caller}
theorem PS.kids {s s1 : St} {base so k pb bx : Nat} {z y : D} {x : Bs × Bool} {V : List Nat} (h : PS s base so k pb bx z y x) (hk : Kids s z V) (hb : Beh (OfP k pb bx y) s s1) : Kids s1 z V :=
  hk.beh h.ok hb fun j es st hg => h.other hg (by simp) (by simp) (by simp) (by simp)
theorem valueNone_ev (hT : Tb T) {sb s : St} {so o la ta2 pl mp N k pb bx : Nat} {L : List (Nat × Nat)} {kd : Nat → Int} {kv : Nat → List Nat} {y z : D} {x : Bs × Bool} (hY : YieldOk T H k [25] [(9, .ptr bx 0)] rngA rngB Y) (hsb : sb.Ok) (hS : Sho sb so o la ta2 pl mp N L kd kv) (h : PS s sb.n so k pb bx z y x) (hb : Beh (fun j => sb.n ≤ j) sb s) (hz : z.sc = true) :
    EvP T Y 25 [.ptr pb 0, .int .i64 (rf 0 : Nat)] s fun d s1 => ∃ y', PS s1 sb.n so k pb bx z y' (emit x None4) ∧ Beh (OfP k pb bx y) s s1 := by
  have hok := h.ok
  have gp := h.gp
  have lp := hok.lt gp
  have hp1 : Beh Nil s (s.push0 (.var 112 (.ptr pb 0))) := Beh.push (Beh.refl hok) _
  have h1 := h.beh hp1 (fun _ _ hh => hh)
  have hS1 := hS.beh hsb (hb.push (.var 112 (.ptr pb 0)))
  have ok1 := hp1.ok
  obtain ⟨m, on⟩ := x
  refine evp_in hT.t25 ?_
  cases on with
  | false =>
    try refine go ?_
    exact retF_R ⟨y, h1, hp1.mono fun _ hh => hh.elim⟩
  | true =>
    repeat' first | refine go ?_ | (refine call_ev (objectNone_ev hT ok1 hS1) ?_; rintro d s1 ⟨rfl, rfl⟩) | (refine call_ev (tagNone_ev hT ok1 hS1) ?_; rintro d s1 ⟨rfl, rfl⟩) | (refine call_ev (say_ev hT hY h1 hz (p := None4) (by decide) (by decide)) ?_; rintro d s1 ⟨y', q1, q2⟩)
    exact retF_N ⟨y', q1, (hp1.mono fun _ hh => hh.elim).trans q2⟩
theorem elems_ext : ∀ {n j : Nat}, j ≤ n → ∃ r, elems n = elems j ++ r
  | 0, j, h => ⟨[], by have : j = 0 := by omega
                       subst this; simp⟩
  | n + 1, j, h => by
    rcases Nat.lt_or_ge j (n + 1) with h1 | h1
    · obtain ⟨r, hr⟩ := elems_ext (n := n) (j := j) (by omega)
      rw [elems]
      by_cases h0 : n = 0
      · subst h0
        have : j = 0 := by omega
        subst this
        exact ⟨[None4], by simp [elems]⟩
      · rw [if_neg h0, hr]; exact ⟨r ++ [comma, None4], by simp [List.append_assoc]⟩
    · have : j = n + 1 := by omega
      subst this; exact ⟨[], by simp⟩
/-- The objects of the open values' row. -/
abbrev OfZ (z : D) : Nat → Prop := fun j => ∃ l c, z = .sl j 0 l c
theorem kids_notP {s : St} {base so k pb bx : Nat} {z y : D} {x : Bs × Bool} {V : List Nat} (h : PS s base so k pb bx z y x) (hk : Kids s z V) : ∀ j, OfP k pb bx y j → ¬ OfZ z j := by
  rintro j hj ⟨l, c, e⟩
  rcases hk with _ | ⟨hk, hn⟩
  · cases e
  · simp only [D.sl.injEq] at e
    obtain ⟨rfl, -⟩ := e
    exact h.other hk (by simp) (by simp) (by simp) (by simp) hj
theorem PS.frameZ {s s1 : St} {base so k pb bx : Nat} {z y : D} {x : Bs × Bool} {V : List Nat} (h : PS s base so k pb bx z y x) (hk : Kids s z V) (hb : Beh (OfP k pb bx y) s s1) : Beh (fun j => base ≤ j ∧ ¬ OfZ z j) s s1 := by
  obtain ⟨n1, n2, n3, n4⟩ := h.nb
  refine hb.mono fun j hj => ⟨?_, kids_notP h hk j hj⟩
  rcases hj with rfl | rfl | rfl | ⟨l, c, e⟩
  · exact n1
  · omega
  · exact n3
  · exact h.ny _ _ _ e
theorem kids_keep {s s1 : St} {base : Nat} {z : D} {V : List Nat} (hs : s.Ok) (hk : Kids s z V) (hb : Beh (fun j => base ≤ j ∧ ¬ OfZ z j) s s1) : Kids s1 z V := by
  rcases hk with _ | ⟨hk, hn⟩
  · exact .nil
  · exact .sl (hb.get hs hk (fun hh => hh.2 ⟨_, _, rfl⟩)) hn
theorem listNone_ev (hT : Tb T) {sb s : St} {so o la ta2 pl mp N k pb bx n lx st : Nat} {L : List (Nat × Nat)} {kd : Nat → Int} {kv : Nat → List Nat} {y z : D} {x : Bs × Bool} {V : List Nat} (hY : YieldOk T H k [25] [(9, .ptr bx 0)] rngA rngB Y) (hsb : sb.Ok) (hS : Sho sb so o la ta2 pl mp N L kd kv) (hlx : sb.get lx = some (.arr 1 3 (full (List.replicate n 0)) st)) (hst : st ≤ n) (hn : n ≤ 100000)
    (h : PS s sb.n so k pb bx z y x) (hb : Beh (fun j => sb.n ≤ j) sb s) (hz : Kids s z V) :
    EvP T Y 101 [.ptr pb 0, .sl lx 0 n n, .fn (.func 25) [.ptr pb 0] []] s fun _ s1 => ∃ y', PS s1 sb.n so k pb bx z y' (emits x (elems n)) ∧ Beh (fun j => sb.n ≤ j ∧ ¬ OfZ z j) s s1 := by
  have llx := hsb.lt hlx
  refine evp_in hT.t101 ?_
  try refine go ?_
  refine run_cnt n (fun j => [(0, .ptr pb 0), (2, .fn (.func 25) [.ptr pb 0] []), (8, .sl lx 0 n n), (9, .int .i64 n), (10, .int .i64 j)]) (fun j s' => ∃ y', PS s' sb.n so k pb bx z y' (emits x (elems j)) ∧ Beh (fun j => sb.n ≤ j ∧ ¬ OfZ z j) s s') ⟨y, h, Beh.refl h.ok⟩ ?_
  rintro j s' hj ⟨y1, h1, hb1⟩
  have hz1 : Kids s' z V := kids_keep h.ok hz hb1
  have hb0 : Beh (fun j => sb.n ≤ j) sb s' := hb.trans (hb1.mono fun i hi => hi.1)
  have g1 := h1.gp
  have g2 := hb0.get hsb hlx (by omega)
  have hok1 := h1.ok
  have lp := hok1.lt g1
  have hsc := kids_sc hz
  rcases Nat.lt_or_ge j n with hl | hl
  · have e1 : (full (List.replicate n 0))[0 + j]? = some (.int .i64 (rf 0 : Nat)) := by
      rw [Nat.zero_add]; simp [full, ints, hl]
    have hlen : (full (List.replicate n 0)).length = n := by simp [full, ints]
    generalize hxx : emits x (elems j) = xx at h1 g1
    obtain ⟨m, on⟩ := xx
    cases on with
    | false =>
      try refine go ?_
      obtain ⟨r, hr⟩ := elems_ext hj
      have e : emits x (elems n) = (m, false) := by rw [hr, emits_app, hxx, emits_off]
      rw [e]
      exact retF_R ⟨y1, h1, hb1⟩
    | true =>
      rcases Nat.eq_zero_or_pos j with rfl | hp
      · have hx0 : x = (m, true) := hxx
        repeat' first | refine go ?_ | (refine call_ev (valueNone_ev hT hY hsb hS h1 hb0 hsc) ?_; rintro d s2 ⟨y2, q1, q2⟩)
        refine ret_cnt hl ⟨y2, ?_, hb1.trans (h1.frameZ hz1 q2)⟩
        rw [hx0]
        exact q1
      · have hj0 : ¬ ((j : Int) ≤ 0) := by omega
        repeat' first | refine go ?_ | (refine call_ev (say_ev hT hY h1 hsc (p := comma) (by decide) (by decide)) ?_; rintro d s2 ⟨y2, q1, q2⟩)
        have f2 := h1.frameZ hz1 q2
        have hz2 := kids_keep hok1 hz1 f2
        have hb2 : Beh (fun j => sb.n ≤ j) sb s2 := hb0.trans (f2.mono fun i hi => hi.1)
        refine call_ev (valueNone_ev hT hY hsb hS q1 hb2 hsc) ?_
        rintro d s3 ⟨y3, q3, q4⟩
        try refine go ?_
        refine ret_cnt hl ⟨y3, ?_, (hb1.trans f2).trans (q1.frameZ hz2 q4)⟩
        have e : emits x (elems (j + 1)) = emit (emit (m, true) comma) None4 := by
          rw [elems, if_neg (by omega), emits_app, hxx]; rfl
        rw [e]; exact q3
  · have : j = n := by omega
    subst this
    try refine go ?_
    exact retF_N ⟨y1, h1, hb1⟩
end
end Go.Proofs.YtloaklflgfefaaaGreatDoor.Tab

namespace Go.Proofs.YtloaklflgfefaaaGreatDoor.Tab
open Go Go.Ab Go.Ab.Sm
set_option linter.unusedSectionVars false
set_option linter.unusedSimpArgs false
set_option linter.unusedVariables false
set_option maxRecDepth 100000
set_option maxHeartbeats 2000000

open Go.Ab.Pieces
section
variable {T : Nat → Option AFn} {H Y : Caller}
theorem rowT_ev (hT : Tb T) {sb : St} {so o la ta2 pl mp N k pb bx n lx ro st : Nat} {L : List (Nat × Nat)} {kd : Nat → Int} {kv : Nat → List Nat} {num : Int} (hY : YieldOk T H k [25] [(9, .ptr bx 0)] rngA rngB Y) (hsb : sb.Ok) (hS : Sho sb so o la ta2 pl mp N L kd kv) (hro : sb.get ro = some (.var 105 (.agg [.int .i64 num, .sl lx 0 n n, .int .i64 5]))) (hlx : sb.get lx = some (.arr 1 3 (full (List.replicate n 0)) st)) (hst : st ≤ n) (hn : n ≤ 100000) (C : List Nat → Prop) :
    TellC T Y sb so k pb bx 58 [.ptr pb 0, .ptr ro 0] C (tupP n) := by
  intro s z y x V h hb hz _ _
  have lro := hsb.lt hro
  have g1 := hb.get hsb hro (by omega)
  have hsc := kids_sc hz
  have ok := h.ok
  refine evp_in hT.t58 ?_
  by_cases h1 : n = 1
  · have hn1 : (n : Int) = 1 := by omega
    repeat' first | refine go ?_ | refine call_in hT.t100 ?_
    refine call_ev (say_ev hT hY h hsc (p := [40]) (by decide) (by decide)) ?_
    rintro d s1 ⟨y1, q1, q2⟩
    have f1 := h.frameZ hz q2
    have hz1 := kids_keep ok hz f1
    have hb1 : Beh (fun j => sb.n ≤ j) sb s1 := hb.trans (f1.mono fun i hi => hi.1)
    have g2 := hb1.get hsb hro (by omega)
    have ok1 := q1.ok
    try refine go ?_
    refine call_ev (listNone_ev hT hY hsb hS hlx hst hn q1 hb1 hz1) ?_
    rintro d s2 ⟨y2, q3, q4⟩
    have hz2 := kids_keep ok1 hz1 q4
    have ok2 := q3.ok
    try refine go ?_
    refine call_ev (say_ev hT hY q3 hsc (p := [44, 41]) (by decide) (by decide)) ?_
    rintro d s3 ⟨y3, q5, q6⟩
    have f3 := q3.frameZ hz2 q6
    have hz3 := kids_keep ok2 hz2 f3
    try refine go ?_
    refine retF_N ⟨z, y3, ?_, zlen_of hz3, ((f1.trans q4).trans f3).mono fun i hi => hi.1⟩
    have e : emits x (tupP n) = emit (emits (emit x [40]) (elems n)) [44, 41] := by
      rw [tupP, emits_app, emits_app, show shutT n = [44, 41] by simp [shutT, h1]]; rfl
    rw [e]; exact q5
  · have hn1 : ¬ (n : Int) = 1 := by omega
    repeat' first | refine go ?_ | refine call_in hT.t100 ?_
    refine call_ev (say_ev hT hY h hsc (p := [40]) (by decide) (by decide)) ?_
    rintro d s1 ⟨y1, q1, q2⟩
    have f1 := h.frameZ hz q2
    have hz1 := kids_keep ok hz f1
    have hb1 : Beh (fun j => sb.n ≤ j) sb s1 := hb.trans (f1.mono fun i hi => hi.1)
    have g2 := hb1.get hsb hro (by omega)
    have ok1 := q1.ok
    try refine go ?_
    refine call_ev (listNone_ev hT hY hsb hS hlx hst hn q1 hb1 hz1) ?_
    rintro d s2 ⟨y2, q3, q4⟩
    have hz2 := kids_keep ok1 hz1 q4
    have ok2 := q3.ok
    try refine go ?_
    refine call_ev (say_ev hT hY q3 hsc (p := [41]) (by decide) (by decide)) ?_
    rintro d s3 ⟨y3, q5, q6⟩
    have f3 := q3.frameZ hz2 q6
    have hz3 := kids_keep ok2 hz2 f3
    try refine go ?_
    refine retF_N ⟨z, y3, ?_, zlen_of hz3, ((f1.trans q4).trans f3).mono fun i hi => hi.1⟩
    have e : emits x (tupP n) = emit (emits (emit x [40]) (elems n)) [41] := by
      rw [tupP, emits_app, emits_app, show shutT n = [41] by simp [shutT, h1]]; rfl
    rw [e]; exact q5
theorem zlen_sc {s : St} {z : D} {d : Nat} (h : ZLen s z d) : z.sc = true := by
  rcases h with ⟨rfl, _⟩ | ⟨_, _, _, rfl, _⟩ <;> rfl
theorem PS.zlen {s s1 : St} {base so k pb bx d : Nat} {z z0 y : D} {x : Bs × Bool} (h : PS s base so k pb bx z0 y x) (hz : ZLen s z d) (hb : Beh (OfP k pb bx y) s s1) : ZLen s1 z d := by
  rcases hz with hz | ⟨oo, cp, es, h1, h2, h3, h4⟩
  · exact .inl hz
  · exact .inr ⟨oo, cp, es, h1, h2, h3, hb.get h.ok h4 (h.other h4 (by simp) (by simp) (by simp) (by simp))⟩
theorem listOne_ev (hT : Tb T) {sb s : St} {so k pb bx lx c st : Nat} {y z : D} {x : Bs × Bool} {V : List Nat} {C : List Nat → Prop} {P : List Bs} (hsb : sb.Ok) (hlx : sb.get lx = some (.arr 1 3 (full [c]) st)) (hst : st ≤ 1) (hI : TellC T Y sb so k pb bx 25 [.ptr pb 0, .int .i64 (rf c : Nat)] C P)
    (h : PS s sb.n so k pb bx z y x) (hb : Beh (fun j => sb.n ≤ j) sb s) (hz : Kids s z V) (hzb : ∀ o l c, z = .sl o 0 l c → sb.n ≤ o) (hC : C V) :
    EvP T Y 101 [.ptr pb 0, .sl lx 0 1 1, .fn (.func 25) [.ptr pb 0] []] s fun _ s1 => ∃ z' y', PS s1 sb.n so k pb bx z' y' (emits x P) ∧ ZLen s1 z' V.length ∧ Beh (fun j => sb.n ≤ j) s s1 := by
  have llx := hsb.lt hlx
  have g2 := hb.get hsb hlx (by omega)
  have g1 := h.gp
  have ok := h.ok
  have hlen : (full [c]).length = 1 := rfl
  have e1 : (full [c])[0 + 0]? = some (.int .i64 (rf c : Nat)) := rfl
  have hev := hI s z y x V h hb hz hzb hC
  refine evp_in hT.t101 ?_
  obtain ⟨m, on⟩ := x
  try refine go ?_
  refine run_again (env := [(0, .ptr pb 0), (2, .fn (.func 25) [.ptr pb 0] []), (8, .sl lx 0 1 1), (9, .int .i64 (1 : Nat)), (10, .int .i64 (0 : Nat))]) ?_
  cases on with
  | false =>
    try refine go ?_
    rw [emits_off]
    exact retF_R ⟨z, y, h, zlen_of hz, Beh.refl ok⟩
  | true =>
    repeat' first | refine go ?_ | (refine call_ev hev ?_; rintro d s1 ⟨z1, y1, q1, q2, q3⟩)
    refine ret_againN ?_
    refine run_again ?_
    try refine go ?_
    exact retF_N ⟨z1, y1, q1, q2, q3⟩
theorem rowL_ev (hT : Tb T) {sb : St} {so k pb bx lx ro c st : Nat} {num : Int} {C : List Nat → Prop} {P : List Bs} (hY : YieldOk T H k [25] [(9, .ptr bx 0)] rngA rngB Y) (hsb : sb.Ok) (hro : sb.get ro = some (.var 105 (.agg [.int .i64 num, .sl lx 0 1 1, .int .i64 6]))) (hlx : sb.get lx = some (.arr 1 3 (full [c]) st)) (hst : st ≤ 1) (hI : TellC T Y sb so k pb bx 25 [.ptr pb 0, .int .i64 (rf c : Nat)] C P) :
    TellC T Y sb so k pb bx 58 [.ptr pb 0, .ptr ro 0] C ([[91]] ++ P ++ [[93]]) := by
  intro s z y x V h hb hz hzb hC
  have lro := hsb.lt hro
  have g1 := hb.get hsb hro (by omega)
  have hsc := kids_sc hz
  have ok := h.ok
  refine evp_in hT.t58 ?_
  repeat' first | refine go ?_ | refine call_in hT.t100 ?_
  refine call_ev (say_ev hT hY h hsc (p := [91]) (by decide) (by decide)) ?_
  rintro d s1 ⟨y1, q1, q2⟩
  have f1 := h.frameZ hz q2
  have hz1 := kids_keep ok hz f1
  have hb1 : Beh (fun j => sb.n ≤ j) sb s1 := hb.trans (f1.mono fun i hi => hi.1)
  have g2 := hb1.get hsb hro (by omega)
  have ok1 := q1.ok
  try refine go ?_
  refine call_ev (listOne_ev hT hsb hlx hst hI q1 hb1 hz1 hzb hC) ?_
  rintro d s2 ⟨z2, y2, q3, q4, q5⟩
  have ok2 := q3.ok
  try refine go ?_
  refine call_ev (say_ev hT hY q3 (zlen_sc q4) (p := [93]) (by decide) (by decide)) ?_
  rintro d s3 ⟨y3, q6, q7⟩
  try refine go ?_
  refine retF_N ⟨z2, y3, ?_, q3.zlen q4 q7, ((f1.mono fun i hi => hi.1).trans q5).trans (q3.frame q7)⟩
  have e : emits x ([[91]] ++ P ++ [[93]]) = emit (emits (emit x [91]) P) [93] := by
    rw [emits_app, emits_app]; rfl
  rw [e]; exact q6
end
end Go.Proofs.YtloaklflgfefaaaGreatDoor.Tab
