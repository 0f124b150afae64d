/- A value's text. -/
import Derived.Test.YtloaklflgfefaaaGreatDoorU6
namespace Go.Proofs.YtloaklflgfefaaaGreatDoor.Tab
open Go Go.Ab Go.Ab.Sm
set_option linter.unusedSectionVars false
set_option linter.unusedSimpArgs false
set_option linter.unusedVariables false
set_option maxRecDepth 100000
set_option maxHeartbeats 2000000

open Go.Ab.Pieces
section
variable {T : Nat → Option AFn} {H Y : Caller}
theorem contains_ev (hT : Tb T) {s : St} {z : D} {V : List Nat} {v : Nat} (hs : s.Ok) (hz : Kids s z V) (hv : v ∉ V) (hl : V.length ≤ 100000) :
    EvP T H 99 [z, .int .i64 v] s fun d s1 => d = .bool false ∧ s1 = s := by
  rcases hz with _ | ⟨hz, hn⟩
  · refine evp_in hT.t99 ?_
    repeat' first | refine go ?_ | refine call_in hT.t143 ?_
    refine run_again ?_
    try refine go ?_
    exact retF_R ⟨rfl, rfl⟩
  · rename_i oo
    refine evp_in hT.t99 ?_
    repeat' first | refine go ?_ | refine call_in hT.t143 ?_
    refine run_cnt V.length (fun j => [(0, .sl oo 0 V.length V.length), (1, .int .i64 v), (7, .int .i64 V.length), (8, .int .i64 j)]) (fun j s' => s' = s) rfl ?_
    rintro j s' hj rfl
    rcases Nat.lt_or_ge j V.length with hlt | hge
    · have e1 : (V.map fun v : Nat => D.int .i64 (v : Int))[0 + j]? = some (.int .i64 (V[j] : Nat)) := by simp [hlt]
      have e2 : v ≠ V[j] := fun e => hv (e ▸ List.getElem_mem hlt)
      generalize V[j] = w at e1 e2
      try refine go ?_
      exact ret_cnt hlt rfl
    · try refine go ?_
      exact retF_R ⟨rfl, rfl⟩
/-- The open values are others. -/
theorem PS.push {W : Nat → Prop} {s s' : St} {base so k pb bx : Nat} {z z1 y : D} {x : Bs × Bool} (h : PS s base so k pb bx z y x) (hb : Beh W s s') (hw : ∀ j, OfP k pb bx y j → ¬ W j) :
    PS (s'.set0 pb (.var 114 (.agg [.ptr so 0, .yl k, z1, .bool x.2]))) base so k pb bx z1 y x ∧ Beh (fun j => j = pb) s' (s'.set0 pb (.var 114 (.agg [.ptr so 0, .yl k, z1, .bool x.2]))) := by
  have h1 := h.beh hb hw
  have hn := hb.n
  obtain ⟨n1, n2, n3, n4⟩ := h1.nb
  have lp := h1.ok.lt h1.gp
  have hb2 : Beh (fun j => j = pb) s' (s'.set0 pb (.var 114 (.agg [.ptr so 0, .yl k, z1, .bool x.2]))) := Beh.set (Beh.refl h1.ok) _ lp (fun _ => rfl)
  refine ⟨⟨hb2.ok, St.get_set_eq, hb2.get h1.ok h1.gl ?_, h1.bd.beh h1.ok hb2 ?_ ?_, h1.l1, h1.l2, ⟨n1, n2, n3, n4⟩, h1.ny⟩, hb2⟩
  · intro e; have := h1.gl; rw [e, h1.gp] at this; cases this
  · intro e; obtain ⟨⟨a, _, hg⟩, _⟩ := h1.bd; rw [e, h1.gp] at hg; simp at hg
  · intro o l c e hh
    rcases h1.bd.hy with ⟨e', _⟩ | ⟨_, o', e', hg⟩
    · rw [e'] at e; cases e
    · rw [e'] at e
      simp only [D.sl.injEq] at e
      rw [e.1, hh, h1.gp] at hg; cases hg
theorem within0_ev (hT : Tb T) {sb s : St} {so k pb bx v c1 c2 : Nat} {y z : D} {x : Bs × Bool} {V : List Nat} (hY : YieldOk T H k [25] [(9, .ptr bx 0)] rngA rngB Y) (h : PS s sb.n so k pb bx z y x) (hz : Kids s z V) (hV : V.length = 20) (hv : v ∉ V) :
    EvP T Y 56 [.ptr pb 0, .int .i64 v, .fn (.func 57) [] [.ptr c1 0, .ptr c2 0]] s fun _ s1 => ∃ z' y', PS s1 sb.n so k pb bx z' y' (emits x [dots]) ∧ ZLen s1 z' V.length ∧ Beh (fun j => sb.n ≤ j) s s1 := by
  have ok := h.ok
  have g1 := h.gp
  have hsc := kids_sc hz
  have hz0 := hz
  refine evp_in hT.t56 ?_
  rcases hz with _ | ⟨hz, hn⟩
  · simp at hV
  · have hV' : (20 : Int) ≤ (V.length : Int) := by omega
    repeat' first | refine go ?_ | (refine call_ev (contains_ev hT ok hz0 hv (by omega)) ?_; rintro d s1 ⟨rfl, rfl⟩) | (refine call_ev (say_ev hT hY h hsc (p := dots) (by decide) (by decide)) ?_; rintro d s1 ⟨y1, q1, q2⟩)
    exact retF_R ⟨_, y1, q1, h.zlen (zlen_of hz0) q2, h.frame q2⟩
theorem within1_ev (hT : Tb T) {sb s : St} {so k pb bx v r c1 c2 ro : Nat} {y z : D} {x : Bs × Bool} {V : List Nat} {C : List Nat → Prop} {P : List Bs} (hY : YieldOk T H k [25] [(9, .ptr bx 0)] rngA rngB Y) (hsb : sb.Ok) (hR : TellC T Y sb so k pb bx 58 [.ptr pb 0, .ptr ro 0] C P) (h : PS s sb.n so k pb bx z y x) (hb : Beh (fun j => sb.n ≤ j) sb s) (hz : Kids s z V) (hzb : ∀ o l c, z = .sl o 0 l c → sb.n ≤ o) (hV : V.length + (r + 1) = 20) (hv : v ∉ V) (hC : C (V ++ [v]))
    (hc1 : s.get c1 = some (.var 112 (.ptr pb 0))) (hc2 : s.get c2 = some (.var 99 (.ptr ro 0))) :
    EvP T Y 56 [.ptr pb 0, .int .i64 v, .fn (.func 57) [] [.ptr c1 0, .ptr c2 0]] s fun _ s1 => ∃ z' y', PS s1 sb.n so k pb bx z' y' (emits x P) ∧ ZLen s1 z' V.length ∧ Beh (fun j => sb.n ≤ j) s s1 := by
  have ok := h.ok
  have g1 := h.gp
  have lp := ok.lt g1
  have hsc := kids_sc hz
  have hz0 := hz
  refine evp_in hT.t56 ?_
  have hV' : ¬ (20 : Int) ≤ (V.length : Int) := by omega
  have lc1 := ok.lt hc1
  have lc2 := ok.lt hc2
  have nc1 : c1 ≠ pb := by rintro rfl; rw [g1] at hc1; simp at hc1
  have nc2 : c2 ≠ pb := by rintro rfl; rw [g1] at hc2; simp at hc2
  obtain ⟨n1, n2, n3, n4⟩ := h.nb
  rcases hz with _ | ⟨hz, hn⟩
  · repeat' first | refine go ?_ | (refine call_ev (contains_ev hT ok hz0 hv (by omega)) ?_; rintro d s1 ⟨rfl, rfl⟩)
    have hb1 : Beh Nil s1 (s1.push0 (.arr 1 3 [.int .i64 v] 0)) := Beh.push (Beh.refl ok) _
    obtain ⟨hps, hb2⟩ := h.push (z1 := .sl s1.n 0 1 1) hb1 (fun _ _ hh => hh)
    have hsb2 := (hb.trans' hb1 fun _ hh _ => hh.elim).trans' hb2 fun j hj _ => (by rw [hj]; exact n1 : sb.n ≤ j)
    have hk2 : Kids ((s1.push0 (.arr 1 3 [.int .i64 v] 0)).set0 pb (.var 114 (.agg [.ptr so 0, .yl k, .sl s1.n 0 1 1, .bool x.2]))) (.sl s1.n 0 1 1) ([] ++ [v]) := Kids.sl (s := ((s1.push0 (.arr 1 3 [.int .i64 v] 0)).set0 pb (.var 114 (.agg [.ptr so 0, .yl k, .sl s1.n 0 1 1, .bool x.2])))) (V := [v]) (St.get_set_ne St.get_push_eq (by omega)) (by simp)
    refine call_in hT.t57 ?_
    try refine go ?_
    refine call_ev (hR _ (.sl s1.n 0 1 1) y x ([] ++ [v]) hps hsb2 hk2 (fun o l c e => by simp only [D.sl.injEq] at e; omega) hC) ?_
    rintro d s2 ⟨z2, y2, q1, q2, q3⟩
    have q5 := q1.ok
    have q6 := q1.gp
    have lp2 := q5.lt q6
    rw [List.length_append, List.length_singleton] at q2
    rcases q2 with ⟨_, q2⟩ | ⟨o2, cp, es, rfl, b1, b2, b3⟩
    · omega
    have lo2 := q5.lt b3
    try refine go ?_
    have hw : IntKind.wrap .i64 (((([] : List Nat).length + 1 : Nat) : Int) - 1) = ((([] : List Nat).length : Nat) : Int) := by
      rw [wrap_small (by omega) (by omega)]; omega
    refine dops_ssl (hi' := ([] : List Nat).length) (hb1 := by show idx (.int .i64 (IntKind.wrap .i64 _)) = _; rw [hw]; exact idx_i) ?_
    try refine go ?_
    obtain ⟨hps3, hb3⟩ := q1.push (z1 := .sl o2 0 ([] : List Nat).length cp) (Beh.refl (W := Nil) q5) (fun _ _ hh => hh)
    refine retF_N ⟨_, y2, hps3, .inr ⟨o2, cp, es, rfl, by omega, by omega, hb3.get q5 b3 (by rintro rfl; rw [q6] at b3; cases b3)⟩, ?_⟩
    refine (Beh.trans' (W := fun j => sb.n ≤ j) (hb1.mono fun _ hh => hh.elim) (hb2.mono fun j hj => (by rw [hj]; exact n1 : sb.n ≤ j)) fun j hj _ => hj).trans (q3.trans (hb3.mono fun j hj => (by rw [hj]; exact n1 : sb.n ≤ j)))
  · rename_i oo
    have lo := ok.lt hz
    have hop : oo ≠ pb := by rintro rfl; rw [g1] at hz; cases hz
    have hlV : (V.map fun v : Nat => D.int .i64 (v : Int)).length = V.length := List.length_map _
    repeat' first | refine go ?_ | (refine call_ev (contains_ev hT ok hz0 hv (by omega)) ?_; rintro d s1 ⟨rfl, rfl⟩)
    have nco1 : c1 ≠ oo := by rintro rfl; rw [hz] at hc1; cases hc1
    have nco2 : c2 ≠ oo := by rintro rfl; rw [hz] at hc2; cases hc2
    have hb1 : Beh (fun j => j = oo) s1 (s1.set0 oo (.arr 1 3 ((V.map fun v : Nat => D.int .i64 (v : Int)) ++ [.int .i64 v]) 0)) := Beh.set (Beh.refl ok) _ lo (fun _ => rfl)
    obtain ⟨hps, hb2⟩ := h.push (z1 := .sl oo 0 (V.length + 1) (V.length + 1)) hb1 (fun j hj hh => by
      subst hh; exact h.other hz (by simp) (by simp) (by simp) (by simp) hj)
    have hoo := hzb oo _ _ rfl
    have hsb2 := (hb.trans' hb1 fun j hh _ => (by rw [hh]; exact hoo : sb.n ≤ j)).trans' hb2 fun j hj _ => (by rw [hj]; exact n1 : sb.n ≤ j)
    have hk2 : Kids ((s1.set0 oo (.arr 1 3 ((V.map fun v : Nat => D.int .i64 (v : Int)) ++ [.int .i64 v]) 0)).set0 pb (.var 114 (.agg [.ptr so 0, .yl k, .sl oo 0 (V.length + 1) (V.length + 1), .bool x.2]))) (.sl oo 0 (V.length + 1) (V.length + 1)) (V ++ [v]) := by
      have h9 : ((s1.set0 oo (.arr 1 3 ((V.map fun v : Nat => D.int .i64 (v : Int)) ++ [.int .i64 v]) 0)).set0 pb (.var 114 (.agg [.ptr so 0, .yl k, .sl oo 0 (V.length + 1) (V.length + 1), .bool x.2]))).get oo = some (.arr 1 3 ((V ++ [v]).map fun v : Nat => D.int .i64 (v : Int)) 0) := by
        refine St.get_set_ne ?_ hop
        rw [St.get_set_eq, List.map_append]; rfl
      have := Kids.sl (V := V ++ [v]) h9 (by simp)
      rw [List.length_append] at this
      exact this
    refine call_in hT.t57 ?_
    try refine go ?_
    refine call_ev (hR _ (.sl oo 0 (V.length + 1) (V.length + 1)) y x (V ++ [v]) hps hsb2 hk2 (fun o l c e => by simp only [D.sl.injEq] at e; omega) hC) ?_
    rintro d s2 ⟨z2, y2, q1, q2, q3⟩
    have q5 := q1.ok
    have q6 := q1.gp
    have lp2 := q5.lt q6
    rw [List.length_append, List.length_singleton] at q2
    rcases q2 with ⟨_, q2⟩ | ⟨o2, cp, es, rfl, b1, b2, b3⟩
    · omega
    have lo2 := q5.lt b3
    try refine go ?_
    have hw : IntKind.wrap .i64 (((V.length + 1 : Nat) : Int) - 1) = ((V.length : Nat) : Int) := by
      rw [wrap_small (by omega) (by omega)]; omega
    refine dops_ssl (hi' := V.length) (hb1 := by show idx (.int .i64 (IntKind.wrap .i64 _)) = _; rw [hw]; exact idx_i) ?_
    try refine go ?_
    obtain ⟨hps3, hb3⟩ := q1.push (z1 := .sl o2 0 V.length cp) (Beh.refl (W := Nil) q5) (fun _ _ hh => hh)
    refine retF_N ⟨_, y2, hps3, .inr ⟨o2, cp, es, rfl, by omega, by omega, hb3.get q5 b3 (by rintro rfl; rw [q6] at b3; cases b3)⟩, ?_⟩
    refine (Beh.trans' (W := fun j => sb.n ≤ j) (hb1.mono fun j hh => (by rw [hh]; exact hoo : sb.n ≤ j)) (hb2.mono fun j hj => (by rw [hj]; exact n1 : sb.n ≤ j)) fun j hj _ => hj).trans (q3.trans (hb3.mono fun j hj => (by rw [hj]; exact n1 : sb.n ≤ j)))
end
end Go.Proofs.YtloaklflgfefaaaGreatDoor.Tab

namespace Go.Proofs.YtloaklflgfefaaaGreatDoor.Tab
open Go Go.Ab Go.Ab.Sm
set_option linter.unusedSectionVars false
set_option linter.unusedSimpArgs false
set_option linter.unusedVariables false
set_option maxRecDepth 100000
set_option maxHeartbeats 2000000

open Go.Ab.Pieces
section
variable {T : Nat → Option AFn} {H Y : Caller}
theorem valueRow_ev (hT : Tb T) {sb : St} {so o la ta2 pl mp N k pb bx i r : Nat} {L : List (Nat × Nat)} {kd : Nat → Int} {kv : Nat → List Nat} {p : Nat × Nat} {C : List Nat → Prop} {P Q : List Bs} (hY : YieldOk T H k [25] [(9, .ptr bx 0)] rngA rngB Y) (hsb : sb.Ok) (hS : Sho sb so o la ta2 pl mp N L kd kv) (h1 : 1 ≤ i) (h2 : i < N) (hp : L[i - 1]? = some p)
    (hR : ∀ r', r = r' + 1 → TellC T Y sb so k pb bx 58 [.ptr pb 0, .ptr p.1 0] C P ∧ Q = P) (h0 : r = 0 → Q = [dots]) (hCV : ∀ V : List Nat, ∀ r', r = r' + 1 → V.length + r = 20 → (∀ v ∈ V, rf i < v) → C (V ++ [rf i])) :
    TellC T Y sb so k pb bx 25 [.ptr pb 0, .int .i64 (rf i : Nat)] (fun V => V.length + r = 20 ∧ ∀ v ∈ V, rf i < v) Q := by
  rintro s z y x V h hb hz hzb ⟨hV, hlt⟩
  have hok := h.ok
  have gp := h.gp
  have lp := hok.lt gp
  have hp1 : Beh Nil s (s.push0 (.var 112 (.ptr pb 0))) := Beh.push (Beh.refl hok) _
  have hb1 := h.beh hp1 (fun _ _ hh => hh)
  have hS1 := hS.beh hsb (hb.push (.var 112 (.ptr pb 0)))
  have ok1 := hp1.ok
  have hnv : rf i ∉ V := fun hh => by have := hlt _ hh; omega
  obtain ⟨m, on⟩ := x
  refine evp_in hT.t25 ?_
  cases on with
  | false =>
    try refine go ?_
    rw [emits_off]
    exact retF_R ⟨z, y, hb1, zlen_of (hz.beh hok hp1 (fun _ _ _ _ hh => hh)), hp1.mono fun _ hh => hh.elim⟩
  | true =>
    repeat' first | refine go ?_ | (refine call_ev (objectRow_ev hT ok1 hS1 h1 h2 hp) ?_; rintro d s1 ⟨rfl, rfl⟩)
    have hX : Beh Nil s (((s.push0 (.var 112 (.ptr pb 0))).push0 (.var 99 .nilp)).set0 (s.push0 (.var 112 (.ptr pb 0))).n (.var 99 (.ptr p.1 0))) :=
      Beh.set (Beh.push (Beh.push (Beh.refl hok) _) _) _ (by simp only [St.n_push0]; omega) (fun hh => by simp only [St.n_push0] at hh; omega)
    have psX := h.beh hX (fun _ _ hh => hh)
    have kX : Kids _ z V := hz.beh hok hX (fun _ _ _ _ hh => hh)
    have hbX : Beh (fun j => sb.n ≤ j) sb _ := hb.trans' hX fun _ hh _ => hh.elim
    have hc1 : (((s.push0 (.var 112 (.ptr pb 0))).push0 (.var 99 .nilp)).set0 (s.push0 (.var 112 (.ptr pb 0))).n (.var 99 (.ptr p.1 0))).get s.n = some (.var 112 (.ptr pb 0)) :=
      St.get_set_ne (St.get_push_ne St.get_push_eq (by simp only [St.n_push0]; omega)) (by simp only [St.n_push0]; omega)
    have hc2 : (((s.push0 (.var 112 (.ptr pb 0))).push0 (.var 99 .nilp)).set0 (s.push0 (.var 112 (.ptr pb 0))).n (.var 99 (.ptr p.1 0))).get (s.push0 (.var 112 (.ptr pb 0))).n = some (.var 99 (.ptr p.1 0)) := St.get_set_eq
    have hXb : Beh (fun j => sb.n ≤ j) s _ := hX.mono fun _ hh => hh.elim
    cases r with
    | zero =>
      refine call_ev (within0_ev hT hY psX kX hV hnv) ?_
      rintro d s2 ⟨z2, y2, q1, q2, q3⟩
      try refine go ?_
      rw [h0 rfl]
      exact retF_N ⟨z2, y2, q1, q2, hXb.trans q3⟩
    | succ r' =>
      obtain ⟨hR1, rfl⟩ := hR r' rfl
      refine call_ev (within1_ev hT hY hsb hR1 psX hbX kX hzb hV hnv (hCV V r' rfl hV hlt) hc1 hc2) ?_
      rintro d s2 ⟨z2, y2, q1, q2, q3⟩
      try refine go ?_
      exact retF_N ⟨z2, y2, q1, q2, hXb.trans q3⟩
/-- The law's values: None, a tuple of n Nones, lists of the one ahead. -/
def kdS (i : Nat) : Int := if i = 0 then 1 else if i = 1 then 5 else 6
def kvS (n i : Nat) : List Nat := if i = 0 then [] else if i = 1 then List.replicate n 0 else [i - 1]
theorem value_ev (hT : Tb T) {sb : St} {so o la ta2 pl mp N k pb bx n : Nat} {L : List (Nat × Nat)} (hY : YieldOk T H k [25] [(9, .ptr bx 0)] rngA rngB Y) (hsb : sb.Ok) (hS : Sho sb so o la ta2 pl mp N L kdS (kvS n)) (hn : n ≤ 100000) : ∀ i, 1 ≤ i → i < N → ∀ r,
    TellC T Y sb so k pb bx 25 [.ptr pb 0, .int .i64 (rf i : Nat)] (fun V => V.length + r = 20 ∧ ∀ v ∈ V, rf i < v) (pcs n (i - 1) r)
  | 0, h1, _, _ => by omega
  | 1, h1, h2, r => by
    obtain ⟨p, q1, q2, q3, st, q4, q5⟩ := hS.row h1 h2
    have e1 : kvS n 1 = List.replicate n 0 := by simp [kvS]
    have e2 : kdS 1 = 5 := by simp [kdS]
    rw [e1, e2, List.length_replicate] at q3
    rw [e1] at q4 q5
    rw [List.length_replicate] at q4
    refine valueRow_ev (P := tupP n) (C := fun _ => True) hT hY hsb hS h1 h2 q1 (fun r' hr => ?_) (fun hr => ?_) (fun V r' _ _ _ => trivial)
    · subst hr
      exact ⟨rowT_ev hT hY hsb hS q3 q5 q4 hn _, by simp [pcs]⟩
    · subst hr; simp [pcs]
  | i + 2, h1, h2, r => by
    obtain ⟨p, q1, q2, q3, st, q4, q5⟩ := hS.row h1 h2
    have e1 : kvS n (i + 2) = [i + 1] := by simp [kvS]
    have e2 : kdS (i + 2) = 6 := by simp [kdS]
    rw [e1, e2, List.length_singleton] at q3
    rw [e1] at q4 q5
    have h9 : rf (i + 1) < rf (i + 2) := by simp [rf]
    refine valueRow_ev (P := [[91]] ++ pcs n (i + 1 - 1) (r - 1) ++ [[93]]) (C := fun V => V.length + (r - 1) = 20 ∧ ∀ v ∈ V, rf (i + 1) < v) hT hY hsb hS h1 h2 q1 (fun r' hr => ?_) (fun hr => ?_) (fun V r' hr hV hv => ?_)
    · subst hr
      refine ⟨rowL_ev hT hY hsb q3 q5 q4 (value_ev hT hY hsb hS hn (i + 1) (by omega) (by omega) r'), ?_⟩
      rfl
    · subst hr; rfl
    · subst hr
      refine ⟨by simp only [List.length_append, List.length_singleton]; omega, fun v hv' => ?_⟩
      rcases List.mem_append.1 hv' with hv' | hv'
      · have := hv v hv'; omega
      · simp only [List.mem_singleton] at hv'; omega
end
end Go.Proofs.YtloaklflgfefaaaGreatDoor.Tab

namespace Go.Proofs.YtloaklflgfefaaaGreatDoor.Tab
open Go Go.Ab Go.Ab.Sm
set_option linter.unusedSectionVars false
set_option linter.unusedSimpArgs false
set_option linter.unusedVariables false
set_option maxRecDepth 100000
set_option maxHeartbeats 2000000

open Go.Ab.Pieces
section
variable {T : Nat → Option AFn} {H Y : Caller}
theorem run_rangef {k : List Kont} {Q : QP} {fr : Fr} {s : St} {keep : List Nat} {g : Opd} {ps : List Nat} {a b : AC} {gf : Nat} {caps : List D}
    (h : ∀ Y, YieldOk T H s.n ps (fr.env.keep keep) a b Y → EvP T Y gf (.yl s.n :: caps) ((s.push0 .dead).push0 (.loop s.n .ready)) fun _ s2 =>
      ∃ st x s3, s2.get (s.n + 1) = some (.loop s.n st) ∧ exOf st = some x ∧ s2.set (s.n + 1) .dead = some s3 ∧ Ret T H x k { fr with defers := (.nilf, []) :: fr.defers } s3 Q)
    (hg : g.ev fr.env = some (.fn (.func gf) [] caps)) (hro : s.ro = false) (hp : (fr.env.keep keep).plain = true) : Run T H (.rangef keep g ps a b) k fr s Q := by
  refine ⟨wp_rangef hg hro hp fun Y hY => ?_⟩
  obtain ⟨d, s2, h1, st, x, s3, h2, h3, h4, h5⟩ := h Y hY
  exact ⟨d, s2, h1, st, x, s3, h2, h3, h4, h5.out⟩
theorem all1_ev (hT : Tb T) {sb s : St} {so o la ta2 pl mp N n i k bx c1 c2 : Nat} {L : List (Nat × Nat)} (hY : YieldOk T H k [25] [(9, .ptr bx 0)] rngA rngB Y) (hsb : sb.Ok) (hS : Sho sb so o la ta2 pl mp N L kdS (kvS n)) (hn : n ≤ 100000) (h1 : 1 ≤ i) (h2 : i < N) (hs : s.Ok) (hb : Beh (fun j => sb.n ≤ j) sb s)
    (g1 : s.get c1 = some (.var 30 (.ptr so 0))) (g2 : s.get c2 = some (.var 3 (.int .i64 (rf i : Nat)))) (g3 : s.get (k + 1) = some (.loop k .ready)) (g4 : s.get bx = some (.var 53 (.agg [.nilp, .vs true 0 []]))) (n1 : sb.n ≤ k) (n2 : sb.n ≤ bx) :
    EvP T Y 24 [.yl k, .ptr c1 0, .ptr c2 0] s fun _ s2 => ∃ z y pb, PS s2 sb.n so k pb bx z y (emits ([], true) (pcs n (i - 1) 20)) ∧ Beh (fun j => sb.n ≤ j) s s2 := by
  have hb1 : Beh Nil s (s.push0 (.var 114 (.agg [.ptr so 0, .yl k, .vs true 0 [], .bool true]))) := Beh.push (Beh.refl hs) _
  have hn0 := hb.n
  have hps : PS (s.push0 (.var 114 (.agg [.ptr so 0, .yl k, .vs true 0 [], .bool true]))) sb.n so k s.n bx (.vs true 0 []) (.vs true 0 []) ([], true) :=
    ⟨hb1.ok, St.get_push_eq, hb1.get hs g3 (fun hh => hh), ⟨⟨_, .inl rfl, hb1.get hs g4 (fun hh => hh)⟩, .inl ⟨rfl, rfl⟩⟩, fun _ => Nat.zero_le _, Nat.zero_le _, ⟨hn0, n1, n2, by rw [St.n_push0]; omega⟩, fun _ _ _ e => (by cases e)⟩
  have l1 := hs.lt g1
  have l2 := hs.lt g2
  refine evp_in hT.t24 ?_
  try refine go ?_
  refine call_ev (value_ev hT hY hsb hS hn i h1 h2 20 _ (.vs true 0 []) (.vs true 0 []) ([], true) [] hps (hb.trans' hb1 fun _ hh _ => hh.elim) .nil (fun _ _ _ e => by cases e) ⟨rfl, fun v hv => by cases hv⟩) ?_
  rintro d s2 ⟨z, y, q1, q2, q3⟩
  try refine go ?_
  exact retF_N ⟨z, y, _, q1, (hb1.mono fun _ hh => hh.elim).trans q3⟩
theorem text_ev (hT : Tb T) {s0 : St} {so o la ta2 pl mp N n i : Nat} {L : List (Nat × Nat)} (hs : s0.Ok) (hS : Sho s0 so o la ta2 pl mp N L kdS (kvS n)) (hn : n ≤ 100000) (h1 : 1 ≤ i) (h2 : i < N) :
    EvP T H 6 [.ptr so 0, .int .i64 (rf i : Nat), .bool false] s0 fun d s1 => d = .str (emits ([], true) (pcs n (i - 1) 20)).1 ∧ Beh (fun j => s0.n ≤ j) s0 s1 := by
  refine evp_in hT.t6 ?_
  repeat' first | refine go ?_ | (refine call_ev (storeText_ev hT hs hS h1 h2) ?_; rintro d s1 ⟨rfl, rfl⟩) | refine call_in hT.t12 ?_
  have hR : Beh Nil s1 (((s1.push0 (.var 53 (.agg [.nilp, .vs true 0 []]))).push0 (.var 30 (.ptr so 0))).push0 (.var 3 (.int .i64 (rf i : Nat)))) := Beh.push (Beh.push (Beh.push (Beh.refl hs) _) _) _
  have hLn : (((s1.push0 (.var 53 (.agg [.nilp, .vs true 0 []]))).push0 (.var 30 (.ptr so 0))).push0 (.var 3 (.int .i64 (rf i : Nat)))).n = s1.n + 3 := rfl
  refine run_rangef (gf := 24) (caps := [.ptr (s1.n + 1) 0, .ptr (s1.n + 2) 0]) (fun Y hY => ?_) rfl hR.ok.ro rfl
  have hR2 := (hR.push .dead).push (.loop (((s1.push0 (.var 53 (.agg [.nilp, .vs true 0 []]))).push0 (.var 30 (.ptr so 0))).push0 (.var 3 (.int .i64 (rf i : Nat)))).n .ready)
  have hY' : YieldOk T H (((s1.push0 (.var 53 (.agg [.nilp, .vs true 0 []]))).push0 (.var 30 (.ptr so 0))).push0 (.var 3 (.int .i64 (rf i : Nat)))).n [25] [(9, .ptr s1.n 0)] rngA rngB Y := hY
  refine EvP.mono (all1_ev (sb := s1) hT hY' hs hS hn h1 h2 hR2.ok (hR2.mono fun _ hh => hh.elim) (by repeat (first | assumption | exact Go.Ab.St.get_set_eq | exact Go.Ab.St.get_push_eq | refine Go.Ab.St.get_set_ne ?_ (by first | assumption | (apply Ne.symm; assumption) | omega | (simp only [Go.Ab.St.n_push0, Go.Ab.St.n_set0, Go.Ab.St.n_up]; omega)) | refine Go.Ab.St.get_push_ne ?_ (by first | assumption | (apply Ne.symm; assumption) | omega | (simp only [Go.Ab.St.n_push0, Go.Ab.St.n_set0, Go.Ab.St.n_up]; omega)) | refine Go.Ab.St.get_up ?_)) (by repeat (first | assumption | exact Go.Ab.St.get_set_eq | exact Go.Ab.St.get_push_eq | refine Go.Ab.St.get_set_ne ?_ (by first | assumption | (apply Ne.symm; assumption) | omega | (simp only [Go.Ab.St.n_push0, Go.Ab.St.n_set0, Go.Ab.St.n_up]; omega)) | refine Go.Ab.St.get_push_ne ?_ (by first | assumption | (apply Ne.symm; assumption) | omega | (simp only [Go.Ab.St.n_push0, Go.Ab.St.n_set0, Go.Ab.St.n_up]; omega)) | refine Go.Ab.St.get_up ?_)) St.get_push_eq (by repeat (first | assumption | exact Go.Ab.St.get_set_eq | exact Go.Ab.St.get_push_eq | refine Go.Ab.St.get_set_ne ?_ (by first | assumption | (apply Ne.symm; assumption) | omega | (simp only [Go.Ab.St.n_push0, Go.Ab.St.n_set0, Go.Ab.St.n_up]; omega)) | refine Go.Ab.St.get_push_ne ?_ (by first | assumption | (apply Ne.symm; assumption) | omega | (simp only [Go.Ab.St.n_push0, Go.Ab.St.n_set0, Go.Ab.St.n_up]; omega)) | refine Go.Ab.St.get_up ?_)) (by omega) (Nat.le_refl _)) ?_
  rintro d s2 ⟨z, y, pb, q1, q2⟩
  have ok2 := q1.ok
  have l2 := ok2.lt q1.gl
  have e1 := q1.l2
  have g2 := q1.gl
  have hb3 : Beh (fun j => j = (((s1.push0 (.var 53 (.agg [.nilp, .vs true 0 []]))).push0 (.var 30 (.ptr so 0))).push0 (.var 3 (.int .i64 (rf i : Nat)))).n + 1) s2 (s2.set0 ((((s1.push0 (.var 53 (.agg [.nilp, .vs true 0 []]))).push0 (.var 30 (.ptr so 0))).push0 (.var 3 (.int .i64 (rf i : Nat)))).n + 1) .dead) := Beh.set (Beh.refl ok2) _ l2 (fun _ => rfl)
  have hbd := q1.bd.beh ok2 hb3 (fun e => by
    obtain ⟨⟨a, _, hg⟩, _⟩ := q1.bd
    rw [e, g2] at hg; cases hg) (fun o l c e hh => by
    rcases q1.bd.hy with ⟨e', _⟩ | ⟨_, o', e', hg⟩
    · rw [e'] at e; cases e
    · rw [e'] at e
      simp only [D.sl.injEq] at e
      rw [e.1, hh, g2] at hg; cases hg)
  have hfin : Beh (fun j => s1.n ≤ j) s1 _ := ((hR2.mono fun _ hh => hh.elim).trans q2).trans' hb3 fun j hj hlt => by omega
  have hny := q1.ny
  generalize hem : emits ([], true) (pcs n (i - 1) 20) = em at g2 q1 e1 hbd ⊢
  obtain ⟨m, on⟩ := em
  cases on with
  | true =>
    refine ⟨.ready, .normal, _, g2, rfl, ok2.set _ _, ?_⟩
    try refine go ?_
    refine call_ev (string_ev hT hb3.ok hbd (by have : m.length ≤ 4102 := e1; omega)) ?_
    rintro d s3 ⟨rfl, w2⟩
    try refine go ?_
    refine retF_R ⟨rfl, hfin.trans' w2 fun j hj hlt => ?_⟩
    rcases hj with rfl | ⟨l, c, e⟩
    · omega
    · have := hny _ _ _ e; omega
  | false =>
    refine ⟨.exit 0, .exit 0, _, g2, rfl, ok2.set _ _, ?_⟩
    try refine go ?_
    refine call_ev (string_ev hT hb3.ok hbd (by have : m.length ≤ 4102 := e1; omega)) ?_
    rintro d s3 ⟨rfl, w2⟩
    try refine go ?_
    refine retF_R ⟨rfl, hfin.trans' w2 fun j hj hlt => ?_⟩
    rcases hj with rfl | ⟨l, c, e⟩
    · omega
    · have := hny _ _ _ e; omega
end
end Go.Proofs.YtloaklflgfefaaaGreatDoor.Tab
