/- The law answers true. -/
import Derived.Test.YtloaklflgfefaaaGreatDoorU4
import Derived.Test.YtloaklflgfefaaaGreatDoorU9
namespace Go.Ab.Pieces
set_option linter.unusedVariables false
/-- The text told. -/
def told (n d : Nat) : Bs := (emits ([], true) (pcs n d 20)).1
theorem pcs_deep (n : Nat) : ∀ d r : Nat, r ≤ d → pcs n d r = List.replicate r [91] ++ [dots] ++ List.replicate r [93]
  | d, 0, _ => by cases d <;> simp [pcs]
  | 0, r + 1, h => by omega
  | d + 1, r + 1, h => by
    rw [pcs, pcs_deep n d r (by omega)]
    rw [List.replicate_succ, show List.replicate (r + 1) [(93 : UInt8)] = List.replicate r [93] ++ [[93]] from List.replicate_succ']
    simp [List.append_assoc]
theorem told_deep (n d : Nat) (h : 20 ≤ d) : told n d = List.replicate 20 91 ++ dots ++ List.replicate 20 93 := by
  unfold told
  rw [emits_fit _ _ (fun p hp => (small_pcs n d 20 p hp).1) ?_]
  · rw [pcs_deep n d 20 h]; rfl
  · rw [pcs_deep n d 20 h]; decide
theorem told_fit (n d : Nat) (h : d < 20) (hS : 2 * d + total (tupP n) ≤ 4096) : told n d = (pcs n d 20).flatten := by
  unfold told
  rw [emits_fit _ _ (fun p hp => (small_pcs n d 20 p hp).1) ?_]
  · rfl
  · rw [total_pcs n d 20 h]; simpa using hS
theorem fit_len (n d : Nat) (h : d < 20) : (pcs n d 20).flatten.length = 2 * d + total (tupP n) := by rw [length_flatten, total_pcs n d 20 h]
theorem last_tup (n : Nat) : ∃ l c, (tupP n).flatten = l ++ [c] ∧ c ≠ 46 := by
  unfold tupP
  by_cases h : n = 1
  · refine ⟨([[40]] ++ elems n).flatten ++ [44], 41, ?_, by decide⟩
    rw [shutT, if_pos h]
    simp [List.flatten_append]
  · refine ⟨([[40]] ++ elems n).flatten, 41, ?_, by decide⟩
    rw [shutT, if_neg h]
    simp [List.flatten_append]
theorem last_flat (n : Nat) : ∀ d r : Nat, d < r → ∃ l c, (pcs n d r).flatten = l ++ [c] ∧ c ≠ 46
  | 0, 0, h => by omega
  | 0, r + 1, _ => by
    obtain ⟨l, c, h1, h2⟩ := last_tup n
    exact ⟨l, c, by simpa [pcs] using h1, h2⟩
  | d + 1, 0, h => by omega
  | d + 1, r + 1, _ => ⟨([[91]] ++ pcs n d r).flatten, 93, by rw [pcs, List.flatten_append]; rfl, by decide⟩
/-- What fits does not end in dots. -/
theorem fit_end (n d : Nat) (h : d < 20) (hS : 2 * d + total (tupP n) ≤ 4096) : (told n d).length = 2 * d + total (tupP n) ∧ ((told n d).drop ((told n d).length - 3) == [46, 46, 46]) = false := by
  rw [told_fit n d h hS]
  refine ⟨fit_len n d h, ?_⟩
  obtain ⟨l, c, h1, h2⟩ := last_flat n d 20 h
  rw [h1]
  cases he : ((l ++ [c]).drop ((l ++ [c]).length - 3) == [46, 46, 46]) with
  | false => rfl
  | true =>
    exfalso
    have he := eq_of_beq he
    have h3 : ((l ++ [c]).drop ((l ++ [c]).length - 3)).getLast? = some 46 := by rw [he]; rfl
    rw [List.getLast?_drop] at h3
    split at h3
    · cases h3
    · simp at h3; exact h2 h3
theorem last_len (n : Nat) (h1 : n ≠ 1) (d : Nat) (h : d < 20) (hne : pcs n d 20 ≠ []) : ((pcs n d 20).getLast hne).length = 1 := by
  obtain ⟨l, c, h2, _⟩ := last_pcs n h1 d 20 h
  simp [h2]
theorem cut_end (n d : Nat) (h : d < 20) (hS : 4096 < 2 * d + total (tupP n)) : 3 < (told n d).length ∧ (told n d).length ≤ 4102 ∧ (told n d).drop ((told n d).length - 3) = [46, 46, 46] := by
  have hn : n ≠ 1 := by
    rintro rfl
    have : total (tupP 1) = 7 := by rw [total_tup]; rfl
    omega
  obtain ⟨x, e, h1, h2⟩ := emits_cut (pcs n d 20) [] (small_pcs n d 20) (fun hne => last_len n hn d h hne) (by decide) (by rw [total_pcs n d 20 h]; simpa using hS)
  have : told n d = x ++ dots := by rw [told, e]
  rw [this]
  have hd : dots.length = 3 := rfl
  refine ⟨by rw [List.length_append]; omega, by rw [List.length_append]; omega, ?_⟩
  rw [List.length_append, hd, Nat.add_sub_cancel, List.drop_left]
  rfl
end Go.Ab.Pieces

namespace Go.Proofs.YtloaklflgfefaaaGreatDoor.Tab
open Go Go.Ab Go.Ab.Sm
set_option linter.unusedSectionVars false
set_option linter.unusedSimpArgs false
set_option linter.unusedVariables false
set_option maxRecDepth 100000
set_option maxHeartbeats 2000000

open Go.Ab.Pieces
theorem kds_row {i : Nat} (h : i ≠ 0) : kdS i = 5 ∨ kdS i = 6 := by
  unfold kdS; rw [if_neg h]
  by_cases h1 : i = 1
  · rw [if_pos h1]; exact .inl rfl
  · rw [if_neg h1]; exact .inr rfl
theorem kvs_lt (n i : Nat) : ∀ v ∈ kvS n i, v < i := by
  intro v hv
  unfold kvS at hv
  split at hv
  · cases hv
  · split at hv
    · rw [List.mem_replicate] at hv; omega
    · simp only [List.mem_singleton] at hv; omega
theorem kvs_len {n : Nat} (hn : n ≤ 3000) (i : Nat) : (kvS n i).length ≤ 65536 := by
  unfold kvS
  split
  · simp
  · split
    · rw [List.length_replicate]; omega
    · simp
/-- The loop that lays lists around. -/
def wrapLoop : AC := match code3.body with
  | .seq _ (.seq _ (.seq _ (.seq _ (.seq _ (.seq _ (.seq (.seq _ (.block _ c)) _)))))) => c
  | _ => .skip
theorem terms_snoc {s : St} {ta n j : Nat} {es : List D} (hs : s.Ok) (h : Terms s ta (2 + j) es kdS (kvS n)) :
    ((s.push0 (.arr 1 3 [.int .i64 (1 + j : Nat)] 0)).set0 ta (.arr 8 28 (es ++ [tm 6 (.sl s.n 0 1 1)]) 0)).Ok ∧ Terms ((s.push0 (.arr 1 3 [.int .i64 (1 + j : Nat)] 0)).set0 ta (.arr 8 28 (es ++ [tm 6 (.sl s.n 0 1 1)]) 0)) ta (2 + (j + 1)) (es ++ [tm 6 (.sl s.n 0 1 1)]) kdS (kvS n) := by
  have lta := hs.lt h.gt
  have hb : Beh (fun i => i = ta) s ((s.push0 (.arr 1 3 [.int .i64 (1 + j : Nat)] 0)).set0 ta (.arr 8 28 (es ++ [tm 6 (.sl s.n 0 1 1)]) 0)) := Beh.set (Beh.push (Beh.refl hs) _) _ (by rw [St.n_push0]; omega) (fun _ => rfl)
  have ln := h.ln
  refine ⟨hb.ok, St.get_set_eq, by rw [List.length_append, List.length_singleton]; omega, fun i hi => ?_, h.kd0, h.kv0, h.kd1, h.lt, h.mx⟩
  rcases Nat.lt_or_ge i (2 + j) with hl | hl
  · obtain ⟨x, h1, h2⟩ := h.tm i hl
    refine ⟨x, by rw [List.getElem?_append_left (by omega)]; exact h1, h2.beh hs hb fun o es' st hg e => ?_⟩
    rw [e, h.gt] at hg; simp at hg
  · have : i = 2 + j := by omega
    subst this
    refine ⟨.sl s.n 0 1 1, ?_, ?_⟩
    · rw [List.getElem?_append_right (by omega), ln, Nat.sub_self]
      have : kdS (2 + j) = 6 := by unfold kdS; rw [if_neg (by omega), if_neg (by omega)]
      rw [this]; rfl
    · have : kvS n (2 + j) = [1 + j] := by
        unfold kvS; rw [if_neg (by omega), if_neg (by omega)]
        congr 1; omega
      rw [this]
      exact Kids.sl (V := [1 + j]) (St.get_set_ne St.get_push_eq (by omega)) (by simp)
section
variable {T : Nat → Option AFn} {H : Caller} {k : List Kont} {Q : QP}
theorem wrap_run (hT : Tb T) {s0 : St} {ta n deep : Nat} {es : List D} {y : D} {fr : Fr} (hd : deep ≤ 40) (hs : s0.Ok) (ht : Terms s0 ta 2 es kdS (kvS n)) (hdf : fr.defers = []) (hF : fr.env.keep [0, 1, 2, 3, 4, 5, 6, 8] = [(0, .int .i64 n), (1, .int .i64 deep), (4, .bool false), (5, .sl ta 0 2 2), (6, y), (8, .int .i64 (0 : Nat))])
    (hk : ∀ s1 es1, s1.Ok → Terms s1 ta (deep + 2) es1 kdS (kvS n) → Ret T H (.exit 2) k ⟨[(52, .bool false), (51, .int .i64 deep), (50, .int .i64 deep), (0, .int .i64 n), (1, .int .i64 deep), (4, .bool false), (5, .sl ta 0 (deep + 2) (deep + 2)), (6, y), (8, .int .i64 deep)], []⟩ s1 Q) :
    Run T H wrapLoop k fr s0 Q := by
  show Run T H (.loop _ _) k fr s0 Q
  refine run_cnt deep (fun j => [(0, .int .i64 n), (1, .int .i64 deep), (4, .bool false), (5, .sl ta 0 (2 + j) (2 + j)), (6, y), (8, .int .i64 j)]) (fun j s' => ∃ es', s'.Ok ∧ Terms s' ta (2 + j) es' kdS (kvS n)) ⟨es, hs, ht⟩ ?_ hdf hF
  rintro j s' hj ⟨es', hok, ht'⟩
  have gt := ht'.gt
  have ln := ht'.ln
  have lta := hok.lt gt
  rcases Nat.lt_or_ge j deep with hl | hl
  · have hw : IntKind.wrap .i64 (((2 + j : Nat) : Int) - 1) = ((1 + j : Nat) : Int) := by
      rw [wrap_small (by omega) (by omega)]; omega
    try refine go ?_
    simp only [hw]
    exact ret_cnt hl ⟨_, terms_snoc hok ht'⟩
  · have : j = deep := by omega
    subst this
    try refine go ?_
    rw [Nat.add_comm 2 j] at ht' ⊢
    exact hk s' es' hok ht'
end
end Go.Proofs.YtloaklflgfefaaaGreatDoor.Tab

namespace Go.Proofs.YtloaklflgfefaaaGreatDoor.Tab
open Go Go.Ab Go.Ab.Sm
set_option linter.unusedSectionVars false
set_option linter.unusedSimpArgs false
set_option linter.unusedVariables false
set_option maxRecDepth 100000
set_option maxHeartbeats 2000000

open Go.Ab.Pieces
section
variable {T : Nat → Option AFn} {H : Caller} {k : List Kont} {Q : QP}
def reps (c : UInt8) : Nat → Bs
  | 0 => []
  | j + 1 => reps c j ++ [c]
theorem reps_len (c : UInt8) : ∀ j, (reps c j).length = j
  | 0 => rfl
  | j + 1 => by rw [reps, List.length_append, reps_len c j]; rfl
theorem ops_sadd {b t : Nat} {e : Env} {ds : List (D × List D)} {g : Option (Nat × Bool)} {s : St} {l : List AOper} {x y : Opd} {u v : List UInt8} (h : Ops T H b l k ⟨(t, .str (u ++ v)) :: e, ds⟩ s Q) (hw : wantedD e g = some true := by rfl) (hx : x.ev e = some (.str u) := by rfl) (hy : y.ev e = some (.str v) := by rfl) (hl : u.length + v.length ≤ 4611686018427387904 := by first | assumption | omega | (simp only [List.length_append, List.length_cons, List.length_nil]; omega)) : Ops T H b (⟨some t, .bin .add x y, g, none⟩ :: l) k ⟨e, ds⟩ s Q := by
  have e1 : Nat.ble (u.length + v.length) 4611686018427387904 = true := Nat.ble_eq_true_of_le hl
  exact ops_any h hw (by simp only [opF, hx, hy, binD, binStr, e1, ofO])
theorem ops_sstr {b t i : Nat} {e : Env} {ds : List (D × List D)} {g : Option (Nat × Bool)} {s : St} {l : List AOper} {x lo : Opd} {u : List UInt8} {d : D} (hi : idx d = some i) (hl : i ≤ u.length) (h : Ops T H b l k ⟨(t, .str (u.drop i)) :: e, ds⟩ s Q) (hw : wantedD e g = some true := by rfl) (hx : x.ev e = some (.str u) := by rfl) (hy : lo.ev e = some d := by rfl) : Ops T H b (⟨some t, .sstr x (some lo) none, g, none⟩ :: l) k ⟨e, ds⟩ s Q := by
  have e1 : Nat.ble i u.length = true := Nat.ble_eq_true_of_le hl
  have e2 : Nat.ble u.length u.length = true := Nat.ble_eq_true_of_le (Nat.le_refl _)
  exact ops_any h hw (by simp only [opF, hx, evo, hy, idxo, hi, e1, e2, List.take_length])
theorem awake_ev (h4 : T 4 = none) (hA : ∀ s, H 4 [] s = some (.bool true, s)) (s : St) : EvP T H 4 [] s fun d s1 => d = .bool true ∧ s1 = s := ⟨_, _, Ev.hook h4 (hA s), rfl, rfl⟩
theorem terms_two {s s1 : St} {y : D} {n : Nat} (hn : n ≤ 3000) (hs : s.Ok) (hb : Beh Nil (s.push0 (.arr 8 28 [tm 1 (.vs true 0 [])] 0)) s1) (hy : Kids s1 y (List.replicate n 0)) :
    (s1.set0 s.n (.arr 8 28 ([tm 1 (.vs true 0 [])] ++ [tm 5 y]) 0)).Ok ∧ Terms (s1.set0 s.n (.arr 8 28 ([tm 1 (.vs true 0 [])] ++ [tm 5 y]) 0)) s.n 2 ([tm 1 (.vs true 0 [])] ++ [tm 5 y]) kdS (kvS n) := by
  have h0 := hb.n
  simp only [St.n_push0] at h0
  have g0 := hb.get (hs.push0 _) (o := s.n) St.get_push_eq (fun hh => hh)
  have hb2 : Beh (fun i => i = s.n) s1 (s1.set0 s.n (.arr 8 28 ([tm 1 (.vs true 0 [])] ++ [tm 5 y]) 0)) := Beh.set (Beh.refl hb.ok) _ (by omega) (fun _ => rfl)
  refine ⟨hb2.ok, St.get_set_eq, rfl, fun i hi => ?_, rfl, rfl, fun i hi => kds_row hi, kvs_lt n, kvs_len hn⟩
  have hc : i = 0 ∨ i = 1 := by omega
  rcases hc with rfl | rfl
  · exact ⟨_, rfl, .nil⟩
  · refine ⟨y, rfl, ?_⟩
    have e : kvS n 1 = List.replicate n 0 := by simp [kvS]
    rw [e]
    exact hy.beh hb.ok hb2 fun o es st hg e => by rw [e, g0] at hg; simp at hg
/-- What is behind the making of the terms. -/
def lawRest : AC := match code3.body with
  | .seq _ (.seq _ (.seq _ (.seq _ (.seq _ (.seq _ (.seq _ r)))))) => r
  | _ => .skip
theorem rest_run (hT : Tb T) (h4 : T 4 = none) (hA : ∀ s, H 4 [] s = some (.bool true, s)) {s2 : St} {ta j deep : Nat} {es2 : List D} {y : D} (hn : j ≤ 3000) (hdp : deep ≤ 40) (hok2 : s2.Ok) (ht2 : Terms s2 ta (deep + 2) es2 kdS (kvS j)) :
    Ret T H (.exit 2) [.block 2, .seq lawRest] ⟨[(52, .bool false), (51, .int .i64 deep), (50, .int .i64 deep), (0, .int .i64 j), (1, .int .i64 deep), (4, .bool false), (5, .sl ta 0 (deep + 2) (deep + 2)), (6, y), (8, .int .i64 deep)], []⟩ s2 (QF code3.results fun d _ => d = .bool true) := by
  try refine go ?_
  refine call_ev (both_ev hT hok2 ht2 (by omega) (by omega)) ?_
  rintro d s3 ⟨so, o2, la, ta2, pl, mp, ra, w, oa, L, rfl, hB⟩
  have hok3 := hB.bh.ok
  have hga := hB.ga
  have hil3 : (ints (rfs (deep + 2))).length = deep + 2 := by rw [ints_len, rfs_len]
  try refine go ?_
  have hw1 : IntKind.wrap .i64 (((deep + 2 : Nat) : Int) - 1) = ((deep + 1 : Nat) : Int) := by
    rw [wrap_small (by omega) (by omega)]; omega
  have e9 : (ints (rfs (deep + 2)))[0 + (deep + 1)]? = some (.int .i64 (rf (deep + 1) : Nat)) := by
    rw [Nat.zero_add]; simp [ints, rfs_at (show deep + 1 < deep + 2 by omega)]
  refine ops_ias (j := deep + 1) ?_ (hj := by show idx (.int .i64 (IntKind.wrap .i64 _)) = _; rw [hw1]; exact idx_i)
  have hSho : Sho s3 so o2 la ta2 pl mp (deep + 2) L kdS (kvS j) := ⟨hB.ll, hB.st, hB.rs⟩
  try refine go ?_
  refine call_ev (EvP.mono (R' := fun d _ => d = .str (told j deep)) (text_ev hT hok3 hSho (by omega) (i := deep + 1) (by omega) (by omega)) (fun d s1 hh => hh.1)) ?_
  rintro d s4 rfl
  by_cases hd20 : 20 ≤ deep
  · rw [told_deep j deep hd20]
    have hd20' : (20 : Int) ≤ (deep : Int) := by omega
    try refine go ?_
    refine run_cnt 20 (fun i => [(14, .str (List.replicate 20 91 ++ dots ++ List.replicate 20 93)), (15, .str (reps 91 i)), (16, .int .i64 i)]) (fun i s' => True) trivial ?_
    intro i s5 hi _
    have hrl := reps_len 91 i
    rcases Nat.lt_or_ge i 20 with hil | hil
    · repeat' first | refine go ?_ | refine ops_sadd ?_
      exact ret_cnt hil trivial
    · have : i = 20 := by omega
      subst this
      repeat' first | refine go ?_ | refine ops_sadd ?_
      refine run_cnt 20 (fun i => [(14, .str (List.replicate 20 91 ++ dots ++ List.replicate 20 93)), (15, .str ((reps 91 20 ++ [46, 46, 46]) ++ reps 93 i)), (17, .int .i64 i)]) (fun i s' => True) trivial ?_
      intro i2 s6 hi2 _
      have hrl2 := reps_len 93 i2
      rcases Nat.lt_or_ge i2 20 with hil2 | hil2
      · repeat' first | refine go ?_ | refine ops_sadd ?_
        exact ret_cnt hil2 trivial
      · have : i2 = 20 := by omega
        subst this
        repeat' first | refine go ?_ | (refine call_ev (awake_ev h4 hA _) ?_; rintro d s1 ⟨rfl, rfl⟩)
        exact retF_R rfl
  · have hd20' : ¬ (20 : Int) ≤ (deep : Int) := by omega
    have hdl : deep < 20 := by omega
    have hq1 : IntKind.wrap .i64 (2 * (deep : Int)) = 2 * (deep : Int) := wrap_small (by omega) (by omega)
    have hq2 : IntKind.wrap .i64 (2 * (deep : Int) + 2) = 2 * (deep : Int) + 2 := wrap_small (by omega) (by omega)
    have hq3 : IntKind.wrap .i64 (6 * (j : Int)) = 6 * (j : Int) := wrap_small (by omega) (by omega)
    have hq4 : IntKind.wrap .i64 (2 * (deep : Int) + 2 + 6 * (j : Int)) = 2 * (deep : Int) + 2 + 6 * (j : Int) := wrap_small (by omega) (by omega)
    have hq5 : IntKind.wrap .i64 (2 * (deep : Int) + 2 + 6 * (j : Int) - 2) = 2 * (deep : Int) + 2 + 6 * (j : Int) - 2 := wrap_small (by omega) (by omega)
    have hq6 : IntKind.wrap .i64 (5 * (j : Int)) = 5 * (j : Int) := wrap_small (by omega) (by omega)
    have hq7 : IntKind.wrap .i64 (2 * (deep : Int) + 2 + 5 * (j : Int)) = 2 * (deep : Int) + 2 + 5 * (j : Int) := wrap_small (by omega) (by omega)
    have hE5 : IntKind.wrap .i64 (IntKind.wrap .i64 (IntKind.wrap .i64 (2 * (deep : Int)) + 2) + IntKind.wrap .i64 (5 * (j : Int))) = 2 * (deep : Int) + 2 + 5 * (j : Int) := by rw [hq1, hq2, hq6, hq7]
    have hE6 : IntKind.wrap .i64 (IntKind.wrap .i64 (IntKind.wrap .i64 (IntKind.wrap .i64 (2 * (deep : Int)) + 2) + IntKind.wrap .i64 (6 * (j : Int))) - 2) = 2 * (deep : Int) + 2 + 6 * (j : Int) - 2 := by rw [hq1, hq2, hq3, hq4, hq5]
    have htt := total_tup j
    by_cases hS : 2 * deep + total (tupP j) ≤ 4096
    · obtain ⟨f1, f2⟩ := fit_end j deep hdl hS
      generalize told j deep = M at f1 f2 ⊢
      have hq8 : IntKind.wrap .i64 ((M.length : Int) - 3) = (M.length : Int) - 3 := wrap_small (by omega) (by omega)
      by_cases hj2 : j < 2
      · rw [if_pos hj2] at htt
        by_cases hM3 : 3 < M.length
        · have hM3' : (3 : Int) < (M.length : Int) := by omega
          have f3 : idx (.int .i64 (IntKind.wrap .i64 ((M.length : Int) - 3))) = some (M.length - 3) := by
            rw [hq8, show (M.length : Int) - 3 = ((M.length - 3 : Nat) : Int) by omega]; exact idx_i
          try refine go ?_
          refine ops_sstr (u := M) f3 (by omega) ?_
          refine ops_bF ?_ (ho := by show some (D.bool (M.drop (M.length - 3) == [46, 46, 46]), _) = some (D.bool false, _); rw [f2])
          repeat' first | refine go ?_ | (refine call_ev (awake_ev h4 hA _) ?_; rintro d s1 ⟨rfl, rfl⟩)
          all_goals exact retF_R rfl
        · have hM3' : ¬ (3 : Int) < (M.length : Int) := by omega
          repeat' first | refine go ?_ | (refine call_ev (awake_ev h4 hA _) ?_; rintro d s1 ⟨rfl, rfl⟩)
          all_goals exact retF_R rfl
      · rw [if_neg hj2] at htt
        by_cases hM3 : 3 < M.length
        · have hM3' : (3 : Int) < (M.length : Int) := by omega
          have f3 : idx (.int .i64 (IntKind.wrap .i64 ((M.length : Int) - 3))) = some (M.length - 3) := by
            rw [hq8, show (M.length : Int) - 3 = ((M.length - 3 : Nat) : Int) by omega]; exact idx_i
          try refine go ?_
          refine ops_sstr (u := M) f3 (by omega) ?_
          refine ops_bF ?_ (ho := by show some (D.bool (M.drop (M.length - 3) == [46, 46, 46]), _) = some (D.bool false, _); rw [f2])
          repeat' first | refine go ?_ | (refine call_ev (awake_ev h4 hA _) ?_; rintro d s1 ⟨rfl, rfl⟩)
          all_goals exact retF_R rfl
        · exfalso; omega
    · obtain ⟨f0, f1, f2⟩ := cut_end j deep hdl (by omega)
      generalize told j deep = M at f0 f1 f2 ⊢
      have hq8 : IntKind.wrap .i64 ((M.length : Int) - 3) = (M.length : Int) - 3 := wrap_small (by omega) (by omega)
      by_cases hj2 : j < 2
      · rw [if_pos hj2] at htt
        omega
      · rw [if_neg hj2] at htt
        by_cases hM3 : 3 < M.length
        · have hM3' : (3 : Int) < (M.length : Int) := by omega
          have f3 : idx (.int .i64 (IntKind.wrap .i64 ((M.length : Int) - 3))) = some (M.length - 3) := by
            rw [hq8, show (M.length : Int) - 3 = ((M.length - 3 : Nat) : Int) by omega]; exact idx_i
          try refine go ?_
          refine ops_sstr (u := M) f3 (by omega) ?_
          rw [f2]
          repeat' first | refine go ?_ | (refine call_ev (awake_ev h4 hA _) ?_; rintro d s1 ⟨rfl, rfl⟩)
          all_goals exact retF_R rfl
        · exfalso; omega
theorem top_ev (hT : Tb T) (h4 : T 4 = none) (hA : ∀ s, H 4 [] s = some (.bool true, s)) {s : St} (hs : s.Ok) (a b : Int) : EvP T H 3 [.int .i64 a, .int .i64 b] s fun d _ => d = .bool true := by
  by_cases hin : 0 ≤ a ∧ a ≤ 3000 ∧ 0 ≤ b ∧ b ≤ 40
  · obtain ⟨i1, i2, i3, i4⟩ := hin
    obtain ⟨n, rfl⟩ := Int.eq_ofNat_of_zero_le i1
    obtain ⟨deep, rfl⟩ := Int.eq_ofNat_of_zero_le i3
    have hn : n ≤ 3000 := by omega
    have hdp : deep ≤ 40 := by omega
    have hok1 := hs.push0 (.arr 8 28 [tm 1 (.vs true 0 [])] 0)
    refine evp_in hT.t3 ?_
    try refine go ?_
    refine run_loop (fun m env s' => ∃ j y, j ≤ n ∧ m = n - j ∧ env = [(0, .int .i64 n), (1, .int .i64 deep), (4, .bool false), (5, .sl s.n 0 1 1), (6, y), (7, .int .i64 j)] ∧ Kids s' y (List.replicate j 0) ∧ Beh Nil (s.push0 (.arr 8 28 [tm 1 (.vs true 0 [])] 0)) s' ∧ ∀ o l c, y = .sl o 0 l c → s.n < o) n rfl ⟨0, _, Nat.zero_le _, rfl, rfl, .nil, Beh.refl hok1, fun _ _ _ e => (by cases e)⟩ ?_
    rintro m env s' ⟨j, y, hj, rfl, rfl, hy, hb, hyo⟩
    have hok := hb.ok
    have h0 := hb.n
    simp only [St.n_push0] at h0
    rcases Nat.lt_or_ge j n with hl | hl
    · rcases hk : List.replicate j 0 with _ | ⟨v, V⟩
      · rw [hk] at hy
        have := kids_nil hy
        subst this
        have hj0 : j = 0 := by have := congrArg List.length hk; simpa using this
        try refine go ?_
        subst hj0
        refine ret_loopN (n - (0 + 1)) (by omega) rfl ⟨0 + 1, _, by omega, rfl, rfl, Kids.sl (V := [0]) St.get_push_eq (by simp), hb.push _, ?_⟩
        intro o l c e
        simp only [D.sl.injEq] at e
        omega
      · have hjl : (List.replicate j 0).length = j := List.length_replicate
        obtain ⟨o, rfl, ho⟩ := kids_sl hy (by rw [hk]; simp)
        have hol := hok.lt ho
        have hil : (ints (List.replicate j 0)).length = j := by rw [ints_len, hjl]
        rw [hjl]
        try refine go ?_
        refine ret_loopN (n - (j + 1)) (by omega) rfl ⟨j + 1, .sl o 0 (j + 1) (j + 1), by omega, rfl, rfl, ?_, hb.set _ hol (fun hh => by have := hyo o _ _ rfl; simp only [St.n_push0] at hh; omega), ?_⟩
        · have h9 : (s'.set0 o (.arr 1 3 (ints (List.replicate j 0) ++ [.int .i64 0]) 0)).get o = some (.arr 1 3 (ints (List.replicate (j + 1) 0)) 0) := by
            rw [St.get_set_eq, List.replicate_succ', ints_app]; rfl
          have := Kids.sl (V := List.replicate (j + 1) 0) h9 (by simp)
          rw [List.length_replicate] at this
          exact this
        · intro o' l c e
          simp only [D.sl.injEq] at e
          have := hyo o _ _ rfl
          omega
    · have : j = n := by omega
      subst this
      rcases hk : List.replicate j 0 with _ | ⟨v, V⟩
      · rw [hk] at hy
        have := kids_nil hy
        subst this
        have hy0 := hy
        have g0 := hb.get hok1 (o := s.n) St.get_push_eq (fun hh => hh)
        have g01 : 0 + 1 = [tm 1 (.vs true 0 [])].length := rfl
        have g02 : [tm 1 (.vs true 0 [])].length = 1 := rfl
        try refine go ?_
        obtain ⟨w1, w2⟩ := terms_two hn hs hb (by rw [hk]; exact hy0)
        refine wrap_run (y := .vs true 0 []) (ta := s.n) (n := j) hT hdp w1 w2 ?_ ?_ ?_
        · rfl
        · rfl
        intro s2 es2 hok2 ht2
        exact rest_run hT h4 hA hn hdp hok2 ht2
      · have hjl : (List.replicate j 0).length = j := List.length_replicate
        obtain ⟨o, rfl, ho⟩ := kids_sl hy (by rw [hk]; simp)
        have hy0 := hy
        have g0 := hb.get hok1 (o := s.n) St.get_push_eq (fun hh => hh)
        have g01 : 0 + 1 = [tm 1 (.vs true 0 [])].length := rfl
        have g02 : [tm 1 (.vs true 0 [])].length = 1 := rfl
        rw [hjl] at hy0 ⊢
        try refine go ?_
        obtain ⟨w1, w2⟩ := terms_two hn hs hb hy0
        refine wrap_run (y := .sl o 0 j j) (ta := s.n) (n := j) hT hdp w1 w2 ?_ ?_ ?_
        · rfl
        · rfl
        intro s2 es2 hok2 ht2
        exact rest_run hT h4 hA hn hdp hok2 ht2
  · refine evp_in hT.t3 ?_
    by_cases c1 : a < 0
    · repeat' first | refine go ?_ | (refine call_ev (awake_ev h4 hA s) ?_; rintro d s1 ⟨rfl, rfl⟩)
      exact retF_R rfl
    by_cases c2 : 3000 < a
    · repeat' first | refine go ?_ | (refine call_ev (awake_ev h4 hA s) ?_; rintro d s1 ⟨rfl, rfl⟩)
      exact retF_R rfl
    by_cases c3 : b < 0
    · repeat' first | refine go ?_ | (refine call_ev (awake_ev h4 hA s) ?_; rintro d s1 ⟨rfl, rfl⟩)
      exact retF_R rfl
    have c4 : 40 < b := by omega
    · repeat' first | refine go ?_ | (refine call_ev (awake_ev h4 hA s) ?_; rintro d s1 ⟨rfl, rfl⟩)
      exact retF_R rfl
end
end Go.Proofs.YtloaklflgfefaaaGreatDoor.Tab
