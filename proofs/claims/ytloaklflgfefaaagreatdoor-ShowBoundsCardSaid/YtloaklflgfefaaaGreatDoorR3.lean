/- The document's store: Build. -/
import Derived.Test.YtloaklflgfefaaaGreatDoorS8
import Derived.Test.YtloaklflgfefaaaGreatDoorS5
namespace Go.Proofs.YtloaklflgfefaaaGreatDoor.Tab
open Go Go.Ab Go.Ab.Sm
set_option linter.unusedSectionVars false
set_option linter.unusedSimpArgs false
set_option linter.unusedVariables false
set_option maxRecDepth 100000
set_option maxHeartbeats 2000000

@[reducible] def val (kd num : Int) (x : D) : D := .agg [.int .i64 kd, .int .i64 num, .bool false, .bool false, .bool false, .vs true 0 [], .str [], x, .nilp, .int .i64 0, .vs true 0 [], .int .i64 0, .int .i64 0, .int .i64 0, .int .i64 0, .nilp, .nilp, .int .i64 0, .nilp, .bool false, .bool false, .bool false]
structure RefAt (s : St) (w vo cn : Nat) (L : List D) (last : Nat) : Prop where
  gw : s.get w = some (.var 87 (.agg [.sl vo 0 L.length L.length, .int .i64 last, .int .i64 0, .int .i64 60000, .int .i64 4, .vs true 0 [], .vs true 0 [], .ptr cn 0]))
  gv : ∃ st, st ≤ L.length ∧ s.get vo = some (.arr 22 93 L st)
abbrev OfRef (w vo : Nat) : Nat → Prop := fun j => j = w ∨ j = vo
theorem RefAt.beh {W : Nat → Prop} {s s1 : St} {w vo cn : Nat} {L : List D} {last : Nat} (h : RefAt s w vo cn L last) (hs : s.Ok) (hb : Beh W s s1) (h1 : ¬ W w) (h2 : ¬ W vo) : RefAt s1 w vo cn L last := by
  obtain ⟨st, h3, h4⟩ := h.gv
  exact ⟨hb.get hs h.gw h1, st, h3, hb.get hs h4 h2⟩
section
variable {T : Nat → Option AFn} {H : Caller} {k : List Kont} {Q : QP}
theorem object_ev (hT : Tb T) {s : St} {w vo cn last : Nat} {L : List D} {kd : Int} {x : D} {V : List Nat} (hs : s.Ok) (h : RefAt s w vo cn L last) (hL : L.length + 1 ≤ 100000) (hl : last + 1 ≤ 100000) (hx : Kids s x V) :
    EvP T H 49 [.ptr w 0, val kd 0 x] s fun d s1 => d = .int .i64 L.length ∧ RefAt s1 w vo cn (L ++ [val kd (last + 1 : Nat) x]) (last + 1) ∧ Beh (OfRef w vo) s s1 := by
  obtain ⟨g1, st, g2, g3⟩ := h
  have l1 := hs.lt g1
  have l2 := hs.lt g3
  have ne : w ≠ vo := by rintro rfl; rw [g1] at g3; cases g3
  refine evp_in hT.t49 ?_
  rcases hx with _ | ⟨hx, hn⟩ <;>
  · repeat' first | refine go ?_ | refine call_in hT.t86 ?_
    refine retF_R (d := .int .i64 (IntKind.wrap .i64 (((L.length + 1 : Nat) : Int) - 1))) ⟨?_, ⟨?_, st, ?_, ?_⟩, ?_⟩
    · rw [wrap_small (by omega) (by omega)]
      congr 1; omega
    · rw [List.length_append]
      exact (by repeat (first | assumption | exact Go.Ab.St.get_set_eq | exact Go.Ab.St.get_push_eq | refine Go.Ab.St.get_set_ne ?_ (by first | assumption | (apply Ne.symm; assumption) | omega | (simp only [Go.Ab.St.n_push0, Go.Ab.St.n_set0, Go.Ab.St.n_up]; omega)) | refine Go.Ab.St.get_push_ne ?_ (by first | assumption | (apply Ne.symm; assumption) | omega | (simp only [Go.Ab.St.n_push0, Go.Ab.St.n_set0, Go.Ab.St.n_up]; omega)) | refine Go.Ab.St.get_up ?_))
    · rw [List.length_append]; omega
    · exact (by repeat (first | assumption | exact Go.Ab.St.get_set_eq | exact Go.Ab.St.get_push_eq | refine Go.Ab.St.get_set_ne ?_ (by first | assumption | (apply Ne.symm; assumption) | omega | (simp only [Go.Ab.St.n_push0, Go.Ab.St.n_set0, Go.Ab.St.n_up]; omega)) | refine Go.Ab.St.get_push_ne ?_ (by first | assumption | (apply Ne.symm; assumption) | omega | (simp only [Go.Ab.St.n_push0, Go.Ab.St.n_set0, Go.Ab.St.n_up]; omega)) | refine Go.Ab.St.get_up ?_))
    · show Beh (fun j => j = w ∨ j = vo) _ _
      exact (by repeat (first | assumption | exact Go.Ab.Beh.refl (by assumption) | refine Go.Ab.Beh.set ?_ _ (by first | assumption | omega | (simp only [Go.Ab.St.n_push0, Go.Ab.St.n_set0, Go.Ab.St.n_up]; omega)) (fun hbeh => by first | (exfalso; omega) | (exfalso; simp only [Go.Ab.St.n_push0, Go.Ab.St.n_set0, Go.Ab.St.n_up] at hbeh; omega) | (simp; done)) | refine Go.Ab.Beh.push ?_ _ | refine Go.Ab.Beh.up ?_ _))
theorem madeN_ev (hT : Tb T) {s : St} {w ta N i : Nat} {es : List D} (hs : s.Ok) (h : TermAt s ta N i es 1 (.vs true 0 []) []) :
    EvP T H 23 [.ptr w 0, .sl ta 0 N N, .vs true 0 [], .int .i64 i] s fun d s1 => d = .int .i64 0 ∧ s1 = s := by
  obtain ⟨g1, g2, g3, g4, g5, g6, g7⟩ := h
  refine evp_in hT.t23 ?_
  have g3' : es[0 + i]? = some (tm 1 (.vs true 0 [])) := by rw [Nat.zero_add]; exact g3
  have li : i < es.length := (List.getElem?_eq_some_iff.mp g3).1
  try refine go ?_
  exact retF_R ⟨rfl, rfl⟩
theorem madeL_ev (hT : Tb T) {s : St} {w vo cn last ta N i : Nat} {es L : List D} {oa : Nat} {x : D} {V : List Nat} (hs : s.Ok) (h : TermAt s ta N i es 6 x V) (hr : RefAt s w vo cn L last) (hL : L.length + 1 ≤ 100000) (hl : last + 1 ≤ 100000) :
    EvP T H 23 [.ptr w 0, .sl ta 0 N N, .sl oa 0 i i, .int .i64 i] s fun d s1 => d = .int .i64 L.length ∧ RefAt s1 w vo cn (L ++ [val 6 (last + 1 : Nat) (.vs true 0 [])]) (last + 1) ∧ Beh (OfRef w vo) s s1 := by
  obtain ⟨g1, g2, g3, g4, g5, g6, g7⟩ := h
  refine evp_in hT.t23 ?_
  have g3' : es[0 + i]? = some (tm 6 x) := by rw [Nat.zero_add]; exact g3
  have li : i < es.length := (List.getElem?_eq_some_iff.mp g3).1
  rcases g4 with _ | ⟨hx, hn⟩ <;>
  · try refine go ?_
    refine call_ev (object_ev hT (kd := 6) (x := .vs true 0 []) hs hr hL hl .nil) ?_
    rintro d s1 ⟨rfl, h1, h2⟩
    try refine go ?_
    exact retF_R ⟨rfl, h1, h2⟩
theorem madeT_ev (hT : Tb T) {s : St} {w vo cn last ta N i oa : Nat} {es L : List D} {x : D} {V : List Nat} (hs : s.Ok) (h : TermAt s ta N i es 5 x V) (hr : RefAt s w vo cn L last) (hL : L.length + 1 ≤ 100000) (hla : last + 1 ≤ 100000) (ho : s.get oa = some (.arr 1 3 (ints (rfs i)) 0)) :
    EvP T H 23 [.ptr w 0, .sl ta 0 N N, .sl oa 0 i i, .int .i64 i] s fun d s1 => d = .int .i64 L.length ∧ ∃ y, RefAt s1 w vo cn (L ++ [val 5 (last + 1 : Nat) y]) (last + 1) ∧ Beh (OfRef w vo) s s1 := by
  obtain ⟨g1, g2, g3, g4, g5, g6, g7⟩ := h
  refine evp_in hT.t23 ?_
  have g3' : es[0 + i]? = some (tm 5 x) := by rw [Nat.zero_add]; exact g3
  have li : i < es.length := (List.getElem?_eq_some_iff.mp g3).1
  have hrl : (ints (rfs i)).length = i := by rw [ints_len, rfs_len]
  rcases g4 with _ | ⟨hx, hn⟩
  · try refine go ?_
    refine run_again ?_
    try refine go ?_
    refine call_ev (object_ev hT (kd := 5) (x := .vs true 0 []) hs hr hL hla .nil) ?_
    rintro d s1 ⟨rfl, h1, h2⟩
    try refine go ?_
    exact retF_R ⟨rfl, _, h1, h2⟩
  · rename_i ok
    try refine go ?_
    refine run_loop (fun m env s' => ∃ j y, j ≤ V.length ∧ m = V.length - j ∧ env = [(0, .ptr w 0), (2, .sl oa 0 i i), (9, .lv (tm 5 (.sl ok 0 V.length V.length))), (10, y), (11, .int .i64 j)] ∧ Kids s' y ((V.map rf).take j) ∧ Beh Nil s s' ∧ ∀ o l c, y = .sl o 0 l c → s.n ≤ o) V.length rfl ⟨0, _, Nat.zero_le _, rfl, rfl, .nil, Beh.refl hs, fun _ _ _ e => (by cases e)⟩ ?_
    rintro m env s' ⟨j, y, hj, rfl, rfl, hy, hb, hyo⟩
    have hok := hb.ok
    have b1 := hb.get hs hx (fun hh => hh)
    have b2 := hb.get hs ho (fun hh => hh)
    rcases Nat.lt_or_ge j V.length with hl | hl
    · have e1 : (V.map fun v : Nat => D.int .i64 (v : Int))[0 + j]? = some (.int .i64 (V[j] : Nat)) := by simp [hl]
      have e2 := g6 V[j] (List.getElem_mem hl)
      have e3 : (V.map rf).take (j + 1) = (V.map rf).take j ++ [rf V[j]] := by
        rw [List.take_add_one]; simp [hl]
      generalize V[j] = v at e1 e2 e3
      have e4 : (ints (rfs i))[0 + v]? = some (.int .i64 (rf v : Nat)) := by rw [Nat.zero_add]; simp [ints, rfs_at e2]
      have hA : ((V.map rf).take j).length = j := by rw [List.length_take, List.length_map]; omega
      generalize (V.map rf).take j = A at hy e3 hA
      rcases hy with _ | ⟨hy, hne⟩
      · try refine go ?_
        refine ret_loopN (V.length - (j + 1)) (by omega) rfl ⟨j + 1, _, by omega, rfl, rfl, ?_, hb.push _, ?_⟩
        · rw [e3]
          exact Kids.sl (V := [rf v]) St.get_push_eq (by simp)
        · intro o l c e
          simp only [D.sl.injEq] at e
          have := hb.n
          omega
      · rename_i yo
        have hl1 : (A.map fun v : Nat => D.int .i64 (v : Int)).length = A.length := List.length_map _
        have hyo' := hyo _ _ _ rfl
        have ly := hok.lt hy
        try refine go ?_
        refine ret_loopN (V.length - (j + 1)) (by omega) rfl ⟨j + 1, _, by omega, rfl, rfl, ?_, hb.set _ ly (fun hh => by omega), ?_⟩
        · rw [e3]
          have h9 : ((s'.set0 yo (.arr 1 3 ((A.map fun v : Nat => D.int .i64 (v : Int)) ++ [.int .i64 (rf v : Nat)]) 0))).get yo = some (.arr 1 3 ((A ++ [rf v]).map fun v : Nat => D.int .i64 (v : Int)) 0) := by
            rw [St.get_set_eq, List.map_append]; rfl
          have := Kids.sl (V := A ++ [rf v]) h9 (by simp)
          rw [List.length_append] at this
          exact this
        · intro o l c e
          simp only [D.sl.injEq] at e
          omega
    · have hr2 := hr.beh hs hb (fun hh => hh) (fun hh => hh)
      have hA : ((V.map rf).take j).length ≤ V.length := by rw [List.length_take, List.length_map]; omega
      generalize (V.map rf).take j = A at hy hA
      have hy0 := hy
      rcases hy with _ | ⟨hy, hne⟩ <;>
      · try refine go ?_
        refine call_ev (object_ev hT (kd := 5) hok hr2 hL hla hy0) ?_
        rintro d s1 ⟨rfl, h1, h2⟩
        try refine go ?_
        exact retF_R ⟨rfl, _, h1, (hb.mono fun _ hh => hh.elim).trans h2⟩
end
end Go.Proofs.YtloaklflgfefaaaGreatDoor.Tab

namespace Go.Proofs.YtloaklflgfefaaaGreatDoor.Tab
open Go Go.Ab Go.Ab.Sm
set_option linter.unusedSectionVars false
set_option linter.unusedSimpArgs false
set_option linter.unusedVariables false
set_option maxRecDepth 100000
set_option maxHeartbeats 2000000

section
variable {T : Nat → Option AFn} {H : Caller} {k : List Kont} {Q : QP}
theorem terms_ref {s s1 : St} {w vo cn ta N : Nat} {es L : List D} {last : Nat} {kd : Nat → Int} {kv : Nat → List Nat} (hs : s.Ok) (h : RefAt s w vo cn L last) (ht : Terms s ta N es kd kv) (hb : Beh (OfRef w vo) s s1) : Terms s1 ta N es kd kv := by
  obtain ⟨st, _, hv⟩ := h.gv
  refine ⟨hb.get hs ht.gt ?_, ht.ln, fun i hi => ?_, ht.kd0, ht.kv0, ht.kd1, ht.lt, ht.mx⟩
  · rintro (hh | hh)
    · have := ht.gt; rw [hh, h.gw] at this; cases this
    · have := ht.gt; rw [hh, hv] at this; simp at this
  · obtain ⟨x, h1, h2⟩ := ht.tm i hi
    refine ⟨x, h1, h2.beh hs hb fun j es st hg hh => ?_⟩
    rcases hh with hh | hh
    · rw [hh, h.gw] at hg; cases hg
    · rw [hh, hv] at hg; simp at hg
/-- The document's values under way: j of them. -/
structure MadeR (s0 s : St) (w vo cn ta N : Nat) (es L0 : List D) (kd : Nat → Int) (kv : Nat → List Nat) (j : Nat) (L : List D) (out : D) : Prop where
  ok : s.Ok
  bh : Beh (OfRef w vo) s0 s
  re : RefAt s w vo cn L (j - 1)
  ll : L.length = 3 + (j - 1)
  ls : ∀ i, 1 ≤ i → i < j → kd i = 6 → L[i + 2]? = some (val 6 (i : Nat) (.vs true 0 []))
  kx : Kids s out (rfs j)
  nw : ∀ o l c, out = .sl o 0 l c → s0.n ≤ o
theorem MadeR.one {s0 s : St} {w vo cn ta N : Nat} {es L0 L : List D} {kd : Nat → Int} {kv : Nat → List Nat} {out : D} (h : MadeR s0 s w vo cn ta N es L0 kd kv 0 L out) : MadeR s0 (s.push0 (.arr 1 3 [.int .i64 0] 0)) w vo cn ta N es L0 kd kv 1 L (.sl s.n 0 1 1) := by
  have hb : Beh Nil s (s.push0 (.arr 1 3 [.int .i64 0] 0)) := Beh.push (Beh.refl h.ok) _
  refine ⟨hb.ok, h.bh.push _, h.re.beh h.ok hb (fun hh => hh) (fun hh => hh), h.ll, fun i h1 h2 => by omega, Kids.sl (V := [0]) St.get_push_eq (by simp), ?_⟩
  intro o l c e
  simp only [D.sl.injEq] at e
  have := h.bh.n
  omega
theorem MadeR.more {s0 s s2 : St} {w vo cn ta N j oa : Nat} {es L0 L : List D} {kd : Nat → Int} {kv : Nat → List Nat} {kk : Int} {y : D} (hj : 1 ≤ j) (h : MadeR s0 s w vo cn ta N es L0 kd kv j L (.sl oa 0 j j)) (hg : s.get oa = some (.arr 1 3 (ints (rfs j)) 0)) (h1 : RefAt s2 w vo cn (L ++ [val kk ((j - 1) + 1 : Nat) y]) ((j - 1) + 1)) (h2 : Beh (OfRef w vo) s s2) (hk : kd j = kk) (hy : kk = 6 → y = .vs true 0 []) :
    MadeR s0 (s2.set0 oa (.arr 1 3 (ints (rfs j) ++ [.int .i64 L.length]) 0)) w vo cn ta N es L0 kd kv (j + 1) (L ++ [val kk ((j - 1) + 1 : Nat) y]) (.sl oa 0 (j + 1) (j + 1)) := by
  have hll := h.ll
  have lo := h.ok.lt hg
  have hn := h2.n
  obtain ⟨st, _, hv⟩ := h.re.gv
  have n1 : w ≠ oa := by rintro rfl; rw [h.re.gw] at hg; cases hg
  have n2 : vo ≠ oa := by rintro rfl; rw [hv] at hg; simp at hg
  have hb : Beh (fun i => i = oa) s2 (s2.set0 oa (.arr 1 3 (ints (rfs j) ++ [.int .i64 L.length]) 0)) := Beh.set (Beh.refl h2.ok) _ (by omega) (fun _ => rfl)
  have h0 := h.nw oa j j rfl
  have e1 : L.length = rf j := by rw [hll, rf, if_neg (by omega)]; omega
  refine ⟨hb.ok, (h.bh.trans h2).trans' hb fun i hi hlt => by omega, ?_, by rw [List.length_append, List.length_singleton]; omega, ?_, ?_, ?_⟩
  · have := h1.beh h2.ok hb n1 n2
    rw [show j + 1 - 1 = j - 1 + 1 by omega]; exact this
  · intro i hi1 hi2 hi3
    rcases Nat.lt_or_ge i j with hlt | hge
    · rw [List.getElem?_append_left (by omega)]; exact h.ls i hi1 hlt hi3
    · have : i = j := by omega
      subst this
      rw [List.getElem?_append_right (by omega), hll, show i + 2 - (3 + (i - 1)) = 0 by omega, List.getElem?_cons_zero, hy (hk ▸ hi3), ← hk, hi3, show i - 1 + 1 = i by omega]
  · have h9 : (s2.set0 oa (.arr 1 3 (ints (rfs j) ++ [.int .i64 L.length]) 0)).get oa = some (.arr 1 3 (ints (rfs (j + 1))) 0) := by
      rw [St.get_set_eq, rfs_succ, ints_app, e1]; rfl
    have := Kids.sl (V := rfs (j + 1)) h9 (by rw [rfs_succ]; simp)
    rw [rfs_len] at this; exact this
  · intro o l c e
    simp only [D.sl.injEq] at e
    omega
theorem kids_nil {s : St} {x : D} (h : Kids s x []) : x = .vs true 0 [] := by
  generalize hz : ([] : List Nat) = zz at h
  rcases h with _ | ⟨-, hne⟩
  · rfl
  · exact absurd hz.symm hne
theorem kids_sl {s : St} {x : D} {V : List Nat} (h : Kids s x V) (hV : 1 ≤ V.length) : ∃ o, x = .sl o 0 V.length V.length ∧ s.get o = some (.arr 1 3 (ints V) 0) := by
  rcases h with _ | ⟨h, hne⟩
  · simp at hV
  · exact ⟨_, rfl, h⟩
/-- The document's lists under way: those ahead of j are full. -/
structure FillR (s0 s : St) (w vo cn N oa : Nat) (kd : Nat → Int) (j : Nat) (L : List D) : Prop where
  bh : Beh (OfRef w vo) s0 s
  re : RefAt s w vo cn L (N - 1)
  ll : L.length = 3 + (N - 1)
  ls : ∀ i, j ≤ i → 1 ≤ i → i < N → kd i = 6 → L[i + 2]? = some (val 6 (i : Nat) (.vs true 0 []))
  ga : s.get oa = some (.arr 1 3 (ints (rfs N)) 0)
/-- One list under way. -/
structure ListR (s0 s : St) (w vo cn N oa : Nat) (kd : Nat → Int) (j k : Nat) (L : List D) (x : D) (A : List Nat) : Prop where
  fl : FillR s0 s w vo cn N oa kd (j + 1) L
  it : L[j + 2]? = some (val 6 (j : Nat) x)
  kx : Kids s x A
  al : A.length = k
  nw : ∀ o l c, x = .sl o 0 l c → s0.n ≤ o ∧ o ≠ oa
theorem RefAt.set {s : St} {w vo cn last : Nat} {L : List D} (hs : s.Ok) (h : RefAt s w vo cn L last) (i : Nat) (v : D) : RefAt (s.set0 vo (.arr 22 93 (L.set i v) L.length)) w vo cn (L.set i v) last := by
  obtain ⟨st, _, hv⟩ := h.gv
  have hw := h.gw
  have ne : w ≠ vo := by rintro rfl; rw [hw] at hv; cases hv
  refine ⟨?_, L.length, by rw [List.length_set]; exact Nat.le_refl _, St.get_set_eq⟩
  rw [List.length_set]
  exact St.get_set_ne hw ne
theorem ListR.step {s0 s3 s4 : St} {w vo cn N oa j k v' : Nat} {kd : Nat → Int} {L : List D} {x x' : D} {A : List Nat} (h : ListR s0 s3 w vo cn N oa kd j k L x A) (hw0 : w < s0.n) (hv0 : vo < s0.n) (hj1 : 1 ≤ j) (hjN : j < N) (hb : Beh (fun o => ∃ l c, x = .sl o 0 l c) s3 s4) (hk : Kids s4 x' (A ++ [v']))
    (hnw : ∀ o l c, x' = .sl o 0 l c → s0.n ≤ o ∧ o ≠ oa) : ListR s0 (s4.set0 vo (.arr 22 93 (L.set (0 + rf j) (val 6 (j : Nat) x')) L.length)) w vo cn N oa kd j (k + 1) (L.set (0 + rf j) (val 6 (j : Nat) x')) x' (A ++ [v']) := by
  have hok := h.fl.bh.ok
  have hll := h.fl.ll
  have hrf : rf j = j + 2 := by rw [rf, if_neg (by omega)]
  have hnx : ∀ o, o < s0.n → ¬ ∃ l c, x = .sl o 0 l c := fun o ho ⟨l, c, e⟩ => by have := (h.nw o l c e).1; omega
  have r4 := h.fl.re.beh hok hb (hnx w hw0) (hnx vo hv0)
  have g4 := hb.get hok h.fl.ga (fun ⟨l, c, e⟩ => (h.nw oa l c e).2 rfl)
  have n4 := hb.n
  have n0 := h.fl.bh.n
  have hb2 : Beh (fun o => o = vo) s4 (s4.set0 vo (.arr 22 93 (L.set (0 + rf j) (val 6 (j : Nat) x')) L.length)) := Beh.set (Beh.refl hb.ok) _ (by omega) (fun _ => rfl)
  have hov : oa ≠ vo := by
    rintro rfl
    obtain ⟨st, _, hv⟩ := h.fl.re.gv
    rw [h.fl.ga] at hv; simp at hv
  refine ⟨⟨?_, r4.set hb.ok _ _, by rw [List.length_set]; exact hll, ?_, hb2.get hb.ok g4 hov⟩, ?_, ?_, by rw [List.length_append, h.al]; rfl, hnw⟩
  · refine (h.fl.bh.trans' hb ?_).trans' hb2 ?_
    · rintro o ⟨l, c, e⟩ ho
      have := (h.nw o l c e).1; omega
    · rintro o rfl _; exact .inr rfl
  · intro i h1 h2 h3 h4
    rw [List.getElem?_set_ne (by omega)]
    exact h.fl.ls i h1 h2 h3 h4
  · rw [show 0 + rf j = j + 2 by omega, List.getElem?_set_self (by omega)]
  · refine hk.beh hb.ok hb2 fun o es st hg e => ?_
    obtain ⟨st', _, hv⟩ := r4.gv
    rw [e, hv] at hg; simp at hg
theorem buildR_ev (hT : Tb T) {s0 : St} {w vo cn ta N : Nat} {es L0 : List D} {kd : Nat → Int} {kv : Nat → List Nat} (hs : s0.Ok) (h : RefAt s0 w vo cn L0 0) (hL : L0.length = 3) (ht : Terms s0 ta N es kd kv) (hN : N ≤ 1000) (hN1 : 1 ≤ N) :
    EvP T H 10 [.ptr w 0, .sl ta 0 N N] s0 fun d s1 => (∃ oa, d = .tup [.sl oa 0 N N, .int .i64 0]) ∧ Beh (OfRef w vo) s0 s1 := by
  have lw := hs.lt h.gw
  have hvo0 : vo < s0.n := by
    obtain ⟨st, _, hv⟩ := h.gv
    exact hs.lt hv
  have gt := ht.gt
  have ln := ht.ln
  have gw := h.gw
  refine evp_in hT.t10 ?_
  try refine go ?_
  refine run_cnt N (fun j => [(0, .ptr w 0), (1, .sl ta 0 N N), (6, .int .i64 j)]) (fun j s' => s' = s0) rfl ?_
  rintro j s' hj rfl
  rcases Nat.lt_or_ge j N with hl | hl
  · obtain ⟨x, hx⟩ := ht.at' hl
    repeat' first | refine go ?_ | (refine call_ev (wrongR_ev hT hs hx) ?_; rintro d s2 ⟨rfl, rfl⟩)
    exact ret_cnt hl rfl
  · try refine go ?_
    refine run_loop (fun m env s1 => ∃ j L out, j ≤ N ∧ m = N - j ∧ env = [(0, .ptr w 0), (1, .sl ta 0 N N), (8, out), (9, .int .i64 j)] ∧ MadeR s' s1 w vo cn ta N es L0 kd kv j L out) N rfl ⟨0, L0, _, Nat.zero_le _, rfl, rfl, ⟨hs, Beh.refl hs, h, by omega, fun i h1 h2 => by omega, .nil, fun _ _ _ e => (by cases e)⟩⟩ ?_
    rintro m env s1 ⟨j, L, out, hj, rfl, rfl, hm⟩
    have hok := hm.ok
    have hll := hm.ll
    have ht1 := terms_ref hs h ht hm.bh
    have gt1 := ht1.gt
    rcases Nat.lt_or_ge j N with hl2 | hl2
    · obtain ⟨x, hx⟩ := ht1.at' hl2
      have hkx := hm.kx
      have hnw := hm.nw
      rcases Nat.eq_zero_or_pos j with rfl | hp
      · rw [ht.kd0, ht.kv0] at hx
        have hx9 := hx.ks
        have e0 : rfs 0 = [] := rfl
        rw [e0] at hkx
        have hout := kids_nil hkx
        have hxx := kids_nil hx9
        subst hout hxx
        try refine go ?_
        refine call_ev (madeN_ev hT hok hx) ?_
        rintro d s2 ⟨rfl, rfl⟩
        try refine go ?_
        exact ret_loopN (N - (0 + 1)) (by omega) rfl ⟨0 + 1, L, _, by omega, rfl, rfl, hm.one⟩
      · obtain ⟨oa, rfl, hoa⟩ := kids_sl hkx (by rw [rfs_len]; exact hp)
        rw [rfs_len] at hm hnw hkx ⊢
        have hrl : (ints (rfs j)).length = j := by rw [ints_len, rfs_len]
        have loa := hok.lt hoa
        have hno : ¬ OfRef w vo oa := by
          obtain ⟨st, _, hv⟩ := hm.re.gv
          rintro (hh | hh)
          · rw [hh, hm.re.gw] at hoa; cases hoa
          · rw [hh, hv] at hoa; simp at hoa
        rcases ht.kd1 j (by omega) with hk | hk
        · rw [hk] at hx
          try refine go ?_
          refine call_ev (madeT_ev hT hok hx hm.re (by omega) (by omega) hoa) ?_
          rintro d s2 ⟨rfl, y, q1, q2⟩
          have p1 := q2.get hok hoa hno
          have p2 := q2.ok
          have p3 := q2.n
          try refine go ?_
          exact ret_loopN (N - (j + 1)) (by omega) rfl ⟨j + 1, _, _, by omega, rfl, rfl, hm.more hp hoa q1 q2 hk (fun e => by omega)⟩
        · rw [hk] at hx
          try refine go ?_
          refine call_ev (madeL_ev hT hok hx hm.re (by omega) (by omega)) ?_
          rintro d s2 ⟨rfl, q1, q2⟩
          have p1 := q2.get hok hoa hno
          have p2 := q2.ok
          have p3 := q2.n
          try refine go ?_
          exact ret_loopN (N - (j + 1)) (by omega) rfl ⟨j + 1, _, _, by omega, rfl, rfl, hm.more hp hoa q1 q2 hk (fun e => rfl)⟩
    · have : j = N := by omega
      subst this
      obtain ⟨oa, rfl, hoa⟩ := kids_sl hm.kx (by rw [rfs_len]; exact hN1)
      rw [rfs_len] at hm ⊢
      have h0a := hm.nw oa j j rfl
      have hno : ∀ {s : St} {L last}, RefAt s w vo cn L last → s.get oa = some (.arr 1 3 (ints (rfs j)) 0) → ¬ OfRef w vo oa := fun {s L last} h1 h2 hh => by
        obtain ⟨st, _, hv⟩ := h1.gv
        rcases hh with hh | hh
        · rw [hh, h1.gw] at h2; cases h2
        · rw [hh, hv] at h2; simp at h2
      try refine go ?_
      refine run_cnt j (fun i => [(0, .ptr w 0), (1, .sl ta 0 j j), (8, .sl oa 0 j j), (10, .int .i64 i)]) (fun i s2 => ∃ L, FillR s' s2 w vo cn j oa kd i L) ⟨L, hm.bh, hm.re, hll, fun i _ h1 h2 h3 => hm.ls i h1 h2 h3, hoa⟩ ?_
      rintro i s2 hi ⟨L2, hf⟩
      have hok2 := hf.bh.ok
      have ht2 := terms_ref hs h ht hf.bh
      have gt2 := ht2.gt
      have ga2 := hf.ga
      have hrl : (ints (rfs j)).length = j := by rw [ints_len, rfs_len]
      rcases Nat.lt_or_ge i j with hl3 | hl3
      · obtain ⟨x, hx1, hx2⟩ := ht.tm i hl3
        have hx1' : es[0 + i]? = some (tm (kd i) x) := by rw [Nat.zero_add]; exact hx1
        by_cases hk6 : kd i = 6
        · rw [hk6] at hx1 hx1'
          have hi1 : 1 ≤ i := by
            rcases Nat.eq_zero_or_pos i with h9 | h9
            · rw [h9, ht.kd0] at hk6; cases hk6
            · exact h9
          have hmx := ht.mx i
          have hlt := ht.lt i
          generalize hkv : kv i = VV at hx2 hmx hlt
          rcases hx2 with _ | ⟨hx3, hx4⟩
          · try refine go ?_
            refine run_again ?_
            try refine go ?_
            exact ret_cnt hl3 ⟨L2, hf.bh, hf.re, hf.ll, fun a h1 => hf.ls a (by omega), hf.ga⟩
          · rename_i ko
            have hnk : ¬ OfRef w vo ko := by
              obtain ⟨st, _, hv⟩ := h.gv
              rintro (hh | hh)
              · rw [hh, h.gw] at hx3; cases hx3
              · rw [hh, hv] at hx3; simp at hx3
            have hkn := hs.lt hx3
            try refine go ?_
            refine run_cnt VV.length (fun a => [(0, .ptr w 0), (1, .sl ta 0 j j), (8, .sl oa 0 j j), (10, .int .i64 i), (11, .int .i64 a)]) (fun a s3 => ∃ L3 x A, ListR s' s3 w vo cn j oa kd i a L3 x A) ⟨L2, _, [], ⟨hf.bh, hf.re, hf.ll, fun a h1 => hf.ls a (by omega), hf.ga⟩, hf.ls i (Nat.le_refl _) hi1 hl3 hk6, .nil, rfl, fun _ _ _ e => (by cases e)⟩ ?_
            rintro a s3 ha ⟨L3, x, A, hli⟩
            have hok3 := hli.fl.bh.ok
            have ht3 := terms_ref hs h ht hli.fl.bh
            have hn3 := hli.fl.bh.n
            have hoa3 := hok3.lt hli.fl.ga
            have hvo3 : vo < s3.n := by
              obtain ⟨st, _, hv⟩ := hli.fl.re.gv
              exact hok3.lt hv
            have gt3 := ht3.gt
            have ga3 := hli.fl.ga
            have gw3 := hli.fl.re.gw
            obtain ⟨st3, hst3, gv3⟩ := hli.fl.re.gv
            have gk3 := hli.fl.bh.get hs hx3 hnk
            have it3 : L3[0 + rf i]? = some (val 6 (i : Nat) x) := by rw [Nat.zero_add, rf, if_neg (by omega)]; exact hli.it
            have hll3 := hli.fl.ll
            have hrf : rf i < L3.length := by rw [rf, if_neg (by omega)]; omega
            have eri : (ints (rfs j))[0 + i]? = some (.int .i64 (rf i : Nat)) := by rw [Nat.zero_add]; simp [ints, rfs_at hl3]
            rcases Nat.lt_or_ge a VV.length with hl4 | hl4
            · have e1 : (VV.map fun v : Nat => D.int .i64 (v : Int))[0 + a]? = some (.int .i64 (VV[a] : Nat)) := by simp [hl4]
              have e2 := hlt VV[a] (List.getElem_mem hl4)
              generalize VV[a] = v at e1 e2
              have e4 : (ints (rfs j))[0 + v]? = some (.int .i64 (rf v : Nat)) := by rw [Nat.zero_add]; simp [ints, rfs_at (show v < j by omega)]
              have hkx := hli.kx
              have hal := hli.al
              have hnw := hli.nw
              rcases hkx with _ | ⟨hy, hne⟩
              · have hal0 : a = 0 := by rw [← hal]; rfl
                try refine go ?_
                have hb4 : Beh (fun o => ∃ l c, (D.vs true 0 [] : D) = .sl o 0 l c) s3 ((s3.up 1).set0 (s3.n + 0) (.arr 1 3 [.int .i64 (rf v : Nat)] 0)) := Beh.set ((Beh.refl hok3).up 1) _ (by rw [St.n_up]; omega) (fun hh => by omega)
                exact ret_cnt hl4 ⟨_, _, _, hli.step lw hvo0 hi1 hl3 hb4 (Kids.sl (V := [rf v]) St.get_set_eq (by simp)) (fun o l c e => by
                  simp only [D.sl.injEq] at e
                  omega)⟩
              · rename_i yo
                have hly := hok3.lt hy
                obtain ⟨m1, m2⟩ := hnw _ _ _ rfl
                have m3 : yo ≠ w := by omega
                have m4 : yo ≠ vo := by omega
                have hl1 : (A.map fun v : Nat => D.int .i64 (v : Int)).length = A.length := List.length_map _
                try refine go ?_
                have hb4 : Beh (fun o => ∃ l c, (D.sl yo 0 A.length A.length : D) = .sl o 0 l c) s3 ((s3.up 1).set0 yo (.arr 1 3 ((A.map fun v : Nat => D.int .i64 (v : Int)) ++ [.int .i64 (rf v : Nat)]) 0)) := Beh.set ((Beh.refl hok3).up 1) _ (by rw [St.n_up]; omega) (fun hh => ⟨_, _, rfl⟩)
                have hk4 : Kids ((s3.up 1).set0 yo (.arr 1 3 ((A.map fun v : Nat => D.int .i64 (v : Int)) ++ [.int .i64 (rf v : Nat)]) 0)) (.sl yo 0 (A.length + 1) (A.length + 1)) (A ++ [rf v]) := by
                  have h9 : ((s3.up 1).set0 yo (.arr 1 3 ((A.map fun v : Nat => D.int .i64 (v : Int)) ++ [.int .i64 (rf v : Nat)]) 0)).get yo = some (.arr 1 3 ((A ++ [rf v]).map fun v : Nat => D.int .i64 (v : Int)) 0) := by
                    rw [St.get_set_eq, List.map_append]; rfl
                  have := Kids.sl (V := A ++ [rf v]) h9 (by simp)
                  rw [List.length_append] at this
                  exact this
                exact ret_cnt hl4 ⟨_, _, _, hli.step lw hvo0 hi1 hl3 hb4 hk4 (fun o l c e => by
                  simp only [D.sl.injEq] at e
                  omega)⟩
            · try refine go ?_
              exact ret_cnt hl3 ⟨L3, hli.fl⟩
        · have hkk : kd i = 1 ∨ kd i = 5 := by
            rcases Nat.eq_zero_or_pos i with h9 | h9
            · rw [h9]; exact .inl ht.kd0
            · rcases ht.kd1 i (by omega) with h8 | h8
              · exact .inr h8
              · exact absurd h8 hk6
          rcases hkk with hkk | hkk <;> rw [hkk] at hx1 hx1' <;>
          · try refine go ?_
            exact ret_cnt hl3 ⟨L2, hf.bh, hf.re, hf.ll, fun a h1 => hf.ls a (by omega), hf.ga⟩
      · try refine go ?_
        exact retF_R ⟨⟨oa, rfl⟩, hf.bh⟩
end
end Go.Proofs.YtloaklflgfefaaaGreatDoor.Tab
