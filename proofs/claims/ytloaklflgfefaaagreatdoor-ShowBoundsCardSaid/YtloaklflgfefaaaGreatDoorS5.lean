/- Terms that are None, tuples, lists: what they make. -/
import Derived.Test.YtloaklflgfefaaaGreatDoorS3
namespace Go.Proofs.YtloaklflgfefaaaGreatDoor.Tab
open Go Go.Ab Go.Ab.Sm
set_option linter.unusedSectionVars false
set_option linter.unusedSimpArgs false
set_option linter.unusedVariables false
set_option maxRecDepth 100000
set_option maxHeartbeats 2000000

section
variable {T : Nat → Option AFn} {H : Caller} {k : List Kont} {Q : QP}
theorem wrongR_ev (hT : Tb T) {s : St} {ta N i : Nat} {es : List D} {kd : Int} {x : D} {V : List Nat} (hs : s.Ok) (h : TermAt s ta N i es kd x V) :
    EvP T H 22 [.sl ta 0 N N, .int .i64 i, .int .i64 60000] s fun d s1 => d = .int .i64 0 ∧ s1 = s := by
  obtain ⟨g1, g2, g3, g4, g5, g6, g7⟩ := h
  refine evp_in hT.t22 ?_
  have g3' : es[0 + i]? = some (tm kd x) := by rw [Nat.zero_add]; exact g3
  have li : i < es.length := (List.getElem?_eq_some_iff.mp g3).1
  rcases g4 with _ | ⟨hx, hn⟩
  · rcases g5 with ⟨rfl, -⟩ | rfl | rfl <;>
    · try refine go ?_
      refine run_again ?_
      try refine go ?_
      exact retF_R ⟨rfl, rfl⟩
  · rename_i ok
    have hlen : 0 < V.length := List.length_pos_iff.2 hn
    rcases g5 with ⟨rfl, h0⟩ | rfl | rfl
    · exact absurd h0 hn
    · try refine go ?_
      refine run_loop (fun m env s' => ∃ j, j ≤ V.length ∧ m = V.length - j ∧ s' = s ∧ ∃ o13 : Env, (o13 = [] ∨ ∃ v : Nat, o13 = [(13, .int .i64 v)]) ∧ env = [(0, .sl ta 0 N N), (1, .int .i64 i), (2, .int .i64 60000), (7, .lv (tm 5 (.sl ok 0 V.length V.length))), (8, .bool false), (9, .bool false), (10, .bool false), (11, .bool true), (12, .int .i64 j)] ++ (o13 ++ [(15, .sl ta 0 N N), (18, tm 5 (.sl ok 0 V.length V.length)), (20, .int .i64 5), (22, .bool false), (24, .tup [])])) V.length rfl ⟨0, Nat.zero_le _, rfl, rfl, [], .inl rfl, rfl⟩ ?_
      rintro m env s' ⟨j, hj, rfl, rfl, o13, ho, rfl⟩
      rcases Nat.lt_or_ge j V.length with hl | hl
      · have e1 : (V.map fun v : Nat => D.int .i64 (v : Int))[0 + j]? = some (.int .i64 (V[j] : Nat)) := by simp [hl]
        have e2 := g6 V[j] (List.getElem_mem hl)
        generalize V[j] = v at e1 e2
        rcases ho with rfl | ⟨w, rfl⟩ <;>
        · try refine go ?_
          exact ret_loopN (V.length - (j + 1)) (by omega) rfl ⟨j + 1, by omega, rfl, rfl, [(13, .int .i64 v)], .inr ⟨v, rfl⟩, rfl⟩
      · rcases ho with rfl | ⟨w, rfl⟩ <;>
        · try refine go ?_
          exact retF_R ⟨rfl, rfl⟩
    · try refine go ?_
      refine run_loop (fun m env s' => ∃ j, j ≤ V.length ∧ m = V.length - j ∧ s' = s ∧ ∃ o13 : Env, (o13 = [] ∨ ∃ v : Nat, o13 = [(13, .int .i64 v)]) ∧ env = [(0, .sl ta 0 N N), (1, .int .i64 i), (2, .int .i64 60000), (7, .lv (tm 6 (.sl ok 0 V.length V.length))), (8, .bool false), (9, .bool false), (10, .bool false), (11, .bool true), (12, .int .i64 j)] ++ (o13 ++ [(15, .sl ta 0 N N), (18, tm 6 (.sl ok 0 V.length V.length)), (20, .int .i64 6), (22, .bool false), (24, .tup [])])) V.length rfl ⟨0, Nat.zero_le _, rfl, rfl, [], .inl rfl, rfl⟩ ?_
      rintro m env s' ⟨j, hj, rfl, rfl, o13, ho, rfl⟩
      rcases Nat.lt_or_ge j V.length with hl | hl
      · have e1 : (V.map fun v : Nat => D.int .i64 (v : Int))[0 + j]? = some (.int .i64 (V[j] : Nat)) := by simp [hl]
        have e2 := g6 V[j] (List.getElem_mem hl)
        generalize V[j] = v at e1 e2
        rcases ho with rfl | ⟨w, rfl⟩ <;>
        · try refine go ?_
          exact ret_loopN (V.length - (j + 1)) (by omega) rfl ⟨j + 1, by omega, rfl, rfl, [(13, .int .i64 v)], .inr ⟨v, rfl⟩, rfl⟩
      · rcases ho with rfl | ⟨w, rfl⟩ <;>
        · try refine go ?_
          exact retF_R ⟨rfl, rfl⟩
end
end Go.Proofs.YtloaklflgfefaaaGreatDoor.Tab

namespace Go.Proofs.YtloaklflgfefaaaGreatDoor.Tab
open Go Go.Ab Go.Ab.Sm
set_option linter.unusedSectionVars false
set_option linter.unusedSimpArgs false
set_option linter.unusedVariables false
set_option maxRecDepth 100000
set_option maxHeartbeats 1000000
section
variable {T : Nat → Option AFn} {H : Caller}
theorem tooBig_ev (hT : Tb T) {s : St} {bo so o la ta2 pl mp n ta N i : Nat} {W es : List D} {kd : Int} {x rf : D} {V : List Nat} (hs : s.Ok) (hb : s.get bo = some (.var 96 (.agg [.ptr so 0, .sl ta 0 N N, rf]))) (hst : StoreAt s so o la ta2 pl mp W n) (h : TermAt s ta N i es kd x V) :
    EvP T H 31 [.ptr bo 0, .int .i64 i] s fun d s1 => d = .bool false ∧ Beh Nil s s1 := by
  obtain ⟨g1, g2, g3, g4, g5, g6, g7⟩ := h
  refine evp_in hT.t31 ?_
  have g3' : es[0 + i]? = some (tm kd x) := by rw [Nat.zero_add]; exact g3
  have li : i < es.length := (List.getElem?_eq_some_iff.mp g3).1
  have hk : kd = 1 ∨ kd = 5 ∨ kd = 6 := by omega
  have hq := g4
  have h1 := hst.go
  have lb := hs.lt hb
  have l1 := hs.lt h1
  have hg : ¬ ((65536 : Int) < (V.length : Int)) := by omega
  have hq' : Kids (s.push0 (.map [] 0)) x V := by
    rcases g4 with _ | ⟨hx, hn⟩
    · exact .nil
    · exact .sl (St.get_push_ne hx (by have := hs.lt hx; omega)) hn
  rcases g4 with _ | ⟨hx, hn⟩
  · rcases g5 with ⟨rfl, -⟩ | rfl | rfl
    · repeat' first | refine go ?_ | (refine call_ev (keys_ev hT hk hq') ?_; rintro d s1 ⟨rfl, rfl⟩)
      refine run_again ?_
      try refine go ?_
      exact retF_R ⟨rfl, (by repeat (first | assumption | exact Go.Ab.Beh.refl (by assumption) | refine Go.Ab.Beh.set ?_ _ (by first | assumption | omega | (simp only [Go.Ab.St.n_push0, Go.Ab.St.n_set0, Go.Ab.St.n_up]; omega)) (fun hbeh => by first | (exfalso; omega) | (exfalso; simp only [Go.Ab.St.n_push0, Go.Ab.St.n_set0, Go.Ab.St.n_up] at hbeh; omega) | (simp; done)) | refine Go.Ab.Beh.push ?_ _ | refine Go.Ab.Beh.up ?_ _))⟩
    all_goals
      try refine go ?_
      exact retF_R ⟨rfl, Beh.refl hs⟩
  · rename_i ok
    rcases g5 with ⟨rfl, h0⟩ | rfl | rfl
    · exact absurd h0 hn
    all_goals
      try refine go ?_
      exact retF_R ⟨rfl, Beh.refl hs⟩
theorem wrong_ev (hT : Tb T) {s : St} {bo so o la ta2 pl mp n ta N i : Nat} {W es : List D} {kd : Int} {x rf : D} {V : List Nat} (hs : s.Ok) (hb : s.get bo = some (.var 96 (.agg [.ptr so 0, .sl ta 0 N N, rf]))) (hst : StoreAt s so o la ta2 pl mp W n) (h : TermAt s ta N i es kd x V) :
    EvP T H 19 [.ptr bo 0, .int .i64 i] s fun d s1 => d = .int .i64 0 ∧ Beh Nil s s1 := by
  have hb1 := badKids_ev (H := H) hT hs hb h
  have hb2 := tooBig_ev (H := H) hT hs hb hst h
  obtain ⟨g1, g2, g3, g4, g5, g6, g7⟩ := h
  refine evp_in hT.t19 ?_
  have g3' : es[0 + i]? = some (tm kd x) := by rw [Nat.zero_add]; exact g3
  have li : i < es.length := (List.getElem?_eq_some_iff.mp g3).1
  have hk : kd = 1 ∨ kd = 5 ∨ kd = 6 := by omega
  rcases g4 with _ | ⟨hx, hn⟩ <;> rcases hk with rfl | rfl | rfl <;>
  · repeat' first | refine go ?_ | (refine call_ev (isKind_ev hT (by omega)) ?_; rintro d s1 ⟨rfl, rfl⟩) | (refine call_ev hb1 ?_; rintro d s1 ⟨rfl, rfl⟩) | (refine call_ev hb2 ?_; rintro d s1 ⟨rfl, hh⟩)
    exact retF_R ⟨rfl, hh⟩
end
end Go.Proofs.YtloaklflgfefaaaGreatDoor.Tab

namespace Go.Proofs.YtloaklflgfefaaaGreatDoor.Tab
open Go Go.Ab Go.Ab.Sm
set_option linter.unusedSectionVars false
set_option linter.unusedSimpArgs false
set_option linter.unusedVariables false
set_option maxRecDepth 100000
set_option maxHeartbeats 1000000
section
variable {T : Nat → Option AFn} {H : Caller}
theorem makeN_ev (hT : Tb T) {s : St} {bo so ta N : Nat} {rf : D} (hs : s.Ok) (hb : s.get bo = some (.var 96 (.agg [.ptr so 0, .sl ta 0 N N, rf]))) :
    EvP T H 20 [.ptr bo 0, tm 1 (.vs true 0 [])] s fun d s1 => d = .int .i64 0 ∧ s1 = s := by
  refine evp_in hT.t20 ?_
  try refine go ?_
  exact retF_R ⟨rfl, rfl⟩
theorem notStore {s : St} {bo so o la ta2 pl mp n ty : Nat} {W : List D} {d : D} (h : StoreAt s so o la ta2 pl mp W n) (hb : s.get bo = some (.var ty d)) (h1 : ty ≠ 71) (h2 : ty ≠ 120) (h3 : ty ≠ 123) : ¬ OfStore so o la ta2 pl bo := by
  rintro (rfl | rfl | rfl | rfl | rfl)
  · rw [h.go] at hb; simp only [Option.some.injEq, Obj.var.injEq] at hb; exact h1 hb.1.symm
  · rw [h.sl.go] at hb; simp only [Option.some.injEq, Obj.var.injEq] at hb; exact h2 hb.1.symm
  · rw [h.sl.gl] at hb; cases hb
  · rw [h.sl.gt] at hb; cases hb
  · rw [h.gp] at hb; simp only [Option.some.injEq, Obj.var.injEq] at hb; exact h3 hb.1.symm
/-- A row: of zeros. -/
theorem makeR_ev (hT : Tb T) {s : St} {bo ta N so o la ta2 pl mp n : Nat} {W : List D} {kd : Int} {x rf : D} {V : List Nat} (hs : s.Ok) (hb : s.get bo = some (.var 96 (.agg [.ptr so 0, .sl ta 0 N N, rf]))) (h : StoreAt s so o la ta2 pl mp W n) (hn : n < 2147483648) (hW : W.length + 1 ≤ maxElems)
    (hk : kd = 5 ∨ kd = 6) (hx : Kids s x V) (hV : V.length ≤ 65536) :
    EvP T H 20 [.ptr bo 0, tm kd x] s fun d s1 => d = .int .i64 W.length ∧ ∃ ro lx, s.n ≤ ro ∧ ro < s1.n ∧ s.n ≤ lx ∧ lx < s1.n ∧ s1.get ro = some (.var 105 (.agg [.int .i64 (n + 1 : Nat), .sl lx 0 V.length V.length, .int .i64 kd])) ∧
      s1.get lx = some (.arr 1 3 (List.replicate V.length (.int .i64 0)) 0) ∧ StoreAt s1 so o la ta2 pl mp (W ++ [.ifc 99 (.ptr ro 0)]) (n + 1) ∧ Beh (OfStore so o la ta2 pl) s s1 := by
  refine evp_in hT.t20 ?_
  have lb := hs.lt hb
  have ln : (if V.length = 0 then 0 else V.length) = V.length := by split <;> omega
  have hm : V.length ≤ maxElems := by simp only [maxElems]; omega
  have hnb := notStore h hb (by decide) (by decide) (by decide)
  have hnn : ¬ OfStore so o la ta2 pl (s.n + 0) := by
    have m1 := hs.lt h.go; have m2 := hs.lt h.sl.go; have m3 := hs.lt h.sl.gl; have m4 := hs.lt h.sl.gt; have m5 := hs.lt h.gp
    rintro (hj | hj | hj | hj | hj) <;> omega
  rcases hk with rfl | rfl <;> rcases hx with _ | ⟨hx, hne⟩
  · try refine go ?_
    refine dops_mkslice (dl := .int .i64 (0 : Nat)) (dc := .int .i64 (0 : Nat)) idx_i idx_i (Nat.le_refl _) (by omega) hm ?_
    try refine go ?_
    have c1 : ((s.up 1).set0 (s.n + 0) (.arr 1 3 (List.replicate 0 (.int .i64 0)) 0)).Ok := (by repeat (first | assumption | refine Go.Ab.St.Ok.push0 ?_ _ | refine Go.Ab.St.Ok.set0 ?_ _ (by first | assumption | omega | (simp only [Go.Ab.St.n_push0, Go.Ab.St.n_set0, Go.Ab.St.n_up]; omega)) | refine Go.Ab.St.Ok.up ?_ _))
    have c3 : Beh Nil s ((s.up 1).set0 (s.n + 0) (.arr 1 3 (List.replicate 0 (.int .i64 0)) 0)) := Beh.set ((Beh.refl hs).up 1) _ (by rw [St.n_up]; omega) (fun hh => by omega)
    have c2 := h.beh hs c3 (fun j _ hj => hj)
    refine dops_call (row_ev hT c1 c2 hn hW) ?_
    rintro d s2 ⟨rfl, ro, r1, r2, r3, r4, r5⟩
    have e1 := c3.get hs hb (fun hj => hj)
    have e2 := r5.get c1 e1 hnb
    refine ⟨rfl, by simp [Go.Ab.lost, Go.Ab.AOp.kind, Go.Ab.lostAts, Go.Ab.lostAt, Go.Ab.fpOf, Go.Ab.wantedD, Go.Ab.fpRd, Go.Ab.fpRd.objs, Go.Ab.fpRg, Go.Ab.Opd.ev, Go.Ab.Env.get, Go.Ab.sameObj, Go.Ab.D.flat, Go.Ab.D.isAgg, Go.Ab.cellsEq, Go.Ab.D.beqs, Go.Ab.D.beq, Nat.beq_refl, e1, e2], ?_⟩
    try refine go ?_
    have z1 := r5.n
    simp only [St.n_set0, St.n_up] at z1 r1
    have e3 := r5.get (o := s.n + 0) c1 St.get_set_eq hnn
    exact retF_R ⟨rfl, ro, s.n + 0, by omega, r2, by omega, by omega, r3, e3, r4, Beh.trans' (W' := OfStore so o la ta2 pl) (c3.mono (fun _ hj => hj.elim)) r5 (fun _ hj _ => hj)⟩
  · try refine go ?_
    refine dops_mkslice (dl := .int .i64 V.length) (dc := .int .i64 V.length) idx_i idx_i (Nat.le_refl _) (by omega) hm ?_
    try refine go ?_
    have c1 : ((s.up 1).set0 (s.n + 0) (.arr 1 3 (List.replicate V.length (.int .i64 0)) 0)).Ok := (by repeat (first | assumption | refine Go.Ab.St.Ok.push0 ?_ _ | refine Go.Ab.St.Ok.set0 ?_ _ (by first | assumption | omega | (simp only [Go.Ab.St.n_push0, Go.Ab.St.n_set0, Go.Ab.St.n_up]; omega)) | refine Go.Ab.St.Ok.up ?_ _))
    have c3 : Beh Nil s ((s.up 1).set0 (s.n + 0) (.arr 1 3 (List.replicate V.length (.int .i64 0)) 0)) := Beh.set ((Beh.refl hs).up 1) _ (by rw [St.n_up]; omega) (fun hh => by omega)
    have c2 := h.beh hs c3 (fun j _ hj => hj)
    refine dops_call (row_ev hT c1 c2 hn hW) ?_
    rintro d s2 ⟨rfl, ro, r1, r2, r3, r4, r5⟩
    have e1 := c3.get hs hb (fun hj => hj)
    have e2 := r5.get c1 e1 hnb
    refine ⟨rfl, by simp [Go.Ab.lost, Go.Ab.AOp.kind, Go.Ab.lostAts, Go.Ab.lostAt, Go.Ab.fpOf, Go.Ab.wantedD, Go.Ab.fpRd, Go.Ab.fpRd.objs, Go.Ab.fpRg, Go.Ab.Opd.ev, Go.Ab.Env.get, Go.Ab.sameObj, Go.Ab.D.flat, Go.Ab.D.isAgg, Go.Ab.cellsEq, Go.Ab.D.beqs, Go.Ab.D.beq, Nat.beq_refl, e1, e2], ?_⟩
    try refine go ?_
    have z1 := r5.n
    simp only [St.n_set0, St.n_up] at z1 r1
    have e3 := r5.get (o := s.n + 0) c1 St.get_set_eq hnn
    exact retF_R ⟨rfl, ro, s.n + 0, by omega, r2, by omega, by omega, r3, e3, r4, Beh.trans' (W' := OfStore so o la ta2 pl) (c3.mono (fun _ hj => hj.elim)) r5 (fun _ hj _ => hj)⟩
  · try refine go ?_
    refine dops_mkslice (dl := .int .i64 (0 : Nat)) (dc := .int .i64 (0 : Nat)) idx_i idx_i (Nat.le_refl _) (by omega) hm ?_
    try refine go ?_
    have c1 : ((s.up 1).set0 (s.n + 0) (.arr 1 3 (List.replicate 0 (.int .i64 0)) 0)).Ok := (by repeat (first | assumption | refine Go.Ab.St.Ok.push0 ?_ _ | refine Go.Ab.St.Ok.set0 ?_ _ (by first | assumption | omega | (simp only [Go.Ab.St.n_push0, Go.Ab.St.n_set0, Go.Ab.St.n_up]; omega)) | refine Go.Ab.St.Ok.up ?_ _))
    have c3 : Beh Nil s ((s.up 1).set0 (s.n + 0) (.arr 1 3 (List.replicate 0 (.int .i64 0)) 0)) := Beh.set ((Beh.refl hs).up 1) _ (by rw [St.n_up]; omega) (fun hh => by omega)
    have c2 := h.beh hs c3 (fun j _ hj => hj)
    refine dops_call (row_ev hT c1 c2 hn hW) ?_
    rintro d s2 ⟨rfl, ro, r1, r2, r3, r4, r5⟩
    have e1 := c3.get hs hb (fun hj => hj)
    have e2 := r5.get c1 e1 hnb
    refine ⟨rfl, by simp [Go.Ab.lost, Go.Ab.AOp.kind, Go.Ab.lostAts, Go.Ab.lostAt, Go.Ab.fpOf, Go.Ab.wantedD, Go.Ab.fpRd, Go.Ab.fpRd.objs, Go.Ab.fpRg, Go.Ab.Opd.ev, Go.Ab.Env.get, Go.Ab.sameObj, Go.Ab.D.flat, Go.Ab.D.isAgg, Go.Ab.cellsEq, Go.Ab.D.beqs, Go.Ab.D.beq, Nat.beq_refl, e1, e2], ?_⟩
    try refine go ?_
    have z1 := r5.n
    simp only [St.n_set0, St.n_up] at z1 r1
    have e3 := r5.get (o := s.n + 0) c1 St.get_set_eq hnn
    exact retF_R ⟨rfl, ro, s.n + 0, by omega, r2, by omega, by omega, r3, e3, r4, Beh.trans' (W' := OfStore so o la ta2 pl) (c3.mono (fun _ hj => hj.elim)) r5 (fun _ hj _ => hj)⟩
  · try refine go ?_
    refine dops_mkslice (dl := .int .i64 V.length) (dc := .int .i64 V.length) idx_i idx_i (Nat.le_refl _) (by omega) hm ?_
    try refine go ?_
    have c1 : ((s.up 1).set0 (s.n + 0) (.arr 1 3 (List.replicate V.length (.int .i64 0)) 0)).Ok := (by repeat (first | assumption | refine Go.Ab.St.Ok.push0 ?_ _ | refine Go.Ab.St.Ok.set0 ?_ _ (by first | assumption | omega | (simp only [Go.Ab.St.n_push0, Go.Ab.St.n_set0, Go.Ab.St.n_up]; omega)) | refine Go.Ab.St.Ok.up ?_ _))
    have c3 : Beh Nil s ((s.up 1).set0 (s.n + 0) (.arr 1 3 (List.replicate V.length (.int .i64 0)) 0)) := Beh.set ((Beh.refl hs).up 1) _ (by rw [St.n_up]; omega) (fun hh => by omega)
    have c2 := h.beh hs c3 (fun j _ hj => hj)
    refine dops_call (row_ev hT c1 c2 hn hW) ?_
    rintro d s2 ⟨rfl, ro, r1, r2, r3, r4, r5⟩
    have e1 := c3.get hs hb (fun hj => hj)
    have e2 := r5.get c1 e1 hnb
    refine ⟨rfl, by simp [Go.Ab.lost, Go.Ab.AOp.kind, Go.Ab.lostAts, Go.Ab.lostAt, Go.Ab.fpOf, Go.Ab.wantedD, Go.Ab.fpRd, Go.Ab.fpRd.objs, Go.Ab.fpRg, Go.Ab.Opd.ev, Go.Ab.Env.get, Go.Ab.sameObj, Go.Ab.D.flat, Go.Ab.D.isAgg, Go.Ab.cellsEq, Go.Ab.D.beqs, Go.Ab.D.beq, Nat.beq_refl, e1, e2], ?_⟩
    try refine go ?_
    have z1 := r5.n
    simp only [St.n_set0, St.n_up] at z1 r1
    have e3 := r5.get (o := s.n + 0) c1 St.get_set_eq hnn
    exact retF_R ⟨rfl, ro, s.n + 0, by omega, r2, by omega, by omega, r3, e3, r4, Beh.trans' (W' := OfStore so o la ta2 pl) (c3.mono (fun _ hj => hj.elim)) r5 (fun _ hj _ => hj)⟩
end
end Go.Proofs.YtloaklflgfefaaaGreatDoor.Tab
