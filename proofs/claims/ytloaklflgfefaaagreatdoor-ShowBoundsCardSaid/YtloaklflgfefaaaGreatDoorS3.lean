/- Terms that are None, tuples, lists: what may not be. -/
import Derived.Test.YtloaklflgfefaaaGreatDoorC
namespace Go.Proofs.YtloaklflgfefaaaGreatDoor.Tab
open Go Go.Ab Go.Ab.Sm
set_option linter.unusedSectionVars false
set_option linter.unusedSimpArgs false
set_option linter.unusedVariables false
set_option maxRecDepth 100000
set_option maxHeartbeats 1000000

theorem wrap_small {n : Int} (h1 : -9223372036854775808 ≤ n) (h2 : n < 9223372036854775808) : IntKind.wrap .i64 n = n := by
  simp only [IntKind.wrap, IntKind.signed, IntKind.bits, Bool.true_and, decide_eq_true_eq, ge_iff_le]
  rw [show ((2 : Int) ^ (64 - 1)) = 9223372036854775808 from rfl, show ((2 : Int) ^ 64) = 18446744073709551616 from rfl]
  split <;> omega
structure SlotsAt (s : St) (o la ta : Nat) (V : List D) : Prop where
  go : s.get o = some (.var 120 (.agg [.sl la 0 V.length V.length, .sl ta 0 V.length V.length, .vs true 0 []]))
  gl : s.get la = some (.arr 1 67 V 0)
  gt : s.get ta = some (.arr 1 4 (List.replicate V.length (.bool true)) 0)
  ol : o ≠ la
  ot : o ≠ ta
  lt : la ≠ ta
theorem SlotsAt.beh {W : Nat → Prop} {s s1 : St} {o la ta : Nat} {V : List D} (h : SlotsAt s o la ta V) (hs : s.Ok) (hb : Beh W s s1) (h1 : ¬ W o) (h2 : ¬ W la) (h3 : ¬ W ta) : SlotsAt s1 o la ta V :=
  ⟨hb.get hs h.go h1, hb.get hs h.gl h2, hb.get hs h.gt h3, h.ol, h.ot, h.lt⟩
section
variable {T : Nat → Option AFn} {H : Caller}
theorem add_ev (hT : Tb T) {s : St} {o la ta : Nat} {V : List D} {ty : Nat} {x : D} (hs : s.Ok) (h : SlotsAt s o la ta V) (hV : V.length + 1 ≤ maxElems) :
    EvP T H 18 [.ptr o 0, .ifc ty x] s fun d s1 => d = .int .i64 V.length ∧ SlotsAt s1 o la ta (V ++ [.ifc ty x]) ∧ Beh (fun j => j = o ∨ j = la ∨ j = ta) s s1 := by
  have ho := h.go; have hl := h.gl; have ht := h.gt; have h1 := h.ol; have h2 := h.ot; have h3 := h.lt
  have l1 := hs.lt ho; have l2 := hs.lt hl; have l3 := hs.lt ht
  refine evp_in hT.t18 ?_
  try refine go ?_
  refine retF_R ⟨?_, ⟨?_, ?_, ?_, h1, h2, h3⟩, ?_⟩
  · simp only [maxElems] at hV
    simp only [List.length_cons, List.length_nil]
    rw [wrap_small (by omega) (by omega)]
    show D.int .i64 _ = D.int .i64 _
    congr 1; omega
  · rw [List.length_append]
    exact (by repeat (first | assumption | exact Go.Ab.St.get_set_eq | exact Go.Ab.St.get_push_eq | refine Go.Ab.St.get_set_ne ?_ (by first | assumption | (apply Ne.symm; assumption) | omega | (simp only [Go.Ab.St.n_push0, Go.Ab.St.n_set0, Go.Ab.St.n_up]; omega)) | refine Go.Ab.St.get_push_ne ?_ (by first | assumption | (apply Ne.symm; assumption) | omega | (simp only [Go.Ab.St.n_push0, Go.Ab.St.n_set0, Go.Ab.St.n_up]; omega)) | refine Go.Ab.St.get_up ?_))
  · exact (by repeat (first | assumption | exact Go.Ab.St.get_set_eq | exact Go.Ab.St.get_push_eq | refine Go.Ab.St.get_set_ne ?_ (by first | assumption | (apply Ne.symm; assumption) | omega | (simp only [Go.Ab.St.n_push0, Go.Ab.St.n_set0, Go.Ab.St.n_up]; omega)) | refine Go.Ab.St.get_push_ne ?_ (by first | assumption | (apply Ne.symm; assumption) | omega | (simp only [Go.Ab.St.n_push0, Go.Ab.St.n_set0, Go.Ab.St.n_up]; omega)) | refine Go.Ab.St.get_up ?_))
  · rw [List.length_append, List.length_singleton, List.replicate_succ']
    exact (by repeat (first | assumption | exact Go.Ab.St.get_set_eq | exact Go.Ab.St.get_push_eq | refine Go.Ab.St.get_set_ne ?_ (by first | assumption | (apply Ne.symm; assumption) | omega | (simp only [Go.Ab.St.n_push0, Go.Ab.St.n_set0, Go.Ab.St.n_up]; omega)) | refine Go.Ab.St.get_push_ne ?_ (by first | assumption | (apply Ne.symm; assumption) | omega | (simp only [Go.Ab.St.n_push0, Go.Ab.St.n_set0, Go.Ab.St.n_up]; omega)) | refine Go.Ab.St.get_up ?_))
  · exact (by repeat (first | assumption | exact Go.Ab.Beh.refl (by assumption) | refine Go.Ab.Beh.set ?_ _ (by first | assumption | omega | (simp only [Go.Ab.St.n_push0, Go.Ab.St.n_set0, Go.Ab.St.n_up]; omega)) (fun hbeh => by first | (exfalso; omega) | (exfalso; simp only [Go.Ab.St.n_push0, Go.Ab.St.n_set0, Go.Ab.St.n_up] at hbeh; omega) | (simp; done)) | refine Go.Ab.Beh.push ?_ _ | refine Go.Ab.Beh.up ?_ _))
end
end Go.Proofs.YtloaklflgfefaaaGreatDoor.Tab

namespace Go.Proofs.YtloaklflgfefaaaGreatDoor.Tab
open Go Go.Ab Go.Ab.Sm
set_option linter.unusedSectionVars false
set_option linter.unusedSimpArgs false
set_option linter.unusedVariables false
set_option maxRecDepth 100000
set_option maxHeartbeats 1000000

/-- The store so: its slots o (la, ta), its plan pl (mp); what it holds; how many numbers were given, how often the plan was asked. -/
structure StoreAt (s : St) (so o la ta pl mp : Nat) (V : List D) (n : Nat) : Prop where
  go : s.get so = some (.var 71 (.agg [.int .i64 0, .int .i64 60000, .int .i64 4, .vs true 0 [], .vs true 0 [], .nilp, .ptr o 0, .int .i64 n, .int .i64 n, .int .i64 0, .ptr pl 0, .bool false]))
  gp : s.get pl = some (.var 123 (.agg [.mp mp, .int .i64 n]))
  gm : s.get mp = some (.map [] 0)
  sl : SlotsAt s o la ta V
  nd : [so, o, la, ta, pl, mp].Nodup
/-- The objects that are a store's. -/
def OfStore (so o la ta pl : Nat) : Nat → Prop := fun j => j = so ∨ j = o ∨ j = la ∨ j = ta ∨ j = pl
theorem SlotsAt.up {s : St} {o la ta : Nat} {V : List D} (h : SlotsAt s o la ta V) (k : Nat) : SlotsAt (s.up k) o la ta V := ⟨h.go, h.gl, h.gt, h.ol, h.ot, h.lt⟩
theorem StoreAt.up {s : St} {so o la ta pl mp : Nat} {V : List D} {n : Nat} (h : StoreAt s so o la ta pl mp V n) (k : Nat) : StoreAt (s.up k) so o la ta pl mp V n := ⟨h.go, h.gp, h.gm, h.sl.up k, h.nd⟩
theorem StoreAt.beh {W : Nat → Prop} {s s1 : St} {so o la ta pl mp : Nat} {V : List D} {n : Nat} (h : StoreAt s so o la ta pl mp V n) (hs : s.Ok) (hb : Beh W s s1) (hw : ∀ j, (OfStore so o la ta pl j ∨ j = mp) → ¬ W j) : StoreAt s1 so o la ta pl mp V n :=
  ⟨hb.get hs h.go (hw _ (by simp [OfStore])), hb.get hs h.gp (hw _ (by simp [OfStore])), hb.get hs h.gm (hw _ (by simp)), h.sl.beh hs hb (hw _ (by simp [OfStore])) (hw _ (by simp [OfStore])) (hw _ (by simp [OfStore])), h.nd⟩
section
variable {T : Nat → Option AFn} {H : Caller}
theorem give_ev (hT : Tb T) {s : St} {so o la ta pl mp : Nat} {V : List D} {n : Nat} (hs : s.Ok) (h : StoreAt s so o la ta pl mp V n) (hn : n < 2147483648) :
    EvP T H 76 [.ptr so 0] s fun d s1 => d = .agg [.int .i64 (n + 1 : Nat)] ∧ StoreAt s1 so o la ta pl mp V (n + 1) ∧ Beh (fun j => j = so ∨ j = pl) s s1 := by
  obtain ⟨h1, h2, h3, ⟨g1, g2, g3, k1, k2, k3⟩, h5⟩ := h
  have l1 := hs.lt h1; have l2 := hs.lt h2; have l3 := hs.lt h3; have l4 := hs.lt g1; have l5 := hs.lt g2; have l6 := hs.lt g3
  have nd := h5
  simp only [List.nodup_cons, List.mem_cons, List.not_mem_nil, or_false, not_or, not_false_eq_true, List.nodup_nil, and_true] at h5
  obtain ⟨⟨n1, n2, n3, n4, n5⟩, ⟨n6, n7, n8, n9⟩, ⟨n10, n11, n12⟩, ⟨n13, n14⟩, n15⟩ := h5
  refine evp_in hT.t76 ?_
  repeat' first | refine go ?_ | refine call_in hT.t74 ?_ | refine call_in hT.t120 ?_
  have hw : IntKind.wrap .i64 ((n : Int) + 1) = ((n + 1 : Nat) : Int) := by rw [wrap_small (by omega) (by omega)]; omega
  try simp only [hw]
  refine retF_R ⟨rfl, ⟨?_, ?_, ?_, ⟨?_, ?_, ?_, k1, k2, k3⟩, nd⟩, ?_⟩
  · exact (by repeat (first | assumption | exact Go.Ab.St.get_set_eq | exact Go.Ab.St.get_push_eq | refine Go.Ab.St.get_set_ne ?_ (by first | assumption | (apply Ne.symm; assumption) | omega | (simp only [Go.Ab.St.n_push0, Go.Ab.St.n_set0, Go.Ab.St.n_up]; omega)) | refine Go.Ab.St.get_push_ne ?_ (by first | assumption | (apply Ne.symm; assumption) | omega | (simp only [Go.Ab.St.n_push0, Go.Ab.St.n_set0, Go.Ab.St.n_up]; omega)) | refine Go.Ab.St.get_up ?_))
  · exact (by repeat (first | assumption | exact Go.Ab.St.get_set_eq | exact Go.Ab.St.get_push_eq | refine Go.Ab.St.get_set_ne ?_ (by first | assumption | (apply Ne.symm; assumption) | omega | (simp only [Go.Ab.St.n_push0, Go.Ab.St.n_set0, Go.Ab.St.n_up]; omega)) | refine Go.Ab.St.get_push_ne ?_ (by first | assumption | (apply Ne.symm; assumption) | omega | (simp only [Go.Ab.St.n_push0, Go.Ab.St.n_set0, Go.Ab.St.n_up]; omega)) | refine Go.Ab.St.get_up ?_))
  · exact (by repeat (first | assumption | exact Go.Ab.St.get_set_eq | exact Go.Ab.St.get_push_eq | refine Go.Ab.St.get_set_ne ?_ (by first | assumption | (apply Ne.symm; assumption) | omega | (simp only [Go.Ab.St.n_push0, Go.Ab.St.n_set0, Go.Ab.St.n_up]; omega)) | refine Go.Ab.St.get_push_ne ?_ (by first | assumption | (apply Ne.symm; assumption) | omega | (simp only [Go.Ab.St.n_push0, Go.Ab.St.n_set0, Go.Ab.St.n_up]; omega)) | refine Go.Ab.St.get_up ?_))
  · exact (by repeat (first | assumption | exact Go.Ab.St.get_set_eq | exact Go.Ab.St.get_push_eq | refine Go.Ab.St.get_set_ne ?_ (by first | assumption | (apply Ne.symm; assumption) | omega | (simp only [Go.Ab.St.n_push0, Go.Ab.St.n_set0, Go.Ab.St.n_up]; omega)) | refine Go.Ab.St.get_push_ne ?_ (by first | assumption | (apply Ne.symm; assumption) | omega | (simp only [Go.Ab.St.n_push0, Go.Ab.St.n_set0, Go.Ab.St.n_up]; omega)) | refine Go.Ab.St.get_up ?_))
  · exact (by repeat (first | assumption | exact Go.Ab.St.get_set_eq | exact Go.Ab.St.get_push_eq | refine Go.Ab.St.get_set_ne ?_ (by first | assumption | (apply Ne.symm; assumption) | omega | (simp only [Go.Ab.St.n_push0, Go.Ab.St.n_set0, Go.Ab.St.n_up]; omega)) | refine Go.Ab.St.get_push_ne ?_ (by first | assumption | (apply Ne.symm; assumption) | omega | (simp only [Go.Ab.St.n_push0, Go.Ab.St.n_set0, Go.Ab.St.n_up]; omega)) | refine Go.Ab.St.get_up ?_))
  · exact (by repeat (first | assumption | exact Go.Ab.St.get_set_eq | exact Go.Ab.St.get_push_eq | refine Go.Ab.St.get_set_ne ?_ (by first | assumption | (apply Ne.symm; assumption) | omega | (simp only [Go.Ab.St.n_push0, Go.Ab.St.n_set0, Go.Ab.St.n_up]; omega)) | refine Go.Ab.St.get_push_ne ?_ (by first | assumption | (apply Ne.symm; assumption) | omega | (simp only [Go.Ab.St.n_push0, Go.Ab.St.n_set0, Go.Ab.St.n_up]; omega)) | refine Go.Ab.St.get_up ?_))
  · exact (by repeat (first | assumption | exact Go.Ab.Beh.refl (by assumption) | refine Go.Ab.Beh.set ?_ _ (by first | assumption | omega | (simp only [Go.Ab.St.n_push0, Go.Ab.St.n_set0, Go.Ab.St.n_up]; omega)) (fun hbeh => by first | (exfalso; omega) | (exfalso; simp only [Go.Ab.St.n_push0, Go.Ab.St.n_set0, Go.Ab.St.n_up] at hbeh; omega) | (simp; done)) | refine Go.Ab.Beh.push ?_ _ | refine Go.Ab.Beh.up ?_ _))
/-- A row is made. -/
theorem row_ev (hT : Tb T) {s : St} {so o la ta pl mp : Nat} {V : List D} {n : Nat} (hs : s.Ok) (h : StoreAt s so o la ta pl mp V n) (hn : n < 2147483648) (hV : V.length + 1 ≤ maxElems) {kd : Int} {lx m : Nat} :
    EvP T H 36 [.ptr so 0, .int .i64 kd, .sl lx 0 m m] s fun d s1 => d = .int .i64 V.length ∧ ∃ ro, s.n ≤ ro ∧ ro < s1.n ∧ s1.get ro = some (.var 105 (.agg [.int .i64 (n + 1 : Nat), .sl lx 0 m m, .int .i64 kd])) ∧ StoreAt s1 so o la ta pl mp (V ++ [.ifc 99 (.ptr ro 0)]) (n + 1) ∧ Beh (OfStore so o la ta pl) s s1 := by
  have h0 := h
  obtain ⟨h1, h2, h3, ⟨g1, g2, g3, k1, k2, k3⟩, h5⟩ := h0
  have l1 := hs.lt h1; have l2 := hs.lt h2; have l3 := hs.lt h3; have l4 := hs.lt g1; have l5 := hs.lt g2; have l6 := hs.lt g3
  have nd := h5
  simp only [List.nodup_cons, List.mem_cons, List.not_mem_nil, or_false, not_or, not_false_eq_true, List.nodup_nil, and_true] at h5
  obtain ⟨⟨n1, n2, n3, n4, n5⟩, ⟨n6, n7, n8, n9⟩, ⟨n10, n11, n12⟩, ⟨n13, n14⟩, n15⟩ := h5
  refine evp_in hT.t36 ?_
  try refine go ?_
  refine dops_call (give_ev hT (hs.up 1) (h.up 1) hn) ?_
  rintro d s1 ⟨rfl, q1, q2⟩
  have f1 : (s.up 1).get so = _ := h1
  have f2 := q1.go
  refine ⟨rfl, by simp [Go.Ab.lost, Go.Ab.AOp.kind, Go.Ab.lostAts, Go.Ab.lostAt, Go.Ab.fpOf, Go.Ab.wantedD, Go.Ab.fpRd, Go.Ab.fpRd.objs, Go.Ab.fpRg, Go.Ab.Opd.ev, Go.Ab.Env.get, Go.Ab.sameObj, Go.Ab.D.flat, Go.Ab.D.isAgg, Go.Ab.cellsEq, Go.Ab.D.beqs, Go.Ab.D.beq, Nat.beq_refl, f1, f2], ?_⟩
  have m1 := q2.n
  have m2 := q2.ok
  simp only [St.n_up] at m1
  have m0 : s1.get (s.n + 0) = none := by
    rw [q2.same _ (by rw [St.n_up]; omega) (by omega)]
    exact hs.fresh _ (by omega)
  have p1 := q1.go
  try refine go ?_
  have c1 : (s1.set0 (s.n + 0) (.var 105 (.agg [.int .i64 (n + 1 : Nat), .sl lx 0 m m, .int .i64 kd]))).Ok := (by repeat (first | assumption | refine Go.Ab.St.Ok.push0 ?_ _ | refine Go.Ab.St.Ok.set0 ?_ _ (by first | assumption | omega | (simp only [Go.Ab.St.n_push0, Go.Ab.St.n_set0, Go.Ab.St.n_up]; omega)) | refine Go.Ab.St.Ok.up ?_ _))
  have c2 := q1.sl.beh q2.ok (W := fun j => j = s.n + 0) (s1 := s1.set0 (s.n + 0) (.var 105 (.agg [.int .i64 (n + 1 : Nat), .sl lx 0 m m, .int .i64 kd]))) (Beh.set (Beh.refl q2.ok) _ (by omega) (fun _ => rfl)) (by omega) (by omega) (by omega)
  have c3 := (Beh.set (W := fun j => j = s.n + 0) (Beh.refl q2.ok) (.var 105 (.agg [.int .i64 (n + 1 : Nat), .sl lx 0 m m, .int .i64 kd])) (o := s.n + 0) (by omega) (fun _ => rfl))
  refine dops_call (add_ev hT c1 c2 hV) ?_
  rintro d s2 ⟨rfl, q3, q4⟩
  have e1 := c3.get q2.ok p1 (by omega)
  have e2 := q4.get c1 e1 (by omega)
  refine ⟨rfl, by simp [Go.Ab.lost, Go.Ab.AOp.kind, Go.Ab.lostAts, Go.Ab.lostAt, Go.Ab.fpOf, Go.Ab.wantedD, Go.Ab.fpRd, Go.Ab.fpRd.objs, Go.Ab.fpRg, Go.Ab.Opd.ev, Go.Ab.Env.get, Go.Ab.sameObj, Go.Ab.D.flat, Go.Ab.D.isAgg, Go.Ab.cellsEq, Go.Ab.D.beqs, Go.Ab.D.beq, Nat.beq_refl, e1, e2], ?_⟩
  try refine go ?_
  have y1 := q4.get c1 (c3.get q2.ok q1.gp (by omega)) (by omega)
  have y2 := q4.get c1 (c3.get q2.ok q1.gm (by omega)) (by omega)
  have y3 := q4.get (o := s.n + 0) c1 St.get_set_eq (by omega)
  have z1 := q4.n
  simp only [St.n_set0] at z1
  refine retF_R ⟨rfl, s.n + 0, by omega, by omega, y3, ⟨e2, y1, y2, q3, nd⟩, ?_⟩
  refine Beh.trans' (W' := fun j => j = o ∨ j = la ∨ j = ta) (Beh.trans' (W' := fun j => j = s.n + 0) (Beh.trans' (W' := fun j => j = so ∨ j = pl) ((Beh.refl hs).up 1) q2 ?_) c3 ?_) q4 ?_
  · rintro j (rfl | rfl) _ <;> simp [OfStore]
  · rintro j rfl hj; omega
  · rintro j (rfl | rfl | rfl) _ <;> simp [OfStore]
end
end Go.Proofs.YtloaklflgfefaaaGreatDoor.Tab

namespace Go.Proofs.YtloaklflgfefaaaGreatDoor.Tab
open Go Go.Ab Go.Ab.Sm
set_option linter.unusedSectionVars false
set_option linter.unusedSimpArgs false
set_option linter.unusedVariables false
set_option maxRecDepth 100000
set_option maxHeartbeats 1000000

/-- The kids of a term. -/
inductive Kids (s : St) : D → List Nat → Prop
  | nil : Kids s (.vs true 0 []) []
  | sl {o : Nat} {V : List Nat} (h : s.get o = some (.arr 1 3 (V.map fun v : Nat => D.int .i64 (v : Int)) 0)) (hn : V ≠ []) : Kids s (.sl o 0 V.length V.length) V
@[reducible] def tm (kd : Int) (x : D) : D := .agg [.int .i64 kd, .bool false, .bool false, .vs true 0 [], .str [], x, .bool false, .bool false]
/-- A term at its place: None, a tuple, a list; its kids. -/
structure TermAt (s : St) (ta N i : Nat) (es : List D) (kd : Int) (x : D) (V : List Nat) : Prop where
  gt : s.get ta = some (.arr 8 28 es 0)
  ln : es.length = N
  at' : es[i]? = some (tm kd x)
  ks : Kids s x V
  kd : (kd = 1 ∧ V = []) ∨ kd = 5 ∨ kd = 6
  lt : ∀ v ∈ V, v < i
  mx : V.length ≤ 65536
section
variable {T : Nat → Option AFn} {H : Caller}
theorem get_ev (hT : Tb T) {s : St} {so o la ta pl mp : Nat} {V : List D} {n i ty : Nat} {x : D} (hs : s.Ok) (h : StoreAt s so o la ta pl mp V n) (hi : V[i]? = some (.ifc ty x)) :
    EvP T H 21 [.ptr so 0, .int .i64 i] s fun d s1 => d = .ifc ty x ∧ s1 = s := by
  obtain ⟨h1, h2, h3, ⟨g1, g2, g3, k1, k2, k3⟩, h5⟩ := h
  have l : i < V.length := (List.getElem?_eq_some_iff.mp hi).1
  have ht : (List.replicate V.length (D.bool true))[0 + i]? = some (.bool true) := by rw [Nat.zero_add, List.getElem?_replicate, if_pos l]
  have hi' : V[0 + i]? = some (.ifc ty x) := by rw [Nat.zero_add]; exact hi
  refine evp_in hT.t21 ?_
  repeat' first | refine go ?_ | refine call_in hT.t41 ?_ | refine call_in hT.t82 ?_
  exact retF_R ⟨rfl, rfl⟩
theorem isKind_ev (hT : Tb T) {s : St} {kd : Int} (hk : kd = 1 ∨ kd = 5 ∨ kd = 6) : EvP T H 28 [.int .i64 kd] s fun d s1 => d = .bool true ∧ s1 = s := by
  refine evp_in hT.t28 ?_
  rcases hk with rfl | rfl | rfl <;>
  · try refine go ?_
    exact retF_R ⟨rfl, rfl⟩
theorem keys_ev (hT : Tb T) {s : St} {kd : Int} {x : D} {V : List Nat} (hk : kd = 1 ∨ kd = 5 ∨ kd = 6) (hx : Kids s x V) : EvP T H 69 [tm kd x] s fun d s1 => d = .vs true 0 [] ∧ s1 = s := by
  refine evp_in hT.t69 ?_
  rcases hk with rfl | rfl | rfl <;> rcases hx with _ | ⟨hx, hn⟩ <;>
  · try refine go ?_
    exact retF_R ⟨rfl, rfl⟩
theorem badKids_ev (hT : Tb T) {s : St} {bo so ta N i : Nat} {es : List D} {kd : Int} {x rf : D} {V : List Nat} (hs : s.Ok) (hb : s.get bo = some (.var 96 (.agg [.ptr so 0, .sl ta 0 N N, rf]))) (h : TermAt s ta N i es kd x V) :
    EvP T H 29 [.ptr bo 0, .int .i64 i] s fun d s1 => d = .bool false ∧ s1 = s := by
  obtain ⟨g1, g2, g3, g4, g5, g6, g7⟩ := h
  refine evp_in hT.t29 ?_
  have g3' : es[0 + i]? = some (tm kd x) := by rw [Nat.zero_add]; exact g3
  have li : i < es.length := (List.getElem?_eq_some_iff.mp g3).1
  have hk : kd = 1 ∨ kd = 5 ∨ kd = 6 := by omega
  have hq := g4
  rcases g4 with _ | ⟨hx, hn⟩
  · rcases g5 with ⟨rfl, -⟩ | rfl | rfl <;>
    · try refine go ?_
      refine run_again ?_
      repeat' first | refine go ?_ | (refine call_ev (keys_ev hT hk hq) ?_; rintro d s1 ⟨rfl, rfl⟩)
      refine run_again ?_
      try refine go ?_
      exact retF_R ⟨rfl, rfl⟩
  · rename_i ok
    rcases g5 with ⟨rfl, h0⟩ | rfl | rfl
    · exact absurd h0 hn
    · try refine go ?_
      refine run_cnt V.length (fun j => [(0, .ptr bo 0), (4, .bool false), (5, .lv (tm 5 (.sl ok 0 V.length V.length))), (6, .int .i64 i), (28, .sl ok 0 V.length V.length), (29, .int .i64 V.length), (30, .int .i64 j)]) (fun j s' => s' = s) rfl ?_
      rintro j s' hj rfl
      rcases Nat.lt_or_ge j V.length with hl | hl
      · have e1 : (V.map fun v : Nat => D.int .i64 (v : Int))[0 + j]? = some (.int .i64 (V[j] : Nat)) := by simp [hl]
        have e2 := g6 V[j] (List.getElem_mem hl)
        generalize V[j] = v at e1 e2
        try refine go ?_
        exact ret_cnt hl rfl
      · repeat' first | refine go ?_ | (refine call_ev (keys_ev hT hk hq) ?_; rintro d s1 ⟨rfl, rfl⟩)
        refine run_again ?_
        try refine go ?_
        exact retF_R ⟨rfl, rfl⟩
    · try refine go ?_
      refine run_cnt V.length (fun j => [(0, .ptr bo 0), (4, .bool false), (5, .lv (tm 6 (.sl ok 0 V.length V.length))), (6, .int .i64 N), (28, .sl ok 0 V.length V.length), (29, .int .i64 V.length), (30, .int .i64 j)]) (fun j s' => s' = s) rfl ?_
      rintro j s' hj rfl
      rcases Nat.lt_or_ge j V.length with hl | hl
      · have e1 : (V.map fun v : Nat => D.int .i64 (v : Int))[0 + j]? = some (.int .i64 (V[j] : Nat)) := by simp [hl]
        have e2 := g6 V[j] (List.getElem_mem hl)
        generalize V[j] = v at e1 e2
        try refine go ?_
        exact ret_cnt hl rfl
      · repeat' first | refine go ?_ | (refine call_ev (keys_ev hT hk hq) ?_; rintro d s1 ⟨rfl, rfl⟩)
        refine run_again ?_
        try refine go ?_
        exact retF_R ⟨rfl, rfl⟩
end
end Go.Proofs.YtloaklflgfefaaaGreatDoor.Tab
