/- A builder of strings. -/
import Derived.Test.YtloaklflgfefaaaGreatDoorR4
import Derived.Test.YtloaklflgfefaaaGreatDoorC
namespace Go.Proofs.YtloaklflgfefaaaGreatDoor.Tab
open Go Go.Ab Go.Ab.Sm
set_option linter.unusedSectionVars false
set_option linter.unusedSimpArgs false
set_option linter.unusedVariables false
set_option maxRecDepth 100000
set_option maxHeartbeats 2000000

/-- A store of rows. -/
structure Sho (s : St) (so o la ta2 pl mp N : Nat) (L : List (Nat × Nat)) (kd : Nat → Int) (kv : Nat → List Nat) : Prop where
  ll : L.length = N - 1
  st : StoreAt s so o la ta2 pl mp (W0 ++ rowsV L) (N - 1)
  rs : Rows s L kd kv (fun i => full (kv (i + 1)))
theorem Sho.beh {s s1 : St} {so o la ta2 pl mp N : Nat} {L : List (Nat × Nat)} {kd : Nat → Int} {kv : Nat → List Nat} (h : Sho s so o la ta2 pl mp N L kd kv) (hs : s.Ok) (hb : Beh (fun j => s.n ≤ j) s s1) : Sho s1 so o la ta2 pl mp N L kd kv := by
  refine ⟨h.ll, h.st.beh hs hb fun j hj hh => ?_, h.rs.beh hs hb fun p hp => ?_⟩
  · have := store_lt hs h.st hj; omega
  · obtain ⟨i, hi⟩ := List.getElem?_of_mem hp
    have h1 := hs.lt (h.rs.ro i p hi)
    obtain ⟨st, _, _, h2⟩ := h.rs.ls i p hi
    have h3 := hs.lt h2
    exact ⟨fun hh => by omega, fun hh => by omega⟩
theorem Sho.row {s : St} {so o la ta2 pl mp N i : Nat} {L : List (Nat × Nat)} {kd : Nat → Int} {kv : Nat → List Nat} (h : Sho s so o la ta2 pl mp N L kd kv) (h1 : 1 ≤ i) (h2 : i < N) : ∃ p, L[i - 1]? = some p ∧ (W0 ++ rowsV L)[rf i]? = some (.ifc 99 (.ptr p.1 0)) ∧ s.get p.1 = some (.var 105 (.agg [.int .i64 (i : Nat), .sl p.2 0 (kv i).length (kv i).length, .int .i64 (kd i)])) ∧
    ∃ st, st ≤ (kv i).length ∧ s.get p.2 = some (.arr 1 3 (full (kv i)) st) := by
  have hl := h.ll
  have hp : L[i - 1]? = some (L[i - 1]'(by omega)) := List.getElem?_eq_getElem _
  refine ⟨_, hp, ?_, ?_, ?_⟩
  · rw [rf, if_neg (by omega), List.getElem?_append_right (by simp only [W0, List.length_cons, List.length_nil]; omega), show i + 2 - W0.length = i - 1 by simp only [W0, List.length_cons, List.length_nil]; omega, rowsV, List.getElem?_map, hp]
    rfl
  · have := h.rs.ro _ _ hp
    rw [show i - 1 + 1 = i by omega] at this; exact this
  · obtain ⟨st, a1, a2, a3⟩ := h.rs.ls _ _ hp
    rw [show i - 1 + 1 = i by omega] at a1 a3
    exact ⟨st, a1, a3⟩
section
variable {T : Nat → Option AFn} {H : Caller} {k : List Kont} {Q : QP}
theorem objectRow_ev (hT : Tb T) {s : St} {so o la ta2 pl mp N i : Nat} {L : List (Nat × Nat)} {kd : Nat → Int} {kv : Nat → List Nat} (hs : s.Ok) (h : Sho s so o la ta2 pl mp N L kd kv) (h1 : 1 ≤ i) (h2 : i < N) {p : Nat × Nat} (hp : L[i - 1]? = some p) :
    EvP T H 55 [.ptr so 0, .int .i64 (rf i : Nat)] s fun d s1 => d = .ifc 99 (.ptr p.1 0) ∧ s1 = s := by
  obtain ⟨p', q1, q2, q3, q4⟩ := h.row h1 h2
  have : p' = p := by rw [hp] at q1; simpa using q1.symm
  subst this
  have hge := get_ev (H := H) hT hs h.st q2
  have hi0 : ¬ ((i : Int) = 0) := by omega
  refine evp_in hT.t55 ?_
  repeat' first | refine go ?_ | (refine call_ev hge ?_; rintro d s1 ⟨rfl, rfl⟩)
  have hu : recvD s1 (.ptr p'.1 0) (.load 0 (some 1)) = some (.agg [.int .i64 (i : Nat)]) := by
    have e0 : fadd 0 (.ptr p'.1 0) = some (.ptr p'.1 0) := rfl
    simp only [recvD, e0, loadD, q3]; rfl
  refine ops_invoke (hu := hu) ?_
  repeat' first | refine go ?_ | refine call_in hT.t301 ?_
  exact retF_R ⟨rfl, rfl⟩
theorem objectNone_ev (hT : Tb T) {s : St} {so o la ta2 pl mp N : Nat} {L : List (Nat × Nat)} {kd : Nat → Int} {kv : Nat → List Nat} (hs : s.Ok) (h : Sho s so o la ta2 pl mp N L kd kv) :
    EvP T H 55 [.ptr so 0, .int .i64 (rf 0 : Nat)] s fun d s1 => d = .nili ∧ s1 = s := by
  have hge := get_ev (H := H) hT hs h.st (i := rf 0) (ty := 75) (x := .agg []) rfl
  refine evp_in hT.t55 ?_
  repeat' first | refine go ?_ | (refine call_ev hge ?_; rintro d s1 ⟨rfl, rfl⟩) | refine call_in hT.t294 ?_ | refine call_in hT.t295 ?_
  exact retF_R ⟨rfl, rfl⟩
theorem tagNone_ev (hT : Tb T) {s : St} {so o la ta2 pl mp N : Nat} {L : List (Nat × Nat)} {kd : Nat → Int} {kv : Nat → List Nat} (hs : s.Ok) (h : Sho s so o la ta2 pl mp N L kd kv) :
    EvP T H 65 [.ptr so 0, .int .i64 (rf 0 : Nat)] s fun d s1 => d = .str [78, 111, 110, 101] ∧ s1 = s := by
  have hge := get_ev (H := H) hT hs h.st (i := rf 0) (ty := 75) (x := .agg []) rfl
  refine evp_in hT.t65 ?_
  repeat' first | refine go ?_ | (refine call_ev hge ?_; rintro d s1 ⟨rfl, rfl⟩)
  exact retF_R ⟨rfl, rfl⟩
theorem storeText_ev (hT : Tb T) {s : St} {so o la ta2 pl mp N i : Nat} {L : List (Nat × Nat)} {kd : Nat → Int} {kv : Nat → List Nat} (hs : s.Ok) (h : Sho s so o la ta2 pl mp N L kd kv) (h1 : 1 ≤ i) (h2 : i < N) :
    EvP T H 11 [.ptr so 0, .int .i64 (rf i : Nat)] s fun d s1 => d = .tup [.str [], .bool false] ∧ s1 = s := by
  obtain ⟨p', q1, q2, q3, q4⟩ := h.row h1 h2
  have hge := get_ev (H := H) hT hs h.st q2
  refine evp_in hT.t11 ?_
  repeat' first | refine go ?_ | (refine call_ev hge ?_; rintro d s1 ⟨rfl, rfl⟩)
  exact retF_R ⟨rfl, rfl⟩
end
end Go.Proofs.YtloaklflgfefaaaGreatDoor.Tab

namespace Go.Proofs.YtloaklflgfefaaaGreatDoor.Tab
open Go Go.Ab Go.Ab.Sm
set_option linter.unusedSectionVars false
set_option linter.unusedSimpArgs false
set_option linter.unusedVariables false
set_option maxRecDepth 100000
set_option maxHeartbeats 2000000

/-- A builder: its own address, its bytes. -/
structure Bd (s : St) (bx : Nat) (y : D) (m : List UInt8) : Prop where
  gb : ∃ a, (a = .nilp ∨ a = .ptr bx 0) ∧ s.get bx = some (.var 53 (.agg [a, y]))
  hy : (y = .vs true 0 [] ∧ m = []) ∨ (m ≠ [] ∧ ∃ o, y = .sl o 0 m.length m.length ∧ s.get o = some (.arr 1 5 (m.map fun c => .int .u8 c.toNat) 0))
/-- The objects of a builder. -/
abbrev OfBd (bx : Nat) (y : D) : Nat → Prop := fun j => j = bx ∨ ∃ l c, y = .sl j 0 l c
theorem Bd.beh {W : Nat → Prop} {s s1 : St} {bx : Nat} {y : D} {m : List UInt8} (h : Bd s bx y m) (hs : s.Ok) (hb : Beh W s s1) (h1 : ¬ W bx) (h2 : ∀ o l c, y = .sl o 0 l c → ¬ W o) : Bd s1 bx y m := by
  obtain ⟨⟨a, ha, hg⟩, hy⟩ := h
  refine ⟨⟨a, ha, hb.get hs hg h1⟩, ?_⟩
  rcases hy with hy | ⟨h3, o, h4, h5⟩
  · exact .inl hy
  · exact .inr ⟨h3, o, h4, hb.get hs h5 (h2 o _ _ h4)⟩
section
variable {T : Nat → Option AFn} {H : Caller} {b : Nat} {k : List Kont} {l : List AOper} {s : St} {Q : QP} {t : Nat} {e : Env} {ds : List (D × List D)} {g : Option (Nat × Bool)}
theorem ops_uptr {x : Opd} {o c ty : Nat} {v : D} (h : Ops T H b l k ⟨(t, .ptr o c) :: e, ds⟩ s Q) (hw : wantedD e g = some true := by rfl) (hx : x.ev e = some (.ptr o c) := by rfl) (hg : s.get o = some (.var ty v) := by repeat (first | assumption | exact Go.Ab.St.get_set_eq | exact Go.Ab.St.get_push_eq | refine Go.Ab.St.get_set_ne ?_ (by first | assumption | (apply Ne.symm; assumption) | omega | (simp only [Go.Ab.St.n_push0, Go.Ab.St.n_set0, Go.Ab.St.n_up]; omega)) | refine Go.Ab.St.get_push_ne ?_ (by first | assumption | (apply Ne.symm; assumption) | omega | (simp only [Go.Ab.St.n_push0, Go.Ab.St.n_set0, Go.Ab.St.n_up]; omega)) | refine Go.Ab.St.get_up ?_)) (hl : Nat.blt c v.flat.length = true := by rfl) : Ops T H b (⟨some t, .uptr x, g, none⟩ :: l) k ⟨e, ds⟩ s Q :=
  ops_any h hw (by simp only [opF, hx, hg, hl])
theorem ops_upto {x : Opd} {o c ty : Nat} {v : D} {q : List (Nat × Nat × Nat)} (h : Ops T H b l k ⟨(t, .ptr o c) :: e, ds⟩ s Q) (hw : wantedD e g = some true := by rfl) (hx : x.ev e = some (.ptr o c) := by rfl) (hg : s.get o = some (.var ty v) := by repeat (first | assumption | exact Go.Ab.St.get_set_eq | exact Go.Ab.St.get_push_eq | refine Go.Ab.St.get_set_ne ?_ (by first | assumption | (apply Ne.symm; assumption) | omega | (simp only [Go.Ab.St.n_push0, Go.Ab.St.n_set0, Go.Ab.St.n_up]; omega)) | refine Go.Ab.St.get_push_ne ?_ (by first | assumption | (apply Ne.symm; assumption) | omega | (simp only [Go.Ab.St.n_push0, Go.Ab.St.n_set0, Go.Ab.St.n_up]; omega)) | refine Go.Ab.St.get_up ?_)) (hl : memTc ty c v.flat.length q = true := by rfl) : Ops T H b (⟨some t, .upto q x, g, none⟩ :: l) k ⟨e, ds⟩ s Q :=
  ops_any h hw (by simp only [opF, hx, hg, hl])
theorem ops_eqself {x y : Opd} {o c ty : Nat} {v : D} {neg oc : Bool} (h : Ops T H b l k ⟨(t, .bool (true != neg)) :: e, ds⟩ s Q) (hw : wantedD e g = some true := by rfl) (hx : x.ev e = some (.ptr o c) := by rfl) (hy : y.ev e = some (.ptr o c) := by rfl) (hg : s.get o = some (.var ty v) := by repeat (first | assumption | exact Go.Ab.St.get_set_eq | exact Go.Ab.St.get_push_eq | refine Go.Ab.St.get_set_ne ?_ (by first | assumption | (apply Ne.symm; assumption) | omega | (simp only [Go.Ab.St.n_push0, Go.Ab.St.n_set0, Go.Ab.St.n_up]; omega)) | refine Go.Ab.St.get_push_ne ?_ (by first | assumption | (apply Ne.symm; assumption) | omega | (simp only [Go.Ab.St.n_push0, Go.Ab.St.n_set0, Go.Ab.St.n_up]; omega)) | refine Go.Ab.St.get_up ?_)) (h0 : eqT oc .ptr (.ptr o c) (.ptr o c) = none := by rfl) : Ops T H b (⟨some t, .eq .ptr neg oc x y, g, none⟩ :: l) k ⟨e, ds⟩ s Q :=
  ops_any h hw (by simp only [opF, hx, hy, h0, eqP, hg, Nat.beq_refl, Bool.and_self])
theorem copyCheck_ev (hT : Tb T) {bx : Nat} {a y : D} (hs : s.Ok) (ha : a = .nilp ∨ a = .ptr bx 0) (hg : s.get bx = some (.var 53 (.agg [a, y]))) (hy : y.sc = true) :
    EvP T H 26 [.ptr bx 0] s fun d s1 => s1.get bx = some (.var 53 (.agg [.ptr bx 0, y])) ∧ Beh (fun j => j = bx) s s1 := by
  have l1 := hs.lt hg
  refine evp_in hT.t26 ?_
  rcases ha with rfl | rfl
  · repeat' first | refine go ?_ | refine ops_uptr ?_ | refine ops_upto ?_
    exact retF_N ⟨(by repeat (first | assumption | exact Go.Ab.St.get_set_eq | exact Go.Ab.St.get_push_eq | refine Go.Ab.St.get_set_ne ?_ (by first | assumption | (apply Ne.symm; assumption) | omega | (simp only [Go.Ab.St.n_push0, Go.Ab.St.n_set0, Go.Ab.St.n_up]; omega)) | refine Go.Ab.St.get_push_ne ?_ (by first | assumption | (apply Ne.symm; assumption) | omega | (simp only [Go.Ab.St.n_push0, Go.Ab.St.n_set0, Go.Ab.St.n_up]; omega)) | refine Go.Ab.St.get_up ?_)), (by repeat (first | assumption | exact Go.Ab.Beh.refl (by assumption) | refine Go.Ab.Beh.set ?_ _ (by first | assumption | omega | (simp only [Go.Ab.St.n_push0, Go.Ab.St.n_set0, Go.Ab.St.n_up]; omega)) (fun hbeh => by first | (exfalso; omega) | (exfalso; simp only [Go.Ab.St.n_push0, Go.Ab.St.n_set0, Go.Ab.St.n_up] at hbeh; omega) | (simp; done)) | refine Go.Ab.Beh.push ?_ _ | refine Go.Ab.Beh.up ?_ _))⟩
  · try refine go ?_
    refine ops_eqself ?_
    try refine go ?_
    exact retF_N ⟨hg, Beh.refl hs⟩
theorem len_ev (hT : Tb T) {bx : Nat} {y : D} {m : List UInt8} (hs : s.Ok) (h : Bd s bx y m) : EvP T H 13 [.ptr bx 0] s fun d s1 => d = .int .i64 m.length ∧ s1 = s := by
  obtain ⟨⟨a, ha, hg⟩, hy⟩ := h
  refine evp_in hT.t13 ?_
  rcases hy with ⟨rfl, rfl⟩ | ⟨hm, o, rfl, ho⟩ <;>
  · try refine go ?_
    exact retF_R ⟨rfl, rfl⟩
theorem write_ev (hT : Tb T) {bx : Nat} {y : D} {m p : List UInt8} (hs : s.Ok) (h : Bd s bx y m) (hp : p ≠ []) (hl : m.length + p.length ≤ 100000) :
    EvP T H 14 [.ptr bx 0, .str p] s fun d s1 => ∃ y', Bd s1 bx y' (m ++ p) ∧ Beh (OfBd bx y) s s1 ∧ ∀ o l c, y' = .sl o 0 l c → (y = .sl o 0 m.length m.length ∨ s.n ≤ o) := by
  obtain ⟨⟨a, ha, hg⟩, hy⟩ := h
  have l1 := hs.lt hg
  have hp1 : 0 < p.length := List.length_pos_iff.2 hp
  refine evp_in hT.t14 ?_
  rcases hy with ⟨rfl, rfl⟩ | ⟨hm, o, rfl, ho⟩
  · try refine go ?_
    refine call_ev (copyCheck_ev hT hs ha hg rfl) ?_
    rintro d s1 ⟨q1, q2⟩
    have q3 := q2.ok
    have l2 := q3.lt q1
    try refine go ?_
    have q5 := q2.n
    refine retF_R ⟨.sl s1.n 0 p.length p.length, ⟨⟨_, .inr rfl, St.get_set_eq⟩, .inr ⟨hp, s1.n, rfl, (by repeat (first | assumption | exact Go.Ab.St.get_set_eq | exact Go.Ab.St.get_push_eq | refine Go.Ab.St.get_set_ne ?_ (by first | assumption | (apply Ne.symm; assumption) | omega | (simp only [Go.Ab.St.n_push0, Go.Ab.St.n_set0, Go.Ab.St.n_up]; omega)) | refine Go.Ab.St.get_push_ne ?_ (by first | assumption | (apply Ne.symm; assumption) | omega | (simp only [Go.Ab.St.n_push0, Go.Ab.St.n_set0, Go.Ab.St.n_up]; omega)) | refine Go.Ab.St.get_up ?_))⟩⟩, ?_, ?_⟩
    · refine (q2.mono fun j hj => .inl hj).trans' (W' := fun j => j = bx) ?_ fun j hj _ => .inl hj
      exact Beh.set (Beh.push (Beh.refl q3) _) _ (by rw [St.n_push0]; omega) (fun _ => rfl)
    · intro o l c e
      simp only [D.sl.injEq] at e
      exact .inr (by omega)
  · have hml : (m.map fun c => D.int .u8 c.toNat).length = m.length := List.length_map _
    try refine go ?_
    refine call_ev (copyCheck_ev hT hs ha hg rfl) ?_
    rintro d s1 ⟨q1, q2⟩
    have q3 := q2.ok
    have l2 := q3.lt q1
    have ne : o ≠ bx := by rintro rfl; rw [hg] at ho; cases ho
    have q4 := q2.get hs ho ne
    have l3 := q3.lt q4
    try refine go ?_
    refine retF_R ⟨.sl o 0 (m.length + p.length) (m.length + p.length), ⟨⟨_, .inr rfl, St.get_set_eq⟩, .inr ⟨by simp [hp], o, by rw [List.length_append], ?_⟩⟩, ?_, ?_⟩
    · rw [List.map_append]
      exact (by repeat (first | assumption | exact Go.Ab.St.get_set_eq | exact Go.Ab.St.get_push_eq | refine Go.Ab.St.get_set_ne ?_ (by first | assumption | (apply Ne.symm; assumption) | omega | (simp only [Go.Ab.St.n_push0, Go.Ab.St.n_set0, Go.Ab.St.n_up]; omega)) | refine Go.Ab.St.get_push_ne ?_ (by first | assumption | (apply Ne.symm; assumption) | omega | (simp only [Go.Ab.St.n_push0, Go.Ab.St.n_set0, Go.Ab.St.n_up]; omega)) | refine Go.Ab.St.get_up ?_))
    · refine (q2.mono fun j hj => .inl hj).trans' (W' := fun j => j = bx ∨ j = o) ?_ fun j hj _ => (by rcases hj with rfl | rfl; exact .inl rfl; exact .inr ⟨_, _, rfl⟩)
      exact Beh.set (Beh.set (Beh.refl q3) _ l3 (fun _ => .inr rfl)) _ (by rw [St.n_set0]; omega) (fun _ => .inl rfl)
    · intro o' l c e
      simp only [D.sl.injEq] at e
      exact .inl (by rw [e.1])
theorem dops_sldata {l : List (AOper × List Nat)} {acc : List Fp} {x : Opd} {o off len cp sz ty st : Nat} {es : List D} (h : DOps T H b l (acc ++ [fpOf b e ⟨some t, .sldata x, g, none⟩]) k ⟨(t, .eptr o off 0 (off + cp)) :: e, ds⟩ s Q) (hg : s.get o = some (.arr sz ty es st)) (hp : 0 < cp) (hw : wantedD e g = some true := by rfl) (hx : x.ev e = some (.sl o off len cp) := by rfl) (hv0 : Env.isLvo e (some t) = false := by rfl) : DOps T H b ((⟨some t, .sldata x, g, none⟩, []) :: l) acc k ⟨e, ds⟩ s Q := by
  have e1 : Nat.blt 0 cp = true := Nat.ble_eq_true_of_le hp
  exact dops_any rfl hv0 (lvo_cons rfl) h hw (by simp only [opF, hx, hg, e1]) rfl
theorem dops_ustr {l : List (AOper × List Nat)} {acc : List Fp} {x y : Opd} {o en ty st n : Nat} {es : List D} {m : List UInt8} (h : DOps T H b l (acc ++ [fpOf b e ⟨some t, .ustr ty x y, g, none⟩]) k ⟨(t, .str m) :: e, ds⟩ (s.set0 o .dead) Q) (hs : s.Ok) (hg : s.get o = some (.arr 1 ty es st)) (hn : 0 < n) (hn2 : n ≤ maxElems) (h1 : n ≤ en) (h2 : en ≤ es.length) (h3 : st ≤ en) (hm : bytesOf ((es.drop 0).take n) = some m) (hw : wantedD e g = some true := by rfl) (hx : x.ev e = some (.eptr o 0 0 en) := by rfl) (hy : y.ev e = some (.int .i64 (Nat.cast n)) := by rfl) (hv0 : Env.isLvo e (some t) = false := by rfl) : DOps T H b ((⟨some t, .ustr ty x y, g, none⟩, []) :: l) acc k ⟨e, ds⟩ s Q := by
  have e1 : Nat.ble n maxElems = true := Nat.ble_eq_true_of_le hn2
  have e2 : Nat.ble (0 + n) en = true := Nat.ble_eq_true_of_le (by omega)
  have e3 : Nat.ble en es.length = true := Nat.ble_eq_true_of_le h2
  have e4 : Nat.ble st en = true := Nat.ble_eq_true_of_le h3
  have e5 : decide ((0 : Int) < (n : Int)) = true := decide_eq_true (by omega)
  refine dops_any rfl hv0 (lvo_cons rfl) h hw ?_ rfl
  simp only [opF, hx, hy, hg, Nat.beq_refl, Bool.and_self, decide_true, Int.toNat_natCast, e1, e2, e3, e4, e5, hm, hs.set, ofS]
theorem bytesOf_map : ∀ m : List UInt8, bytesOf (m.map fun c => .int .u8 c.toNat) = some m
  | [] => rfl
  | c :: m => by
    simp only [List.map_cons, bytesOf, bytesOf_map m]
    simp
theorem string_ev (hT : Tb T) {bx : Nat} {y : D} {m : List UInt8} (hs : s.Ok) (h : Bd s bx y m) (hl : m.length ≤ 100000) :
    EvP T H 15 [.ptr bx 0] s fun d s1 => d = .str m ∧ Beh (OfBd bx y) s s1 := by
  obtain ⟨⟨a, ha, hg⟩, hy⟩ := h
  refine evp_in hT.t15 ?_
  rcases hy with ⟨rfl, rfl⟩ | ⟨hm, o, rfl, ho⟩
  · try refine go ?_
    exact retF_R ⟨rfl, Beh.refl hs⟩
  · have hml : (m.map fun c => D.int .u8 c.toNat).length = m.length := List.length_map _
    have hm0 : 0 < m.length := List.length_pos_iff.2 hm
    have lo := hs.lt ho
    try refine go ?_
    refine dops_sldata ?_ ho hm0
    try refine go ?_
    refine dops_ustr (en := 0 + m.length) (n := m.length) (m := m) ?_ hs ho hm0 (by simp only [maxElems]; omega) (by omega) (by omega) (by omega) (by rw [List.drop_zero, List.take_of_length_le (by omega)]; exact bytesOf_map m)
    try refine go ?_
    exact retF_R ⟨rfl, Beh.set (Beh.refl hs) _ lo (fun _ => .inr ⟨_, _, rfl⟩)⟩
end
end Go.Proofs.YtloaklflgfefaaaGreatDoor.Tab
