/- A new store of the document; both stores. -/
import Derived.Test.YtloaklflgfefaaaGreatDoorS8
import Derived.Test.YtloaklflgfefaaaGreatDoorS3
import Derived.Test.YtloaklflgfefaaaGreatDoorR3
namespace Go.Proofs.YtloaklflgfefaaaGreatDoor.Tab
open Go Go.Ab Go.Ab.Sm
set_option linter.unusedSectionVars false
set_option linter.unusedSimpArgs false
set_option linter.unusedVariables false
set_option maxRecDepth 100000
set_option maxHeartbeats 2000000

section
variable {T : Nat → Option AFn} {H : Caller}
theorem Made.fst {s0 : St} {so o la ta2 pl mp ta N : Nat} {W0 es : List D} {kd : Nat → Int} {kv : Nat → List Nat} {s : St} {bo : Nat} (ok : s.Ok) (gb : s.get bo = some (.var 96 (.agg [.ptr so 0, .sl ta 0 N N, .vs true 0 []]))) (h : StoreAt s so o la ta2 pl mp W0 0) (hb : Beh (OfStore so o la ta2 pl) s0 s) (hn : s0.n ≤ bo) :
    Made s0 s so o la ta2 pl mp ta N bo W0 es kd kv 0 [] (.vs true 0 []) :=
  ⟨ok, gb, .nil, rfl, by simpa [rowsV] using h, ⟨fun j p hp => (by simp at hp), fun j p hp => (by simp at hp)⟩, hb, fun p hp => (by cases hp), List.nodup_nil, fun _ _ _ h => (by cases h), hn⟩
theorem build_ev (hT : Tb T) {s0 : St} {so o la ta2 pl mp ta N : Nat} {W0 es : List D} {kd : Nat → Int} {kv : Nat → List Nat} (hs : s0.Ok) (h : StoreAt s0 so o la ta2 pl mp W0 0) (hW : W0.length = 3) (hW0 : W0[0]? = some (.ifc 75 (.agg []))) (ht : Terms s0 ta N es kd kv) (hN : N ≤ 1000) (hN1 : 1 ≤ N) (hta : ¬ OfStore so o la ta2 pl ta) :
    EvP T H 9 [.ptr so 0, .sl ta 0 N N] s0 fun d s1 => ∃ ra L, d = .tup [.sl ra 0 N N, .int .i64 0] ∧ s1.get ra = some (.arr 1 3 (ints (rfs N)) 0) ∧ L.length = N - 1 ∧ StoreAt s1 so o la ta2 pl mp (W0 ++ rowsV L) (N - 1) ∧ Rows s1 L kd kv (fun i => full (kv (i + 1))) ∧ Beh (OfStore so o la ta2 pl) s0 s1 ∧ s0.n ≤ ra ∧ ∀ p ∈ L, s0.n ≤ p.1 ∧ s0.n ≤ p.2 := by
  have lso := hs.lt h.go
  refine evp_in hT.t9 ?_
  try refine go ?_
  have c1 : (s0.push0 (.var 96 (.agg [.ptr so 0, .sl ta 0 N N, .vs true 0 []]))).Ok := (by repeat (first | assumption | refine Go.Ab.St.Ok.push0 ?_ _ | refine Go.Ab.St.Ok.set0 ?_ _ (by first | assumption | omega | (simp only [Go.Ab.St.n_push0, Go.Ab.St.n_set0, Go.Ab.St.n_up]; omega)) | refine Go.Ab.St.Ok.up ?_ _))
  have c3 : Beh Nil s0 (s0.push0 (.var 96 (.agg [.ptr so 0, .sl ta 0 N N, .vs true 0 []]))) := Beh.push (Beh.refl hs) _
  have c2 := h.beh hs c3 (fun j _ hj => hj)
  have c4 := ht.beh hs c3 (fun _ _ _ _ _ _ _ hj => hj) (fun hj => hj)
  have c5 : (s0.push0 (.var 96 (.agg [.ptr so 0, .sl ta 0 N N, .vs true 0 []]))).get s0.n = some (.var 96 (.agg [.ptr so 0, .sl ta 0 N N, .vs true 0 []])) := St.get_push_eq
  refine run_cnt N (fun j => [(0, .ptr so 0), (1, .sl ta 0 N N), (6, .ptr s0.n 0), (24, .int .i64 N), (25, .int .i64 j)]) (fun j s' => Beh Nil (s0.push0 (.var 96 (.agg [.ptr so 0, .sl ta 0 N N, .vs true 0 []]))) s') (Beh.refl c1) ?_
  generalize hS : s0.push0 (.var 96 (.agg [.ptr so 0, .sl ta 0 N N, .vs true 0 []])) = sb at c1 c2 c3 c4 c5 ⊢
  intro j s' hj hb
  rcases Nat.lt_or_ge j N with hl | hl
  · obtain ⟨x, hx⟩ := Terms.at' (c4.beh c1 hb (fun _ _ _ _ _ _ _ hj => hj) (fun hj => hj)) hl
    repeat' first | refine go ?_ | (refine call_ev (wrong_ev hT hb.ok (hb.get c1 c5 (fun hj => hj)) (c2.beh c1 hb (fun _ _ hj => hj)) hx) ?_; rintro d s2 ⟨rfl, hb2⟩)
    exact ret_cnt hl (hb.trans hb2)
  · try refine go ?_
    have hbo : Beh (OfStore so o la ta2 pl) s0 s' := (c3.mono fun _ hh => hh.elim).trans (hb.mono fun _ hh => hh.elim)
    refine run_cnt N (fun j => [(0, .ptr so 0), (1, .sl ta 0 N N), (6, .ptr s0.n 0), (35, .sl ta 0 N N), (36, .int .i64 N), (37, .int .i64 j)]) (fun j s' => ∃ L x, Made s0 s' so o la ta2 pl mp ta N s0.n W0 es kd kv j L x) ⟨[], _, Made.fst hb.ok (hb.get c1 c5 (fun hj => hj)) (c2.beh c1 hb (fun _ _ hj => hj)) hbo (Nat.le_refl _)⟩ ?_
    rintro j2 s3 hj2 ⟨L, x, hm⟩
    have hok := hm.ok
    have hok1 : (s3.up 1).Ok := hok.up 1
    have hgb := hm.gb
    have lgb := hok.lt hgb
    rcases Nat.lt_or_ge j2 N with hl2 | hl2
    · have ht3 := ht.beh hs hm.bh (fun j a es st h1 h2 hg hh => by
        rcases hh with hh | hh | hh | hh | hh
        · rw [hh, h.go] at hg; cases hg
        · rw [hh, h.sl.go] at hg; cases hg
        · rw [hh, h.sl.gl] at hg; simp only [Option.some.injEq, Obj.arr.injEq] at hg; exact h1 hg.2.1.symm
        · rw [hh, h.sl.gt] at hg; simp only [Option.some.injEq, Obj.arr.injEq] at hg; exact h2 hg.2.1.symm
        · rw [hh, h.gp] at hg; cases hg) hta
      obtain ⟨y, hy1, hy2⟩ := ht3.tm j2 hl2
      have gt3 := ht3.gt
      have ln3 := ht3.ln
      have hy1' : es[0 + j2]? = some (tm (kd j2) y) := by rw [Nat.zero_add]; exact hy1
      rcases Nat.eq_zero_or_pos j2 with rfl | hp
      · rw [ht3.kd0] at hy1 hy1'
        rw [ht3.kv0] at hy2
        have hkx := hm.kx
        have e0 : rfs 0 = [] := rfl
        rw [e0] at hkx
        rcases hkx with _ | ⟨-, hne⟩
        · rcases hy2 with _ | ⟨-, hne⟩
          · try refine go ?_
            refine dops_call (makeN_ev hT hok1 (St.get_up hgb)) ?_
            rintro d s4 ⟨rfl, rfl⟩
            have f1 : (s3.up 1).get s0.n = _ := hgb
            refine ⟨rfl, by simp [Go.Ab.lost, Go.Ab.AOp.kind, Go.Ab.lostAts, Go.Ab.lostAt, Go.Ab.fpOf, Go.Ab.wantedD, Go.Ab.fpRd, Go.Ab.fpRd.objs, Go.Ab.fpRg, Go.Ab.Opd.ev, Go.Ab.Env.get, Go.Ab.sameObj, Go.Ab.D.flat, Go.Ab.D.isAgg, Go.Ab.cellsEq, Go.Ab.D.beqs, Go.Ab.D.beq, Nat.beq_refl, f1], ?_⟩
            try refine go ?_
            exact ret_cnt hl2 ⟨L, _, hm.one hs h⟩
          · exact absurd rfl hne
        · exact absurd rfl hne
      · have hkd := ht3.kd1 j2 (by omega)
        have hkx := hm.kx
        have hne : rfs j2 ≠ [] := by intro e; have := rfs_len j2; rw [e] at this; simp at this; omega
        cases hkx' : x with
        | sl ra off len cp =>
          rw [hkx'] at hkx hm hgb
          rcases hkx with _ | ⟨hra, -⟩
          have hra' := hok.lt hra
          have hrb : s0.n ≠ ra := by
            intro e
            rw [← e, hgb] at hra; cases hra
          have hnra : ¬ OfStore so o la ta2 pl ra := fun hh => by
            have := store_lt hs h (.inl hh)
            have := (hm.nx _ _ _ rfl).1
            omega
          have hrl : (ints (rfs j2)).length = (rfs j2).length := ints_len _
          have hrl2 := rfs_len j2
          generalize hk : kd j2 = kk at hy1 hy1' hkd
          have hmx : (kv j2).length ≤ 65536 := ht3.mx j2
          have hy2u : Kids (s3.up 1) y (kv j2) := hy2.beh hok ((Beh.refl (W := Nil) hok).up 1) (fun _ _ _ _ hh => hh)
          have hWl : (W0 ++ rowsV L).length + 1 ≤ maxElems := by
            rw [List.length_append, List.length_map, hm.ll, hW]; simp only [maxElems]; omega
          have hmk := makeR_ev (H := H) hT (kd := kk) hok1 (St.get_up hgb) (hm.st.up 1) (by omega) hWl hkd hy2u hmx
          generalize hkv : kv j2 = VV at hy2 hmk
          have f1 : (s3.up 1).get s0.n = _ := hgb
          rcases hy2 with _ | ⟨hy3, hy4⟩
          · try refine go ?_
            refine dops_call hmk ?_
            rintro d s4 ⟨rfl, ro, lx, r1, r2, r3, r4, r5, r6, r7, r8⟩
            have f2 := r8.get hok1 f1 (notStore hm.st hgb (by decide) (by decide) (by decide))
            have f3 := r8.get hok1 (St.get_up hra) hnra
            have f4 := r8.ok
            have f5 := r8.n
            simp only [St.n_up] at f5
            refine ⟨rfl, by simp [Go.Ab.lost, Go.Ab.AOp.kind, Go.Ab.lostAts, Go.Ab.lostAt, Go.Ab.fpOf, Go.Ab.wantedD, Go.Ab.fpRd, Go.Ab.fpRd.objs, Go.Ab.fpRg, Go.Ab.Opd.ev, Go.Ab.Env.get, Go.Ab.sameObj, Go.Ab.D.flat, Go.Ab.D.isAgg, Go.Ab.cellsEq, Go.Ab.D.beqs, Go.Ab.D.beq, Nat.beq_refl, f1, f2], ?_⟩
            try refine go ?_
            rw [← hkv, ← hk] at r5
            rw [← hkv] at r6
            exact ret_cnt hl2 ⟨L ++ [(ro, lx)], _, hm.more hs h hW (by omega) hra hrl2 r1 r2 r3 r4 r5 r6 r7 r8⟩
          · try refine go ?_
            refine dops_call hmk ?_
            rintro d s4 ⟨rfl, ro, lx, r1, r2, r3, r4, r5, r6, r7, r8⟩
            have f2 := r8.get hok1 f1 (notStore hm.st hgb (by decide) (by decide) (by decide))
            have f3 := r8.get hok1 (St.get_up hra) hnra
            have f4 := r8.ok
            have f5 := r8.n
            simp only [St.n_up] at f5
            refine ⟨rfl, by simp [Go.Ab.lost, Go.Ab.AOp.kind, Go.Ab.lostAts, Go.Ab.lostAt, Go.Ab.fpOf, Go.Ab.wantedD, Go.Ab.fpRd, Go.Ab.fpRd.objs, Go.Ab.fpRg, Go.Ab.Opd.ev, Go.Ab.Env.get, Go.Ab.sameObj, Go.Ab.D.flat, Go.Ab.D.isAgg, Go.Ab.cellsEq, Go.Ab.D.beqs, Go.Ab.D.beq, Nat.beq_refl, f1, f2], ?_⟩
            try refine go ?_
            rw [← hkv, ← hk] at r5
            rw [← hkv] at r6
            exact ret_cnt hl2 ⟨L ++ [(ro, lx)], _, hm.more hs h hW (by omega) hra hrl2 r1 r2 r3 r4 r5 r6 r7 r8⟩
        | _ => (rw [hkx'] at hkx; generalize rfs j2 = ZZ at hkx hne; cases hkx <;> exact absurd rfl hne)
    · have : j2 = N := by omega
      subst this
      try refine go ?_
      refine fill_run hT hs h hW hW0 ht hta hm hN hN1 rfl rfl ?_
      intro s4 hb4 hr4
      obtain ⟨ra, hxr, hra0⟩ : ∃ ra, x = .sl ra 0 j2 j2 ∧ s3.get ra = some (.arr 1 3 (ints (rfs j2)) 0) := by
        have hkx := hm.kx
        generalize hZ : rfs j2 = ZZ at hkx
        have hZl : ZZ.length = j2 := by rw [← hZ, rfs_len]
        rcases hkx with _ | ⟨hx, hn⟩
        · simp at hZl; omega
        · exact ⟨_, by rw [hZl], hx⟩
      have hok4 := hb4.ok
      have hra : s4.get ra = some (.arr 1 3 (ints (rfs j2)) 0) := hb4.get hm.ok hra0 (hm.nx ra j2 j2 hxr).2
      have hrl : (ints (rfs j2)).length = j2 := by rw [ints_len, rfs_len]
      have hnl : ∀ i, i < s0.n → i ∉ L.map Prod.snd := fun i hi hh => by
        obtain ⟨p, hp, rfl⟩ := List.mem_map.1 hh
        have := (hm.nw p hp).2
        omega
      have hst := hm.st.beh hm.ok hb4 fun i hi => hnl i (store_lt hs h hi)
      have hgb4 : s4.get s0.n = some (.var 96 (.agg [.ptr so 0, .sl ta 0 j2 j2, x])) := hb4.get hm.ok hm.gb fun hh => by
        obtain ⟨p, hp, e⟩ := List.mem_map.1 hh
        obtain ⟨i, hi⟩ := List.getElem?_of_mem hp
        obtain ⟨st, _, _, b2⟩ := hm.rs.ls i p hi
        rw [e, hm.gb] at b2; cases b2
      rw [hxr] at hgb4
      have l1 := hok4.lt hra
      have l2 := hok4.lt hgb4
      try refine go ?_
      refine dops_mkslice (dl := .int .i64 (0 : Nat)) (dc := .int .i64 j2) idx_i idx_i (by omega) (by omega) (by simp only [maxElems]; omega) ?_
      try refine go ?_
      refine dops_apl_al (he := by simp) (hm := by rw [hrl]; simp only [maxElems]; omega) (m := ints (rfs j2)) (ints_sz _) (by intro e; rw [e] at hrl; simp at hrl; omega) (off2 := 0) (len2 := j2) (es2 := ints (rfs j2)) (by rw [List.drop_zero]; exact List.take_of_length_le (by omega)) ?_
      try refine go ?_
      have z1 : Beh Nil s4 (((s4.up 2).set0 (s4.n + 0) (.arr 1 3 (List.replicate 0 (.int .i64 0)) 0)).set0 (s4.n + 0) (.arr 1 3 (List.replicate 0 (.int .i64 0) ++ ints (rfs j2)) 0)) :=
        Beh.set (Beh.set ((Beh.refl hok4).up 2) _ (by rw [St.n_up]; omega) (fun _ => by omega)) _ (by rw [St.n_set0, St.n_up]; omega) (fun _ => by omega)
      have hd1 : D.sl (s4.n + 0) 0 (0 + (ints (rfs j2)).length) (0 + (ints (rfs j2)).length) = D.sl (s4.n + 0) 0 j2 j2 := by rw [hrl, Nat.zero_add]
      rw [hd1]
      refine retF_R ⟨s4.n + 0, L, rfl, ?_, hm.ll, hst.beh hok4 z1 (fun _ _ hh => hh), hr4.beh hok4 z1 (fun _ _ => ⟨fun hh => hh, fun hh => hh⟩), ?_, by have := hb4.n; have := hm.bh.n; omega, hm.nw⟩
      · rw [St.get_set_eq]; rfl
      · refine (hm.bh.trans' hb4 fun i hi hlt => absurd hi (hnl i hlt)).trans' z1 fun _ hh _ => hh.elim
end
end Go.Proofs.YtloaklflgfefaaaGreatDoor.Tab

namespace Go.Proofs.YtloaklflgfefaaaGreatDoor.Tab
open Go Go.Ab Go.Ab.Sm
set_option linter.unusedSectionVars false
set_option linter.unusedSimpArgs false
set_option linter.unusedVariables false
set_option maxRecDepth 100000
set_option maxHeartbeats 2000000

section
variable {T : Nat → Option AFn} {H : Caller} {k : List Kont} {Q : QP}
@[reducible] def rules : D := .agg [.int .i64 0, .int .i64 60000, .int .i64 4, .vs true 0 [], .vs true 0 []]
@[reducible] def W0 : List D := [.ifc 75 (.agg []), .ifc 77 (.agg [.bool false]), .ifc 77 (.agg [.bool true])]
theorem slotsNew_ev (hT : Tb T) {s : St} (hs : s.Ok) : EvP T H 16 [] s fun d s1 => d = .ptr s.n 0 ∧ s1 = s.push0 (.var 120 (.agg [.vs true 0 [], .vs true 0 [], .vs true 0 []])) := by
  refine evp_in hT.t16 ?_
  try refine go ?_
  exact retF_R ⟨rfl, rfl⟩
theorem force_ev (hT : Tb T) {s : St} (hs : s.Ok) : EvP T H 17 [.vs true 0 []] s fun d s1 => d = .ptr (s.n + 1) 0 ∧ s1 = (s.push0 (.map [] 0)).push0 (.var 123 (.agg [.mp s.n, .int .i64 (0 : Nat)])) := by
  refine evp_in hT.t17 ?_
  try refine go ?_
  refine run_again ?_
  try refine go ?_
  exact retF_R ⟨rfl, rfl⟩
theorem add0_ev (hT : Tb T) {s : St} {o ty : Nat} {x : D} (hs : s.Ok) (h : s.get o = some (.var 120 (.agg [.vs true 0 [], .vs true 0 [], .vs true 0 []]))) :
    EvP T H 18 [.ptr o 0, .ifc ty x] s fun d s1 => d = .int .i64 0 ∧ ∃ la ta, SlotsAt s1 o la ta [.ifc ty x] ∧ Beh (fun j => j = o) s s1 ∧ s.n ≤ la ∧ s.n ≤ ta := by
  have l1 := hs.lt h
  have f0 := hs.fresh s.n (Nat.le_refl _)
  have f1 := hs.fresh (s.n + 1) (by omega)
  refine evp_in hT.t18 ?_
  try refine go ?_
  exact retF_R ⟨rfl, s.n + 0, s.n + 1, ⟨(by repeat (first | assumption | exact Go.Ab.St.get_set_eq | exact Go.Ab.St.get_push_eq | refine Go.Ab.St.get_set_ne ?_ (by first | assumption | (apply Ne.symm; assumption) | omega | (simp only [Go.Ab.St.n_push0, Go.Ab.St.n_set0, Go.Ab.St.n_up]; omega)) | refine Go.Ab.St.get_push_ne ?_ (by first | assumption | (apply Ne.symm; assumption) | omega | (simp only [Go.Ab.St.n_push0, Go.Ab.St.n_set0, Go.Ab.St.n_up]; omega)) | refine Go.Ab.St.get_up ?_)), (by repeat (first | assumption | exact Go.Ab.St.get_set_eq | exact Go.Ab.St.get_push_eq | refine Go.Ab.St.get_set_ne ?_ (by first | assumption | (apply Ne.symm; assumption) | omega | (simp only [Go.Ab.St.n_push0, Go.Ab.St.n_set0, Go.Ab.St.n_up]; omega)) | refine Go.Ab.St.get_push_ne ?_ (by first | assumption | (apply Ne.symm; assumption) | omega | (simp only [Go.Ab.St.n_push0, Go.Ab.St.n_set0, Go.Ab.St.n_up]; omega)) | refine Go.Ab.St.get_up ?_)), (by repeat (first | assumption | exact Go.Ab.St.get_set_eq | exact Go.Ab.St.get_push_eq | refine Go.Ab.St.get_set_ne ?_ (by first | assumption | (apply Ne.symm; assumption) | omega | (simp only [Go.Ab.St.n_push0, Go.Ab.St.n_set0, Go.Ab.St.n_up]; omega)) | refine Go.Ab.St.get_push_ne ?_ (by first | assumption | (apply Ne.symm; assumption) | omega | (simp only [Go.Ab.St.n_push0, Go.Ab.St.n_set0, Go.Ab.St.n_up]; omega)) | refine Go.Ab.St.get_up ?_)), by omega, by omega, by omega⟩, (by repeat (first | assumption | exact Go.Ab.Beh.refl (by assumption) | refine Go.Ab.Beh.set ?_ _ (by first | assumption | omega | (simp only [Go.Ab.St.n_push0, Go.Ab.St.n_set0, Go.Ab.St.n_up]; omega)) (fun hbeh => by first | (exfalso; omega) | (exfalso; simp only [Go.Ab.St.n_push0, Go.Ab.St.n_set0, Go.Ab.St.n_up] at hbeh; omega) | (simp; done)) | refine Go.Ab.Beh.push ?_ _ | refine Go.Ab.Beh.up ?_ _)), by omega, by omega⟩
theorem run_gen {a : AC} {fr : Fr} {s : St} (P : St → Prop) (h0 : P s) (h : ∀ s', P s' → Run T H a k fr s' Q) : Run T H a k fr s Q := h s h0
theorem new_ev (hT : Tb T) {s : St} (hs : s.Ok) :
    EvP T H 7 [rules, .nilp] s fun d s1 => ∃ so o la ta2 pl mp, d = .tup [.ptr so 0, .int .i64 0] ∧ StoreAt s1 so o la ta2 pl mp W0 0 ∧ Beh Nil s s1 ∧ ∀ j, (OfStore so o la ta2 pl j ∨ j = mp) → s.n ≤ j := by
  refine evp_in hT.t7 ?_
  have hs1 := hs.up 1
  try refine go ?_
  refine dops_call (slotsNew_ev hT hs1) ?_
  rintro d s1 ⟨rfl, rfl⟩
  refine ⟨rfl, by simp [Go.Ab.lost, Go.Ab.AOp.kind, Go.Ab.lostAts, Go.Ab.lostAt, Go.Ab.fpOf, Go.Ab.wantedD, Go.Ab.fpRd, Go.Ab.fpRd.objs, Go.Ab.fpRg, Go.Ab.Opd.ev, Go.Ab.Env.get, Go.Ab.sameObj, Go.Ab.D.flat, Go.Ab.D.isAgg, Go.Ab.cellsEq, Go.Ab.D.beqs, Go.Ab.D.beq, Nat.beq_refl, hs], ?_⟩
  have hs2 := hs1.push0 (.var 120 (.agg [.vs true 0 [], .vs true 0 [], .vs true 0 []]))
  try refine go ?_
  refine dops_call (force_ev hT hs2) ?_
  rintro d s1 ⟨rfl, rfl⟩
  refine ⟨rfl, by simp [Go.Ab.lost, Go.Ab.AOp.kind, Go.Ab.lostAts, Go.Ab.lostAt, Go.Ab.fpOf, Go.Ab.wantedD, Go.Ab.fpRd, Go.Ab.fpRd.objs, Go.Ab.fpRg, Go.Ab.Opd.ev, Go.Ab.Env.get, Go.Ab.sameObj, Go.Ab.D.flat, Go.Ab.D.isAgg, Go.Ab.cellsEq, Go.Ab.D.beqs, Go.Ab.D.beq, Nat.beq_refl, hs], ?_⟩
  have hf := hs.fresh s.n (Nat.le_refl _)
  try refine go ?_
  have hn1 : (s.up 1).n = s.n + 1 := rfl
  refine run_gen (fun X => X.Ok ∧ X.n = s.n + 5 ∧ X.get (s.n + 0) = some (.var 71 (.agg [.int .i64 0, .int .i64 60000, .int .i64 4, .vs true 0 [], .vs true 0 [], .nilp, .ptr (s.n + 1) 0, .int .i64 (0 : Nat), .int .i64 (0 : Nat), .int .i64 0, .ptr (s.n + 3) 0, .bool false])) ∧
    X.get (s.n + 1) = some (.var 120 (.agg [.vs true 0 [], .vs true 0 [], .vs true 0 []])) ∧ X.get (s.n + 2) = some (.map [] 0) ∧ X.get (s.n + 3) = some (.var 123 (.agg [.mp (s.n + 2), .int .i64 (0 : Nat)])) ∧ X.get (s.n + 4) = some (.arr 1 67 W0 0) ∧ Beh Nil s X)
    ⟨(by repeat (first | assumption | refine Go.Ab.St.Ok.push0 ?_ _ | refine Go.Ab.St.Ok.set0 ?_ _ (by first | assumption | omega | (simp only [Go.Ab.St.n_push0, Go.Ab.St.n_set0, Go.Ab.St.n_up]; omega)) | refine Go.Ab.St.Ok.up ?_ _)), rfl, (by repeat (first | assumption | exact Go.Ab.St.get_set_eq | exact Go.Ab.St.get_push_eq | refine Go.Ab.St.get_set_ne ?_ (by first | assumption | (apply Ne.symm; assumption) | omega | (simp only [Go.Ab.St.n_push0, Go.Ab.St.n_set0, Go.Ab.St.n_up]; omega)) | refine Go.Ab.St.get_push_ne ?_ (by first | assumption | (apply Ne.symm; assumption) | omega | (simp only [Go.Ab.St.n_push0, Go.Ab.St.n_set0, Go.Ab.St.n_up]; omega)) | refine Go.Ab.St.get_up ?_)), (by repeat (first | assumption | exact Go.Ab.St.get_set_eq | exact Go.Ab.St.get_push_eq | refine Go.Ab.St.get_set_ne ?_ (by first | assumption | (apply Ne.symm; assumption) | omega | (simp only [Go.Ab.St.n_push0, Go.Ab.St.n_set0, Go.Ab.St.n_up]; omega)) | refine Go.Ab.St.get_push_ne ?_ (by first | assumption | (apply Ne.symm; assumption) | omega | (simp only [Go.Ab.St.n_push0, Go.Ab.St.n_set0, Go.Ab.St.n_up]; omega)) | refine Go.Ab.St.get_up ?_)), (by repeat (first | assumption | exact Go.Ab.St.get_set_eq | exact Go.Ab.St.get_push_eq | refine Go.Ab.St.get_set_ne ?_ (by first | assumption | (apply Ne.symm; assumption) | omega | (simp only [Go.Ab.St.n_push0, Go.Ab.St.n_set0, Go.Ab.St.n_up]; omega)) | refine Go.Ab.St.get_push_ne ?_ (by first | assumption | (apply Ne.symm; assumption) | omega | (simp only [Go.Ab.St.n_push0, Go.Ab.St.n_set0, Go.Ab.St.n_up]; omega)) | refine Go.Ab.St.get_up ?_)), (by repeat (first | assumption | exact Go.Ab.St.get_set_eq | exact Go.Ab.St.get_push_eq | refine Go.Ab.St.get_set_ne ?_ (by first | assumption | (apply Ne.symm; assumption) | omega | (simp only [Go.Ab.St.n_push0, Go.Ab.St.n_set0, Go.Ab.St.n_up]; omega)) | refine Go.Ab.St.get_push_ne ?_ (by first | assumption | (apply Ne.symm; assumption) | omega | (simp only [Go.Ab.St.n_push0, Go.Ab.St.n_set0, Go.Ab.St.n_up]; omega)) | refine Go.Ab.St.get_up ?_)), (by repeat (first | assumption | exact Go.Ab.St.get_set_eq | exact Go.Ab.St.get_push_eq | refine Go.Ab.St.get_set_ne ?_ (by first | assumption | (apply Ne.symm; assumption) | omega | (simp only [Go.Ab.St.n_push0, Go.Ab.St.n_set0, Go.Ab.St.n_up]; omega)) | refine Go.Ab.St.get_push_ne ?_ (by first | assumption | (apply Ne.symm; assumption) | omega | (simp only [Go.Ab.St.n_push0, Go.Ab.St.n_set0, Go.Ab.St.n_up]; omega)) | refine Go.Ab.St.get_up ?_)), ?_⟩ ?_
  · refine Beh.push (Beh.set (Beh.push (Beh.push (Beh.push ((Beh.refl hs).up 1) _) _) _) _ ?_ ?_) _
    · simp only [St.n_push0, St.n_up]; omega
    · intro hh; omega
  rintro X ⟨x1, x2, x3, x4, x5, x6, x7, x8⟩
  refine run_again (env := [(6, .ptr (s.n + 0) 0), (51, .sl (s.n + 4) 0 3 3), (52, .int .i64 3), (53, .int .i64 (0 : Nat))]) ?_
  try refine go ?_
  refine call_ev (add0_ev hT x1 x4) ?_
  rintro d X2 ⟨rfl, la, ta, y1, y2, y3, y4⟩
  have p3 := y2.get x1 x3 (by omega)
  have p5 := y2.get x1 x5 (by omega)
  have p6 := y2.get x1 x6 (by omega)
  have p7 := y2.get x1 x7 (by omega)
  have pn := y2.n
  try refine go ?_
  refine ret_againN ?_
  refine run_again (env := [(6, .ptr (s.n + 0) 0), (51, .sl (s.n + 4) 0 3 3), (52, .int .i64 3), (53, .int .i64 (1 : Nat))]) ?_
  try refine go ?_
  refine call_ev (add_ev hT y2.ok y1 (by simp only [List.length_singleton, maxElems]; omega)) ?_
  rintro d X3 ⟨rfl, z1, z2⟩
  have q3 := z2.get y2.ok p3 (by omega)
  have q5 := z2.get y2.ok p5 (by omega)
  have q6 := z2.get y2.ok p6 (by omega)
  have q7 := z2.get y2.ok p7 (by omega)
  have qn := z2.n
  try refine go ?_
  refine ret_againN ?_
  refine run_again (env := [(6, .ptr (s.n + 0) 0), (51, .sl (s.n + 4) 0 3 3), (52, .int .i64 3), (53, .int .i64 (2 : Nat))]) ?_
  try refine go ?_
  refine call_ev (add_ev hT z2.ok z1 (by simp only [List.length_append, List.length_singleton, maxElems]; omega)) ?_
  rintro d X4 ⟨rfl, w1, w2⟩
  have r3 := w2.get z2.ok q3 (by omega)
  have r5 := w2.get z2.ok q5 (by omega)
  have r6 := w2.get z2.ok q6 (by omega)
  try refine go ?_
  refine ret_againN ?_
  refine run_again (env := [(6, .ptr (s.n + 0) 0), (51, .sl (s.n + 4) 0 3 3), (52, .int .i64 3), (53, .int .i64 (3 : Nat))]) ?_
  try refine go ?_
  refine retF_R ⟨s.n + 0, s.n + 1, la, ta, s.n + 3, s.n + 2, rfl, ⟨r3, r6, r5, w1, ?_⟩, ?_, ?_⟩
  · simp only [List.nodup_cons, List.mem_cons, List.not_mem_nil, or_false, not_or, not_false_eq_true, List.nodup_nil, and_true]
    have := w1.lt
    omega
  · refine ((x8.trans' y2 ?_).trans' z2 ?_).trans' w2 ?_
    · rintro j rfl hj; omega
    · rintro j (rfl | rfl | rfl) hj <;> omega
    · rintro j (rfl | rfl | rfl) hj <;> omega
  · rintro j ((h | h | h | h | h) | h) <;> omega
end
end Go.Proofs.YtloaklflgfefaaaGreatDoor.Tab

namespace Go.Proofs.YtloaklflgfefaaaGreatDoor.Tab
open Go Go.Ab Go.Ab.Sm
set_option linter.unusedSectionVars false
set_option linter.unusedSimpArgs false
set_option linter.unusedVariables false
set_option maxRecDepth 100000
set_option maxHeartbeats 2000000

section
variable {T : Nat → Option AFn} {H : Caller} {k : List Kont} {Q : QP}
theorem refNew_ev (hT : Tb T) {s : St} (hs : s.Ok) : EvP T H 8 [rules] s fun d s1 => ∃ w vo cn L0, d = .tup [.ptr w 0, .int .i64 0] ∧ RefAt s1 w vo cn L0 0 ∧ L0.length = 3 ∧ Beh Nil s s1 ∧ s.n ≤ w ∧ s.n ≤ vo := by
  refine evp_in hT.t8 ?_
  try refine go ?_
  refine retF_R ⟨s.n + 1, s.n + 2, s.n, [val 1 0 (.vs true 0 []), val 2 0 (.vs true 0 []), .agg [.int .i64 2, .int .i64 0, .bool false, .bool true, .bool false, .vs true 0 [], .str [], .vs true 0 [], .nilp, .int .i64 0, .vs true 0 [], .int .i64 0, .int .i64 0, .int .i64 0, .int .i64 0, .nilp, .nilp, .int .i64 0, .nilp, .bool false, .bool false, .bool false]], rfl, ⟨?_, 0, Nat.zero_le _, ?_⟩, rfl, ?_, by omega, by omega⟩
  · exact (by repeat (first | assumption | exact Go.Ab.St.get_set_eq | exact Go.Ab.St.get_push_eq | refine Go.Ab.St.get_set_ne ?_ (by first | assumption | (apply Ne.symm; assumption) | omega | (simp only [Go.Ab.St.n_push0, Go.Ab.St.n_set0, Go.Ab.St.n_up]; omega)) | refine Go.Ab.St.get_push_ne ?_ (by first | assumption | (apply Ne.symm; assumption) | omega | (simp only [Go.Ab.St.n_push0, Go.Ab.St.n_set0, Go.Ab.St.n_up]; omega)) | refine Go.Ab.St.get_up ?_))
  · exact (by repeat (first | assumption | exact Go.Ab.St.get_set_eq | exact Go.Ab.St.get_push_eq | refine Go.Ab.St.get_set_ne ?_ (by first | assumption | (apply Ne.symm; assumption) | omega | (simp only [Go.Ab.St.n_push0, Go.Ab.St.n_set0, Go.Ab.St.n_up]; omega)) | refine Go.Ab.St.get_push_ne ?_ (by first | assumption | (apply Ne.symm; assumption) | omega | (simp only [Go.Ab.St.n_push0, Go.Ab.St.n_set0, Go.Ab.St.n_up]; omega)) | refine Go.Ab.St.get_up ?_))
  · exact (by repeat (first | assumption | exact Go.Ab.Beh.refl (by assumption) | refine Go.Ab.Beh.set ?_ _ (by first | assumption | omega | (simp only [Go.Ab.St.n_push0, Go.Ab.St.n_set0, Go.Ab.St.n_up]; omega)) (fun hbeh => by first | (exfalso; omega) | (exfalso; simp only [Go.Ab.St.n_push0, Go.Ab.St.n_set0, Go.Ab.St.n_up] at hbeh; omega) | (simp; done)) | refine Go.Ab.Beh.push ?_ _ | refine Go.Ab.Beh.up ?_ _))
/-- What is behind both stores' Build. -/
structure Built (s0 s1 : St) (so o la ta2 pl mp N ra : Nat) (L : List (Nat × Nat)) (kd : Nat → Int) (kv : Nat → List Nat) : Prop where
  bh : Beh Nil s0 s1
  ga : s1.get ra = some (.arr 1 3 (ints (rfs N)) 0)
  ll : L.length = N - 1
  st : StoreAt s1 so o la ta2 pl mp (W0 ++ rowsV L) (N - 1)
  rs : Rows s1 L kd kv (fun i => full (kv (i + 1)))
theorem both_ev (hT : Tb T) {s0 : St} {ta N : Nat} {es : List D} {kd : Nat → Int} {kv : Nat → List Nat} (hs : s0.Ok) (ht : Terms s0 ta N es kd kv) (hN : N ≤ 1000) (hN1 : 1 ≤ N) :
    EvP T H 5 [.sl ta 0 N N] s0 fun d s1 => ∃ so o la ta2 pl mp ra w oa L, d = .tup [.ptr so 0, .sl ra 0 N N, .ptr w 0, .sl oa 0 N N, .bool true] ∧ Built s0 s1 so o la ta2 pl mp N ra L kd kv := by
  have lta := hs.lt ht.gt
  refine evp_in hT.t5 ?_
  try refine go ?_
  refine call_ev (new_ev hT hs) ?_
  rintro d s1 ⟨so, o, la, ta2, pl, mp, rfl, a1, a2, a3⟩
  try refine go ?_
  refine call_ev (refNew_ev hT a2.ok) ?_
  rintro d s2 ⟨w, vo, cn, L0, rfl, b1, b2, b3, b4, b5⟩
  have st2 := a1.beh a2.ok b3 (fun _ _ hh => hh)
  have bh2 := a2.trans b3
  have ht2 := ht.beh hs bh2 (fun _ _ _ _ _ _ _ hh => hh) (fun hh => hh)
  have n2 := bh2.n
  have n1 := a2.n
  try refine go ?_
  refine call_ev (build_ev hT b3.ok st2 rfl rfl ht2 hN hN1 (fun hh => by have := a3 _ (.inl hh); omega)) ?_
  rintro d s3 ⟨ra, L, rfl, c1, c2, c3, c4, c5, c6, c7⟩
  have hsl : ∀ j, (OfStore so o la ta2 pl j ∨ j = mp) → j < s1.n := fun j hj => store_lt a2.ok a1 hj
  have hW : ¬ OfStore so o la ta2 pl w := fun hh => by have := hsl _ (.inl hh); omega
  have hV : ¬ OfStore so o la ta2 pl vo := fun hh => by have := hsl _ (.inl hh); omega
  have b13 := b1.beh b3.ok c5 hW hV
  have ht3 := terms_store b3.ok st2 ht2 (fun hh => by have := a3 _ (.inl hh); omega) c5
  have lw := b3.ok.lt b1.gw
  have lv : vo < s2.n := by
    obtain ⟨st, _, hv⟩ := b1.gv
    exact b3.ok.lt hv
  try refine go ?_
  refine call_ev (buildR_ev hT c5.ok b13 b2 ht3 hN hN1) ?_
  rintro d s4 ⟨⟨oa, rfl⟩, d2⟩
  try refine go ?_
  have bh3 := bh2.trans' c5 fun j hj hlt => (by have := a3 _ (.inl hj); omega)
  have bh4 := bh3.trans' d2 fun j hj hlt => (by rcases hj with rfl | rfl <;> omega)
  have hne : ∀ i, s2.n ≤ i → ¬ OfRef w vo i := fun i hi hh => by rcases hh with rfl | rfl <;> omega
  refine retF_R ⟨so, o, la, ta2, pl, mp, ra, w, oa, L, rfl, bh4, d2.get c5.ok c1 (hne _ c6), c2, c3.beh c5.ok d2 (fun j hj hh => ?_), c4.beh c5.ok d2 (fun p hp => ⟨hne _ (c7 p hp).1, hne _ (c7 p hp).2⟩)⟩
  have := hsl j hj
  rcases hh with rfl | rfl <;> omega
end
end Go.Proofs.YtloaklflgfefaaaGreatDoor.Tab
