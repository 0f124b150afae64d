/- Build, last part: rows are filled. -/
import Derived.Test.YtloaklflgfefaaaGreatDoorS5
namespace Go.Proofs.YtloaklflgfefaaaGreatDoor.Tab
open Go Go.Ab Go.Ab.Sm
set_option linter.unusedSectionVars false
set_option linter.unusedSimpArgs false
set_option linter.unusedVariables false
set_option maxRecDepth 100000
set_option maxHeartbeats 2000000

/-- The values' numbers. -/
def rf (v : Nat) : Nat := if v = 0 then 0 else v + 2
def rfs (j : Nat) : List Nat := (List.range j).map rf
theorem rfs_len (j : Nat) : (rfs j).length = j := by simp [rfs]
theorem rfs_succ (j : Nat) : rfs (j + 1) = rfs j ++ [rf j] := by simp [rfs, List.range_succ]
theorem rfs_at {j v : Nat} (h : v < j) : (rfs j)[v]? = some (rf v) := by simp [rfs, h]
abbrev ints (V : List Nat) : List D := V.map fun v : Nat => D.int .i64 (v : Int)
theorem ints_sz (V : List Nat) : allSz 1 (ints V) = true := by
  induction V with
  | nil => rfl
  | cons v V ih => simp only [ints, List.map_cons, allSz] at ih ⊢; rw [ih]; rfl
theorem ints_app (V W : List Nat) : ints (V ++ W) = ints V ++ ints W := List.map_append
theorem ints_len (V : List Nat) : (ints V).length = V.length := List.length_map _

/-- Terms: None, then tuples and lists of elder ones. -/
structure Terms (s : St) (ta N : Nat) (es : List D) (kd : Nat → Int) (kv : Nat → List Nat) : Prop where
  gt : s.get ta = some (.arr 8 28 es 0)
  ln : es.length = N
  tm : ∀ i, i < N → ∃ x, es[i]? = some (tm (kd i) x) ∧ Kids s x (kv i)
  kd0 : kd 0 = 1
  kv0 : kv 0 = []
  kd1 : ∀ i, i ≠ 0 → kd i = 5 ∨ kd i = 6
  lt : ∀ i, ∀ v ∈ kv i, v < i
  mx : ∀ i, (kv i).length ≤ 65536
theorem Kids.beh {W : Nat → Prop} {s s1 : St} {x : D} {V : List Nat} (h : Kids s x V) (hs : s.Ok) (hb : Beh W s s1) (hw : ∀ j es st, s.get j = some (.arr 1 3 es st) → ¬ W j) : Kids s1 x V := by
  rcases h with _ | ⟨hx, hn⟩
  · exact .nil
  · exact .sl (hb.get hs hx (hw _ _ _ hx)) hn
theorem Terms.beh {W : Nat → Prop} {s s1 : St} {ta N : Nat} {es : List D} {kd : Nat → Int} {kv : Nat → List Nat} (h : Terms s ta N es kd kv) (hs : s.Ok) (hb : Beh W s s1) (hw : ∀ j a es st, a ≠ 67 → a ≠ 4 → s.get j = some (.arr 1 a es st) → ¬ W j) (hw' : ¬ W ta) : Terms s1 ta N es kd kv :=
  ⟨hb.get hs h.gt hw', h.ln, fun i hi => by
    obtain ⟨x, h1, h2⟩ := h.tm i hi
    exact ⟨x, h1, h2.beh hs hb fun j es st hg => hw j 3 es st (by decide) (by decide) hg⟩, h.kd0, h.kv0, h.kd1, h.lt, h.mx⟩
theorem Terms.at' {s : St} {ta N i : Nat} {es : List D} {kd : Nat → Int} {kv : Nat → List Nat} (h : Terms s ta N es kd kv) (hi : i < N) : ∃ x, TermAt s ta N i es (kd i) x (kv i) := by
  obtain ⟨x, h1, h2⟩ := h.tm i hi
  refine ⟨x, h.gt, h.ln, h1, h2, ?_, h.lt i, h.mx i⟩
  by_cases h0 : i = 0
  · subst h0; exact .inl ⟨h.kd0, h.kv0⟩
  · exact .inr (h.kd1 i h0)
/-- The rows that were made: their boxes and lists, what these hold. -/
structure Rows (s : St) (L : List (Nat × Nat)) (kd : Nat → Int) (kv : Nat → List Nat) (f : Nat → List D) : Prop where
  ro : ∀ j p, L[j]? = some p → s.get p.1 = some (.var 105 (.agg [.int .i64 (j + 1 : Nat), .sl p.2 0 (kv (j + 1)).length (kv (j + 1)).length, .int .i64 (kd (j + 1))]))
  ls : ∀ j p, L[j]? = some p → ∃ st, st ≤ (kv (j + 1)).length ∧ (f j).length = (kv (j + 1)).length ∧ s.get p.2 = some (.arr 1 3 (f j) st)
theorem Rows.beh {W : Nat → Prop} {s s1 : St} {L : List (Nat × Nat)} {kd : Nat → Int} {kv : Nat → List Nat} {f : Nat → List D} (h : Rows s L kd kv f) (hs : s.Ok) (hb : Beh W s s1) (hw : ∀ p ∈ L, ¬ W p.1 ∧ ¬ W p.2) : Rows s1 L kd kv f := by
  refine ⟨fun j p hp => hb.get hs (h.ro j p hp) (hw p (List.mem_of_getElem? hp)).1, fun j p hp => ?_⟩
  obtain ⟨st, h1, h2, h3⟩ := h.ls j p hp
  exact ⟨st, h1, h2, hb.get hs h3 (hw p (List.mem_of_getElem? hp)).2⟩
/-- One more. -/
theorem Rows.snoc {s : St} {L : List (Nat × Nat)} {kd : Nat → Int} {kv : Nat → List Nat} {f : Nat → List D} (h : Rows s L kd kv f) {ro lx : Nat} (h1 : s.get ro = some (.var 105 (.agg [.int .i64 (L.length + 1 : Nat), .sl lx 0 (kv (L.length + 1)).length (kv (L.length + 1)).length, .int .i64 (kd (L.length + 1))])))
    (h2 : (f L.length).length = (kv (L.length + 1)).length) (h3 : s.get lx = some (.arr 1 3 (f L.length) 0)) : Rows s (L ++ [(ro, lx)]) kd kv f := by
  have key : ∀ (j : Nat) (p : Nat × Nat), (L ++ [(ro, lx)])[j]? = some p → L[j]? = some p ∨ (j = L.length ∧ p = (ro, lx)) := by
    intro j p hp
    rw [List.getElem?_append] at hp
    split at hp
    · exact .inl hp
    · rename_i hl
      have : j - L.length = 0 := by
        rcases Nat.eq_zero_or_pos (j - L.length) with h0 | h0
        · exact h0
        · rw [List.getElem?_eq_none (by simp; omega)] at hp; cases hp
      rw [this] at hp
      simp only [List.getElem?_cons_zero, Option.some.injEq] at hp
      exact .inr ⟨by omega, hp.symm⟩
  refine ⟨fun j p hp => ?_, fun j p hp => ?_⟩
  · rcases key j p hp with hp | ⟨rfl, rfl⟩
    · exact h.ro j p hp
    · exact h1
  · rcases key j p hp with hp | ⟨rfl, rfl⟩
    · exact h.ls j p hp
    · exact ⟨0, Nat.zero_le _, h2, h3⟩
abbrev rowsV (L : List (Nat × Nat)) : List D := L.map fun p => D.ifc 99 (.ptr p.1 0)
/-- A builder that has made j values. -/
structure Made (s0 s : St) (so o la ta2 pl mp ta N bo : Nat) (W0 es : List D) (kd : Nat → Int) (kv : Nat → List Nat) (j : Nat) (L : List (Nat × Nat)) (x : D) : Prop where
  ok : s.Ok
  gb : s.get bo = some (.var 96 (.agg [.ptr so 0, .sl ta 0 N N, x]))
  kx : Kids s x (rfs j)
  ll : L.length = j - 1
  st : StoreAt s so o la ta2 pl mp (W0 ++ rowsV L) (j - 1)
  rs : Rows s L kd kv (fun i => List.replicate (kv (i + 1)).length (.int .i64 0))
  bh : Beh (OfStore so o la ta2 pl) s0 s
  nw : ∀ p ∈ L, s0.n ≤ p.1 ∧ s0.n ≤ p.2
  nd : (L.map Prod.snd).Nodup
  nx : ∀ ra len cp, x = .sl ra 0 len cp → s0.n ≤ ra ∧ ra ∉ L.map Prod.snd
  nb : s0.n ≤ bo
theorem store_lt {s : St} {so o la ta2 pl mp n : Nat} {W : List D} (hs : s.Ok) (h : StoreAt s so o la ta2 pl mp W n) {j : Nat} (hj : OfStore so o la ta2 pl j ∨ j = mp) : j < s.n := by
  have m1 := hs.lt h.go; have m2 := hs.lt h.sl.go; have m3 := hs.lt h.sl.gl; have m4 := hs.lt h.sl.gt; have m5 := hs.lt h.gp; have m6 := hs.lt h.gm
  rcases hj with (hj | hj | hj | hj | hj) | hj <;> omega
/-- None is the first value. -/
theorem Made.one {s0 s : St} {so o la ta2 pl mp ta N bo : Nat} {W0 es : List D} {kd : Nat → Int} {kv : Nat → List Nat} {L : List (Nat × Nat)} {x : D} (hs0 : s0.Ok) (h0 : StoreAt s0 so o la ta2 pl mp W0 0) (h : Made s0 s so o la ta2 pl mp ta N bo W0 es kd kv 0 L x) :
    Made s0 (((s.up 1).set0 (s.n + 0) (.arr 1 3 [.int .i64 0] 0)).set0 bo (.var 96 (.agg [.ptr so 0, .sl ta 0 N N, .sl (s.n + 0) 0 1 1]))) so o la ta2 pl mp ta N bo W0 es kd kv 1 L (.sl (s.n + 0) 0 1 1) := by
  have hl : L = [] := List.eq_nil_of_length_eq_zero (by rw [h.ll])
  subst hl
  have lb := h.ok.lt h.gb
  have hn := h.bh.n
  have hb : Beh (fun j => j = s.n + 0 ∨ j = bo) s (((s.up 1).set0 (s.n + 0) (.arr 1 3 [.int .i64 0] 0)).set0 bo (.var 96 (.agg [.ptr so 0, .sl ta 0 N N, .sl (s.n + 0) 0 1 1]))) :=
    Beh.set (Beh.set ((Beh.refl h.ok).up 1) _ (by rw [St.n_up]; omega) (fun _ => .inl rfl)) _ (by rw [St.n_set0, St.n_up]; omega) (fun _ => .inr rfl)
  have hst : ∀ j, (OfStore so o la ta2 pl j ∨ j = mp) → ¬ (j = s.n + 0 ∨ j = bo) := fun j hj hh => by
    have := store_lt hs0 h0 hj
    have := h.nb
    omega
  have hg : (((s.up 1).set0 (s.n + 0) (.arr 1 3 [.int .i64 0] 0)).set0 bo (.var 96 (.agg [.ptr so 0, .sl ta 0 N N, .sl (s.n + 0) 0 1 1]))).get (s.n + 0) = some (.arr 1 3 [.int .i64 0] 0) := St.get_set_ne St.get_set_eq (by omega)
  refine ⟨hb.ok, St.get_set_eq, ?_, rfl, h.st.beh h.ok hb hst, ⟨fun j p hp => (by simp at hp), fun j p hp => (by simp at hp)⟩, h.bh.trans' hb ?_, fun p hp => (by cases hp), List.nodup_nil, ?_, h.nb⟩
  · have := Kids.sl (V := [0]) hg (by simp)
    exact this
  · rintro j (rfl | rfl) hj
    · omega
    · have := h.nb; omega
  · intro ra len cp e
    simp only [D.sl.injEq] at e
    exact ⟨by omega, by simp⟩
/-- A row more. -/
theorem Made.more {s0 s s2 : St} {so o la ta2 pl mp ta N bo j ra len cp : Nat} {W0 es : List D} {kd : Nat → Int} {kv : Nat → List Nat} {L : List (Nat × Nat)} (hs0 : s0.Ok) (h0 : StoreAt s0 so o la ta2 pl mp W0 0) (hW : W0.length = 3) (hj : 1 ≤ j) (h : Made s0 s so o la ta2 pl mp ta N bo W0 es kd kv j L (.sl ra 0 len cp)) (hg : s.get ra = some (.arr 1 3 (ints (rfs j)) 0)) (hlen : len = j)
    {ro lx : Nat} (r1 : (s.up 1).n ≤ ro) (r2 : ro < s2.n) (r3 : (s.up 1).n ≤ lx) (r4 : lx < s2.n) (r5 : s2.get ro = some (.var 105 (.agg [.int .i64 ((j - 1) + 1 : Nat), .sl lx 0 (kv j).length (kv j).length, .int .i64 (kd j)])))
    (r6 : s2.get lx = some (.arr 1 3 (List.replicate (kv j).length (.int .i64 0)) 0)) (r7 : StoreAt s2 so o la ta2 pl mp ((W0 ++ rowsV L) ++ [.ifc 99 (.ptr ro 0)]) ((j - 1) + 1)) (r8 : Beh (OfStore so o la ta2 pl) (s.up 1) s2) :
    Made s0 ((s2.set0 ra (.arr 1 3 (ints (rfs j) ++ [.int .i64 (W0 ++ rowsV L).length]) 0)).set0 bo (.var 96 (.agg [.ptr so 0, .sl ta 0 N N, .sl ra 0 (len + 1) (len + 1)]))) so o la ta2 pl mp ta N bo W0 es kd kv (j + 1) (L ++ [(ro, lx)]) (.sl ra 0 (len + 1) (len + 1)) := by
  have lb := h.ok.lt h.gb
  have lr := h.ok.lt hg
  have hn := h.bh.n
  have hnb := h.nb
  obtain ⟨hx1, hx2⟩ := h.nx ra len cp rfl
  have hn2 := r8.n
  simp only [St.n_up] at hn2 r1 r3
  have hrb : ra ≠ bo := by
    rintro rfl
    rw [h.gb] at hg; cases hg
  have hb1 : Beh (OfStore so o la ta2 pl) s s2 := Beh.trans ((Beh.refl h.ok).up 1) r8
  have hok : (s.up 1).Ok := h.ok.up 1
  have hb2 : Beh (fun i => i = ra ∨ i = bo) s2 ((s2.set0 ra (.arr 1 3 (ints (rfs j) ++ [.int .i64 (W0 ++ rowsV L).length]) 0)).set0 bo (.var 96 (.agg [.ptr so 0, .sl ta 0 N N, .sl ra 0 (len + 1) (len + 1)]))) :=
    Beh.set (Beh.set (Beh.refl r8.ok) _ (by omega) (fun _ => .inl rfl)) _ (by rw [St.n_set0]; omega) (fun _ => .inr rfl)
  have hst : ∀ i, (OfStore so o la ta2 pl i ∨ i = mp) → ¬ (i = ra ∨ i = bo) := fun i hi hh => by
    have := store_lt hs0 h0 hi
    omega
  have hno : ∀ i, s0.n ≤ i → ¬ OfStore so o la ta2 pl i := fun i hi hh => by
    have := store_lt hs0 h0 (.inl hh)
    omega
  have e1 : (W0 ++ rowsV L).length = rf j := by
    rw [List.length_append, hW, List.length_map, h.ll, rf, if_neg (by omega)]
    omega
  have hll : L.length + 1 = j := by rw [h.ll]; omega
  have rs2 : Rows s2 (L ++ [(ro, lx)]) kd kv (fun i => List.replicate (kv (i + 1)).length (.int .i64 0)) := by
    refine (h.rs.beh h.ok hb1 fun p hp => ?_).snoc ?_ ?_ ?_
    · obtain ⟨a1, a2⟩ := h.nw p hp
      exact ⟨hno _ a1, hno _ a2⟩
    · have e2 : j - 1 + 1 = j := by omega
      rw [hll]
      rw [e2] at r5
      exact r5
    · rw [List.length_replicate]
    · simp only [hll]
      exact r6
  refine ⟨hb2.ok, St.get_set_eq, ?_, ?_, ?_, rs2.beh r8.ok hb2 ?_, ?_, ?_, ?_, ?_, hnb⟩
  · have hg3 : ((s2.set0 ra (.arr 1 3 (ints (rfs j) ++ [.int .i64 (W0 ++ rowsV L).length]) 0)).set0 bo (.var 96 (.agg [.ptr so 0, .sl ta 0 N N, .sl ra 0 (len + 1) (len + 1)]))).get ra = some (.arr 1 3 (ints (rfs (j + 1))) 0) := by
      refine St.get_set_ne ?_ hrb
      rw [St.get_set_eq, rfs_succ, ints_app, e1]
      rfl
    have := Kids.sl (V := rfs (j + 1)) hg3 (by rw [rfs_succ]; simp)
    rw [rfs_len] at this
    simpa only [hlen] using this
  · rw [List.length_append, h.ll, List.length_singleton]; omega
  · have e3 : j + 1 - 1 = j - 1 + 1 := by omega
    have e4 : rowsV (L ++ [(ro, lx)]) = rowsV L ++ [.ifc 99 (.ptr ro 0)] := by simp [rowsV]
    rw [e3, e4, ← List.append_assoc]
    exact r7.beh r8.ok hb2 hst
  · intro p hp
    rcases List.mem_append.1 hp with hp | hp
    · obtain ⟨a1, a2⟩ := h.nw p hp
      obtain ⟨i, hi⟩ := List.getElem?_of_mem hp
      have b1 := h.rs.ro i p hi
      obtain ⟨st, _, _, b2⟩ := h.rs.ls i p hi
      refine ⟨?_, ?_⟩
      · rintro (hh | hh)
        · rw [hh, hg] at b1; cases b1
        · rw [hh, h.gb] at b1; simp at b1
      · rintro (hh | hh)
        · exact hx2 (List.mem_map.2 ⟨p, hp, hh⟩)
        · rw [hh, h.gb] at b2; cases b2
    · simp only [List.mem_singleton] at hp; subst hp
      exact ⟨by simp only; omega, by simp only; omega⟩
  · refine (h.bh.trans hb1).trans' hb2 ?_
    rintro i (rfl | rfl) hi <;> omega
  · intro p hp
    rcases List.mem_append.1 hp with hp | hp
    · exact h.nw p hp
    · simp only [List.mem_singleton] at hp; subst hp
      exact ⟨by simp only; omega, by simp only; omega⟩
  · rw [List.map_append, List.map_cons, List.map_nil]
    refine List.nodup_append.2 ⟨h.nd, by simp, ?_⟩
    intro a ha b hb
    simp only [List.mem_singleton] at hb; subst hb
    obtain ⟨p, hp, rfl⟩ := List.mem_map.1 ha
    obtain ⟨i, hi⟩ := List.getElem?_of_mem hp
    obtain ⟨st, _, _, b2⟩ := h.rs.ls i p hi
    have := h.ok.lt b2
    omega
  · intro ra' len' cp' e
    simp only [D.sl.injEq] at e
    obtain ⟨rfl, -⟩ := e
    refine ⟨hx1, ?_⟩
    rw [List.map_append, List.map_cons, List.map_nil]
    intro hm
    rcases List.mem_append.1 hm with hm | hm
    · exact hx2 hm
    · simp only [List.mem_singleton] at hm
      omega
end Go.Proofs.YtloaklflgfefaaaGreatDoor.Tab

namespace Go.Proofs.YtloaklflgfefaaaGreatDoor.Tab
open Go Go.Ab Go.Ab.Sm
set_option linter.unusedSectionVars false
set_option linter.unusedSimpArgs false
set_option linter.unusedVariables false
set_option maxRecDepth 100000
set_option maxHeartbeats 2000000

abbrev zeros (m : Nat) : List D := List.replicate m (.int .i64 0)
abbrev full (V : List Nat) : List D := ints (V.map rf)
def mix (V : List Nat) (k : Nat) : List D := (full V).take k ++ zeros (V.length - k)
theorem mix_0 (V : List Nat) : mix V 0 = zeros V.length := by simp [mix]
theorem mix_all (V : List Nat) : mix V V.length = full V := by
  have h : (full V).length = V.length := by simp [full, ints]
  rw [mix, Nat.sub_self, ← h, List.take_length]; simp
theorem mix_len (V : List Nat) {k : Nat} (h : k ≤ V.length) : (mix V k).length = V.length := by
  simp [mix, full, ints]; omega
theorem mix_set (V : List Nat) {k : Nat} (h : k < V.length) : (mix V k).set k (.int .i64 (rf V[k] : Nat)) = mix V (k + 1) := by
  have hl : (full V).length = V.length := by simp [full, ints]
  have hk : ((full V).take k).length = k := by rw [List.length_take, hl]; omega
  have e1 : zeros (V.length - k) = .int .i64 0 :: zeros (V.length - (k + 1)) := by
    rw [show V.length - k = (V.length - (k + 1)) + 1 by omega]; rfl
  have e2 : (full V).take (k + 1) = (full V).take k ++ [.int .i64 (rf V[k] : Nat)] := by
    rw [List.take_add_one]
    congr 1
    simp [full, ints, h]
  rw [mix, mix, e1, List.set_append_right _ _ (by omega), hk, Nat.sub_self, List.set_cons_zero, e2, List.append_assoc]
  rfl
theorem mix_at (V : List Nat) {k : Nat} (h : k < V.length) : (mix V k)[k]? = some (.int .i64 0) := by
  have hl : (full V).length = V.length := by simp [full, ints]
  have hk : ((full V).take k).length = k := by rw [List.length_take, hl]; omega
  rw [mix, List.getElem?_append_right (by omega), hk, Nat.sub_self, List.getElem?_replicate, if_pos (by omega)]
/-- A list's content is another. -/
theorem Rows.set {s : St} {L : List (Nat × Nat)} {kd : Nat → Int} {kv : Nat → List Nat} {f : Nat → List D} (h : Rows s L kd kv f) (hnd : (L.map Prod.snd).Nodup) {i : Nat} {p : Nat × Nat} (hp : L[i]? = some p) {c : List D} {st : Nat} (hc : c.length = (kv (i + 1)).length) (hst : st ≤ (kv (i + 1)).length) :
    Rows (s.set0 p.2 (.arr 1 3 c st)) L kd kv (fun a => if a = i then c else f a) := by
  obtain ⟨st0, _, _, hg0⟩ := h.ls i p hp
  refine ⟨fun a q hq => ?_, fun a q hq => ?_⟩
  · have := h.ro a q hq
    refine St.get_set_ne this ?_
    intro e
    rw [e, hg0] at this; cases this
  · by_cases ha : a = i
    · subst ha
      rw [hq] at hp
      simp only [Option.some.injEq] at hp; subst hp
      exact ⟨st, hst, by rw [if_pos rfl]; exact hc, by rw [if_pos rfl]; exact St.get_set_eq⟩
    · obtain ⟨st1, h1, h2, h3⟩ := h.ls a q hq
      refine ⟨st1, h1, by rw [if_neg ha]; exact h2, ?_⟩
      rw [if_neg ha]
      refine St.get_set_ne h3 ?_
      intro e
      have la : a < L.length := (List.getElem?_eq_some_iff.mp hq).1
      have li : i < L.length := (List.getElem?_eq_some_iff.mp hp).1
      have e1 : (L.map Prod.snd)[a]'(by simpa using la) = q.2 := by
        simp [(List.getElem?_eq_some_iff.mp hq).2]
      have e2 : (L.map Prod.snd)[i]'(by simpa using li) = p.2 := by
        simp [(List.getElem?_eq_some_iff.mp hp).2]
      have hpw := List.pairwise_iff_getElem.1 hnd
      rcases Nat.lt_or_gt_of_ne ha with h9 | h9
      · exact hpw a i (by simpa using la) (by simpa using li) h9 (e1.trans (e.trans e2.symm))
      · exact hpw i a (by simpa using li) (by simpa using la) h9 (e2.trans (e.symm.trans e1.symm))
theorem Rows.congr {s : St} {L : List (Nat × Nat)} {kd : Nat → Int} {kv : Nat → List Nat} {f g : Nat → List D} (h : Rows s L kd kv f) (hfg : ∀ i, i < L.length → f i = g i) : Rows s L kd kv g := by
  refine ⟨h.ro, fun j p hp => ?_⟩
  have := hfg j (List.getElem?_eq_some_iff.mp hp).1
  rw [← this]; exact h.ls j p hp
theorem terms_store {s : St} {so o la ta2 pl mp n ta N : Nat} {W es : List D} {kd : Nat → Int} {kv : Nat → List Nat} {s1 : St} (hs : s.Ok) (h : StoreAt s so o la ta2 pl mp W n) (ht : Terms s ta N es kd kv) (hta : ¬ OfStore so o la ta2 pl ta) (hb : Beh (OfStore so o la ta2 pl) s s1) : Terms s1 ta N es kd kv :=
  ht.beh hs hb (fun j a es st h1 h2 hg hh => by
    rcases hh with hh | hh | hh | hh | hh
    · rw [hh, h.go] at hg; cases hg
    · rw [hh, h.sl.go] at hg; cases hg
    · rw [hh, h.sl.gl] at hg; simp only [Option.some.injEq, Obj.arr.injEq] at hg; exact h1 hg.2.1.symm
    · rw [hh, h.sl.gt] at hg; simp only [Option.some.injEq, Obj.arr.injEq] at hg; exact h2 hg.2.1.symm
    · rw [hh, h.gp] at hg; cases hg) hta
theorem kid_store {s : St} {so o la ta2 pl mp n ko : Nat} {W es : List D} {st : Nat} (h : StoreAt s so o la ta2 pl mp W n) (hg : s.get ko = some (.arr 1 3 es st)) : ¬ OfStore so o la ta2 pl ko := by
  rintro (hh | hh | hh | hh | hh)
  · rw [hh, h.go] at hg; cases hg
  · rw [hh, h.sl.go] at hg; cases hg
  · rw [hh, h.sl.gl] at hg; simp at hg
  · rw [hh, h.sl.gt] at hg; simp at hg
  · rw [hh, h.gp] at hg; cases hg
def fo (kv : Nat → List Nat) (j i : Nat) : List D := if i + 1 < j then full (kv (i + 1)) else zeros (kv (i + 1)).length
/-- The loop that fills the rows. -/
def fillLoop : AC := match code9.body with
  | .seq _ (.seq _ (.seq _ (.seq _ (.seq _ (.seq (.seq _ (.block _ c)) _))))) => c
  | _ => .skip
section
variable {T : Nat → Option AFn} {H : Caller} {k : List Kont} {Q : QP}
theorem fill_run (hT : Tb T) {s0 s3 : St} {so o la ta2 pl mp ta N bo : Nat} {W0 es : List D} {kd : Nat → Int} {kv : Nat → List Nat} {L : List (Nat × Nat)} {x : D} {fr : Fr} (hs0 : s0.Ok) (h0 : StoreAt s0 so o la ta2 pl mp W0 0) (hW : W0.length = 3) (hW0 : W0[0]? = some (.ifc 75 (.agg []))) (ht0 : Terms s0 ta N es kd kv) (hta : ¬ OfStore so o la ta2 pl ta)
    (hm : Made s0 s3 so o la ta2 pl mp ta N bo W0 es kd kv N L x) (hN : N ≤ 1000) (hN1 : 1 ≤ N) (hd : fr.defers = []) (hF : fr.env.keep [0, 6, 54, 55, 56] = [(0, .ptr so 0), (6, .ptr bo 0), (54, .sl ta 0 N N), (55, .int .i64 N), (56, .int .i64 0)])
    (hk : ∀ s4, Beh (fun i => i ∈ L.map Prod.snd) s3 s4 → Rows s4 L kd kv (fun i => full (kv (i + 1))) → Ret T H (.exit 4) k ⟨[(57, .bool false), (0, .ptr so 0), (6, .ptr bo 0), (54, .sl ta 0 N N), (55, .int .i64 N), (56, .int .i64 N)], []⟩ s4 Q) :
    Run T H fillLoop k fr s3 Q := by
  show Run T H (.loop _ _) k fr s3 Q
  refine run_cnt N (fun j => [(0, .ptr so 0), (6, .ptr bo 0), (54, .sl ta 0 N N), (55, .int .i64 N), (56, .int .i64 j)]) (fun j s' => Beh (fun i => i ∈ L.map Prod.snd) s3 s' ∧ Rows s' L kd kv (fo kv j)) ⟨Beh.refl hm.ok, hm.rs.congr fun i _ => ?_⟩ ?_ hd hF
  · rw [fo, if_neg (by omega)]
  rintro j s' hj ⟨hb, hr⟩
  rcases Nat.lt_or_ge j N with hl | hl
  · have hbb : Beh (OfStore so o la ta2 pl) s0 s' := hm.bh.trans' hb fun i hi hlt => by
      obtain ⟨p, hp, rfl⟩ := List.mem_map.1 hi
      have := (hm.nw p hp).2
      omega
    have hok := hb.ok
    have hnl : ∀ i, i < s0.n → i ∉ L.map Prod.snd := fun i hi hh => by
      obtain ⟨p, hp, rfl⟩ := List.mem_map.1 hh
      have := (hm.nw p hp).2
      omega
    have hst := hm.st.beh hm.ok hb fun i hi => hnl i (store_lt hs0 h0 hi)
    have ht := terms_store hs0 h0 ht0 hta hbb
    have hgb : s'.get bo = some (.var 96 (.agg [.ptr so 0, .sl ta 0 N N, x])) := hb.get hm.ok hm.gb fun hh => by
      obtain ⟨p, hp, e⟩ := List.mem_map.1 hh
      obtain ⟨i, hi⟩ := List.getElem?_of_mem hp
      obtain ⟨st, _, _, b2⟩ := hm.rs.ls i p hi
      rw [e, hm.gb] at b2; cases b2
    obtain ⟨ra, hxr, hra0⟩ : ∃ ra, x = .sl ra 0 N N ∧ s3.get ra = some (.arr 1 3 (ints (rfs N)) 0) := by
      have hkx := hm.kx
      generalize hZ : rfs N = ZZ at hkx
      have hZl : ZZ.length = N := by rw [← hZ, rfs_len]
      rcases hkx with _ | ⟨hx, hn⟩
      · simp at hZl; omega
      · exact ⟨_, by rw [hZl], hx⟩
    have hra : s'.get ra = some (.arr 1 3 (ints (rfs N)) 0) := hb.get hm.ok hra0 (hm.nx ra N N hxr).2
    rw [hxr] at hgb
    obtain ⟨y, hy1, hy2⟩ := ht0.tm j hl
    have gt := ht.gt
    have ln := ht.ln
    have hrl : (ints (rfs N)).length = N := by rw [ints_len, rfs_len]
    have hy1' : es[0 + j]? = some (tm (kd j) y) := by rw [Nat.zero_add]; exact hy1
    have hrj : (ints (rfs N))[0 + j]? = some (.int .i64 (rf j : Nat)) := by rw [Nat.zero_add]; simp [ints, rfs_at hl]
    rcases Nat.eq_zero_or_pos j with rfl | hp
    · rw [ht.kd0] at hy1 hy1'
      rw [ht.kv0] at hy2
      have hge := get_ev (H := H) hT hok hst (i := rf 0) (ty := 75) (x := .agg []) (by
        rw [show rf 0 = 0 from rfl, List.getElem?_append, if_pos (by omega)]; exact hW0)
      rcases hy2 with _ | ⟨-, hne⟩
      · repeat' first | refine go ?_ | (refine call_ev hge ?_; rintro d s1 ⟨rfl, rfl⟩)
        refine ret_cnt hl ⟨hb, hr.congr fun i _ => ?_⟩
        rw [fo, fo, if_neg (by omega), if_neg (by omega)]
      · exact absurd rfl hne
    · have hkd := ht.kd1 j (by omega)
      have hll := hm.ll
      obtain ⟨p, hp2⟩ : ∃ p, L[j - 1]? = some p := ⟨L[j - 1]'(by omega), List.getElem?_eq_getElem (by omega)⟩
      have hge := get_ev (H := H) hT hok hst (i := rf j) (ty := 99) (x := .ptr p.1 0) (by
        rw [rf, if_neg (by omega), List.getElem?_append_right (by omega), hW, show j + 2 - 3 = j - 1 by omega]
        simp [rowsV, hp2])
      have hro := hr.ro _ _ hp2
      obtain ⟨st0, hst0, hfl, hlx⟩ := hr.ls _ _ hp2
      rw [show j - 1 + 1 = j by omega] at hro hst0 hfl
      generalize hk9 : kd j = kk at hy1 hy1' hkd hro
      have hmx := ht.mx j
      have hlt := ht.lt j
      have hfo : fo kv j (j - 1) = mix (kv j) 0 := by rw [fo, if_neg (by omega), mix_0, show j - 1 + 1 = j by omega]
      rw [hfo] at hlx
      generalize hkv : kv j = VV at hy2 hro hst0 hfl hmx hlt hlx
      rcases hy2 with _ | ⟨hy3, hy4⟩
      · repeat' first | refine go ?_ | (refine call_ev hge ?_; rintro d s1 ⟨rfl, rfl⟩)
        refine run_again ?_
        try refine go ?_
        refine ret_cnt hl ⟨hb, hr.congr fun i _ => ?_⟩
        by_cases hi : i + 1 = j
        · rw [fo, fo, if_neg (by omega), if_pos (by omega), hi, hkv]; rfl
        · rw [fo, fo]
          by_cases hi2 : i + 1 < j
          · rw [if_pos hi2, if_pos (by omega)]
          · rw [if_neg hi2, if_neg (by omega)]
      · repeat' first | refine go ?_ | (refine call_ev hge ?_; rintro d s1 ⟨rfl, rfl⟩)
        rename_i ko
        have hkn := hs0.lt hy3
        have hy5 := hm.bh.get hs0 hy3 (kid_store h0 hy3)
        have hgb3 := hm.gb
        rw [hxr] at hgb3
        have hro3 := hm.rs.ro _ _ hp2
        rw [show j - 1 + 1 = j by omega, hkv, hk9] at hro3
        have hnro : ∀ {q d}, s3.get q = some (.var 105 d) ∨ s3.get q = some (.var 96 d) → q ∉ L.map Prod.snd := fun {q d} hq hh => by
          obtain ⟨p', hp', e⟩ := List.mem_map.1 hh
          obtain ⟨i, hi⟩ := List.getElem?_of_mem hp'
          obtain ⟨st, _, _, b2⟩ := hm.rs.ls i p' hi
          rw [e] at b2
          rcases hq with hq | hq <;> (rw [hq] at b2; cases b2)
        refine run_cnt VV.length (fun i => [(0, .ptr so 0), (6, .ptr bo 0), (13, .ptr p.1 0), (54, .sl ta 0 N N), (55, .int .i64 N), (56, .int .i64 j), (76, .sl ko 0 VV.length VV.length), (77, .int .i64 VV.length), (78, .int .i64 i)]) (fun i s5 => Beh (fun a => a ∈ L.map Prod.snd) s3 s5 ∧ Rows s5 L kd kv (fun a => if a = j - 1 then mix VV i else fo kv j a)) ⟨hb, hr.congr fun i _ => ?_⟩ ?_
        · by_cases hi : i = j - 1
          · subst hi; rw [if_pos rfl, hfo, hkv]
          · rw [if_neg hi]
        rintro i s5 hi ⟨hb5, hr5⟩
        have hok5 := hb5.ok
        rcases Nat.lt_or_ge i VV.length with hil | hil
        · have a1 := hb5.get hm.ok hgb3 (hnro (.inr hgb3))
          have a2 := hb5.get hm.ok hra0 (hm.nx ra N N hxr).2
          have a3 := hb5.get hm.ok hy5 (hnl _ hkn)
          have a4 := hb5.get hm.ok hro3 (hnro (.inl hro3))
          obtain ⟨st5, b1, b2, b3⟩ := hr5.ls _ _ hp2
          rw [if_pos rfl] at b2 b3
          have hml := mix_len VV (Nat.le_of_lt hil)
          have lx := hok5.lt b3
          have e1 : (VV.map fun v : Nat => D.int .i64 (v : Int))[0 + i]? = some (.int .i64 (VV[i] : Nat)) := by simp [hil]
          have e2 := hlt VV[i] (List.getElem_mem hil)
          have e3 := mix_set VV hil
          have e5 : (mix VV i)[0 + i]? = some (.int .i64 0) := by rw [Nat.zero_add]; exact mix_at VV hil
          generalize VV[i] = v at e1 e2 e3
          have e4 : (ints (rfs N))[0 + v]? = some (.int .i64 (rf v : Nat)) := by rw [Nat.zero_add]; simp [ints, rfs_at (show v < N by omega)]
          have b1' : st5 ≤ VV.length := by rw [show j - 1 + 1 = j by omega, hkv] at b1; exact b1
          have hpm : p.2 ∈ L.map Prod.snd := List.mem_map.2 ⟨p, List.mem_of_getElem? hp2, rfl⟩
          have n1 : p.2 ≠ p.1 := fun e => hnro (.inl hro3) (e ▸ hpm)
          have n2 : p.2 ≠ bo := fun e => hnro (.inr hgb3) (e ▸ hpm)
          have n3 : p.2 ≠ ra := fun e => (hm.nx ra N N hxr).2 (e ▸ hpm)
          try refine go ?_
          refine ret_cnt hil ⟨Beh.set hb5 _ lx (fun _ => hpm), ?_⟩
          have hset := hr5.set hm.nd hp2 (c := (mix VV i).set (0 + i) (.int .i64 (rf v : Nat))) (st := (mix VV i).length) (by rw [List.length_set]; exact b2) (by rw [show j - 1 + 1 = j by omega, hkv, hml]; exact Nat.le_refl _)
          refine hset.congr fun a _ => ?_
          by_cases ha : a = j - 1
          · rw [if_pos ha, if_pos ha, Nat.zero_add, e3]
          · rw [if_neg ha, if_neg ha, if_neg ha]
        · try refine go ?_
          refine ret_cnt hl ⟨hb5, hr5.congr fun a _ => ?_⟩
          by_cases ha : a = j - 1
          · have e0 : i = VV.length := by omega
            rw [if_pos ha, e0, mix_all, fo, if_pos (by omega), ha, show j - 1 + 1 = j by omega, hkv]
          · rw [if_neg ha, fo, fo]
            by_cases ha2 : a + 1 < j
            · rw [if_pos ha2, if_pos (by omega)]
            · rw [if_neg ha2, if_neg (by omega)]
  · have : j = N := by omega
    subst this
    try refine go ?_
    exact hk s' hb (hr.congr fun i hi => by
      have := hm.ll
      rw [fo, if_pos (by omega)])
end
end Go.Proofs.YtloaklflgfefaaaGreatDoor.Tab
