/- What arguments are as data: bools, integers, strings, slices and structs of such, however deep. -/
import Derived.Test.YtdefmnljihnfoaaGreatDoorA33
import Derived.Deep.Slices
import Derived.ChangeArms
namespace Go.Ab
open Go
set_option linter.unusedSectionVars false
set_option linter.unusedSimpArgs false
set_option linter.unusedVariables false

/-- What a type is like. 'slice sz one e': elements of sz cells; one: an element is no struct. -/
inductive Sh where
  | bool | int (k : IntKind) | str
  | slice (sz : Nat) (one : Bool) (e : Sh)
  | st (l : List Sh)

/-- An element out of its cells. -/
def mkE (one : Bool) (l : List D) : D := match one with
  | true => l.headD .nilp
  | false => .agg l

mutual
/-- Cells are such ones. -/
def IsSh : Sh → List D → Prop
  | .bool, ds => ∃ b, ds = [.bool b]
  | .int k, ds => ∃ n, ds = [.int k n] ∧ (Lit.int k n).wf = true
  | .str, ds => ∃ s, ds = [.str s] ∧ s.length ≤ maxLen
  | .slice sz one e, ds => ∃ nl L, ds = [.vs nl sz L] ∧ L.length ≤ maxLen ∧ ∀ d, d ∈ L → ∃ l, d = mkE one l ∧ IsSh e l
  | .st fs, ds => IsShs fs ds
def IsShs : List Sh → List D → Prop
  | [], ds => ds = []
  | s :: r, ds => ∃ a b, ds = a ++ b ∧ IsSh s a ∧ IsShs r b
end

mutual
/-- A type is like that. -/
def ShOk (P : Program) : Sh → TypeId → Prop
  | .bool, t => P.underlying t = some .bool
  | .int k, t => P.underlying t = some (.int k)
  | .str, t => P.underlying t = some .string
  | .slice sz one e, t => ∃ u, P.underlying t = some (.slice u) ∧ P.cellsOf u = sz ∧ 0 < sz ∧ (one = true → sz = 1) ∧ ShOk P e u
  | .st fs, t => ∃ fl, P.underlying t = some (.struct fl) ∧ ShOks P fs fl.toList 0 (P.cellsOf t)
def ShOks (P : Program) : List Sh → List Field → Nat → Nat → Prop
  | [], [], off, n => off = n
  | s :: r, f :: fl, off, n => f.offset = off ∧ ShOk P s f.type ∧ ShOks P r fl (off + P.cellsOf f.type) n
  | _, _, _, _ => False
end

variable [Vals]
variable {H : Type} {enc : TypeId × Value → H} {P : Program} {w : World}

theorem RepL.len {ρ : Gh} : ∀ {ds : List D} {vs : List Value}, RepL ρ w ds vs → ds.length = vs.length
  | [], vs, h => by simp only [RepL] at h; subst h; rfl
  | d :: l, vs, h => by
    simp only [RepL] at h
    obtain ⟨v, r, rfl, _, h2⟩ := h
    simp [RepL.len h2]
theorem RepL.app {ρ : Gh} : ∀ {a b : List D} {u v : List Value}, RepL ρ w a u → RepL ρ w b v → RepL ρ w (a ++ b) (u ++ v)
  | [], b, u, v, h, k => by simp only [RepL] at h; subst h; simpa using k
  | d :: l, b, u, v, h, k => by
    simp only [RepL] at h
    obtain ⟨x, r, rfl, h1, h2⟩ := h
    simp only [List.cons_append, RepL]
    exact ⟨x, _, rfl, h1, RepL.app h2 k⟩
theorem RepL.lit {ρ : Gh} {d : D} {v : Value} (h : Rep ρ w d v) : RepL ρ w [d] [v] := by
  simp only [RepL]
  exact ⟨v, [], rfl, h, rfl⟩
theorem RepL.inv1 {ρ : Gh} {d : D} {vs : List Value} (h : RepL ρ w [d] vs) : ∃ v, vs = [v] ∧ Rep ρ w d v := by
  simp only [RepL] at h
  obtain ⟨v, r, rfl, h1, rfl⟩ := h
  exact ⟨v, rfl, h1⟩

mutual
theorem trod_rep : ∀ (s : Sh) (n : Nat) (t : TypeId) (cs : List Value) (x : DataW H × List MemPlace), ShOk P s t → DataW.trod enc P w 0 (fun _ => true) true n t cs = some x → ∃ ds, RepL rho0 w ds cs ∧ IsSh s ds ∧ ds.all D.sc = true
  | .bool, n, t, cs, x, hs, h => by
    simp only [ShOk] at hs
    obtain ⟨b, rfl, _⟩ := DataW.trod_bool hs h
    exact ⟨[.bool b], RepL.lit (by simp [Rep]), ⟨b, rfl⟩, rfl⟩
  | .int k, n, t, cs, x, hs, h => by
    simp only [ShOk] at hs
    obtain ⟨m, rfl, _, hw⟩ := DataW.trod_int hs h
    exact ⟨[.int k m], RepL.lit (by simp [Rep]), ⟨m, rfl, hw⟩, rfl⟩
  | .str, n, t, cs, x, hs, h => by
    simp only [ShOk] at hs
    obtain ⟨b, rfl, _, hl⟩ := DataW.trod_string hs h
    exact ⟨[.str b.data.toList], RepL.lit (by simp [Rep]), ⟨_, rfl, hl⟩, rfl⟩
  | .slice sz one e, n, t, cs, x, hs, h => by
    simp only [ShOk] at hs
    obtain ⟨u, hu, hc, h0, hone, he⟩ := hs
    rcases Deep.open_slice hu h with ⟨rfl, rfl⟩ | ⟨a, len, cap, m, n', Df, Pl, rfl, hb, hl, hm, hmm, rfl, hx⟩
    · exact ⟨[.vs true sz []], RepL.lit (by simp [Rep]), ⟨true, [], rfl, by simp, fun d hd => by cases hd⟩, rfl⟩
    · have hmc : m = cap := by rw [hmm]; rfl
      subst hmc
      have key : ∀ i, i < m → ∃ d l v, d = mkE one l ∧ IsSh e l ∧ Rep rho0 w d v ∧ v.cells.size = sz ∧ d.st = true ∧ ∀ j, j < sz → w.cell? ((a.add (i * sz)).add j) = v.cells[j]? := by
        intro i hi
        obtain ⟨cs', h1, h2⟩ := hx i hi
        rw [hc] at h1
        obtain ⟨_, hlen, hcell⟩ := World.cells?_some h1
        obtain ⟨l, g1, g2, g3⟩ := trod_rep e n' u cs' _ he h2
        have hll := g1.len
        cases one with
        | false =>
          refine ⟨.agg l, l, .agg cs'.toArray, rfl, g2, ?_, by simp [Value.cells, hlen], by simp [D.st, g3], fun j hj => ?_⟩
          · simp only [Rep]; exact ⟨_, rfl, by simpa using g1, g3⟩
          · rw [hcell j hj]; simp [Value.cells]
        | true =>
          have h1 := hone rfl
          subst h1
          match l, hll with
          | [d], hll =>
            obtain ⟨v, rfl, hv⟩ := g1.inv1
            simp only [List.all_cons, List.all_nil, Bool.and_true] at g3
            obtain ⟨_, hvc⟩ := hv.sc g3
            refine ⟨d, [d], v, rfl, g2, hv, by rw [hvc]; rfl, D.sc_st g3, fun j hj => ?_⟩
            rw [hcell j hj, hvc]; simp
          | [], hll => simp [hlen] at hll
          | _ :: _ :: _, hll => simp [hlen] at hll
      have build : ∀ k, k ≤ len → ∃ L : List D, L.length = k ∧ (∀ d, d ∈ L → ∃ l, d = mkE one l ∧ IsSh e l) ∧
          ∀ i d, L[i]? = some d → ∃ v, Rep rho0 w d v ∧ v.cells.size = sz ∧ d.st = true ∧ ∀ j, j < sz → w.cell? ((a.add (i * sz)).add j) = v.cells[j]? := by
        intro k
        induction k with
        | zero => intro _; exact ⟨[], rfl, fun d hd => (by cases hd), fun i d hd => by simp at hd⟩
        | succ k ih =>
          intro hk
          obtain ⟨L, l1, l2, l3⟩ := ih (by omega)
          obtain ⟨d, l, v, k1, k2, k3, k4, k5, k6⟩ := key k (by omega)
          refine ⟨L ++ [d], by simp [l1], fun q hq => ?_, fun i q hq => ?_⟩
          · rcases List.mem_append.1 hq with hq | hq
            · exact l2 q hq
            · simp only [List.mem_singleton] at hq; subst hq; exact ⟨l, k1, k2⟩
          · rcases Nat.lt_or_ge i L.length with hi | hi
            · rw [List.getElem?_append_left hi] at hq; exact l3 i q hq
            · rw [List.getElem?_append_right hi] at hq
              have : i - L.length = 0 := by
                rcases Nat.eq_zero_or_pos (i - L.length) with h | h
                · exact h
                · rw [List.getElem?_eq_none (by simp; omega)] at hq; cases hq
              rw [this] at hq
              simp only [List.getElem?_cons_zero, Option.some.injEq] at hq; subst hq
              have : i = k := by omega
              subst this
              exact ⟨v, k3, k4, k5, k6⟩
      obtain ⟨L, l1, l2, l3⟩ := build len (Nat.le_refl _)
      refine ⟨[.vs false sz L], RepL.lit ?_, ⟨false, L, rfl, by omega, l2⟩, rfl⟩
      simp only [Rep]
      refine .inr ⟨trivial, a, m, by rw [l1], by omega, ?_⟩
      by_cases hL : L = []
      · exact .inl hL
      · right
        have hpos : 0 < len := by
          rcases Nat.eq_zero_or_pos len with h | h
          · exact absurd (List.eq_nil_of_length_eq_zero (l1.trans h)) hL
          · exact h
        have hspot : a.spot = none := by
          obtain ⟨d, l, v, k1, k2, k3, k4, k5, k6⟩ := key 0 (by omega)
          have := k6 0 h0
          simp only [Nat.zero_mul, Addr.add, if_true] at this
          rw [Array.getElem?_eq_getElem (by omega)] at this
          unfold World.cell? at this
          split at this
          · split at this
            · cases this
            · rename_i hh; simpa using hh
          · cases this
        refine ⟨a.block, a.off, by cases a; simp only [Addr.mk.injEq, true_and]; exact hspot, rfl, ?_⟩
        have haeq : ∀ q j, ((a.add q).add j) = ⟨a.block, a.off + q + j, none⟩ := fun q j => by
          cases a
          simp only at hspot
          subst hspot
          rw [Addr.add_mid, Addr.add_mid]
        refine RepE.of h0 _ _ fun i d hd => ?_
        obtain ⟨v, v1, v2, v3, v4⟩ := l3 i d hd
        refine ⟨v, v1, v2, fun j hj => ?_, v3⟩
        rw [v2] at hj
        have := v4 j hj
        rw [haeq] at this
        exact this
  | .st fs, n, t, cs, x, hs, h => by
    simp only [ShOk] at hs
    obtain ⟨fl, hu, hf⟩ := hs
    obtain ⟨xs, n', rfl, _, hlen, hxs, hg⟩ := DataW.trod_struct hu h
    have hg' : ∀ (i : Nat) (f : Field), fl.toList[i]? = some f → ∃ y, DataW.trod enc P w 0 (fun _ => true) true n' f.type ((cs.drop f.offset).take (P.cellsOf f.type)) = some y := fun i f hi => by
      have hi' : fl[i]? = some f := by simpa using hi
      rw [hg i f hi']
      have : i < fl.size := by
        rcases Nat.lt_or_ge i fl.size with h | h
        · exact h
        · rw [Array.getElem?_eq_none h] at hi'; cases hi'
      exact ⟨_, List.getElem?_eq_getElem (by omega)⟩
    obtain ⟨ds, g1, g2, g3⟩ := trods_rep fs fl.toList 0 (P.cellsOf t) n' cs hf hlen (fun i f hi => hg' i f hi)
    exact ⟨ds, by simpa using g1, g2, g3⟩
theorem trods_rep : ∀ (fs : List Sh) (fl : List Field) (off N n : Nat) (cs : List Value), ShOks P fs fl off N → cs.length = N → (∀ (i : Nat) (f : Field), fl[i]? = some f → ∃ y : DataW H × List MemPlace, DataW.trod enc P w 0 (fun _ => true) true n f.type ((cs.drop f.offset).take (P.cellsOf f.type)) = some y) →
    ∃ ds, RepL rho0 w ds (cs.drop off) ∧ IsShs fs ds ∧ ds.all D.sc = true
  | [], fl, off, N, n, cs, hs, hl, _ => by
    cases fl with
    | nil =>
      simp only [ShOks] at hs
      refine ⟨[], ?_, rfl, rfl⟩
      rw [List.drop_of_length_le (by omega)]
      simp [RepL]
    | cons _ _ => simp [ShOks] at hs
  | s :: r, fl, off, N, n, cs, hs, hl, hg => by
    cases fl with
    | nil => simp [ShOks] at hs
    | cons f fl =>
      simp only [ShOks] at hs
      obtain ⟨h1, h2, h3⟩ := hs
      obtain ⟨y, hy⟩ := hg 0 f rfl
      obtain ⟨a, a1, a2, a3⟩ := trod_rep s n f.type _ y h2 hy
      obtain ⟨b, b1, b2, b3⟩ := trods_rep r fl (off + P.cellsOf f.type) N n cs h3 hl (fun i g hi => hg (i + 1) g (by simpa using hi))
      refine ⟨a ++ b, ?_, ⟨a, b, rfl, a2, b2⟩, by simp [a3, b3]⟩
      have := RepL.app a1 b1
      rw [h1] at this
      rwa [show List.take (P.cellsOf f.type) (List.drop off cs) ++ List.drop (off + P.cellsOf f.type) cs = List.drop off cs by rw [← List.drop_drop]; exact List.take_append_drop _ _] at this
end

/-- An argument that is a slice. -/
theorem arg_slice {t u : TypeId} {sz : Nat} {one : Bool} {e : Sh} {v : Value} {d : DataW H} {ps : List MemPlace} {base : Nat} (hs : ShOk P (.slice sz one e) t) (hu : P.underlying t = some (.slice u)) (hv : Value.okWide P w .any base t v)
    (h : DataW.Trod enc P w 0 (fun _ => true) true t v d ps) : ∃ nl L, Rep rho0 w (.vs nl sz L) v ∧ IsSh (.slice sz one e) [.vs nl sz L] := by
  obtain ⟨n, h⟩ := h
  have hc : ∃ a k c, v = .slice a k c := by
    simp only [Value.okWide, hu, Cell.okWide] at hv
    unfold Cell.ok at hv
    rw [hu] at hv
    split at hv <;> first
      | (rename_i h1 _; simp at h1; done)
      | exact ⟨_, _, _, rfl⟩
      | (simp_all; done)
      | exact hv.elim
  obtain ⟨a, k, c, rfl⟩ := hc
  obtain ⟨ds, g1, g2, g3⟩ := trod_rep _ n t _ _ hs h
  have hcs : (Value.slice a k c).cells.toList = [.slice a k c] := rfl
  rw [hcs] at g1
  simp only [IsSh] at g2
  obtain ⟨nl, L, rfl, q1, q2⟩ := g2
  obtain ⟨v', hv', g1⟩ := g1.inv1
  simp only [List.cons.injEq, and_true] at hv'
  subst hv'
  exact ⟨nl, L, g1, by simp only [IsSh]; exact ⟨nl, L, rfl, q1, q2⟩⟩
end Go.Ab
