/- What says pieces. -/
import Init
import Derived.Test.YtloaklflgfefaaaGreatDoorU2
set_option linter.unusedVariables false
set_option linter.unusedSimpArgs false
set_option linter.unusedSectionVars false
namespace Go.Ab.Pieces
abbrev Bs := List UInt8
def dots : Bs := [46, 46, 46]
/-- A piece is laid behind what there is; of what is too long already dots, and no more. -/
def emit (x : Bs × Bool) (p : Bs) : Bs × Bool := match x.2 with
  | false => x
  | true => if 4096 ≤ x.1.length then (x.1 ++ dots, false) else (x.1 ++ p, true)
def emits (x : Bs × Bool) (l : List Bs) : Bs × Bool := l.foldl emit x
theorem emits_off (a : Bs) : ∀ l : List Bs, emits (a, false) l = (a, false)
  | [] => rfl
  | _ :: l => emits_off a l
theorem emits_app (x : Bs × Bool) (l m : List Bs) : emits x (l ++ m) = emits (emits x l) m := List.foldl_append
def total : List Bs → Nat
  | [] => 0
  | p :: l => p.length + total l
theorem total_app : ∀ (l m : List Bs), total (l ++ m) = total l + total m
  | [], m => by simp [total]
  | p :: l, m => by simp only [List.cons_append, total, total_app l m]; omega
theorem length_flatten : ∀ l : List Bs, l.flatten.length = total l
  | [] => rfl
  | p :: l => by simp only [List.flatten_cons, List.length_append, total, length_flatten l]
/-- All fits. -/
theorem emits_fit : ∀ (l : List Bs) (a : Bs), (∀ p ∈ l, 0 < p.length) → a.length + total l ≤ 4096 → emits (a, true) l = (a ++ l.flatten, true)
  | [], a, _, _ => by simp [emits]
  | p :: l, a, hp, ht => by
    have h0 := hp p (by simp)
    simp only [total] at ht
    show emits (emit (a, true) p) l = _
    have : emit (a, true) p = (a ++ p, true) := by
      simp only [emit]
      rw [if_neg (by omega)]
    rw [this, emits_fit l (a ++ p) (fun q hq => hp q (by simp [hq])) (by simp only [List.length_append]; omega)]
    simp [List.append_assoc]
/-- It does not: dots behind no more than 4099 bytes. -/
theorem emits_cut : ∀ (l : List Bs) (a : Bs), (∀ p ∈ l, 0 < p.length ∧ p.length ≤ 4) → (∀ (h : l ≠ []), (l.getLast h).length = 1) → a.length < 4096 → 4096 < a.length + total l → ∃ x : Bs, emits (a, true) l = (x ++ dots, false) ∧ x.length ≤ 4099 ∧ 4096 ≤ x.length
  | [], a, _, _, h1, h2 => by simp only [total] at h2; omega
  | p :: l, a, hp, hl, h1, h2 => by
    have h0 := hp p (by simp)
    simp only [total] at h2
    have e1 : emit (a, true) p = (a ++ p, true) := by
      simp only [emit]
      rw [if_neg (by omega)]
    cases l with
    | nil =>
      have := hl (by simp)
      simp only [List.getLast_singleton, total] at this h2
      omega
    | cons q l =>
      rcases Nat.lt_or_ge (a ++ p).length 4096 with h3 | h3
      · obtain ⟨x, e2, h4⟩ := emits_cut (q :: l) (a ++ p) (fun r hr => hp r (by simp only [List.mem_cons] at hr ⊢; exact .inr hr)) (fun h => by
          have := hl (by simp)
          rwa [List.getLast_cons h] at this) h3 (by simp only [List.length_append, total] at h2 ⊢; omega)
        refine ⟨x, ?_, h4⟩
        show emits (emit (a, true) p) (q :: l) = _
        rw [e1]; exact e2
      · refine ⟨a ++ p, ?_, by simp only [List.length_append]; omega, h3⟩
        show emits (emit (emit (a, true) p) q) l = _
        rw [e1]
        have e2 : emit (a ++ p, true) q = (a ++ p ++ dots, false) := by
          simp only [emit]
          rw [if_pos h3]
        rw [e2, emits_off]

/-! ### The pieces of the law's value -/
def None4 : Bs := [78, 111, 110, 101]
def comma : Bs := [44, 32]
def elems : Nat → List Bs
  | 0 => []
  | n + 1 => if n = 0 then [None4] else elems n ++ [comma, None4]
def shutT (n : Nat) : Bs := if n = 1 then [44, 41] else [41]
def tupP (n : Nat) : List Bs := [[40]] ++ elems n ++ [shutT n]
/-- A value d lists above the tuple, told at a depth. -/
def pcs (n : Nat) : Nat → Nat → List Bs
  | d, 0 => [dots]
  | 0, _ + 1 => tupP n
  | d + 1, r + 1 => [[91]] ++ pcs n d r ++ [[93]]
theorem total_elems : ∀ n : Nat, total (elems n) + (if n = 0 then 0 else 2) = 6 * n
  | 0 => rfl
  | 1 => by decide
  | n + 2 => by
    have := total_elems (n + 1)
    rw [elems, if_neg (by omega), total_app]
    rw [if_neg (by omega)] at this ⊢
    have h : total [comma, None4] = 6 := by decide
    omega
theorem total_tup (n : Nat) : total (tupP n) = if n < 2 then 2 + 5 * n else 6 * n := by
  unfold tupP
  rw [total_app, total_app]
  have h := total_elems n
  have e1 : total [[40]] = 1 := by decide
  have e2 : total [shutT n] = if n = 1 then 2 else 1 := by
    unfold shutT
    by_cases h1 : n = 1
    · rw [if_pos h1, if_pos h1]; decide
    · rw [if_neg h1, if_neg h1]; decide
  rw [e1, e2]
  by_cases h0 : n = 0
  · subst h0; decide
  · rw [if_neg h0] at h
    by_cases h1 : n = 1
    · subst h1; simp at h ⊢; omega
    · rw [if_neg h1, if_neg (by omega)]; omega
theorem total_pcs (n : Nat) : ∀ d r : Nat, d < r → total (pcs n d r) = 2 * d + total (tupP n)
  | 0, 0, h => by omega
  | 0, r + 1, _ => by simp [pcs]
  | d + 1, 0, h => by omega
  | d + 1, r + 1, h => by
    rw [pcs, total_app, total_app, total_pcs n d r (by omega)]
    have e1 : total [[(91 : UInt8)]] = 1 := by decide
    have e2 : total [[(93 : UInt8)]] = 1 := by decide
    omega
theorem small_elems : ∀ n : Nat, ∀ p ∈ elems n, 0 < p.length ∧ p.length ≤ 4
  | 0, p, h => by cases h
  | n + 1, p, h => by
    rw [elems] at h
    by_cases h0 : n = 0
    · rw [if_pos h0] at h; simp only [List.mem_singleton] at h; subst h; decide
    · rw [if_neg h0] at h
      rcases List.mem_append.1 h with h | h
      · exact small_elems n p h
      · simp only [List.mem_cons, List.not_mem_nil, or_false] at h
        rcases h with rfl | rfl <;> decide
theorem small_tup (n : Nat) : ∀ p ∈ tupP n, 0 < p.length ∧ p.length ≤ 4 := by
  intro p h
  unfold tupP at h
  rcases List.mem_append.1 h with h | h
  · rcases List.mem_append.1 h with h | h
    · simp only [List.mem_singleton] at h; subst h; decide
    · exact small_elems n p h
  · simp only [List.mem_singleton] at h; subst h
    unfold shutT; split <;> decide
theorem small_pcs (n : Nat) : ∀ d r : Nat, ∀ p ∈ pcs n d r, 0 < p.length ∧ p.length ≤ 4
  | d, 0, p, h => by
    have : p = dots := by cases d <;> simpa [pcs] using h
    subst this; decide
  | 0, r + 1, p, h => small_tup n p (by simpa [pcs] using h)
  | d + 1, r + 1, p, h => by
    rw [pcs] at h
    rcases List.mem_append.1 h with h | h
    · rcases List.mem_append.1 h with h | h
      · simp only [List.mem_singleton] at h; subst h; decide
      · exact small_pcs n d r p h
    · simp only [List.mem_singleton] at h; subst h; decide
/-- The last byte of what is told is no dot. -/
theorem last_pcs (n : Nat) (h1 : n ≠ 1) : ∀ d r : Nat, d < r → ∃ l c, pcs n d r = l ++ [[c]] ∧ c ≠ 46
  | 0, 0, h => by omega
  | 0, r + 1, _ => by
    refine ⟨[[40]] ++ elems n, 41, ?_, by decide⟩
    simp only [pcs, tupP, shutT, if_neg h1]
  | d + 1, 0, h => by omega
  | d + 1, r + 1, _ => ⟨[[91]] ++ pcs n d r, 93, by rw [pcs], by decide⟩
end Go.Ab.Pieces

namespace Go.Proofs.YtloaklflgfefaaaGreatDoor.Tab
open Go Go.Ab Go.Ab.Sm
set_option linter.unusedSectionVars false
set_option linter.unusedSimpArgs false
set_option linter.unusedVariables false
set_option maxRecDepth 100000
set_option maxHeartbeats 2000000

open Go.Ab.Pieces
def rng : AC := match code6.body with
  | .seq _ (.seq _ (.seq _ (.seq (.seq _ (.block _ r)) _))) => r
  | _ => .skip
def rngA : AC := match rng with
  | .rangef _ _ _ a _ => a
  | _ => .skip
def rngB : AC := match rng with
  | .rangef _ _ _ _ b => b
  | _ => .skip
def stL (c : Bool) : LSt := if c then .ready else .exit 0
theorem loopAt_of {s : St} {k : Nat} {st : LSt} (h : s.get (k + 1) = some (.loop k st)) : s.loopAt (k + 1) k st = true := by
  simp [St.loopAt, h]
section
variable {T : Nat → Option AFn} {H Y : Caller}
theorem yield_ev (hT : Tb T) {k bx : Nat} {y : D} {m p : List UInt8} {s : St} (hY : YieldOk T H k [25] [(9, .ptr bx 0)] rngA rngB Y) (hs : s.Ok) (hl : s.get (k + 1) = some (.loop k .ready)) (hb : Bd s bx y m) (hp : p ≠ []) (hp4 : p.length ≤ 4) (hm : m.length ≤ 5000) :
    ∃ c s' y', Y 0 (.lv (.yl k) :: [.str p]) s = some (.bool c, s') ∧ c = (emit (m, true) p).2 ∧ Bd s' bx y' (emit (m, true) p).1 ∧ s'.get (k + 1) = some (.loop k (stL c)) ∧ Beh (fun j => j = k + 1 ∨ OfBd bx y j) s s' ∧ ∀ o l c, y' = .sl o 0 l c → (y = .sl o 0 m.length m.length ∨ s.n ≤ o) := by
  have lk := hs.lt hl
  have nbx : bx ≠ k + 1 := by
    obtain ⟨⟨a, _, hg⟩, _⟩ := hb
    rintro rfl; rw [hl] at hg; cases hg
  have nby : ∀ o l c, y = .sl o 0 l c → o ≠ k + 1 := by
    intro o l c e
    rcases hb.hy with ⟨rfl, -⟩ | ⟨-, o', e', ho'⟩
    · cases e
    · rw [e'] at e; simp only [D.sl.injEq] at e
      obtain ⟨rfl, -⟩ := e
      rintro rfl; rw [hl] at ho'; cases ho'
  have hbs : Beh (fun j => j = k + 1) s (s.set0 (k + 1) (.loop k .busy)) := Beh.set (Beh.refl hs) _ lk (fun _ => rfl)
  have hb2 : Bd (s.set0 (k + 1) (.loop k .busy)) bx y m := hb.beh hs hbs nbx nby
  have fin : ∀ (x : Ex) (s1 : St) (y' : D) (m' : List UInt8) (c : Bool), Bd s1 bx y' m' → Beh (OfBd bx y) (s.set0 (k + 1) (.loop k .busy)) s1 → (∀ o l c, y' = .sl o 0 l c → (y = .sl o 0 m.length m.length ∨ (s.set0 (k + 1) (.loop k .busy)).n ≤ o)) → stOf x = stL c → isNormal x = c →
      s1.loopAt (k + 1) k .busy = true ∧ ∃ s4, s1.set (k + 1) (.loop k (stOf x)) = some s4 ∧ Bd s4 bx y' m' ∧ s4.get (k + 1) = some (.loop k (stL (isNormal x))) ∧ Beh (fun j => j = k + 1 ∨ OfBd bx y j) s s4 ∧ ∀ o l c, y' = .sl o 0 l c → (y = .sl o 0 m.length m.length ∨ s.n ≤ o) := by
    intro x s1 y' m' c q1 q2 q3 e1 e2
    have g1 : s1.get (k + 1) = some (.loop k .busy) := q2.get hbs.ok St.get_set_eq (fun hh => by
      rcases hh with hh | ⟨l, c, hh⟩
      · exact nbx hh.symm
      · exact nby _ _ _ hh rfl)
    have l1 := q2.ok.lt g1
    have hb4 : Beh (fun j => j = k + 1) s1 (s1.set0 (k + 1) (.loop k (stOf x))) := Beh.set (Beh.refl q2.ok) _ l1 (fun _ => rfl)
    refine ⟨loopAt_of g1, _, q2.ok.set _ _, q1.beh q2.ok hb4 ?_ ?_, by rw [St.get_set_eq, e1, e2], ?_, q3⟩
    · exact nbx
    · intro o l c e hh
      rcases q3 o l c e with h9 | h9
      · exact nby _ _ _ h9 hh
      · have : (s.set0 (k + 1) (.loop k .busy)).n = s.n := rfl
        omega
    · refine ((hbs.mono fun j hj => .inl hj).trans' q2 fun j hj _ => .inr hj).trans' hb4 fun j hj _ => .inl hj
  have key : ∃ c s', Y 0 (.lv (.yl k) :: [.str p]) s = some (.bool c, s') ∧ (c = (emit (m, true) p).2 ∧ ∃ y', Bd s' bx y' (emit (m, true) p).1 ∧ s'.get (k + 1) = some (.loop k (stL c)) ∧ Beh (fun j => j = k + 1 ∨ OfBd bx y j) s s' ∧ ∀ o l c, y' = .sl o 0 l c → (y = .sl o 0 m.length m.length ∨ s.n ≤ o)) := by
    refine hY.2 [.str p] s ((25, .str p) :: [(9, .ptr bx 0)]) (fun c s' => c = (emit (m, true) p).2 ∧ ∃ y', Bd s' bx y' (emit (m, true) p).1 ∧ s'.get (k + 1) = some (.loop k (stL c)) ∧ Beh (fun j => j = k + 1 ∨ OfBd bx y j) s s' ∧ ∀ o l c, y' = .sl o 0 l c → (y = .sl o 0 m.length m.length ∨ s.n ≤ o)) rfl (loopAt_of hl) ?_
    refine Run.out (k := []) (Q := fun x f1 s1 => x = .normal ∧ s1.loopAt (k + 1) k .ready = true ∧ ∃ s2, s1.set (k + 1) (.loop k .busy) = some s2 ∧ Wp T H rngB f1 s2 fun x f2 s3 => f2.defers = [] ∧ s3.loopAt (k + 1) k .busy = true ∧ ∃ s4, s3.set (k + 1) (.loop k (stOf x)) = some s4 ∧ (isNormal x = (emit (m, true) p).2 ∧ ∃ y', Bd s4 bx y' (emit (m, true) p).1 ∧ s4.get (k + 1) = some (.loop k (stL (isNormal x))) ∧ Beh (fun j => j = k + 1 ∨ OfBd bx y j) s s4 ∧ ∀ o l c, y' = .sl o 0 l c → (y = .sl o 0 m.length m.length ∨ s.n ≤ o))) ?_
    show Run T H (.reg _) _ _ _ _
    try refine go ?_
    refine ret_nil ⟨rfl, loopAt_of hl, _, hs.set _ _, ?_⟩
    refine Run.out (k := []) (Q := fun x f2 s3 => f2.defers = [] ∧ s3.loopAt (k + 1) k .busy = true ∧ ∃ s4, s3.set (k + 1) (.loop k (stOf x)) = some s4 ∧ (isNormal x = (emit (m, true) p).2 ∧ ∃ y', Bd s4 bx y' (emit (m, true) p).1 ∧ s4.get (k + 1) = some (.loop k (stL (isNormal x))) ∧ Beh (fun j => j = k + 1 ∨ OfBd bx y j) s s4 ∧ ∀ o l c, y' = .sl o 0 l c → (y = .sl o 0 m.length m.length ∨ s.n ≤ o))) ?_
    show Run T H (.block _ _) _ _ _ _
    rcases Nat.lt_or_ge m.length 4096 with hlt | hge
    · repeat' first | refine go ?_ | (refine call_ev (len_ev hT hbs.ok hb2) ?_; rintro d s1 ⟨rfl, rfl⟩) | (refine call_ev (write_ev hT hbs.ok hb2 hp (by omega)) ?_; rintro d s1 ⟨y', q1, q2, q3⟩)
      have e : emit (m, true) p = (m ++ p, true) := by
        simp only [emit]; rw [if_neg (by omega)]
      obtain ⟨f1, s4, f2, f3, f4, f5, f6⟩ := fin .normal s1 y' (m ++ p) true q1 q2 q3 rfl rfl
      rw [e]
      exact ret_nil ⟨rfl, f1, s4, f2, rfl, y', f3, f4, f5, f6⟩
    · repeat' first | refine go ?_ | (refine call_ev (len_ev hT hbs.ok hb2) ?_; rintro d s1 ⟨rfl, rfl⟩) | (refine call_ev (write_ev hT hbs.ok hb2 (p := dots) (by decide) (by simp [dots]; omega)) ?_; rintro d s1 ⟨y', q1, q2, q3⟩)
      have e : emit (m, true) p = (m ++ dots, false) := by
        simp only [emit]; rw [if_pos (by omega)]
      obtain ⟨f1, s4, f2, f3, f4, f5, f6⟩ := fin (.exit 0) s1 y' (m ++ dots) false q1 q2 q3 rfl rfl
      rw [e]
      exact ret_nil ⟨rfl, f1, s4, f2, rfl, y', f3, f4, f5, f6⟩
  obtain ⟨c, s', h1, h2, y', h3, h4, h5, h6⟩ := key
  exact ⟨c, s', y', h1, h2, h3, h4, h5, h6⟩
end
end Go.Proofs.YtloaklflgfefaaaGreatDoor.Tab

namespace Go.Proofs.YtloaklflgfefaaaGreatDoor.Tab
open Go Go.Ab Go.Ab.Sm
set_option linter.unusedSectionVars false
set_option linter.unusedSimpArgs false
set_option linter.unusedVariables false
set_option maxRecDepth 100000
set_option maxHeartbeats 2000000

open Go.Ab.Pieces
/-- The pieces' box, the range under way, the builder: what has been told so far. -/
structure PS (s : St) (base so k pb bx : Nat) (z y : D) (x : Bs × Bool) : Prop where
  ok : s.Ok
  gp : s.get pb = some (.var 114 (.agg [.ptr so 0, .yl k, z, .bool x.2]))
  gl : s.get (k + 1) = some (.loop k (stL x.2))
  bd : Bd s bx y x.1
  l1 : x.2 = true → x.1.length ≤ 4099
  l2 : x.1.length ≤ 4102
  nb : base ≤ pb ∧ base ≤ k ∧ base ≤ bx ∧ base ≤ s.n
  ny : ∀ o l c, y = .sl o 0 l c → base ≤ o
abbrev OfP (k pb bx : Nat) (y : D) : Nat → Prop := fun j => j = pb ∨ j = k + 1 ∨ OfBd bx y j
theorem PS.frame {s s1 : St} {base so k pb bx : Nat} {z y : D} {x : Bs × Bool} (h : PS s base so k pb bx z y x) (hb : Beh (OfP k pb bx y) s s1) : Beh (fun j => base ≤ j) s s1 := by
  obtain ⟨n1, n2, n3, n4⟩ := h.nb
  refine hb.mono fun j hj => ?_
  rcases hj with rfl | rfl | rfl | ⟨l, c, e⟩
  · exact n1
  · omega
  · exact n3
  · exact h.ny _ _ _ e
/-- Other objects. -/
theorem PS.otherB {s : St} {base so k pb bx : Nat} {z y : D} {x : Bs × Bool} (h : PS s base so k pb bx z y x) {j : Nat} {o : Ab.Obj} (hj : s.get j = some o) (h2 : ∀ a b, o ≠ .loop a b) (h3 : ∀ v, o ≠ .var 53 v) (h4 : ∀ es st, o ≠ .arr 1 5 es st) : ¬ (j = k + 1 ∨ OfBd bx y j) := by
  rintro (rfl | rfl | ⟨l, c, e⟩)
  · rw [h.gl] at hj; exact h2 _ _ (by simpa using hj.symm)
  · obtain ⟨⟨a, _, hg⟩, _⟩ := h.bd
    rw [hg] at hj; exact h3 _ (by simpa using hj.symm)
  · rcases h.bd.hy with ⟨e', _⟩ | ⟨_, o', e', hg⟩
    · rw [e'] at e; cases e
    · rw [e'] at e
      simp only [D.sl.injEq] at e
      obtain ⟨rfl, -⟩ := e
      rw [hg] at hj; exact h4 _ _ (by simpa using hj.symm)
theorem PS.other {s : St} {base so k pb bx : Nat} {z y : D} {x : Bs × Bool} (h : PS s base so k pb bx z y x) {j : Nat} {o : Ab.Obj} (hj : s.get j = some o) (h1 : ∀ v, o ≠ .var 114 v) (h2 : ∀ a b, o ≠ .loop a b) (h3 : ∀ v, o ≠ .var 53 v) (h4 : ∀ es st, o ≠ .arr 1 5 es st) : ¬ OfP k pb bx y j := by
  rintro (rfl | hh)
  · rw [h.gp] at hj; exact h1 _ (by simpa using hj.symm)
  · exact h.otherB hj h2 h3 h4 hh
/-- A piece was said. -/
theorem PS.said {s s1 : St} {base so k pb bx : Nat} {z y y' : D} {x x' : Bs × Bool} (h : PS s base so k pb bx z y x) (q1 : Bd s1 bx y' x'.1) (q2 : s1.get (k + 1) = some (.loop k (stL x'.2))) (q3 : Beh (fun j => j = k + 1 ∨ OfBd bx y j) s s1) (q4 : ∀ o l c, y' = .sl o 0 l c → (y = .sl o 0 x.1.length x.1.length ∨ s.n ≤ o)) (l1 : x'.2 = true → x'.1.length ≤ 4099) (l2 : x'.1.length ≤ 4102) :
    PS (s1.set0 pb (.var 114 (.agg [.ptr so 0, .yl k, z, .bool x'.2]))) base so k pb bx z y' x' ∧ Beh (OfP k pb bx y) s (s1.set0 pb (.var 114 (.agg [.ptr so 0, .yl k, z, .bool x'.2]))) := by
  have hn := q3.n
  have gp1 := q3.get h.ok h.gp (h.otherB h.gp (by simp) (by simp) (by simp))
  have lp := q3.ok.lt gp1
  have hb : Beh (fun j => j = pb) s1 (s1.set0 pb (.var 114 (.agg [.ptr so 0, .yl k, z, .bool x'.2]))) := Beh.set (Beh.refl q3.ok) _ lp (fun _ => rfl)
  obtain ⟨n1, n2, n3, n4⟩ := h.nb
  refine ⟨⟨hb.ok, St.get_set_eq, hb.get q3.ok q2 ?_, q1.beh q3.ok hb ?_ ?_, l1, l2, ⟨n1, n2, n3, by rw [St.n_set0]; omega⟩, ?_⟩, (q3.mono fun j hj => .inr hj).trans' hb fun j hj _ => .inl hj⟩
  · intro e; rw [← e, q2] at gp1; cases gp1
  · obtain ⟨⟨a, _, hg⟩, _⟩ := q1
    intro e; rw [← e, hg] at gp1; simp at gp1
  · intro o l c e hh
    rcases q1.hy with ⟨e', _⟩ | ⟨_, o', e', hg⟩
    · rw [e'] at e; cases e
    · rw [e'] at e
      simp only [D.sl.injEq] at e
      rw [← hh, ← e.1, hg] at gp1; cases gp1
  · intro o l c e
    rcases q4 o l c e with h9 | h9
    · exact h.ny _ _ _ h9
    · omega
/-- Something else is done. -/
theorem PS.beh {W : Nat → Prop} {s s1 : St} {base so k pb bx : Nat} {z y : D} {x : Bs × Bool} (h : PS s base so k pb bx z y x) (hb : Beh W s s1) (hw : ∀ j, OfP k pb bx y j → ¬ W j) : PS s1 base so k pb bx z y x := by
  have hn := hb.n
  obtain ⟨n1, n2, n3, n4⟩ := h.nb
  exact ⟨hb.ok, hb.get h.ok h.gp (hw _ (.inl rfl)), hb.get h.ok h.gl (hw _ (.inr (.inl rfl))), h.bd.beh h.ok hb (hw _ (.inr (.inr (.inl rfl)))) (fun o l c e => hw _ (.inr (.inr (.inr ⟨l, c, e⟩)))), h.l1, h.l2, ⟨n1, n2, n3, by omega⟩, h.ny⟩
section
variable {T : Nat → Option AFn} {H Y : Caller}
theorem yieldP_ev (hT : Tb T) {base so k pb bx : Nat} {y z : D} {m p : List UInt8} {s : St} (hY : YieldOk T H k [25] [(9, .ptr bx 0)] rngA rngB Y) (h : PS s base so k pb bx z y (m, true)) (hp : p ≠ []) (hp4 : p.length ≤ 4) :
    EvP T Y 0 (.lv (.yl k) :: [.str p]) s fun d s1 => d = .bool (emit (m, true) p).2 ∧ ∃ y', Bd s1 bx y' (emit (m, true) p).1 ∧ s1.get (k + 1) = some (.loop k (stL (emit (m, true) p).2)) ∧ Beh (fun j => j = k + 1 ∨ OfBd bx y j) s s1 ∧ ∀ o l c, y' = .sl o 0 l c → (y = .sl o 0 m.length m.length ∨ s.n ≤ o) := by
  have hm := h.l1 rfl
  obtain ⟨c, s', y', h1, rfl, h3, h4, h5, h6⟩ := yield_ev hT hY h.ok h.gl h.bd hp hp4 (by have : m.length ≤ 4099 := hm; omega)
  exact ⟨_, s', Ev.yield h1, rfl, y', h3, h4, h5, h6⟩
theorem emit_len {m p : List UInt8} (hp4 : p.length ≤ 4) (hm : m.length ≤ 4099) : ((emit (m, true) p).2 = true → (emit (m, true) p).1.length ≤ 4099) ∧ (emit (m, true) p).1.length ≤ 4102 := by
  simp only [emit]
  by_cases h : 4096 ≤ m.length
  · rw [if_pos h]; simp [dots]; omega
  · rw [if_neg h]; simp; omega
theorem say_ev (hT : Tb T) {base so k pb bx : Nat} {y z : D} {x : Bs × Bool} {p : List UInt8} {s : St} (hY : YieldOk T H k [25] [(9, .ptr bx 0)] rngA rngB Y) (h : PS s base so k pb bx z y x) (hz : z.sc = true) (hp : p ≠ []) (hp4 : p.length ≤ 4) :
    EvP T Y 64 [.ptr pb 0, .vs false 1 [.str p]] s fun d s1 => ∃ y', PS s1 base so k pb bx z y' (emit x p) ∧ Beh (OfP k pb bx y) s s1 := by
  obtain ⟨m, on⟩ := x
  have hok := h.ok
  have gp := h.gp
  have lp := hok.lt gp
  obtain ⟨n1, n2, n3, n4⟩ := h.nb
  refine evp_in hT.t64 ?_
  cases on with
  | false =>
    try refine go ?_
    refine run_again ?_
    try refine go ?_
    have e : emit (m, false) p = (m, false) := rfl
    have hsd := h.said (s1 := s) (x' := (m, false)) h.bd h.gl (Beh.refl hok) (fun o l c e => by
      rcases h.bd.hy with ⟨e', _⟩ | ⟨_, o', e', hg⟩
      · rw [e'] at e; cases e
      · have e9 := e
        rw [e'] at e; simp only [D.sl.injEq] at e
        rw [e', e.1]; exact .inl rfl) (fun hh => by cases hh) h.l2
    refine ret_againN ?_
    refine run_again ?_
    try refine go ?_
    rw [e]
    exact retF_N ⟨y, hsd.1, hsd.2⟩
  | true =>
    try refine go ?_
    refine run_again ?_
    try refine go ?_
    refine ops_yield ?_
    refine call_ev (yieldP_ev hT hY h hp hp4) ?_
    rintro d s1 ⟨rfl, y', q1, q2, q3, q4⟩
    have q5 := q3.ok
    have gp1 := q3.get hok gp (h.otherB h.gp (by simp) (by simp) (by simp))
    have lp1 := q5.lt gp1
    obtain ⟨e1, e2⟩ := emit_len (m := m) hp4 (h.l1 rfl)
    have hsd := h.said q1 q2 q3 q4 e1 e2
    generalize emit (m, true) p = x' at q1 q2 e1 e2 hsd ⊢
    obtain ⟨m', on'⟩ := x'
    cases on' <;>
    · try refine go ?_
      refine ret_againN ?_
      refine run_again ?_
      try refine go ?_
      exact retF_N ⟨y', hsd.1, hsd.2⟩
end
end Go.Proofs.YtloaklflgfefaaaGreatDoor.Tab
