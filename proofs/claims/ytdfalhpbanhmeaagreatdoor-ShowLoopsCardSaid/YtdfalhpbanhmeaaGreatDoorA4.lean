/- Lemmas on 'Rep': what a value looks like, its cells, parts of it, operands. -/
import Derived.Test.YtdfalhpbanhmeaaGreatDoorA3
import Derived.Deep.MidRow
namespace Go.Ab
open Go
set_option linter.unusedSectionVars false
set_option linter.unusedSimpArgs false
set_option linter.unusedVariables false
variable [Vals]
variable {ρ : Gh} {w : World}

theorem RepL.length : ∀ {l : List D} {vs : List Value}, RepL ρ w l vs → l.length = vs.length
  | [], _, h => by simp only [RepL] at h; subst h; rfl
  | d :: l, _, h => by
    simp only [RepL] at h
    obtain ⟨v, r, rfl, _, h2⟩ := h
    simp [RepL.length h2]
theorem RepL.append : ∀ {l l' : List D} {vs vs' : List Value}, RepL ρ w l vs → RepL ρ w l' vs' → RepL ρ w (l ++ l') (vs ++ vs')
  | [], _, _, _, h, h' => by simp only [RepL] at h; subst h; simpa using h'
  | d :: l, _, _, _, h, h' => by
    simp only [RepL] at h
    obtain ⟨v, r, rfl, h1, h2⟩ := h
    simp only [List.cons_append, RepL]
    exact ⟨v, _, rfl, h1, RepL.append h2 h'⟩
theorem RepL.take : ∀ {l : List D} {vs : List Value} (n : Nat), RepL ρ w l vs → RepL ρ w (l.take n) (vs.take n)
  | [], _, n, h => by simp only [RepL] at h; subst h; simp [RepL]
  | d :: l, _, 0, h => by simp [RepL]
  | d :: l, _, n + 1, h => by
    simp only [RepL] at h
    obtain ⟨v, r, rfl, h1, h2⟩ := h
    simp only [List.take_succ_cons, RepL]
    exact ⟨v, _, rfl, h1, RepL.take n h2⟩
theorem RepL.drop : ∀ {l : List D} {vs : List Value} (n : Nat), RepL ρ w l vs → RepL ρ w (l.drop n) (vs.drop n)
  | [], _, n, h => by simp only [RepL] at h; subst h; simp [RepL]
  | d :: l, _, 0, h => by simpa using h
  | d :: l, _, n + 1, h => by
    simp only [RepL] at h
    obtain ⟨v, r, rfl, h1, h2⟩ := h
    simpa using RepL.drop n h2
theorem RepL.get : ∀ {l : List D} {vs : List Value} {i : Nat} {d : D}, RepL ρ w l vs → l[i]? = some d → ∃ v, vs[i]? = some v ∧ Rep ρ w d v
  | [], _, i, d, h, hi => by simp at hi
  | x :: l, _, 0, d, h, hi => by
    simp only [RepL] at h
    obtain ⟨v, r, rfl, h1, h2⟩ := h
    simp at hi; subst hi
    exact ⟨v, by simp, h1⟩
  | x :: l, _, i + 1, d, h, hi => by
    simp only [RepL] at h
    obtain ⟨v, r, rfl, h1, h2⟩ := h
    simp at hi
    simpa using RepL.get h2 hi
theorem RepL.one {d : D} {v : Value} (h : Rep ρ w d v) : RepL ρ w [d] [v] := by simp only [RepL]; exact ⟨v, [], rfl, h, rfl⟩
theorem RepL.replicate {d : D} {v : Value} (h : Rep ρ w d v) : ∀ n, RepL ρ w (List.replicate n d) (List.replicate n v)
  | 0 => by simp [RepL]
  | n + 1 => by
    simp only [List.replicate_succ, RepL]
    exact ⟨v, _, rfl, h, RepL.replicate h n⟩

theorem Gh.at_any {ρ : Gh} {o : Nat} {dd : Prop} {Q : Nat → Nat → Prop} (h : ρ.at o dd Q) (hq : ∀ sz b, Q sz b → dd) : dd := by
  unfold Gh.at at h
  split at h
  · exact h.elim
  · exact h
  · obtain ⟨b, _, h2⟩ := h; exact hq _ b h2

theorem Rep.sc {d : D} {v : Value} (h : Rep ρ w d v) (hs : d.sc = true) : v.oneCell' = true ∧ v.cells = #[v] := by
  cases d <;> simp only [D.sc] at hs <;> (try cases hs) <;> simp only [Rep] at h
  case bool => subst h; exact ⟨rfl, rfl⟩
  case int => subst h; exact ⟨rfl, rfl⟩
  case str => subst h; exact ⟨rfl, rfl⟩
  case nilp => subst h; exact ⟨rfl, rfl⟩
  case ptr o c => obtain ⟨a, rfl⟩ := Gh.at_any h fun _ _ q => ⟨_, q⟩; exact ⟨rfl, rfl⟩
  case eptr => obtain ⟨a, rfl⟩ := Gh.at_any h fun _ _ q => ⟨_, q.2.2.2⟩; exact ⟨rfl, rfl⟩
  case vptr => obtain ⟨_, _, _, _, _, _, _, rfl⟩ := h; exact ⟨rfl, rfl⟩
  case vs => rcases h with ⟨_, _, rfl⟩ | ⟨_, _, _, rfl, _⟩ <;> exact ⟨rfl, rfl⟩
  case sl => obtain ⟨a, c, rfl⟩ := Gh.at_any h fun _ _ ⟨_, _, _, _, _, q, _⟩ => ⟨_, _, q⟩; exact ⟨rfl, rfl⟩
  case nilm => subst h; exact ⟨rfl, rfl⟩
  case mp => obtain ⟨b, rfl⟩ := Gh.at_any h fun _ _ q => ⟨_, q⟩; exact ⟨rfl, rfl⟩
  case fn => obtain ⟨_, _, rfl, _⟩ := h; exact ⟨rfl, rfl⟩
  case nilf => subst h; exact ⟨rfl, rfl⟩
  case ifc => obtain ⟨_, rfl, _⟩ := h; exact ⟨rfl, rfl⟩
  case nili => subst h; exact ⟨rfl, rfl⟩
  case sint => obtain ⟨rfl, _⟩ := h; exact ⟨rfl, rfl⟩
  case sstr => obtain ⟨rfl, _⟩ := h; exact ⟨rfl, rfl⟩
  case sbool => subst h; exact ⟨rfl, rfl⟩
  case yl => obtain ⟨_, rfl⟩ := h; exact ⟨rfl, rfl⟩

theorem RepL.oneCell : ∀ {l : List D} {vs : List Value}, RepL ρ w l vs → l.all D.sc = true → ∀ u ∈ vs, u.oneCell' = true
  | [], _, h, _, u, hu => by simp only [RepL] at h; subst h; simp at hu
  | d :: l, _, h, hs, u, hu => by
    simp only [RepL] at h
    obtain ⟨v, r, rfl, h1, h2⟩ := h
    simp only [List.all_cons, Bool.and_eq_true] at hs
    rcases List.mem_cons.1 hu with rfl | hu
    · exact (h1.sc hs.1).1
    · exact RepL.oneCell h2 hs.2 u hu

theorem D.st_flat {d : D} (h : d.st = true) : d.flat.all D.sc = true := by
  cases d <;> simp_all [D.st, D.flat, D.sc]
theorem D.sc_st {d : D} (h : d.sc = true) : d.st = true := by
  cases d <;> simp_all [D.st, D.sc]
theorem D.st_cases {d : D} (h : d.st = true) : (∃ l, d = .agg l ∧ l.all D.sc = true) ∨ d.sc = true := by
  cases d <;> simp_all [D.st, D.sc]

/-- The cells of a value are its datum's. -/
theorem Rep.flat {d : D} {v : Value} (h : Rep ρ w d v) (hs : d.st = true) : RepL ρ w d.flat v.cells.toList ∧ ∀ u ∈ v.cells.toList, u.oneCell' = true := by
  rcases D.st_cases hs with ⟨l, rfl, hl⟩ | hc
  · simp only [Rep] at h
    obtain ⟨vs, rfl, h1, _⟩ := h
    exact ⟨by simpa [D.flat, Value.cells] using h1, by simpa [Value.cells] using RepL.oneCell h1 hl⟩
  · obtain ⟨h1, h2⟩ := h.sc hc
    rw [h2]
    refine ⟨?_, by simpa using h1⟩
    have : d.flat = [d] := by cases d <;> simp_all [D.flat, D.sc]
    rw [this]
    exact RepL.one h
theorem Rep.size {d : D} {v : Value} (h : Rep ρ w d v) (hs : d.st = true) : v.cells.size = d.flat.length := by
  have := (h.flat hs).1.length
  simpa using this.symm

theorem Rep.agg {l : List D} {vs : List Value} (h : RepL ρ w l vs) (hs : l.all D.sc = true) : Rep ρ w (.agg l) (.agg vs.toArray) := by
  simp only [Rep]; exact ⟨_, rfl, by simpa using h, hs⟩

/-- A part of cells, as it is loaded. -/
theorem part_rep {cs : List D} {vs : List Value} {c : Nat} {sz : Option Nat} {d : D} (h : RepL ρ w cs vs) (hs : cs.all D.sc = true) (hp : part cs c sz = some d) :
    match sz with
    | some s => c + s ≤ vs.length ∧ Rep ρ w d (.agg ((vs.drop c).take s).toArray)
    | none => ∃ v, vs[c]? = some v ∧ Rep ρ w d v ∧ d.sc = true := by
  cases sz with
  | some s =>
    simp only [part] at hp
    split at hp
    · rename_i hb
      simp only [Option.some.injEq] at hp
      subst hp
      have hle := Nat.le_of_ble_eq_true hb
      rw [h.length] at hle
      refine ⟨hle, Rep.agg ((h.drop c).take s) ?_⟩
      exact List.all_eq_true.2 fun x hx => (List.all_eq_true.1 hs) x (List.mem_of_mem_drop (List.mem_of_mem_take hx))
    · cases hp
  | none =>
    simp only [part] at hp
    obtain ⟨v, h1, h2⟩ := h.get hp
    exact ⟨v, h1, h2, (List.all_eq_true.1 hs) d (List.mem_of_getElem? hp)⟩

theorem rangeAt_of_cells {w : World} {b x : Nat} {v : Value} (h : CellsAt w b x v) : w.rangeAt b x v.cells.toList := fun j u hj => by
  have hlt : j < v.cells.size := by simpa using (List.getElem?_eq_some_iff.1 hj).1
  rw [h j hlt]; simpa using hj
theorem cells_of_rangeAt {w : World} {b x : Nat} {v : Value} (h : w.rangeAt b x v.cells.toList) : CellsAt w b x v := fun j hj => by
  rw [h j v.cells[j] (by simp [hj])]; simp [hj]
theorem rangeAt_part {w : World} {b x : Nat} {vs : List Value} (h : w.rangeAt b x vs) (c s : Nat) : w.rangeAt b (x + c) ((vs.drop c).take s) := fun j u hj => by
  rw [List.getElem?_take] at hj
  split at hj
  · rw [List.getElem?_drop] at hj
    have := h (c + j) u hj
    rwa [show x + c + j = x + (c + j) by omega]
  · cases hj
theorem rangeAt_of_block {w : World} {b : Nat} {cs : Array Value} {e : TypeId} {f : Nat × Nat} (h : w.heap[b]? = some (.cells cs e f)) : w.rangeAt b 0 cs.toList := fun j u hj => by
  have hj' : cs[j]? = some u := by simpa using hj
  simp [World.cell?, h, hj']

/-- A variable of a type is read out of a range of cells. -/
theorem run_load {P : Program} {w : World} {b x c : Nat} {vs : List Value} {t : TypeId} {sz : Option Nat} (hr : w.rangeAt b x vs) (hsh : shapeB P t = some sz) :
    match sz with
    | some s => c + s ≤ vs.length → (Instr.loadAt t (.pointer (some ⟨b, x + c, none⟩))).run P w = .ok (.agg ((vs.drop c).take s).toArray) w
    | none => ∀ v, vs[c]? = some v → (Instr.loadAt t (.pointer (some ⟨b, x + c, none⟩))).run P w = .ok v w := by
  have hi : ∀ s, sizeB P t = some s → (P.info? t).map (·.size) = some s := fun s h => h
  cases hu : P.underlying t with
  | none => simp [shapeB, isAggB, hu] at hsh
  | some d =>
    cases hz : sizeB P t with
    | none => simp [shapeB, hz] at hsh
    | some s =>
      by_cases hd : d.isRow = true
      · have ha : isAggB P t = some true := by cases d <;> simp_all [isAggB, TypeDesc.isRow]
        simp only [shapeB, ha, hz, Option.some.injEq] at hsh
        subst hsh
        intro hle
        have hlen : ((vs.drop c).take s).length = s := by simp; omega
        exact run_loadAt_mid w b (x + c) t _ d (rangeAt_part hr c s) hu hd (by rw [hlen]; exact hi s hz)
      · have ha : isAggB P t = some false := by cases d <;> simp_all [isAggB, TypeDesc.isRow]
        have h1 : sz = none := by
          simp only [shapeB, ha, hz] at hsh
          split at hsh
          · simp_all
          · simpa using hsh.symm
          · cases hsh
        subst h1
        intro v hv
        have hd : d.isRow = false := by simpa using hd
        have hagg : (isAgg t).run P w = .ok false w := by
          unfold isAgg
          rw [Sem.run_bind, run_underlying hu w]
          cases d <;> simp_all [TypeDesc.isRow]
        have hc := hr c v hv
        simp [Instr.loadAt, Instr.sureAddr, loadVar, hagg, hc]
end Go.Ab
