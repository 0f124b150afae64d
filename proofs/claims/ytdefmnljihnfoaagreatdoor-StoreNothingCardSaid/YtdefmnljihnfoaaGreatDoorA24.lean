/- Regions whose order is drawn, 1: an operation looks at its own slots alone. -/
import Derived.Test.YtdefmnljihnfoaaGreatDoorA23
namespace Go.Ab
open Go
set_option linter.unusedSectionVars false
set_option linter.unusedSimpArgs false
set_option linter.unusedVariables false
variable [Vals]

/-- The same in a slot, but for what a variable of the frame's own holds. -/
def SS (a b : Option D) : Prop := a = b ∨ ∃ x y, a = some (.lv x) ∧ b = some (.lv y)
theorem SS.refl (a : Option D) : SS a a := .inl rfl
theorem SS.symm {a b : Option D} (h : SS a b) : SS b a := by
  rcases h with h | ⟨x, y, h1, h2⟩
  · exact .inl h.symm
  · exact .inr ⟨y, x, h2, h1⟩
theorem SS.trans {a b c : Option D} (h : SS a b) (k : SS b c) : SS a c := by
  rcases h with rfl | ⟨x, y, rfl, rfl⟩
  · exact k
  · rcases k with rfl | ⟨z, u, h1, rfl⟩
    · exact .inr ⟨x, y, rfl, rfl⟩
    · exact .inr ⟨x, u, rfl, rfl⟩

section
variable {e e' : Env}

theorem ev_same {x : Opd} (h : ∀ t ∈ x.sl, SS (e.get t) (e'.get t)) : x.ev e = x.ev e' := by
  cases x with
  | t n =>
    rcases h n (by simp [Opd.sl]) with h | ⟨x, y, h1, h2⟩
    · simp only [Opd.ev, h]
    · simp only [Opd.ev, h1, h2]
  | c d => rfl
theorem evp_same {x : Opd} (h : ∀ t ∈ x.sl, SS (e.get t) (e'.get t)) : x.evp e = x.evp e' := by
  cases x with
  | t n =>
    rcases h n (by simp [Opd.sl]) with h | ⟨x, y, h1, h2⟩
    · simp only [Opd.evp, h]
    · simp only [Opd.evp, h1, h2]
  | c d => rfl
theorem evs_same : ∀ {l : List Opd}, (∀ t ∈ lSl l, SS (e.get t) (e'.get t)) → evs e l = evs e' l
  | [], _ => rfl
  | x :: l, h => by
    simp only [evs]
    rw [ev_same (x := x) (fun t ht => h t (by simp [lSl]; exact .inl ht)), evs_same (l := l) (fun t ht => h t (by simp [lSl] at ht ⊢; exact .inr ht))]
theorem evo_same {x : Option Opd} (h : ∀ t ∈ oSl x, SS (e.get t) (e'.get t)) : evo e x = evo e' x := by
  cases x with
  | none => rfl
  | some x => simp only [evo]; rw [ev_same (x := x) h]
theorem evParts_same : ∀ {l : List (Nat × Nat × Opd)}, (∀ t ∈ l.flatMap (fun q => q.2.2.sl), SS (e.get t) (e'.get t)) → evParts e l = evParts e' l
  | [], _ => rfl
  | (a, b, x) :: l, h => by
    simp only [evParts]
    rw [ev_same (x := x) (fun t ht => h t (by simp; exact .inl ht)), evParts_same (l := l) (fun t ht => h t (by simp only [List.flatMap_cons, List.mem_append]; exact .inr ht))]
theorem evSParts_same : ∀ {l : List (Nat × Opd)}, (∀ t ∈ l.flatMap (fun q => q.2.sl), SS (e.get t) (e'.get t)) → evSParts e l = evSParts e' l
  | [], _ => rfl
  | (a, x) :: l, h => by
    simp only [evSParts]
    rw [ev_same (x := x) (fun t ht => h t (by simp; exact .inl ht)), evSParts_same (l := l) (fun t ht => h t (by simp only [List.flatMap_cons, List.mem_append]; exact .inr ht))]

theorem opF_env {C : Caller} {s : St} {al : Option Nat} {p : AOp} (h : ∀ t ∈ p.sl, SS (e.get t) (e'.get t)) (hl : ∀ r, e.isLv r = e'.isLv r) (hc : ∀ a sz x, p = .lload a sz x → e.get a = e'.get a) : opF C e s al p = opF C e' s al p := by
  cases p <;> simp only [AOp.sl, List.mem_append, List.mem_cons] at h <;> simp only [opF]
  case mv x => rw [evp_same h]
  case pick a b c => rw [ev_same (x := a) fun t ht => h t (by simp [ht]), ev_same (x := b) fun t ht => h t (by simp [ht]), ev_same (x := c) fun t ht => h t (by simp [ht])]
  case vslice => rw [evSParts_same h]
  case bslice => rw [evSParts_same h]
  case build => rw [evParts_same h]
  case lload a sz x => rw [evp_same (x := x) fun t ht => h t (.inr ht), hc a sz x rfl]
  case nilchk x => simp only [evp_same h, hl]
  case faddr off x => simp only [evp_same h, hl]
  case iaddrA n z x i => simp only [evp_same (x := x) fun t ht => h t (.inl ht), ev_same (x := i) fun t ht => h t (.inr ht), hl]
  case mkfn f a b => rw [evs_same (l := a) fun t ht => h t (.inl ht), evs_same (l := b) fun t ht => h t (.inr ht)]
  case mkmap r => rw [evo_same h]
  case sstr x a b => rw [ev_same (x := x) fun t ht => h t (by simp [ht]), evo_same (x := a) fun t ht => h t (by simp [ht]), evo_same (x := b) fun t ht => h t (by simp [ht])]
  case ssl z x a b c => rw [ev_same (x := x) fun t ht => h t (by simp [ht]), evo_same (x := a) fun t ht => h t (by simp [ht]), evo_same (x := b) fun t ht => h t (by simp [ht]), evo_same (x := c) fun t ht => h t (by simp [ht])]
  case mupd et x y z => rw [ev_same (x := x) fun t ht => h t (by simp [ht]), ev_same (x := y) fun t ht => h t (by simp [ht]), ev_same (x := z) fun t ht => h t (by simp [ht])]
  case mestore x y z => rw [ev_same (x := x) fun t ht => h t (by simp [ht]), ev_same (x := y) fun t ht => h t (by simp [ht]), ev_same (x := z) fun t ht => h t (by simp [ht])]
  case call ro f l => rw [evs_same h]
  case callv f l => rw [ev_same (x := f) fun t ht => h t (.inl ht), evs_same (l := l) fun t ht => h t (.inr ht)]
  case invoke tb x l => rw [ev_same (x := x) fun t ht => h t (.inl ht), evs_same (l := l) fun t ht => h t (.inr ht)]
  case ext k l => rw [evs_same h]
  case minmax mx l => rw [evs_same h]
  all_goals first
    | rfl
    | (rw [ev_same h]; done)
    | (rename_i x y; rw [ev_same (x := x) fun t ht => h t (.inl ht), ev_same (x := y) fun t ht => h t (.inr ht)]; done)
end
end Go.Ab
