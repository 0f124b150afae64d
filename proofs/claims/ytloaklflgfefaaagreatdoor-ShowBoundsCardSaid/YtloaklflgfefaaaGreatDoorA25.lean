/- Regions whose order is drawn, 2: an operation looks at the objects of its footprint alone. -/
import Derived.Test.YtloaklflgfefaaaGreatDoorA23
namespace Go.Ab
open Go
set_option linter.unusedSectionVars false
set_option linter.unusedSimpArgs false
set_option linter.unusedVariables false
variable [Vals]

/-- The same in a slot, but for what a variable of the frame's own holds. -/
def SS (a b : Option D) : Prop := a = b ∨ ∃ x y, a = some (.lv x) ∧ b = some (.lv y)
theorem SS.refl (a : Option D) : SS a a := .inl rfl
theorem SS.symm {a b : Option D} (h : SS a b) : SS b a := by
  rcases h with h | ⟨x, y, h1, h2⟩
  · exact .inl h.symm
  · exact .inr ⟨y, x, h2, h1⟩
theorem SS.trans {a b c : Option D} (h : SS a b) (k : SS b c) : SS a c := by
  rcases h with rfl | ⟨x, y, rfl, rfl⟩
  · exact k
  · rcases k with rfl | ⟨z, u, h1, rfl⟩
    · exact .inr ⟨x, y, rfl, rfl⟩
    · exact .inr ⟨x, u, rfl, rfl⟩

section
variable {e e' : Env}

theorem ev_same {x : Opd} (h : ∀ t ∈ x.sl, SS (e.get t) (e'.get t)) : x.ev e = x.ev e' := by
  cases x with
  | t n =>
    rcases h n (by simp [Opd.sl]) with h | ⟨x, y, h1, h2⟩
    · simp only [Opd.ev, h]
    · simp only [Opd.ev, h1, h2]
  | c d => rfl
theorem evp_same {x : Opd} (h : ∀ t ∈ x.sl, SS (e.get t) (e'.get t)) : x.evp e = x.evp e' := by
  cases x with
  | t n =>
    rcases h n (by simp [Opd.sl]) with h | ⟨x, y, h1, h2⟩
    · simp only [Opd.evp, h]
    · simp only [Opd.evp, h1, h2]
  | c d => rfl
theorem evs_same : ∀ {l : List Opd}, (∀ t ∈ lSl l, SS (e.get t) (e'.get t)) → evs e l = evs e' l
  | [], _ => rfl
  | x :: l, h => by
    simp only [evs]
    rw [ev_same (x := x) (fun t ht => h t (by simp [lSl]; exact .inl ht)), evs_same (l := l) (fun t ht => h t (by simp [lSl] at ht ⊢; exact .inr ht))]
theorem evo_same {x : Option Opd} (h : ∀ t ∈ oSl x, SS (e.get t) (e'.get t)) : evo e x = evo e' x := by
  cases x with
  | none => rfl
  | some x => simp only [evo]; rw [ev_same (x := x) h]
theorem evParts_same : ∀ {l : List (Nat × Nat × Opd)}, (∀ t ∈ l.flatMap (fun q => q.2.2.sl), SS (e.get t) (e'.get t)) → evParts e l = evParts e' l
  | [], _ => rfl
  | (a, b, x) :: l, h => by
    simp only [evParts]
    rw [ev_same (x := x) (fun t ht => h t (by simp; exact .inl ht)), evParts_same (l := l) (fun t ht => h t (by simp only [List.flatMap_cons, List.mem_append]; exact .inr ht))]
theorem evSParts_same : ∀ {l : List (Nat × Opd)}, (∀ t ∈ l.flatMap (fun q => q.2.sl), SS (e.get t) (e'.get t)) → evSParts e l = evSParts e' l
  | [], _ => rfl
  | (a, x) :: l, h => by
    simp only [evSParts]
    rw [ev_same (x := x) (fun t ht => h t (by simp; exact .inl ht)), evSParts_same (l := l) (fun t ht => h t (by simp only [List.flatMap_cons, List.mem_append]; exact .inr ht))]

theorem opF_env {C : Caller} {s : St} {al : Option Nat} {p : AOp} (h : ∀ t ∈ p.sl, SS (e.get t) (e'.get t)) (hl : ∀ r, e.isLv r = e'.isLv r) (hc : ∀ a sz x, p = .lload a sz x → e.get a = e'.get a) : opF C e s al p = opF C e' s al p := by
  cases p <;> simp only [AOp.sl, List.mem_append, List.mem_cons] at h <;> simp only [opF]
  case mv x => rw [evp_same h]
  case pick a b c => rw [ev_same (x := a) fun t ht => h t (by simp [ht]), ev_same (x := b) fun t ht => h t (by simp [ht]), ev_same (x := c) fun t ht => h t (by simp [ht])]
  case vslice => rw [evSParts_same h]
  case bslice => rw [evSParts_same h]
  case build => rw [evParts_same h]
  case lload a sz x => rw [evp_same (x := x) fun t ht => h t (.inr ht), hc a sz x rfl]
  case nilchk x => simp only [evp_same h, hl]
  case faddr off x => simp only [evp_same h, hl]
  case iaddrA n z x i => simp only [evp_same (x := x) fun t ht => h t (.inl ht), ev_same (x := i) fun t ht => h t (.inr ht), hl]
  case mkfn f a b => rw [evs_same (l := a) fun t ht => h t (.inl ht), evs_same (l := b) fun t ht => h t (.inr ht)]
  case mkmap r => rw [evo_same h]
  case sstr x a b => rw [ev_same (x := x) fun t ht => h t (by simp [ht]), evo_same (x := a) fun t ht => h t (by simp [ht]), evo_same (x := b) fun t ht => h t (by simp [ht])]
  case ssl z x a b c => rw [ev_same (x := x) fun t ht => h t (by simp [ht]), evo_same (x := a) fun t ht => h t (by simp [ht]), evo_same (x := b) fun t ht => h t (by simp [ht]), evo_same (x := c) fun t ht => h t (by simp [ht])]
  case mupd et x y z => rw [ev_same (x := x) fun t ht => h t (by simp [ht]), ev_same (x := y) fun t ht => h t (by simp [ht]), ev_same (x := z) fun t ht => h t (by simp [ht])]
  case mestore x y z => rw [ev_same (x := x) fun t ht => h t (by simp [ht]), ev_same (x := y) fun t ht => h t (by simp [ht]), ev_same (x := z) fun t ht => h t (by simp [ht])]
  case call ro f l => rw [evs_same h]
  case callv f l => rw [ev_same (x := f) fun t ht => h t (.inl ht), evs_same (l := l) fun t ht => h t (.inr ht)]
  case invoke tb x l => rw [ev_same (x := x) fun t ht => h t (.inl ht), evs_same (l := l) fun t ht => h t (.inr ht)]
  case ext k l => rw [evs_same h]
  case minmax mx l => rw [evs_same h]
  all_goals first
    | rfl
    | (rw [ev_same h]; done)
    | (rename_i x y; rw [ev_same (x := x) fun t ht => h t (.inl ht), ev_same (x := y) fun t ht => h t (.inr ht)]; done)
end
end Go.Ab

namespace Go.Ab
open Go
set_option linter.unusedSectionVars false
set_option linter.unusedSimpArgs false
set_option linter.unusedVariables false
variable [Vals]

/-- Two states are one at some objects. -/
def AgO (l : List Nat) (s s2 : St) : Prop := ∀ o, o ∈ l → s2.get o = s.get o

section
variable {s s2 : St} {C : Caller} {e : Env} {al : Option Nat}

theorem ofO_fst {x : Option D} : (ofO s x).map Prod.fst = x := by cases x <;> rfl
theorem ofO_st {x : Option D} {d : D} {s' : St} (h : ofO s x = some (d, s')) : s' = s := by cases x <;> simp [ofO] at h; exact h.2.symm

theorem ofO_two {x : Option D} {d : D} {s' : St} (h : ofO s x = some (d, s')) : s' = s ∧ ofO s2 x = some (d, s2) := by
  cases x <;> simp [ofO] at h ⊢; exact ⟨h.2.symm, h.1⟩

theorem loadD_same {sz : Option Nat} {p : D} (h : AgO (fpRd.objs (some p)) s s2) : loadD s2 sz p = loadD s sz p := by
  cases p <;> simp only [loadD]
  · rename_i o c; rw [h o (by simp [fpRd.objs])]
  · rename_i o i c z; rw [h o (by simp [fpRd.objs])]
theorem items_same {p : D} (h : AgO (fpRd.objs (some p)) s s2) : items s2 p = items s p := by
  cases p <;> simp only [items]
  rename_i o _ _ _; rw [h o (by simp [fpRd.objs])]
theorem lenD_same {k : Nat} {p : D} (h : AgO (fpRd.objs (some p)) s s2) : lenD s2 k p = lenD s k p := by
  unfold lenD
  split
  · rfl
  · rfl
  · cases p <;> simp only
    rename_i o; rw [h o (by simp [fpRd.objs])]
theorem iaddrD_same {sz i : Nat} {p : D} (h : AgO (fpRd.objs (some p)) s s2) : iaddrD s2 sz p i = iaddrD s sz p i := by
  cases p <;> simp only [iaddrD]
  rename_i o _ _ _; rw [h o (by simp [fpRd.objs])]
theorem eqP_same {a b : D} (h : AgO (fpRd.objs (some a) ++ fpRd.objs (some b)) s s2) : eqP s2 a b = eqP s a b := by
  cases a <;> cases b <;> simp only [eqP]
  rename_i o c o' c'
  rw [h o (by simp [fpRd.objs]), h o' (by simp [fpRd.objs])]

theorem set_eff {o : Nat} {x : Obj} {s' : St} (h : s.set o x = some s') (hr : s2.ro = s.ro) (hl : s2.lk = s.lk) : s' = s.set0 o x ∧ s2.set o x = some (s2.set0 o x) := by
  unfold St.set at *
  rw [hr, hl]
  split at h
  · cases h
  · rename_i h1
    split at h
    · cases h
    · rename_i h2
      simp only [Option.some.injEq] at h
      simp [h1, h2, h]
theorem mk_eff {k : Nat} {x : Obj} {r : Nat × St} (h : s.mk' (some k) x = some r) (hr : s2.ro = s.ro) (hn : s2.n = s.n) (hg : s2.get k = s.get k) : r = (k, s.set0 k x) ∧ s2.mk' (some k) x = some (k, s2.set0 k x) := by
  unfold St.mk' at *
  rw [hr]
  split at h
  · cases h
  · rename_i h1
    simp only at h
    split at h
    · rename_i h2
      split at h
      · rename_i h3
        simp only [Option.some.injEq] at h
        simp [h1, hg, h2, hn, h3, h]
      · cases h
    · cases h

theorem storeD_eff {sz : Nat} {p v : D} {s' : St} (h : storeD s sz p v = some s') (hr : s2.ro = s.ro) (hl : s2.lk = s.lk) (hg : AgO (fpRd.objs (some p)) s s2) :
    ∃ o x, o ∈ fpRd.objs (some p) ∧ s' = s.set0 o x ∧ storeD s2 sz p v = some (s2.set0 o x) := by
  unfold storeD at *
  split at h
  · cases h
  · rename_i hz
    cases p <;> (try simp only at h) <;> try (cases h; done)
    · rename_i o c
      have hgo := hg o (by simp [fpRd.objs])
      split at h
      · rename_i q hq
        split at h
        · rename_i e' he
          obtain ⟨h1, h2⟩ := set_eff h hr hl
          exact ⟨o, _, by simp [fpRd.objs], h1, by simp [storeD, hz, hgo, hq, he, h2]⟩
        · cases h
      · cases h
    · rename_i o i c z
      have hgo := hg o (by simp [fpRd.objs])
      split at h
      · rename_i z es st hq
        split at h
        · rename_i hb
          split at h
          · rename_i d0 hd0
            split at h
            · rename_i d1 hd1
              obtain ⟨h1, h2⟩ := set_eff h hr hl
              exact ⟨o, _, by simp [fpRd.objs], h1, by simp [storeD, hz, hgo, hq, hb, hd0, hd1, h2]⟩
            · cases h
          · cases h
        · cases h
      · cases h
theorem fillSl_eff {sz : Nat} {p : D} {l : List D} {s' : St} (h : fillSl s sz p l = some s') (hr : s2.ro = s.ro) (hl : s2.lk = s.lk) (hg : AgO (fpRd.objs (some p)) s s2) :
    (s' = s ∧ fillSl s2 sz p l = some s2) ∨ ∃ o x, o ∈ fpRd.objs (some p) ∧ s' = s.set0 o x ∧ fillSl s2 sz p l = some (s2.set0 o x) := by
  unfold fillSl at *
  cases p <;> (try simp only at h) <;> try (cases h; done)
  · rename_i nl z es
    cases es <;> (try simp only at h) <;> try (cases h; done)
    cases l <;> (try simp only at h) <;> try (cases h; done)
    simp only [Option.some.injEq] at h; subst h
    exact .inl ⟨rfl, rfl⟩
  · rename_i o off len cp
    simp only [hg o (by simp [fpRd.objs])]
    split at h
    · rename_i z es st hq
      split at h
      · rename_i h1 h2 h3
        obtain ⟨g1, g2⟩ := set_eff h hr hl
        exact .inr ⟨o, _, by simp [fpRd.objs], g1, by simp [hq, h1, h2, h3, g2]⟩
      · cases h
    · cases h

/-- What an operation of the first kinds does: nothing to the state, or one object is written over. -/
def Eff (F : St → Option (D × St)) (s s2 : St) (wr : List Nat) : Prop := ∀ d s', F s = some (d, s') →
  (s' = s ∧ F s2 = some (d, s2)) ∨ ∃ o x, o ∈ wr ∧ s' = s.set0 o x ∧ F s2 = some (d, s2.set0 o x)

theorem ofS_eff {f : St → Option St} {d0 : D} {wr : List Nat} (h : ∀ s', f s = some s' → (s' = s ∧ f s2 = some s2) ∨ ∃ o x, o ∈ wr ∧ s' = s.set0 o x ∧ f s2 = some (s2.set0 o x)) : Eff (fun s => ofS d0 (f s)) s s2 wr := by
  intro d s' hh
  simp only [ofS] at hh ⊢
  split at hh
  · rename_i s1 h1
    simp only [Option.some.injEq, Prod.mk.injEq] at hh
    obtain ⟨rfl, rfl⟩ := hh
    rcases h _ h1 with ⟨h2, h3⟩ | ⟨o, x, h2, h3, h4⟩
    · exact .inl ⟨h2, by simp [h3]⟩
    · exact .inr ⟨o, x, h2, h3, by simp [h4]⟩
  · cases hh
theorem ofO_eff {f : St → Option D} {wr : List Nat} (h : f s2 = f s) : Eff (fun s => ofO s (f s)) s s2 wr := by
  intro d s' hh
  obtain rfl := ofO_st hh
  refine .inl ⟨rfl, ?_⟩
  simp only at hh ⊢
  rw [h]
  cases hf : f s' with
  | none => simp [hf, ofO] at hh
  | some q => simp only [hf, ofO, Option.some.injEq, Prod.mk.injEq, and_true] at hh ⊢; exact hh

/-- kinds 0, 6: the state is not asked. -/
theorem eff0 {p : AOp} {wr : List Nat} (hk : p.kind = 0 ∨ p.kind = 6) : Eff (fun s => opF C e s al p) s s2 wr := by
  intro d s' h
  refine .inl ?_
  cases p <;> first
    | (exfalso; revert hk; simp [AOp.kind]; done)
    | (exfalso; rename_i ro _ _; cases ro <;> revert hk <;> simp [AOp.kind]; done)
    | (simp only [opF] at h ⊢
       repeat' split at h
       all_goals first
         | (cases h; done)
         | exact ofO_two h
         | (have h2 := ofO_two (s2 := s2) h; simp_all; done)
         | (simp only [Option.some.injEq, Prod.mk.injEq] at h; obtain ⟨rfl, rfl⟩ := h; simp_all; done)
         | trace_state)

theorem AgO.app {l m : List Nat} (h : AgO (l ++ m) s s2) : AgO l s s2 ∧ AgO m s s2 := ⟨fun o ho => h o (by simp [ho]), fun o ho => h o (by simp [ho])⟩

/-- kind 1: some objects are read. -/
theorem eff1 {p : AOp} {wr : List Nat} (hk : p.kind = 1) (hg : AgO (fpRd e p) s s2) : Eff (fun s => opF C e s al p) s s2 wr := by
  cases p <;> first
    | (exfalso; revert hk; simp [AOp.kind]; done)
    | (exfalso; rename_i ro _ _; cases ro <;> revert hk <;> simp [AOp.kind]; done)
    | skip
  case load sz x =>
    simp only [fpRd] at hg
    intro d s' h
    simp only [opF] at h ⊢
    split at h
    · rename_i p hp
      rw [hp] at hg
      try simp only [hp, loadD_same hg]
      exact .inl (ofO_two h)
    · cases h
  case uptr x =>
    simp only [fpRd] at hg
    intro d s' h
    simp only [opF] at h ⊢
    split at h
    · rename_i o c hp
      rw [hp] at hg
      try simp only [hp]
      have ho := hg o (by simp [fpRd.objs])
      simp only [ho]
      split at h
      · rename_i v hv
        try simp only [hv]
        split at h
        · rename_i hb
          simp only [Option.some.injEq, Prod.mk.injEq] at h
          obtain ⟨rfl, rfl⟩ := h
          exact .inl ⟨rfl, by simp only [hb]⟩
        · cases h
      · cases h
    · cases h
  case upto l x =>
    simp only [fpRd] at hg
    intro d s' h
    simp only [opF] at h ⊢
    split at h
    · rename_i hp
      try simp only [hp]
      simp only [Option.some.injEq, Prod.mk.injEq] at h
      obtain ⟨rfl, rfl⟩ := h
      exact .inl ⟨rfl, rfl⟩
    · rename_i o c hp
      rw [hp] at hg
      try simp only [hp]
      have ho := hg o (by simp [fpRd.objs])
      simp only [ho]
      split at h
      · rename_i t v hv
        try simp only [hv]
        split at h
        · rename_i hb
          simp only [Option.some.injEq, Prod.mk.injEq] at h
          obtain ⟨rfl, rfl⟩ := h
          exact .inl ⟨rfl, by simp only [hb]⟩
        · cases h
      · cases h
    · cases h
  case sldata x =>
    simp only [fpRd] at hg
    intro d s' h
    simp only [opF] at h ⊢
    split at h
    · rename_i z l hp
      try simp only [hp]
      simp only [Option.some.injEq, Prod.mk.injEq] at h
      obtain ⟨rfl, rfl⟩ := h
      exact .inl ⟨rfl, rfl⟩
    · rename_i o off len cp hp
      rw [hp] at hg
      try simp only [hp]
      have ho := hg o (by simp [fpRd.objs])
      simp only [ho]
      split at h
      · rename_i hv
        try simp only [hv]
        split at h
        · rename_i hb
          simp only [Option.some.injEq, Prod.mk.injEq] at h
          obtain ⟨rfl, rfl⟩ := h
          exact .inl ⟨rfl, by simp only [hb]⟩
        · cases h
      · cases h
    · cases h
  case eq et neg oc x y =>
    simp only [fpRd] at hg
    intro d s' h
    simp only [opF] at h ⊢
    split at h
    · rename_i a b ha hb
      rw [ha, hb] at hg
      try simp only [ha, hb]
      split at h
      · rename_i r hr
        simp only [Option.some.injEq, Prod.mk.injEq] at h
        obtain ⟨rfl, rfl⟩ := h
        exact .inl ⟨rfl, by simp [hr]⟩
      · rename_i hr
        try simp only [hr]
        split at h
        · try simp only [eqP_same hg]
          split at h
          · rename_i r hr2
            simp only [Option.some.injEq, Prod.mk.injEq] at h
            obtain ⟨rfl, rfl⟩ := h
            exact .inl ⟨rfl, by simp [hr2]⟩
          · cases h
        · cases h
    · cases h
  case iaddr sz x i =>
    simp only [fpRd] at hg
    intro d s' h
    simp only [opF] at h ⊢
    split at h
    · rename_i p i hp hi
      rw [hp] at hg
      try simp only [hp, hi]
      split at h
      · rename_i k hk
        try simp only [hk, iaddrD_same hg]
        exact .inl (ofO_two h)
      · cases h
    · cases h
  case ssl sz x lo hi mx =>
    simp only [fpRd] at hg
    intro d s' h
    simp only [opF] at h ⊢
    split at h
    · rename_i p a b c hp ha hb hc
      rw [hp] at hg
      try simp only [hp, ha, hb, hc]
      split at h
      · rename_i a' b' c' ha' hb' hc'
        try simp only [ha', hb', hc', items_same hg]
        split at h
        · rename_i z l hi
          try simp only [hi]
          split at h
          · rename_i hz
            try simp only [hz]
            exact .inl (ofO_two h)
          · cases h
        · cases h
      · cases h
    · cases h
  case len k x =>
    simp only [fpRd] at hg
    intro d s' h
    simp only [opF] at h ⊢
    split at h
    · rename_i i ex lo hi hp
      split at h
      · simp only [Option.some.injEq, Prod.mk.injEq] at h
        obtain ⟨rfl, rfl⟩ := h
        exact .inl ⟨rfl, rfl⟩
      · cases h
    · rename_i p hneg hp
      clear hneg
      rw [hp] at hg
      try simp only [lenD_same hg]
      split at h
      · rename_i r hr
        simp only [Option.some.injEq, Prod.mk.injEq] at h
        obtain ⟨rfl, rfl⟩ := h
        exact .inl ⟨rfl, by simp [hr]⟩
      · cases h
    · cases h
  case bytesToStr x =>
    simp only [fpRd] at hg
    intro d s' h
    simp only [opF] at h ⊢
    split at h
    · rename_i p hp
      rw [hp] at hg
      try simp only [hp, items_same hg]
      split at h
      · rename_i z l hi
        try simp only [hi]
        split at h
        · rename_i b h1 h2
          simp only [Option.some.injEq, Prod.mk.injEq] at h
          obtain ⟨rfl, rfl⟩ := h
          exact .inl ⟨rfl, by simp only [h1, h2]⟩
        · cases h
      · cases h
    · cases h
  case runesToStr x =>
    simp only [fpRd] at hg
    intro d s' h
    simp only [opF] at h ⊢
    split at h
    · rename_i p hp
      rw [hp] at hg
      try simp only [hp, items_same hg]
      split at h
      · rename_i z l hi
        try simp only [hi]
        split at h
        · rename_i b h1 h2
          simp only [Option.some.injEq, Prod.mk.injEq] at h
          obtain ⟨rfl, rfl⟩ := h
          exact .inl ⟨rfl, by simp only [h1, h2]⟩
        · cases h
      · cases h
    · cases h
  case lookup et z ok m k =>
    simp only [fpRd] at hg
    intro d s' h
    simp only [opF] at h ⊢
    split at h
    · rename_i m k hm hk
      rw [hm] at hg
      try simp only [hm, hk]
      split at h
      · cases h
      · rename_i hkd
        try simp only [hkd]
        split at h
        · simp only [Option.some.injEq, Prod.mk.injEq] at h
          obtain ⟨rfl, rfl⟩ := h
          exact .inl ⟨rfl, rfl⟩
        · rename_i o
          have ho := hg o (by simp [fpRd.objs])
          simp only [ho]
          split at h
          · rename_i es c hes
            try simp only [hes]
            split at h
            · rename_i q v hf
              simp only [Option.some.injEq, Prod.mk.injEq] at h
              obtain ⟨rfl, rfl⟩ := h
              exact .inl ⟨rfl, by simp only [hf]⟩
            · rename_i hf
              simp only [Option.some.injEq, Prod.mk.injEq] at h
              obtain ⟨rfl, rfl⟩ := h
              exact .inl ⟨rfl, by simp only [hf]⟩
            · cases h
          · cases h
        · cases h
    · cases h

theorem ofS_set {o : Nat} {x : Obj} {d0 d : D} {s' : St} {wr : List Nat} (ho : o ∈ wr) (h : ofS d0 (s.set o x) = some (d, s')) (hr : s2.ro = s.ro) (hl : s2.lk = s.lk) :
    (s' = s ∧ ofS d0 (s2.set o x) = some (d, s2)) ∨ ∃ o' x', o' ∈ wr ∧ s' = s.set0 o' x' ∧ ofS d0 (s2.set o x) = some (d, s2.set0 o' x') := by
  unfold ofS at *
  split at h
  · rename_i s1 h1
    obtain ⟨g1, g2⟩ := set_eff (s2 := s2) h1 hr hl
    simp only [Option.some.injEq, Prod.mk.injEq] at h
    obtain ⟨rfl, rfl⟩ := h
    exact .inr ⟨o, x, ho, g1, by simp [g2]⟩
  · cases h
theorem ofS_fill {sz : Nat} {p : D} {l : List D} {d0 d : D} {s' : St} {wr : List Nat} (hw : ∀ o, o ∈ fpRd.objs (some p) → o ∈ wr) (h : ofS d0 (fillSl s sz p l) = some (d, s')) (hr : s2.ro = s.ro) (hl : s2.lk = s.lk) (hg : AgO (fpRd.objs (some p)) s s2) :
    (s' = s ∧ ofS d0 (fillSl s2 sz p l) = some (d, s2)) ∨ ∃ o' x', o' ∈ wr ∧ s' = s.set0 o' x' ∧ ofS d0 (fillSl s2 sz p l) = some (d, s2.set0 o' x') := by
  unfold ofS at *
  split at h
  · rename_i s1 h1
    simp only [Option.some.injEq, Prod.mk.injEq] at h
    obtain ⟨rfl, rfl⟩ := h
    rcases fillSl_eff (s2 := s2) h1 hr hl hg with ⟨g1, g2⟩ | ⟨o, x, g0, g1, g2⟩
    · exact .inl ⟨g1, by simp [g2]⟩
    · exact .inr ⟨o, x, hw o g0, g1, by simp [g2]⟩
  · cases h

/-- kind 2: some objects are written. -/
theorem eff2 {p : AOp} (hk : p.kind = 2) (hr : s2.ro = s.ro) (hl : s2.lk = s.lk) (hg : AgO (fpRd e p ++ fpWr e p) s s2) : Eff (fun s => opF C e s al p) s s2 (fpWr e p) := by
  cases p <;> first
    | (exfalso; revert hk; simp [AOp.kind]; done)
    | (exfalso; rename_i ro _ _; cases ro <;> revert hk <;> simp [AOp.kind]; done)
    | skip
  case store sz x v =>
    simp only [fpRd, fpWr, List.nil_append] at hg ⊢
    intro d s' h
    simp only [opF] at h ⊢
    split at h
    · rename_i p v hp hv
      rw [hp] at hg
      try simp only [hp, hv]
      unfold ofS at *
      split at h
      · rename_i s1 h1
        simp only [Option.some.injEq, Prod.mk.injEq] at h
        obtain ⟨rfl, rfl⟩ := h
        obtain ⟨o, x, g0, g1, g2⟩ := storeD_eff (s2 := s2) h1 hr hl hg
        exact .inr ⟨o, x, g0, g1, by simp [g2]⟩
      · cases h
    · cases h
  case mupd et m k v =>
    simp only [fpRd, fpWr, List.nil_append] at hg ⊢
    intro d s' h
    simp only [opF] at h ⊢
    split at h
    · rename_i o k v hm hk hv
      rw [hm] at hg
      try simp only [hm, hk, hv]
      have ho := hg o (by simp [fpRd.objs])
      split at h
      · cases h
      · rename_i hkd
        try simp only [hkd]
        simp only [ho]
        split at h
        · rename_i es c hes
          try simp only [hes]
          split at h
          · rename_i i q hf
            try simp only [hf]
            split at h
            · rename_i b k' q' he
              try simp only [he]
              split at h
              · rename_i hs
                try simp only [hs]
                exact ofS_set (by simp [fpRd.objs]) h hr hl
              · cases h
            · cases h
          · rename_i hf
            try simp only [hf]
            exact ofS_set (by simp [fpRd.objs]) h hr hl
          · cases h
        · cases h
    · cases h
  case mentry et z m k =>
    simp only [fpRd, fpWr, List.nil_append] at hg ⊢
    intro d s' h
    simp only [opF] at h ⊢
    split at h
    · rename_i o k hm hk
      rw [hm] at hg
      try simp only [hm, hk]
      have ho := hg o (by simp [fpRd.objs])
      split at h
      · cases h
      · rename_i hkd
        try simp only [hkd]
        simp only [ho]
        split at h
        · rename_i es c hes
          try simp only [hes]
          split at h
          · rename_i i q hf
            try simp only [hf]
            split at h
            · rename_i b k' q' he
              try simp only [he]
              split at h
              · rename_i hs
                try simp only [hs]
                exact ofS_set (by simp [fpRd.objs]) h hr hl
              · cases h
            · cases h
          · rename_i hf
            try simp only [hf]
            exact ofS_set (by simp [fpRd.objs]) h hr hl
          · cases h
        · cases h
    · cases h
  case mestore m b v =>
    simp only [fpRd, fpWr, List.nil_append] at hg ⊢
    intro d s' h
    simp only [opF] at h ⊢
    split at h
    · rename_i o ik b v hm hk hv
      rw [hm] at hg
      try simp only [hm, hk, hv]
      have ho := hg o (by simp [fpRd.objs])
      simp only [ho]
      split at h
      · rename_i es c hes
        try simp only [hes]
        split at h
        · rename_i i hf
          try simp only [hf]
          exact ofS_set (by simp [fpRd.objs]) h hr hl
        · cases h
      · cases h
    · cases h
  case nexts x =>
    simp only [fpRd, fpWr, List.nil_append] at hg ⊢
    intro d s' h
    simp only [opF] at h ⊢
    split at h
    · rename_i o hm
      rw [hm] at hg
      try simp only [hm]
      have ho := hg o (by simp [fpRd.objs])
      simp only [ho]
      split at h
      · rename_i l pos hes
        try simp only [hes]
        split at h
        · rename_i hb
          try simp only [hb]
          exact ofS_set (by simp [fpRd.objs]) h hr hl
        · rename_i hb
          simp only [Option.some.injEq, Prod.mk.injEq] at h
          obtain ⟨rfl, rfl⟩ := h
          exact .inl ⟨rfl, by simp only [hb]⟩
      · cases h
    · cases h
  case delete et m k =>
    simp only [fpRd, fpWr, List.nil_append] at hg ⊢
    intro d s' h
    simp only [opF] at h ⊢
    split at h
    · rename_i m k hm hk
      rw [hm] at hg
      try simp only [hm, hk]
      split at h
      · cases h
      · rename_i hkd
        try simp only [hkd]
        split at h
        · simp only [Option.some.injEq, Prod.mk.injEq] at h
          obtain ⟨rfl, rfl⟩ := h
          exact .inl ⟨rfl, rfl⟩
        · rename_i o
          have ho := hg o (by simp [fpRd.objs])
          simp only [ho]
          split at h
          · rename_i es c hes
            try simp only [hes]
            split at h
            · rename_i q v hf
              try simp only [hf]
              exact ofS_set (by simp [fpRd.objs]) h hr hl
            · rename_i hf
              try simp only [hf]
              exact ofS_set (by simp [fpRd.objs]) h hr hl
            · cases h
          · cases h
        · cases h
    · cases h
  case clear sz z x =>
    simp only [fpRd, fpWr, List.nil_append] at hg ⊢
    intro d s' h
    simp only [opF] at h ⊢
    split at h
    · rename_i hm
      try simp only [hm]
      simp only [Option.some.injEq, Prod.mk.injEq] at h
      obtain ⟨rfl, rfl⟩ := h
      exact .inl ⟨rfl, rfl⟩
    · rename_i o hm
      rw [hm] at hg
      try simp only [hm]
      have ho := hg o (by simp [fpRd.objs])
      simp only [ho]
      split at h
      · rename_i es c hes
        try simp only [hes]
        exact ofS_set (by simp [fpRd.objs]) h hr hl
      · cases h
    · rename_i p h1 h2 hm
      rw [hm] at hg
      simp only [lenD_same hg]
      split at h
      · rename_i n hn
        try simp only [hn]
        split at h
        · rename_i hz
          try simp only [hz]
          exact ofS_fill (fun _ h => by rw [hm]; exact h) h hr hl hg
        · cases h
      · cases h
    · cases h
  case ustr ty x y =>
    simp only [fpRd, fpWr, List.nil_append] at hg ⊢
    intro d s' h
    simp only [opF] at h ⊢
    split at h
    · rename_i k n hm hy
      try simp only [hm, hy]
      split at h
      · rename_i hb
        simp only [Option.some.injEq, Prod.mk.injEq] at h
        obtain ⟨rfl, rfl⟩ := h
        exact .inl ⟨rfl, by simp only [hb]⟩
      · cases h
    · rename_i o i c en k n hm hy
      rw [hm] at hg
      try simp only [hm, hy]
      have ho := hg o (by simp [fpRd.objs])
      simp only [ho]
      split at h
      · rename_i z t es st hes
        try simp only [hes]
        split at h
        · rename_i b h1 h2 h3 h4
          try simp only [h1, h2, h3, h4]
          exact ofS_set (by simp [fpRd.objs]) h hr hl
        · cases h
      · cases h
    · cases h
  case copy sz x y =>
    simp only [fpRd, fpWr] at hg ⊢
    intro d s' h
    simp only [opF] at h ⊢
    split at h
    · rename_i a l hm hy
      rw [hm] at hg
      have h2 := hg.app.2
      simp only [lenD_same h2]
      split at h
      · rename_i n h1 hn
        try simp only [h1, hn]
        exact ofS_fill (fun _ h => by rw [hm]; exact h) h hr hl h2
      · cases h
    · rename_i a b hb0 hm hy
      rw [hm, hy] at hg
      have h2 := hg.app.2
      have h1 := hg.app.1
      simp only [lenD_same h2, items_same h1]
      split at h
      · rename_i z l n hi hn
        try simp only [hi, hn]
        split at h
        · rename_i g1 g2
          try simp only [g1, g2]
          exact ofS_fill (fun _ h => by rw [hm]; exact h) h hr hl h2
        · cases h
      · cases h
    · cases h

theorem mk_two {k : Nat} {x : Obj} {f : Nat → D} {d : D} {s' : St} (h : (match s.mk' (some k) x with | some (k, s') => some (f k, s') | none => none) = some (d, s')) (hr : s2.ro = s.ro) (hn : s2.n = s.n) (hg : s2.get k = s.get k) :
    (s' = s ∧ (match s2.mk' (some k) x with | some (k, s') => some (f k, s') | none => none) = some (d, s2)) ∨ ∃ o' x', o' ∈ [k] ∧ s' = s.set0 o' x' ∧ (match s2.mk' (some k) x with | some (k, s') => some (f k, s') | none => none) = some (d, s2.set0 o' x') := by
  split at h
  · rename_i k' s1 h1
    obtain ⟨g1, g2⟩ := mk_eff (s2 := s2) h1 hr hn hg
    simp only [Prod.mk.injEq] at g1
    obtain ⟨rfl, rfl⟩ := g1
    simp only [Option.some.injEq, Prod.mk.injEq] at h
    obtain ⟨rfl, rfl⟩ := h
    exact .inr ⟨k', x, by simp, rfl, by simp [g2]⟩
  · cases h
/-- kind 3: an object is made. -/
theorem eff3 {p : AOp} {k : Nat} (hk : p.kind = 3) (hr : s2.ro = s.ro) (hn : s2.n = s.n) (hg : s2.get k = s.get k) : Eff (fun s => opF C e s (some k) p) s s2 [k] := by
  intro d s' h
  cases p <;> first
    | (exfalso; revert hk; simp [AOp.kind]; done)
    | (exfalso; rename_i ro _ _; cases ro <;> revert hk <;> simp [AOp.kind]; done)
    | (simp only [opF] at h ⊢
       repeat' split at h
       all_goals first
         | (cases h; done)
         | (rename_i h1
            obtain ⟨g1, g2⟩ := mk_eff (s2 := s2) h1 hr hn hg
            simp only [Prod.mk.injEq] at g1
            obtain ⟨rfl, rfl⟩ := g1
            simp only [Option.some.injEq, Prod.mk.injEq] at h
            obtain ⟨rfl, rfl⟩ := h
            refine .inr ⟨_, _, List.mem_singleton.2 rfl, rfl, ?_⟩
            simp_all; done)
         | trace_state)

/-- What an append does: nothing, or one object is written over, or one is given up and another one made. -/
def Eff9 (F : St → Option (D × St)) (s s2 : St) (wr : List Nat) : Prop := ∀ d s', F s = some (d, s') →
  (s' = s ∧ F s2 = some (d, s2)) ∨ (∃ o x, o ∈ wr ∧ s' = s.set0 o x ∧ F s2 = some (d, s2.set0 o x)) ∨
    ∃ o x o' x', o ∈ wr ∧ o' ∈ wr ∧ s' = (s.set0 o x).set0 o' x' ∧ F s2 = some (d, (s2.set0 o x).set0 o' x')
theorem get_set0' {s : St} {x : Nat} {q : Obj} (u : Nat) : (s.set0 x q).get u = if u = x then some q else s.get u := T.get_set _ _ _ _
theorem appendD_eff {k sz ty : Nat} {a : D} {l : List D} (hr : s2.ro = s.ro) (hl : s2.lk = s.lk) (hn : s2.n = s.n) (hg : AgO (fpRd.objs (some a)) s s2) (hk : s2.get k = s.get k) :
    Eff9 (fun s => appendD s (some k) sz ty a l) s s2 (k :: fpRd.objs (some a)) := by
  intro d s' h
  simp only at h ⊢
  unfold appendD at h
  split at h
  · split at h
    · simp only [Option.some.injEq, Prod.mk.injEq] at h
      obtain ⟨rfl, rfl⟩ := h
      exact .inl ⟨rfl, by simp [appendD]⟩
    · rename_i o _ _ _
      have ho := hg o (by simp [fpRd.objs])
      split at h
      · rename_i hq
        simp only [Option.some.injEq, Prod.mk.injEq] at h
        obtain ⟨rfl, rfl⟩ := h
        exact .inl ⟨rfl, by simp [appendD, ho, hq]⟩
      · cases h
    · cases h
  · rename_i hne
    split at h
    · split at h
      · rename_i hb
        split at h
        · rename_i k' s1 h1
          obtain ⟨g1, g2⟩ := mk_eff (s2 := s2) h1 hr hn hk
          simp only [Prod.mk.injEq] at g1
          obtain ⟨rfl, rfl⟩ := g1
          simp only [Option.some.injEq, Prod.mk.injEq] at h
          obtain ⟨rfl, rfl⟩ := h
          exact .inr (.inl ⟨k', _, by simp, rfl, by simp [appendD, hb, g2]⟩)
        · cases h
      · cases h
    · rename_i o off len cp
      have ho := hg o (by simp [fpRd.objs])
      split at h
      · rename_i z es st hq
        split at h
        · rename_i h1 h2 h3 h4
          split at h
          · rename_i h5
            split at h
            · rename_i s1 hs1
              obtain ⟨g1, g2⟩ := set_eff (s2 := s2) hs1 hr hl
              simp only [Option.some.injEq, Prod.mk.injEq] at h
              obtain ⟨rfl, rfl⟩ := h
              exact .inr (.inl ⟨o, _, by simp [fpRd.objs], g1, by simp [appendD, ho, hq, h1, h2, h3, h4, h5, g2]⟩)
            · cases h
          · rename_i h5
            split at h
            · rename_i s1 hs1
              obtain ⟨g1, g2⟩ := set_eff (s2 := s2) hs1 hr hl
              subst g1
              split at h
              · rename_i k' s3 h6
                obtain ⟨e1, e2⟩ := mk_eff (s2 := s2.set0 o .dead) h6 hr hn (by rw [get_set0', get_set0', hk])
                simp only [Prod.mk.injEq] at e1
                obtain ⟨rfl, rfl⟩ := e1
                simp only [Option.some.injEq, Prod.mk.injEq] at h
                obtain ⟨rfl, rfl⟩ := h
                exact .inr (.inr ⟨o, _, k', _, by simp [fpRd.objs], by simp, rfl, by simp [appendD, ho, hq, h1, h2, h3, h4, h5, g2, e2]⟩)
              · cases h
            · cases h
        · cases h
      · cases h
    · cases h
theorem Eff9.wr {F : St → Option (D × St)} {l m : List Nat} (h : Eff9 F s s2 l) (hm : ∀ x, x ∈ l → x ∈ m) : Eff9 F s s2 m := by
  intro d s' hF
  rcases h d s' hF with h | ⟨o, x, h1, h2⟩ | ⟨o, x, o', x', h1, h2, h3⟩
  · exact .inl h
  · exact .inr (.inl ⟨o, x, hm _ h1, h2⟩)
  · exact .inr (.inr ⟨o, x, o', x', hm _ h1, hm _ h2, h3⟩)
/-- kind 9: an append. -/
theorem eff9 {p : AOp} {k : Nat} (hk : p.kind = 9) (hr : s2.ro = s.ro) (hl : s2.lk = s.lk) (hn : s2.n = s.n) (hg : AgO (fpRd e p ++ fpWr e p) s s2) (hgk : s2.get k = s.get k) : Eff9 (fun s => opF C e s (some k) p) s s2 (k :: fpWr e p) := by
  cases p <;> first
    | (exfalso; revert hk; simp [AOp.kind]; done)
    | (exfalso; rename_i ro _ _; cases ro <;> revert hk <;> simp [AOp.kind]; done)
    | skip
  rename_i sz bytes ty x y
  simp only [fpRd, fpWr] at hg ⊢
  intro d s' h
  simp only [opF] at h ⊢
  split at h
  · rename_i a l ha hy
    rw [ha] at hg ⊢
    try simp only [ha, hy]
    split at h
    · rename_i h1 h2
      try simp only [h1, h2]
      exact appendD_eff hr hl hn hg.app.2 hgk d s' h
    · cases h
  · rename_i a b hneg ha hb
    rw [ha, hb] at hg
    rw [ha]
    try simp only [ha, hb]
    simp only [items_same hg.app.1]
    split at h
    · rename_i z l hi
      try simp only [hi]
      split at h
      · rename_i h1 h2
        try simp only [h1, h2]
        split at h
        · rename_i h3
          try simp only [h3]
          exact appendD_eff hr hl hn hg.app.2 hgk d s' h
        · cases h
      · cases h
    · cases h
  · cases h
end
end Go.Ab
