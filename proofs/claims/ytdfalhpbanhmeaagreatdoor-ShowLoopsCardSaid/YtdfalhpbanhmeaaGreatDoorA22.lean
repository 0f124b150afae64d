/- Plain regions; code; loops. -/
import Derived.Test.YtdfalhpbanhmeaaGreatDoorA21
namespace Go.Ab
open Go
set_option linter.unusedSectionVars false
set_option linter.unusedSimpArgs false
set_option linter.unusedVariables false
variable [Vals]
variable {ρ ρ' ρ0 : Gh} {w w' w0 : World} {P : Program} {pn : Pins} {G : Gl} {X : Exts} {A : Adv} {s s' : St} {env : Env} {a : Act} {lo : Nat} {d : D} {C : Caller} {L : Looper} {al : Option Nat} {fr fr' : Fr}

/-- Operations in the order of the text. -/
theorem region_plain (hC : CallerOk pn P G C) (hX : ∀ f k, X f = some k → ExtOk P f k) (hg : GlOk pn G ρ0 w0) {ops : Array Oper} {b : Nat} {Q : Exit → Act → World → Prop} :
    ∀ (l : List Oper) (n : Nat) (fr : Fr) (s : St) (a : Act) (w : World), (∀ i, i < l.length → ops[n + i]? = l[i]?) → opers C b (l.map (operB P G X A ops)) fr s = some (fr', s') → Inv ρ0 w0 A.nt fr s a w →
      (∀ a' w', Inv ρ0 w0 A.nt fr' s' a' w' → Q .normal a' w') → wpOpsIn Fence.wide 0 P ops Q (List.range' n l.length) a w
  | [], n, fr, s, a, w, _, h, hI, hQ => by
    simp only [List.map_nil, opers, Option.some.injEq, Prod.mk.injEq] at h
    obtain ⟨rfl, rfl⟩ := h
    exact hQ _ _ hI
  | o :: l, n, fr, s, a, w, hi, h, hI, hQ => by
    simp only [List.map_cons, opers] at h
    split at h
    · rename_i fr1 s1 h1
      have h0 := hi 0 (by simp)
      simp only [Nat.add_zero, List.getElem?_cons_zero] at h0
      simp only [List.length_cons, List.range'_succ]
      simp only [wpOpsIn, h0]
      have := oper_step (Q := Q) (K := wpOpsIn Fence.wide 0 P ops Q (List.range' (n + 1) l.length)) hC hX hg (ops := ops) (o := o) ⟨rfl, rfl, rfl⟩ h1 hI (fun a' w' hI' =>
        region_plain hC hX hg l (n + 1) fr1 s1 a' w' (fun i hlt => by
          have := hi (i + 1) (by simpa using hlt)
          simpa [Nat.add_assoc, Nat.add_comm 1 i] using this) h hI' hQ)
      split
      · rename_i hw
        rw [if_pos hw] at this
        exact this
      · rename_i hw
        rw [if_neg hw] at this
        exact ⟨fun _ _ => trivial, this⟩
    · cases h

/-- How code ends. -/
def ExRel : Ex → Exit → Prop
  | .normal, .normal => True
  | .exit i, .exit j => i = j
  | .ret, .ret => True
  | _, _ => False
def Post (ρ0 : Gh) (w0 : World) (nt : Nat) (e : Ex) (fr : Fr) (s : St) : Exit → Act → World → Prop := fun x a w => ExRel e x ∧ Inv ρ0 w0 nt fr s a w

def LoopAt (P : Program) (c : Code) (Q : Exit → Act → World → Prop) (a : Act) (w : World) : Prop :=
  ∀ (b : Frame) (k : List Item) (cs : List Frame), ∃ e a' w', Q e a' w' ∧ Arrives P (lone (b.at a (.code c :: .inLoop c :: k)) cs w) b k cs e a' w'

theorem loopAt_step {c : Code} {Q : Exit → Act → World → Prop} (h : c.wp P (Exit.then (LoopAt P c Q) Q) a w) : LoopAt P c Q a w := by
  intro b k cs
  obtain ⟨e, a₁, w₁, hq, harr⟩ := h b (.inLoop c :: k) cs
  cases e with
  | normal =>
    obtain ⟨e₂, a₂, w₂, hq₂, harr₂⟩ := hq b k cs
    exact ⟨e₂, a₂, w₂, hq₂, .of_steps (Steps.trans harr (.one step_inLoop)) harr₂⟩
  | exit id => exact ⟨_, a₁, w₁, hq, .pass (x := .inLoop c) rfl (fun _ _ => .inl (by simp)) harr⟩
  | goto l => exact ⟨_, a₁, w₁, hq, .pass (x := .inLoop c) rfl (fun _ _ => .inl (by simp)) harr⟩
  | ret => exact ⟨_, a₁, w₁, hq, .pass (x := .inLoop c) rfl (fun _ _ => .inl (by simp)) harr⟩
  | panic ch => exact ⟨_, a₁, w₁, hq, .pass (x := .inLoop c) rfl (fun _ _ => .inl (by simp)) harr⟩
  | outgrown => exact ⟨_, a₁, w₁, hq, .pass (x := .inLoop c) rfl (fun _ _ => .inl (by simp)) harr⟩
theorem wp_loop_at {c : Code} {Q : Exit → Act → World → Prop} (h : LoopAt P c Q a w) : (Code.loop c).wp P Q a w := by
  intro b k cs
  obtain ⟨e, a', w', hq, harr⟩ := h b k cs
  exact ⟨e, a', w', hq, .of_steps (.one step_loop) harr⟩

/-- What is asked of the loops' runner. -/
def LoopOk (pn : Pins) (P : Program) (G : Gl) (X : Exts) (L : Looper) : Prop := ∀ (A : Adv) (ρ0 : Gh) (w0 : World) (c : Code) (ks ks' : List (List Nat)) (keep : List Nat) (ac : AC) (fr : Fr) (s : St) (e : Ex) (fr' : Fr) (s' : St) (a : Act) (w : World), GlOk pn G ρ0 w0 → compile P G X A c ks = (ac, ks') →
  L keep ac fr s = some (e, fr', s') → Inv ρ0 w0 A.nt fr s a w → LoopAt P c (Post ρ0 w0 A.nt e fr' s') a w

/-- What is asked of regions whose order is drawn. -/
def DrawnOk (pn : Pins) (P : Program) (G : Gl) (X : Exts) (C : Caller) : Prop := ∀ (A : Adv) (ρ0 : Gh) (w0 : World) (id : Nat) (ops : Array Oper) (k : Nat) (l : List (AOper × List Nat)) (fr : Fr) (s : St) (fr' : Fr) (s' : St) (a : Act) (w : World) (Q : Exit → Act → World → Prop), GlOk pn G ρ0 w0 →
  regB P G X A ops true = .dreg k l → (s.ro && Nat.blt 0 k) = false → dopers C s.n l [] fr { s with n := s.n + k } = some (fr', s') → Inv ρ0 w0 A.nt fr s a w → (∀ a' w', Inv ρ0 w0 A.nt fr' s' a' w' → Q .normal a' w') → (Code.region id ops true).wp P Q a w

theorem regB_draw {ops : Array Oper} : regB P G X A ops true = .bad ∨ ∃ k l, regB P G X A ops true = .dreg k l := by
  unfold regB
  simp only
  split
  · exact .inr ⟨_, _, rfl⟩
  · exact .inl rfl

theorem code_ok (hC : CallerOk pn P G C) (hX : ∀ f k, X f = some k → ExtOk P f k) (hL : LoopOk pn P G X L) (hD : DrawnOk pn P G X C) (hg : GlOk pn G ρ0 w0) :
    ∀ (c : Code) (ks ks' : List (List Nat)) (ac : AC) (fr : Fr) (s : St) (e : Ex) (fr' : Fr) (s' : St) (a : Act) (w : World), compile P G X A c ks = (ac, ks') → execS C L ac fr s = some (e, fr', s') → Inv ρ0 w0 A.nt fr s a w → c.wp P (Post ρ0 w0 A.nt e fr' s') a w
  | .skip, ks, ks', ac, fr, s, e, fr', s', a, w, hc, h, hI => by
    simp only [compile, Prod.mk.injEq] at hc
    obtain ⟨rfl, rfl⟩ := hc
    simp only [execS, Option.some.injEq, Prod.mk.injEq] at h
    obtain ⟨rfl, rfl, rfl⟩ := h
    exact wp_skip ⟨trivial, hI⟩
  | .region id ops dr, ks, ks', ac, fr, s, e, fr', s', a, w, hc, h, hI => by
    simp only [compile, Prod.mk.injEq] at hc
    obtain ⟨rfl, rfl⟩ := hc
    cases dr with
    | false =>
      simp only [regB, execS] at h
      split at h
      · rename_i fr1 s1 h1
        simp only [Option.some.injEq, Prod.mk.injEq] at h
        obtain ⟨rfl, rfl, rfl⟩ := h
        refine wpIn_wide.1 (wpIn_region (n := 0) ?_)
        have := region_plain (Q := Post ρ0 w0 A.nt .normal fr1 s1) hC hX hg ops.toList 0 fr s a w (by simp) h1 hI (fun a' w' hI' => ⟨trivial, hI'⟩)
        rwa [← List.range_eq_range', Array.length_toList] at this
      · cases h
    | true =>
      rcases regB_draw (P := P) (G := G) (X := X) (A := A) (ops := ops) with hb | ⟨k, l, hb⟩
      · rw [hb] at h; simp [execS] at h
      · rw [hb] at h
        simp only [execS] at h
        split at h
        · cases h
        · rename_i hro
          split at h
          · rename_i fr1 s1 h1
            simp only [Option.some.injEq, Prod.mk.injEq] at h
            obtain ⟨rfl, rfl, rfl⟩ := h
            exact hD A ρ0 w0 id ops k l fr s fr1 s1 a w _ hg hb hro h1 hI (fun a' w' hI' => ⟨trivial, hI'⟩)
          · cases h
  | .seq x y, ks, ks', ac, fr, s, e, fr', s', a, w, hc, h, hI => by
    simp only [compile, Prod.mk.injEq] at hc
    obtain ⟨rfl, rfl⟩ := hc
    simp only [execS] at h
    refine wp_seq ?_
    split at h
    · rename_i fr1 s1 h1
      refine wp_mono (code_ok hC hX hL hD hg x ks _ _ fr s _ fr1 s1 a w rfl h1 hI) fun ex a' w' hq => ?_
      obtain ⟨hx, hI'⟩ := hq
      cases ex <;> simp only [ExRel] at hx
      exact code_ok hC hX hL hD hg y _ _ _ fr1 s1 e fr' s' a' w' rfl h hI'
    · rename_i r hne
      refine wp_mono (code_ok hC hX hL hD hg x ks _ _ fr s e fr' s' a w rfl h hI) fun ex a' w' hq => ?_
      obtain ⟨hx, hI'⟩ := hq
      cases ex
      case normal =>
        cases e <;> simp only [ExRel] at hx
        exact absurd h (hne fr' s')
      all_goals exact ⟨hx, hI'⟩
  | .cond c x y, ks, ks', ac, fr, s, e, fr', s', a, w, hc, h, hI => by
    simp only [compile] at hc
    split at hc
    · rename_i c' hcc
      simp only [Prod.mk.injEq] at hc
      obtain ⟨rfl, rfl⟩ := hc
      simp only [execS] at h
      have hI0 := hI
      obtain ⟨ρ, hKp, hf, hs⟩ := hI
      split at h
      · rename_i hv
        have := opd_rep hcc hf.env (hg.mono hKp) hv
        simp only [Rep] at this
        exact wp_cond_true this (code_ok hC hX hL hD hg x _ _ _ fr s e fr' s' a w rfl h hI0)
      · rename_i hv
        have := opd_rep hcc hf.env (hg.mono hKp) hv
        simp only [Rep] at this
        exact wp_cond_false this (code_ok hC hX hL hD hg y _ _ _ fr s e fr' s' a w rfl h hI0)
      · cases h
    · simp only [Prod.mk.injEq] at hc
      obtain ⟨rfl, rfl⟩ := hc
      simp [execS] at h
  | .block id x, ks, ks', ac, fr, s, e, fr', s', a, w, hc, h, hI => by
    simp only [compile, Prod.mk.injEq] at hc
    obtain ⟨rfl, rfl⟩ := hc
    simp only [execS] at h
    refine wp_block ?_
    split at h
    · rename_i i fr1 s1 h1
      refine wp_mono (code_ok hC hX hL hD hg x ks _ _ fr s _ fr1 s1 a w rfl h1 hI) fun ex a' w' hq => ?_
      obtain ⟨hx, hI'⟩ := hq
      cases ex <;> simp only [ExRel] at hx
      rename_i j
      subst hx
      split at h
      · rename_i hid
        obtain rfl := Nat.eq_of_beq_eq_true hid
        simp only [Option.some.injEq, Prod.mk.injEq] at h
        obtain ⟨rfl, rfl, rfl⟩ := h
        simp only [Exit.inBlock, if_true]
        exact ⟨trivial, hI'⟩
      · rename_i hid
        simp only [Option.some.injEq, Prod.mk.injEq] at h
        obtain ⟨rfl, rfl, rfl⟩ := h
        have hne : i ≠ id := by rintro rfl; rw [Nat.beq_refl] at hid; cases hid
        simp only [Exit.inBlock, if_neg hne]
        exact ⟨rfl, hI'⟩
    · rename_i r hne
      refine wp_mono (code_ok hC hX hL hD hg x ks _ _ fr s e fr' s' a w rfl h hI) fun ex a' w' hq => ?_
      obtain ⟨hx, hI'⟩ := hq
      cases ex
      case exit j =>
        cases e <;> simp only [ExRel] at hx
        exact absurd h (hne _ fr' s')
      all_goals exact ⟨hx, hI'⟩
  | .loop x, ks, ks', ac, fr, s, e, fr', s', a, w, hc, h, hI => by
    cases ks with
    | nil =>
      simp only [compile, Prod.mk.injEq] at hc
      obtain ⟨rfl, rfl⟩ := hc
      simp [execS] at h
    | cons k ks =>
      simp only [compile, Prod.mk.injEq] at hc
      obtain ⟨rfl, rfl⟩ := hc
      simp only [execS] at h
      exact wp_loop_at (hL A ρ0 w0 x ks _ k _ fr s e fr' s' a w hg rfl h hI)
  | .exit id, ks, ks', ac, fr, s, e, fr', s', a, w, hc, h, hI => by
    simp only [compile, Prod.mk.injEq] at hc
    obtain ⟨rfl, rfl⟩ := hc
    simp only [execS, Option.some.injEq, Prod.mk.injEq] at h
    obtain ⟨rfl, rfl, rfl⟩ := h
    exact wp_exit ⟨rfl, hI⟩
  | .ret, ks, ks', ac, fr, s, e, fr', s', a, w, hc, h, hI => by
    simp only [compile, Prod.mk.injEq] at hc
    obtain ⟨rfl, rfl⟩ := hc
    simp only [execS, Option.some.injEq, Prod.mk.injEq] at h
    obtain ⟨rfl, rfl, rfl⟩ := h
    exact wp_ret ⟨trivial, hI⟩
  | .rangeFunc _ _ _ _, ks, ks', ac, fr, s, e, fr', s', a, w, hc, h, hI => by
    simp only [compile, Prod.mk.injEq] at hc
    obtain ⟨rfl, rfl⟩ := hc
    simp [execS] at h
  | .scope _, ks, ks', ac, fr, s, e, fr', s', a, w, hc, h, hI => by
    simp only [compile, Prod.mk.injEq] at hc
    obtain ⟨rfl, rfl⟩ := hc
    simp [execS] at h
  | .label _, ks, ks', ac, fr, s, e, fr', s', a, w, hc, h, hI => by
    simp only [compile, Prod.mk.injEq] at hc
    obtain ⟨rfl, rfl⟩ := hc
    simp [execS] at h
  | .goto _, ks, ks', ac, fr, s, e, fr', s', a, w, hc, h, hI => by
    simp only [compile, Prod.mk.injEq] at hc
    obtain ⟨rfl, rfl⟩ := hc
    simp [execS] at h
  | .refuse _, ks, ks', ac, fr, s, e, fr', s', a, w, hc, h, hI => by
    simp only [compile, Prod.mk.injEq] at hc
    obtain ⟨rfl, rfl⟩ := hc
    simp [execS] at h

theorem get_keep {e : Env} : ∀ {l : List Nat} {t : Nat} {d : D}, (e.keep l).get t = some d → e.get t = some d
  | [], t, d, h => by simp [Env.keep, Env.get] at h
  | k :: l, t, d, h => by
    simp only [Env.keep] at h
    split at h
    · rename_i q hq
      rw [get_cons] at h
      split at h
      · rename_i e'; subst e'; rw [← h]; exact hq
      · exact get_keep h
    · exact get_keep h

theorem Inv.keep {l : List Nat} (h : Inv ρ0 w0 lo fr s a w) : Inv ρ0 w0 lo { fr with env := fr.env.keep l } s a w := by
  obtain ⟨ρ, h1, h2, h3⟩ := h
  refine ⟨ρ, h1, ⟨⟨fun t d hd => ?_, fun t t' x x' b hne g1 g2 => h2.env.inj t t' x x' b hne (get_keep g1) (get_keep g2)⟩, h2.size, h2.defers⟩, h3⟩
  have := h2.env.slot t d (get_keep hd)
  cases d with
  | lptr k c =>
    simp only [SlotRel] at *
    exact fun x hx => this x (get_keep hx)
  | _ => exact this

theorem loop_ok {T : Nat → Option AFn} {H : Caller} (hX : ∀ f k, X f = some k → ExtOk P f k) {n : Nat} (hC : CallerOk pn P G (callN T H n)) (hD : DrawnOk pn P G X (callN T H n)) (hL : LoopOk pn P G X (loopN T H n)) : LoopOk pn P G X (loopN T H (n + 1)) := by
  intro A ρ0 w0 c ks ks' keep ac fr s e fr' s' a w hg hc h hI
  simp only [loopN] at h
  refine loopAt_step ?_
  split at h
  · rename_i fr1 s1 h1
    refine wp_mono (code_ok hC hX hL hD hg c ks ks' ac _ s _ fr1 s1 a w hc h1 hI.keep) fun ex a' w' hq => ?_
    obtain ⟨hx, hI'⟩ := hq
    cases ex <;> simp only [ExRel] at hx
    exact hL A ρ0 w0 c ks ks' keep ac fr1 s1 e fr' s' a' w' hg hc h hI'
  · rename_i r hne
    refine wp_mono (code_ok hC hX hL hD hg c ks ks' ac _ s e fr' s' a w hc h hI.keep) fun ex a' w' hq => ?_
    obtain ⟨hx, hI'⟩ := hq
    cases ex
    case normal =>
      cases e <;> simp only [ExRel] at hx
      exact absurd h (hne fr' s')
    all_goals exact ⟨hx, hI'⟩
end Go.Ab
