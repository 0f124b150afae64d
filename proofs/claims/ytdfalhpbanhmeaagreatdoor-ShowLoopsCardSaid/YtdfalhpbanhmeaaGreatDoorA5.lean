/- Operands; the operations that leave the state alone. -/
import Derived.Test.YtdfalhpbanhmeaaGreatDoorA4
namespace Go.Ab
open Go
set_option linter.unusedSectionVars false
set_option linter.unusedSimpArgs false
set_option linter.unusedVariables false
variable [Vals]
variable {ρ : Gh} {w : World} {P : Program} {G : Gl} {X : Exts} {A : Adv}

/-- What is known beside and stays so. -/
structure Pins where
  J : Gh → World → Prop
  mono : ∀ {ρ ρ' : Gh} {w w' : World}, Kp ρ w ρ' w' → J ρ w → J ρ' w'
def Pins.none : Pins := ⟨fun _ _ => True, fun _ _ => trivial⟩
/-- The record of a range over a function that is under way. -/
def PinOk (p : Nat × Nat × Go.Obj) (ρ : Gh) (w : World) : Prop := ρ.kd p.1 = .dead ∧ ρ.lp p.1 = p.2.1 ∧ ρ.own p.2.1 = .priv ∧ w.heap[p.2.1]? = some p.2.2
theorem PinOk.mono {p : Nat × Nat × Go.Obj} {ρ ρ' : Gh} {w w' : World} (h : Kp ρ w ρ' w') (k : PinOk p ρ w) : PinOk p ρ' w' := by
  obtain ⟨k1, k2, k3, k4⟩ := k
  obtain ⟨h1, h2⟩ := h.kept p.2.1 (Array.getElem?_eq_some_iff.1 k4).1 (fun o => by rw [k3]; simp)
  exact ⟨(h.dead _ k1).1, (h.dead _ k1).2.trans k2, h2.trans k3, h1.trans k4⟩
def Pins.loop (J : Pins) (p : Nat × Nat × Go.Obj) : Pins := ⟨fun ρ w => PinOk p ρ w ∧ J.J ρ w, fun h k => ⟨k.1.mono h, J.mono h k.2⟩⟩
def GlOk (pn : Pins) (G : Gl) (ρ : Gh) (w : World) : Prop := (∀ g d, G g = some d → Rep ρ w (.vptr d 0) (.pointer (some ⟨g, 0, none⟩))) ∧ pn.J ρ w
variable {pn : Pins}
theorem GlOk.mono {ρ' : Gh} {w' : World} (h : Kp ρ w ρ' w') (g : GlOk pn G ρ w) : GlOk pn G ρ' w' := ⟨fun x d hx => (g.1 x d hx).mono h, pn.mono h g.2⟩

mutual
theorem ofV_rep : ∀ (v : Value) (d : D), ofV v = some d → Rep ρ w d v
  | .bool b, d, h => by simp only [ofV, Option.some.injEq] at h; subst h; simp [Rep]
  | .int k n, d, h => by simp only [ofV, Option.some.injEq] at h; subst h; simp [Rep]
  | .string s, d, h => by simp only [ofV, Option.some.injEq] at h; subst h; simp [Rep]
  | .pointer none, d, h => by simp only [ofV, Option.some.injEq] at h; subst h; simp [Rep]
  | .pointer (some _), d, h => by simp [ofV] at h
  | .slice none 0 0, d, h => by simp only [ofV, Option.some.injEq] at h; subst h; simp [Rep]
  | .slice (some _) _ _, d, h => by simp [ofV] at h
  | .slice none (_ + 1) _, d, h => by simp [ofV] at h
  | .slice none 0 (_ + 1), d, h => by simp [ofV] at h
  | .map none, d, h => by simp only [ofV, Option.some.injEq] at h; subst h; simp [Rep]
  | .map (some _), d, h => by simp [ofV] at h
  | .func f a b, d, h => by
    simp only [ofV] at h
    split at h
    · rename_i x y hx hy
      simp only [Option.some.injEq] at h; subst h
      simp only [Rep]
      exact ⟨a, b, rfl, ofVs_rep a.toList x hx, ofVs_rep b.toList y hy⟩
    · cases h
  | .nilFunc, d, h => by simp only [ofV, Option.some.injEq] at h; subst h; simp [Rep]
  | .nilIface, d, h => by simp only [ofV, Option.some.injEq] at h; subst h; simp [Rep]
  | .iface t v, d, h => by
    simp only [ofV] at h
    split at h
    · rename_i x hx
      simp only [Option.some.injEq] at h; subst h
      simp only [Rep]
      exact ⟨v, rfl, ofV_rep v x hx⟩
    · cases h
  | .agg cs, d, h => by
    simp only [ofV] at h
    split at h
    · rename_i l hl
      split at h
      · rename_i hs
        simp only [Option.some.injEq] at h; subst h
        simp only [Rep]
        exact ⟨cs, rfl, ofVs_rep cs.toList l hl, hs⟩
      · cases h
    · cases h
  | .tuple cs, d, h => by
    simp only [ofV] at h
    split at h
    · rename_i l hl
      simp only [Option.some.injEq] at h; subst h
      simp only [Rep]
      exact ⟨cs, rfl, ofVs_rep cs.toList l hl⟩
    · cases h
  | .float _ _, d, h => by simp [ofV] at h
  | .complex _ _ _, d, h => by simp [ofV] at h
  | .chan _, d, h => by simp [ofV] at h
theorem ofVs_rep : ∀ (vs : List Value) (l : List D), ofVs vs = some l → RepL ρ w l vs
  | [], l, h => by simp only [ofVs, Option.some.injEq] at h; subst h; simp [RepL]
  | v :: r, l, h => by
    simp only [ofVs] at h
    split at h
    · rename_i d t hd ht
      simp only [Option.some.injEq] at h; subst h
      simp only [RepL]
      exact ⟨v, r, rfl, ofV_rep v d hd, ofVs_rep r t ht⟩
    · cases h
end

variable {lo : Nat} {env : Env} {a : Act}

theorem eval_tmp {t : Nat} {v : Value} (h : a.tmps[t]? = some v) : a.eval (.tmp t) = v := by
  simp [Act.eval, h]

theorem opd_rep {x' : Operand} {x : Opd} {d : D} (hx : opd G x' = some x) (he : EnvRel ρ w lo env a.tmps) (hg : GlOk pn G ρ w) (h : x.ev env = some d) : Rep ρ w d (a.eval x') := by
  cases x' with
  | tmp t =>
    simp only [opd, Option.some.injEq] at hx; subst hx
    simp only [Opd.ev] at h
    split at h
    · cases h
    · cases h
    · rename_i r h1 h2
      have hs := he.slot t d h
      cases d with
      | lv _ => exact absurd h (h1 _)
      | lptr _ _ => exact absurd h (h2 _ _)
      | _ =>
        simp only [SlotRel] at hs
        obtain ⟨v, hv, hr⟩ := hs
        rw [eval_tmp hv]; exact hr
  | const v =>
    simp only [opd, Option.map_eq_some_iff] at hx
    obtain ⟨d', h1, rfl⟩ := hx
    simp only [Opd.ev, Option.some.injEq] at h; subst h
    exact ofV_rep v _ h1
  | global g =>
    simp only [opd, Option.map_eq_some_iff] at hx
    obtain ⟨d', h1, rfl⟩ := hx
    simp only [Opd.ev, Option.some.injEq] at h; subst h
    exact hg.1 g d' h1
  | func f =>
    simp only [opd, Option.some.injEq] at hx; subst hx
    simp only [Opd.ev, Option.some.injEq] at h; subst h
    simp only [Rep, Act.eval]
    exact ⟨#[], #[], rfl, by simp [RepL], by simp [RepL]⟩

/-- What an operation gives: a datum, or a pointer into a variable of the frame's own. -/
def ResRel (ρ : Gh) (w : World) (env : Env) (tmps : Array Value) (d : D) (v : Value) : Prop :=
  match d with
  | .lptr a c => ∀ x, env.get a = some (.lv x) → ∃ b, tmps[a]? = some (.pointer (some ⟨b, 0, none⟩)) ∧ v = .pointer (some ⟨b, c, none⟩)
  | .lv _ => False
  | d => Rep ρ w d v

theorem ResRel.of_rep {tmps : Array Value} {d : D} {v : Value} (h : Rep ρ w d v) : ResRel ρ w env tmps d v := by
  cases d <;> first | exact h | (simp only [Rep] at h)

theorem opd_rel {x' : Operand} {x : Opd} {d : D} (hx : opd G x' = some x) (he : EnvRel ρ w lo env a.tmps) (hg : GlOk pn G ρ w) (h : x.evp env = some d) : ResRel ρ w env a.tmps d (a.eval x') := by
  by_cases h' : x.ev env = some d
  · exact .of_rep (opd_rep hx he hg h')
  · cases x' with
    | tmp t =>
      simp only [opd, Option.some.injEq] at hx; subst hx
      simp only [Opd.evp] at h
      cases hd : env.get t with
      | none => simp [hd] at h
      | some e =>
        have hs := he.slot t e hd
        cases e <;> simp only [hd, Option.some.injEq] at h <;> subst h <;> (try (simp [Opd.ev, hd] at h'))
        case lv y =>
          simp only [SlotRel] at hs
          obtain ⟨b, v, el, h1, _⟩ := hs
          simp only [ResRel]
          exact fun _ _ => ⟨b, h1, eval_tmp h1⟩
        case lptr u c =>
          simp only [SlotRel] at hs
          simp only [ResRel]
          intro y hy
          obtain ⟨b, h1, h2⟩ := hs y hy
          exact ⟨b, h1, eval_tmp h2⟩
    | const v =>
      simp only [opd, Option.map_eq_some_iff] at hx
      obtain ⟨d', h1, rfl⟩ := hx
      exact absurd h (by simpa [Opd.ev, Opd.evp] using h')
    | global g =>
      simp only [opd, Option.map_eq_some_iff] at hx
      obtain ⟨d', h1, rfl⟩ := hx
      exact absurd h (by simpa [Opd.ev, Opd.evp] using h')
    | func f =>
      simp only [opd, Option.some.injEq] at hx; subst hx
      exact absurd h (by simpa [Opd.ev, Opd.evp] using h')

theorem mapM_cons {α β : Type} (f : α → Option β) (x : α) (l : List α) (r : List β) : (x :: l).mapM f = some r → ∃ y t, f x = some y ∧ l.mapM f = some t ∧ r = y :: t := by
  intro h
  simp only [List.mapM_cons, Option.bind_eq_bind, Option.bind_eq_some_iff, Option.pure_def, Option.some.injEq] at h
  obtain ⟨y, h1, t, h2, h3⟩ := h
  exact ⟨y, t, h1, h2, h3.symm⟩
theorem mapM_nil {α β : Type} (f : α → Option β) (r : List β) : ([] : List α).mapM f = some r → r = [] := by
  intro h; simpa using h.symm

theorem opds_rep (he : EnvRel ρ w lo env a.tmps) (hg : GlOk pn G ρ w) : ∀ (l : List Operand) (xs : List Opd) (ds : List D), l.mapM (opd G) = some xs → evs env xs = some ds → RepL ρ w ds (l.map a.eval)
  | [], xs, ds, h, h' => by
    have := mapM_nil _ _ h; subst this
    simp only [evs, Option.some.injEq] at h'; subst h'
    simp [RepL]
  | x :: l, xs, ds, h, h' => by
    obtain ⟨y, t, h1, h2, rfl⟩ := mapM_cons _ _ _ _ h
    simp only [evs] at h'
    split at h'
    · rename_i d hd
      split at h'
      · rename_i r hr
        simp only [Option.some.injEq] at h'; subst h'
        simp only [List.map_cons, RepL]
        exact ⟨_, _, rfl, opd_rep h1 he hg hd, opds_rep he hg l t r h2 hr⟩
      · cases h'
    · cases h'

theorem opds_rep' (he : EnvRel ρ w lo env a.tmps) (hg : GlOk pn G ρ w) {l : Array Operand} {xs : List Opd} {ds : List D} (h : opds G l = some xs) (h' : evs env xs = some ds) : RepL ρ w ds (l.map a.eval).toList := by
  have := opds_rep he hg l.toList xs ds h h'
  simpa using this

end Go.Ab
