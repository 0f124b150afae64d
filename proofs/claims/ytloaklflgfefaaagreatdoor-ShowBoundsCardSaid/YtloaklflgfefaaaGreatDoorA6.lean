/- Arithmetic, comparing: what the model's operators give on values that belong to data. -/
import Derived.Test.YtloaklflgfefaaaGreatDoorA3
import Derived.Deep.MidRow
import Derived.Laws.StructEq
import Derived.Laws.Concat
import Derived.Laws.Strings
namespace Go.Ab
open Go
set_option linter.unusedSectionVars false
set_option linter.unusedSimpArgs false
set_option linter.unusedVariables false
variable [Vals]
variable {ρ : Gh} {w : World}

theorem RepL.length : ∀ {l : List D} {vs : List Value}, RepL ρ w l vs → l.length = vs.length
  | [], _, h => by simp only [RepL] at h; subst h; rfl
  | d :: l, _, h => by
    simp only [RepL] at h
    obtain ⟨v, r, rfl, _, h2⟩ := h
    simp [RepL.length h2]
theorem RepL.append : ∀ {l l' : List D} {vs vs' : List Value}, RepL ρ w l vs → RepL ρ w l' vs' → RepL ρ w (l ++ l') (vs ++ vs')
  | [], _, _, _, h, h' => by simp only [RepL] at h; subst h; simpa using h'
  | d :: l, _, _, _, h, h' => by
    simp only [RepL] at h
    obtain ⟨v, r, rfl, h1, h2⟩ := h
    simp only [List.cons_append, RepL]
    exact ⟨v, _, rfl, h1, RepL.append h2 h'⟩
theorem RepL.take : ∀ {l : List D} {vs : List Value} (n : Nat), RepL ρ w l vs → RepL ρ w (l.take n) (vs.take n)
  | [], _, n, h => by simp only [RepL] at h; subst h; simp [RepL]
  | d :: l, _, 0, h => by simp [RepL]
  | d :: l, _, n + 1, h => by
    simp only [RepL] at h
    obtain ⟨v, r, rfl, h1, h2⟩ := h
    simp only [List.take_succ_cons, RepL]
    exact ⟨v, _, rfl, h1, RepL.take n h2⟩
theorem RepL.drop : ∀ {l : List D} {vs : List Value} (n : Nat), RepL ρ w l vs → RepL ρ w (l.drop n) (vs.drop n)
  | [], _, n, h => by simp only [RepL] at h; subst h; simp [RepL]
  | d :: l, _, 0, h => by simpa using h
  | d :: l, _, n + 1, h => by
    simp only [RepL] at h
    obtain ⟨v, r, rfl, h1, h2⟩ := h
    simpa using RepL.drop n h2
theorem RepL.get : ∀ {l : List D} {vs : List Value} {i : Nat} {d : D}, RepL ρ w l vs → l[i]? = some d → ∃ v, vs[i]? = some v ∧ Rep ρ w d v
  | [], _, i, d, h, hi => by simp at hi
  | x :: l, _, 0, d, h, hi => by
    simp only [RepL] at h
    obtain ⟨v, r, rfl, h1, h2⟩ := h
    simp at hi; subst hi
    exact ⟨v, by simp, h1⟩
  | x :: l, _, i + 1, d, h, hi => by
    simp only [RepL] at h
    obtain ⟨v, r, rfl, h1, h2⟩ := h
    simp at hi
    simpa using RepL.get h2 hi
theorem RepL.one {d : D} {v : Value} (h : Rep ρ w d v) : RepL ρ w [d] [v] := by simp only [RepL]; exact ⟨v, [], rfl, h, rfl⟩
theorem RepL.replicate {d : D} {v : Value} (h : Rep ρ w d v) : ∀ n, RepL ρ w (List.replicate n d) (List.replicate n v)
  | 0 => by simp [RepL]
  | n + 1 => by
    simp only [List.replicate_succ, RepL]
    exact ⟨v, _, rfl, h, RepL.replicate h n⟩

theorem Gh.at_any {ρ : Gh} {o : Nat} {dd : Prop} {Q : Nat → Nat → Prop} (h : ρ.at o dd Q) (hq : ∀ sz b, Q sz b → dd) : dd := by
  unfold Gh.at at h
  split at h
  · exact h.elim
  · exact h
  · obtain ⟨b, _, h2⟩ := h; exact hq _ b h2

theorem Rep.sc {d : D} {v : Value} (h : Rep ρ w d v) (hs : d.sc = true) : v.oneCell' = true ∧ v.cells = #[v] := by
  cases d <;> simp only [D.sc] at hs <;> (try cases hs) <;> simp only [Rep] at h
  case bool => subst h; exact ⟨rfl, rfl⟩
  case int => subst h; exact ⟨rfl, rfl⟩
  case str => subst h; exact ⟨rfl, rfl⟩
  case nilp => subst h; exact ⟨rfl, rfl⟩
  case ptr o c => obtain ⟨a, rfl⟩ := Gh.at_any h fun _ _ q => ⟨_, q⟩; exact ⟨rfl, rfl⟩
  case eptr => obtain ⟨a, rfl⟩ := Gh.at_any h fun _ _ q => ⟨_, q.2.2.2⟩; exact ⟨rfl, rfl⟩
  case vptr => obtain ⟨_, _, _, _, _, _, _, rfl⟩ := h; exact ⟨rfl, rfl⟩
  case vs => rcases h with ⟨_, _, rfl⟩ | ⟨_, _, _, rfl, _⟩ <;> exact ⟨rfl, rfl⟩
  case sl => obtain ⟨a, c, rfl⟩ := Gh.at_any h fun _ _ ⟨_, _, _, _, _, q, _⟩ => ⟨_, _, q⟩; exact ⟨rfl, rfl⟩
  case nilm => subst h; exact ⟨rfl, rfl⟩
  case mp => obtain ⟨b, rfl⟩ := Gh.at_any h fun _ _ q => ⟨_, q⟩; exact ⟨rfl, rfl⟩
  case fn => obtain ⟨_, _, rfl, _⟩ := h; exact ⟨rfl, rfl⟩
  case nilf => subst h; exact ⟨rfl, rfl⟩
  case ifc => obtain ⟨_, rfl, _⟩ := h; exact ⟨rfl, rfl⟩
  case nili => subst h; exact ⟨rfl, rfl⟩
  case sint => obtain ⟨rfl, _⟩ := h; exact ⟨rfl, rfl⟩
  case sstr => obtain ⟨rfl, _⟩ := h; exact ⟨rfl, rfl⟩
  case sbool => subst h; exact ⟨rfl, rfl⟩
  case yl => obtain ⟨_, rfl⟩ := h; exact ⟨rfl, rfl⟩

theorem RepL.oneCell : ∀ {l : List D} {vs : List Value}, RepL ρ w l vs → l.all D.sc = true → ∀ u ∈ vs, u.oneCell' = true
  | [], _, h, _, u, hu => by simp only [RepL] at h; subst h; simp at hu
  | d :: l, _, h, hs, u, hu => by
    simp only [RepL] at h
    obtain ⟨v, r, rfl, h1, h2⟩ := h
    simp only [List.all_cons, Bool.and_eq_true] at hs
    rcases List.mem_cons.1 hu with rfl | hu
    · exact (h1.sc hs.1).1
    · exact RepL.oneCell h2 hs.2 u hu

theorem D.st_flat {d : D} (h : d.st = true) : d.flat.all D.sc = true := by
  cases d <;> simp_all [D.st, D.flat, D.sc]
theorem D.sc_st {d : D} (h : d.sc = true) : d.st = true := by
  cases d <;> simp_all [D.st, D.sc]
theorem D.st_cases {d : D} (h : d.st = true) : (∃ l, d = .agg l ∧ l.all D.sc = true) ∨ d.sc = true := by
  cases d <;> simp_all [D.st, D.sc]

/-- The cells of a value are its datum's. -/
theorem Rep.flat {d : D} {v : Value} (h : Rep ρ w d v) (hs : d.st = true) : RepL ρ w d.flat v.cells.toList ∧ ∀ u ∈ v.cells.toList, u.oneCell' = true := by
  rcases D.st_cases hs with ⟨l, rfl, hl⟩ | hc
  · simp only [Rep] at h
    obtain ⟨vs, rfl, h1, _⟩ := h
    exact ⟨by simpa [D.flat, Value.cells] using h1, by simpa [Value.cells] using RepL.oneCell h1 hl⟩
  · obtain ⟨h1, h2⟩ := h.sc hc
    rw [h2]
    refine ⟨?_, by simpa using h1⟩
    have : d.flat = [d] := by cases d <;> simp_all [D.flat, D.sc]
    rw [this]
    exact RepL.one h
theorem Rep.size {d : D} {v : Value} (h : Rep ρ w d v) (hs : d.st = true) : v.cells.size = d.flat.length := by
  have := (h.flat hs).1.length
  simpa using this.symm

theorem Rep.agg {l : List D} {vs : List Value} (h : RepL ρ w l vs) (hs : l.all D.sc = true) : Rep ρ w (.agg l) (.agg vs.toArray) := by
  simp only [Rep]; exact ⟨_, rfl, by simpa using h, hs⟩

/-- A part of cells, as it is loaded. -/
theorem part_rep {cs : List D} {vs : List Value} {c : Nat} {sz : Option Nat} {d : D} (h : RepL ρ w cs vs) (hs : cs.all D.sc = true) (hp : part cs c sz = some d) :
    match sz with
    | some s => c + s ≤ vs.length ∧ Rep ρ w d (.agg ((vs.drop c).take s).toArray)
    | none => ∃ v, vs[c]? = some v ∧ Rep ρ w d v ∧ d.sc = true := by
  cases sz with
  | some s =>
    simp only [part] at hp
    split at hp
    · rename_i hb
      simp only [Option.some.injEq] at hp
      subst hp
      have hle := Nat.le_of_ble_eq_true hb
      rw [h.length] at hle
      refine ⟨hle, Rep.agg ((h.drop c).take s) ?_⟩
      exact List.all_eq_true.2 fun x hx => (List.all_eq_true.1 hs) x (List.mem_of_mem_drop (List.mem_of_mem_take hx))
    · cases hp
  | none =>
    simp only [part] at hp
    obtain ⟨v, h1, h2⟩ := h.get hp
    exact ⟨v, h1, h2, (List.all_eq_true.1 hs) d (List.mem_of_getElem? hp)⟩

theorem rangeAt_of_cells {w : World} {b x : Nat} {v : Value} (h : CellsAt w b x v) : w.rangeAt b x v.cells.toList := fun j u hj => by
  have hlt : j < v.cells.size := by simpa using (List.getElem?_eq_some_iff.1 hj).1
  rw [h j hlt]; simpa using hj
theorem cells_of_rangeAt {w : World} {b x : Nat} {v : Value} (h : w.rangeAt b x v.cells.toList) : CellsAt w b x v := fun j hj => by
  rw [h j v.cells[j] (by simp [hj])]; simp [hj]
theorem rangeAt_part {w : World} {b x : Nat} {vs : List Value} (h : w.rangeAt b x vs) (c s : Nat) : w.rangeAt b (x + c) ((vs.drop c).take s) := fun j u hj => by
  rw [List.getElem?_take] at hj
  split at hj
  · rw [List.getElem?_drop] at hj
    have := h (c + j) u hj
    rwa [show x + c + j = x + (c + j) by omega]
  · cases hj
theorem rangeAt_of_block {w : World} {b : Nat} {cs : Array Value} {e : TypeId} {f : Nat × Nat} (h : w.heap[b]? = some (.cells cs e f)) : w.rangeAt b 0 cs.toList := fun j u hj => by
  have hj' : cs[j]? = some u := by simpa using hj
  simp [World.cell?, h, hj']

/-- A variable of a type is read out of a range of cells. -/
theorem run_load {P : Program} {w : World} {b x c : Nat} {vs : List Value} {t : TypeId} {sz : Option Nat} (hr : w.rangeAt b x vs) (hsh : shapeB P t = some sz) :
    match sz with
    | some s => c + s ≤ vs.length → (Instr.loadAt t (.pointer (some ⟨b, x + c, none⟩))).run P w = .ok (.agg ((vs.drop c).take s).toArray) w
    | none => ∀ v, vs[c]? = some v → (Instr.loadAt t (.pointer (some ⟨b, x + c, none⟩))).run P w = .ok v w := by
  have hi : ∀ s, sizeB P t = some s → (P.info? t).map (·.size) = some s := fun s h => h
  cases hu : P.underlying t with
  | none => simp [shapeB, isAggB, hu] at hsh
  | some d =>
    cases hz : sizeB P t with
    | none => simp [shapeB, hz] at hsh
    | some s =>
      by_cases hd : d.isRow = true
      · have ha : isAggB P t = some true := by cases d <;> simp_all [isAggB, TypeDesc.isRow]
        simp only [shapeB, ha, hz, Option.some.injEq] at hsh
        subst hsh
        intro hle
        have hlen : ((vs.drop c).take s).length = s := by simp; omega
        exact run_loadAt_mid w b (x + c) t _ d (rangeAt_part hr c s) hu hd (by rw [hlen]; exact hi s hz)
      · have ha : isAggB P t = some false := by cases d <;> simp_all [isAggB, TypeDesc.isRow]
        have h1 : sz = none := by
          simp only [shapeB, ha, hz] at hsh
          split at hsh
          · simp_all
          · simpa using hsh.symm
          · cases hsh
        subst h1
        intro v hv
        have hd : d.isRow = false := by simpa using hd
        have hagg : (isAgg t).run P w = .ok false w := by
          unfold isAgg
          rw [Sem.run_bind, run_underlying hu w]
          cases d <;> simp_all [TypeDesc.isRow]
        have hc := hr c v hv
        simp [Instr.loadAt, Instr.sureAddr, loadVar, hagg, hc]
end Go.Ab

namespace Go.Ab
open Go
set_option linter.unusedSectionVars false
set_option linter.unusedSimpArgs false
set_option linter.unusedVariables false
variable [Vals]
variable {ρ : Gh} {w : World} {P : Program} {G : Gl} {X : Exts} {A : Adv}

/-- What is known beside and stays so. -/
structure Pins where
  J : Gh → World → Prop
  mono : ∀ {ρ ρ' : Gh} {w w' : World}, Kp ρ w ρ' w' → J ρ w → J ρ' w'
def Pins.none : Pins := ⟨fun _ _ => True, fun _ _ => trivial⟩
/-- A range over a function that is under way: whose yield, its record's block, the record as it began; what a round sees. -/
def PinOk (k l : Nat) (r : Go.Loop) (e : Env) (ρ : Gh) (w : World) : Prop := ρ.kd k = .dead ∧ ρ.lp k = (l, r) ∧ ∀ t d, e.get t = some d → ∃ v, r.tmps[t]? = some v ∧ Rep ρ w d v
theorem PinOk.mono {k l : Nat} {r : Go.Loop} {e : Env} {ρ ρ' : Gh} {w w' : World} (h : Kp ρ w ρ' w') (p : PinOk k l r e ρ w) : PinOk k l r e ρ' w' := by
  obtain ⟨k1, k2, k3⟩ := p
  refine ⟨(h.dead _ k1).1, (h.dead _ k1).2.trans k2, fun t d hd => ?_⟩
  obtain ⟨v, h1, h2⟩ := k3 t d hd
  exact ⟨v, h1, h2.mono h⟩
def Pins.loop (J : Pins) (k l : Nat) (r : Go.Loop) (e : Env) : Pins := ⟨fun ρ w => PinOk k l r e ρ w ∧ J.J ρ w, fun h p => ⟨p.1.mono h, J.mono h p.2⟩⟩
def GlOk (pn : Pins) (G : Gl) (ρ : Gh) (w : World) : Prop := (∀ g d, G g = some d → Rep ρ w (.vptr d 0) (.pointer (some ⟨g, 0, none⟩))) ∧ pn.J ρ w
variable {pn : Pins}
theorem GlOk.mono {ρ' : Gh} {w' : World} (h : Kp ρ w ρ' w') (g : GlOk pn G ρ w) : GlOk pn G ρ' w' := ⟨fun x d hx => (g.1 x d hx).mono h, pn.mono h g.2⟩

mutual
theorem ofV_rep : ∀ (v : Value) (d : D), ofV v = some d → Rep ρ w d v
  | .bool b, d, h => by simp only [ofV, Option.some.injEq] at h; subst h; simp [Rep]
  | .int k n, d, h => by simp only [ofV, Option.some.injEq] at h; subst h; simp [Rep]
  | .string s, d, h => by simp only [ofV, Option.some.injEq] at h; subst h; simp [Rep]
  | .pointer none, d, h => by simp only [ofV, Option.some.injEq] at h; subst h; simp [Rep]
  | .pointer (some _), d, h => by simp [ofV] at h
  | .slice none 0 0, d, h => by simp only [ofV, Option.some.injEq] at h; subst h; simp [Rep]
  | .slice (some _) _ _, d, h => by simp [ofV] at h
  | .slice none (_ + 1) _, d, h => by simp [ofV] at h
  | .slice none 0 (_ + 1), d, h => by simp [ofV] at h
  | .map none, d, h => by simp only [ofV, Option.some.injEq] at h; subst h; simp [Rep]
  | .map (some _), d, h => by simp [ofV] at h
  | .func f a b, d, h => by
    simp only [ofV] at h
    split at h
    · rename_i x y hx hy
      simp only [Option.some.injEq] at h; subst h
      simp only [Rep]
      exact ⟨a, b, rfl, ofVs_rep a.toList x hx, ofVs_rep b.toList y hy⟩
    · cases h
  | .nilFunc, d, h => by simp only [ofV, Option.some.injEq] at h; subst h; simp [Rep]
  | .nilIface, d, h => by simp only [ofV, Option.some.injEq] at h; subst h; simp [Rep]
  | .iface t v, d, h => by
    simp only [ofV] at h
    split at h
    · rename_i x hx
      simp only [Option.some.injEq] at h; subst h
      simp only [Rep]
      exact ⟨v, rfl, ofV_rep v x hx⟩
    · cases h
  | .agg cs, d, h => by
    simp only [ofV] at h
    split at h
    · rename_i l hl
      split at h
      · rename_i hs
        simp only [Option.some.injEq] at h; subst h
        simp only [Rep]
        exact ⟨cs, rfl, ofVs_rep cs.toList l hl, hs⟩
      · cases h
    · cases h
  | .tuple cs, d, h => by
    simp only [ofV] at h
    split at h
    · rename_i l hl
      simp only [Option.some.injEq] at h; subst h
      simp only [Rep]
      exact ⟨cs, rfl, ofVs_rep cs.toList l hl⟩
    · cases h
  | .float _ _, d, h => by simp [ofV] at h
  | .complex _ _ _, d, h => by simp [ofV] at h
  | .chan _, d, h => by simp [ofV] at h
theorem ofVs_rep : ∀ (vs : List Value) (l : List D), ofVs vs = some l → RepL ρ w l vs
  | [], l, h => by simp only [ofVs, Option.some.injEq] at h; subst h; simp [RepL]
  | v :: r, l, h => by
    simp only [ofVs] at h
    split at h
    · rename_i d t hd ht
      simp only [Option.some.injEq] at h; subst h
      simp only [RepL]
      exact ⟨v, r, rfl, ofV_rep v d hd, ofVs_rep r t ht⟩
    · cases h
end

variable {lo : Nat} {env : Env} {a : Act}

theorem eval_tmp {t : Nat} {v : Value} (h : a.tmps[t]? = some v) : a.eval (.tmp t) = v := by
  simp [Act.eval, h]

theorem opd_rep {x' : Operand} {x : Opd} {d : D} (hx : opd G x' = some x) (he : EnvRel ρ w lo env a.tmps) (hg : GlOk pn G ρ w) (h : x.ev env = some d) : Rep ρ w d (a.eval x') := by
  cases x' with
  | tmp t =>
    simp only [opd, Option.some.injEq] at hx; subst hx
    simp only [Opd.ev] at h
    split at h
    · cases h
    · cases h
    · rename_i r h1 h2
      have hs := he.slot t d h
      cases d with
      | lv _ => exact absurd h (h1 _)
      | lptr _ _ => exact absurd h (h2 _ _)
      | _ =>
        simp only [SlotRel] at hs
        obtain ⟨v, hv, hr⟩ := hs
        rw [eval_tmp hv]; exact hr
  | const v =>
    simp only [opd, Option.map_eq_some_iff] at hx
    obtain ⟨d', h1, rfl⟩ := hx
    simp only [Opd.ev, Option.some.injEq] at h; subst h
    exact ofV_rep v _ h1
  | global g =>
    simp only [opd, Option.map_eq_some_iff] at hx
    obtain ⟨d', h1, rfl⟩ := hx
    simp only [Opd.ev, Option.some.injEq] at h; subst h
    exact hg.1 g d' h1
  | func f =>
    simp only [opd, Option.some.injEq] at hx; subst hx
    simp only [Opd.ev, Option.some.injEq] at h; subst h
    simp only [Rep, Act.eval]
    exact ⟨#[], #[], rfl, by simp [RepL], by simp [RepL]⟩

/-- What an operation gives: a datum, or a pointer into a variable of the frame's own. -/
def ResRel (ρ : Gh) (w : World) (env : Env) (tmps : Array Value) (d : D) (v : Value) : Prop :=
  match d with
  | .lptr a c => ∀ x, env.get a = some (.lv x) → ∃ b, tmps[a]? = some (.pointer (some ⟨b, 0, none⟩)) ∧ v = .pointer (some ⟨b, c, none⟩)
  | .lv _ => False
  | d => Rep ρ w d v

theorem ResRel.of_rep {tmps : Array Value} {d : D} {v : Value} (h : Rep ρ w d v) : ResRel ρ w env tmps d v := by
  cases d <;> first | exact h | (simp only [Rep] at h)

theorem opd_rel {x' : Operand} {x : Opd} {d : D} (hx : opd G x' = some x) (he : EnvRel ρ w lo env a.tmps) (hg : GlOk pn G ρ w) (h : x.evp env = some d) : ResRel ρ w env a.tmps d (a.eval x') := by
  by_cases h' : x.ev env = some d
  · exact .of_rep (opd_rep hx he hg h')
  · cases x' with
    | tmp t =>
      simp only [opd, Option.some.injEq] at hx; subst hx
      simp only [Opd.evp] at h
      cases hd : env.get t with
      | none => simp [hd] at h
      | some e =>
        have hs := he.slot t e hd
        cases e <;> simp only [hd, Option.some.injEq] at h <;> subst h <;> (try (simp [Opd.ev, hd] at h'))
        case lv y =>
          simp only [SlotRel] at hs
          obtain ⟨b, v, el, h1, _⟩ := hs
          simp only [ResRel]
          exact fun _ _ => ⟨b, h1, eval_tmp h1⟩
        case lptr u c =>
          simp only [SlotRel] at hs
          simp only [ResRel]
          intro y hy
          obtain ⟨b, h1, h2⟩ := hs y hy
          exact ⟨b, h1, eval_tmp h2⟩
    | const v =>
      simp only [opd, Option.map_eq_some_iff] at hx
      obtain ⟨d', h1, rfl⟩ := hx
      exact absurd h (by simpa [Opd.ev, Opd.evp] using h')
    | global g =>
      simp only [opd, Option.map_eq_some_iff] at hx
      obtain ⟨d', h1, rfl⟩ := hx
      exact absurd h (by simpa [Opd.ev, Opd.evp] using h')
    | func f =>
      simp only [opd, Option.some.injEq] at hx; subst hx
      exact absurd h (by simpa [Opd.ev, Opd.evp] using h')

theorem mapM_cons {α β : Type} (f : α → Option β) (x : α) (l : List α) (r : List β) : (x :: l).mapM f = some r → ∃ y t, f x = some y ∧ l.mapM f = some t ∧ r = y :: t := by
  intro h
  simp only [List.mapM_cons, Option.bind_eq_bind, Option.bind_eq_some_iff, Option.pure_def, Option.some.injEq] at h
  obtain ⟨y, h1, t, h2, h3⟩ := h
  exact ⟨y, t, h1, h2, h3.symm⟩
theorem mapM_nil {α β : Type} (f : α → Option β) (r : List β) : ([] : List α).mapM f = some r → r = [] := by
  intro h; simpa using h.symm

theorem opds_rep (he : EnvRel ρ w lo env a.tmps) (hg : GlOk pn G ρ w) : ∀ (l : List Operand) (xs : List Opd) (ds : List D), l.mapM (opd G) = some xs → evs env xs = some ds → RepL ρ w ds (l.map a.eval)
  | [], xs, ds, h, h' => by
    have := mapM_nil _ _ h; subst this
    simp only [evs, Option.some.injEq] at h'; subst h'
    simp [RepL]
  | x :: l, xs, ds, h, h' => by
    obtain ⟨y, t, h1, h2, rfl⟩ := mapM_cons _ _ _ _ h
    simp only [evs] at h'
    split at h'
    · rename_i d hd
      split at h'
      · rename_i r hr
        simp only [Option.some.injEq] at h'; subst h'
        simp only [List.map_cons, RepL]
        exact ⟨_, _, rfl, opd_rep h1 he hg hd, opds_rep he hg l t r h2 hr⟩
      · cases h'
    · cases h'

theorem opds_rep' (he : EnvRel ρ w lo env a.tmps) (hg : GlOk pn G ρ w) {l : Array Operand} {xs : List Opd} {ds : List D} (h : opds G l = some xs) (h' : evs env xs = some ds) : RepL ρ w ds (l.map a.eval).toList := by
  have := opds_rep he hg l.toList xs ds h h'
  simpa using this

end Go.Ab

namespace Go.Ab
open Go
set_option linter.unusedSectionVars false
set_option linter.unusedSimpArgs false
set_option linter.unusedVariables false
variable [Vals]
variable {ρ : Gh} {w : World} {P : Program}

theorem strLess_eq : ∀ (a b : List UInt8), Op.bytesLess a b = strLess a b
  | _, [] => by simp [Op.bytesLess, strLess]
  | [], _ :: _ => by simp [Op.bytesLess, strLess]
  | a :: x, b :: y => by simp [Op.bytesLess, strLess, strLess_eq x y]

theorem guard_int (op : BinOp) (t : TypeId) (px py : Operand) (k j : IntKind) (a b : Int) : (eqGuard op t px py (.int k a) (.int j b)).run P w = .ok () w := by
  cases op <;> simp [eqGuard]
theorem guard_str (op : BinOp) (t : TypeId) (px py : Operand) (a b : ByteArray) : (eqGuard op t px py (.string a) (.string b)).run P w = .ok () w := by
  cases op <;> simp [eqGuard]

theorem binInt_ok {op : BinOp} {k : IntKind} {a b : Int} {d : D} (h : binInt op k a b = some d) (t : TypeId) : ∃ r, (binOp op t (.int k a) (.int k b)).run P w = .ok r w ∧ Rep ρ w d r := by
  cases op <;> simp only [binInt, Option.some.injEq] at h
  case add => subst h; exact ⟨_, by simp [binOp, Op.intArith]; rfl, by simp [Rep]⟩
  case sub => subst h; exact ⟨_, by simp [binOp, Op.intArith]; rfl, by simp [Rep]⟩
  case mul => subst h; exact ⟨_, by simp [binOp, Op.intArith]; rfl, by simp [Rep]⟩
  case quo =>
    split at h
    · cases h
    · rename_i hb
      simp only [Option.some.injEq] at h; subst h
      exact ⟨_, by simp [binOp, Op.intDiv, hb]; rfl, by simp [Rep]⟩
  case rem =>
    split at h
    · cases h
    · rename_i hb
      simp only [Option.some.injEq] at h; subst h
      exact ⟨_, by simp [binOp, Op.intDiv, hb]; rfl, by simp [Rep]⟩
  case and => subst h; exact ⟨_, by simp only [binOp, ne_eq, not_true_eq_false, if_false, Op.intBits, Sem.run_pure]; rfl, by simp [Rep]⟩
  case or => subst h; exact ⟨_, by simp only [binOp, ne_eq, not_true_eq_false, if_false, Op.intBits, Sem.run_pure]; rfl, by simp [Rep]⟩
  case xor => subst h; exact ⟨_, by simp only [binOp, ne_eq, not_true_eq_false, if_false, Op.intBits, Sem.run_pure]; rfl, by simp [Rep]⟩
  case andNot => subst h; exact ⟨_, by simp only [binOp, ne_eq, not_true_eq_false, if_false, Op.intBits, Sem.run_pure]; rfl, by simp [Rep]⟩
  case eql => subst h; exact ⟨_, by simp [binOp, Op.intCmp]; rfl, by simp [Rep]⟩
  case neq => subst h; exact ⟨_, by simp [binOp, Op.intCmp]; rfl, by simp [Rep]⟩
  case lss => subst h; exact ⟨_, by simp [binOp, Op.intCmp]; rfl, by simp [Rep]⟩
  case leq => subst h; exact ⟨_, by simp [binOp, Op.intCmp]; rfl, by simp [Rep]⟩
  case gtr => subst h; exact ⟨_, by simp [binOp, Op.intCmp]; rfl, by simp [Rep]⟩
  case geq => subst h; exact ⟨_, by simp [binOp, Op.intCmp]; rfl, by simp [Rep]⟩
  all_goals cases h

theorem binStr_ok {op : BinOp} {a b : List UInt8} {d : D} (h : binStr op a b = some d) (t : TypeId) : ∃ r, (binOp op t (.string ⟨⟨a⟩⟩) (.string ⟨⟨b⟩⟩)).run P w = .ok r w ∧ Rep ρ w d r := by
  have ha : (⟨⟨a⟩⟩ : ByteArray).toList = a := ByteArray.toList_mk a
  have hb : (⟨⟨b⟩⟩ : ByteArray).toList = b := ByteArray.toList_mk b
  cases op <;> simp only [binStr, Option.some.injEq] at h
  case add =>
    split at h
    · rename_i hl
      simp only [Option.some.injEq] at h; subst h
      have hle := Nat.le_of_ble_eq_true hl
      refine ⟨.string (⟨⟨a⟩⟩ ++ ⟨⟨b⟩⟩), ?_, ?_⟩
      · have := run_string_add_sum (P := P) (w := w) ⟨⟨a⟩⟩ ⟨⟨b⟩⟩ (by simp only [ByteArray.size_mk', List.size_toArray]; omega)
        simpa [binOp] using this
      · simp only [Rep]
        exact congrArg Value.string (ByteArray.mk_append_mk a b)
    · cases h
  case eql => subst h; exact ⟨_, by simp [binOp, Op.stringOp, ha, hb]; rfl, by simp [Rep]⟩
  case neq => subst h; exact ⟨_, by simp [binOp, Op.stringOp, ha, hb]; rfl, by simp [Rep]⟩
  case lss => subst h; exact ⟨_, by simp only [binOp, Op.stringOp, ha, hb, strLess_eq, Sem.run_pure]; rfl, by simp [Rep]⟩
  case leq => subst h; exact ⟨_, by simp only [binOp, Op.stringOp, ha, hb, strLess_eq, Sem.run_pure]; rfl, by simp [Rep]⟩
  case gtr => subst h; exact ⟨_, by simp only [binOp, Op.stringOp, ha, hb, strLess_eq, Sem.run_pure]; rfl, by simp [Rep]⟩
  case geq => subst h; exact ⟨_, by simp only [binOp, Op.stringOp, ha, hb, strLess_eq, Sem.run_pure]; rfl, by simp [Rep]⟩
  all_goals cases h

theorem outI_ne {lo hi c n : Int} (h : outI lo hi c = true) (h1 : lo ≤ n) (h2 : n ≤ hi) : (n == c) = false ∧ (c == n) = false := by
  simp only [outI, Bool.or_eq_true, decide_eq_true_eq] at h
  have : n ≠ c := by omega
  exact ⟨by simpa using this, by simpa using fun e => this e.symm⟩
theorem outS_ne {ex : List (List UInt8)} {lo hi : Nat} {c n : List UInt8} (h : outS ex lo hi c = true) (h0 : n ∉ ex) (h1 : lo ≤ n.length) (h2 : n.length ≤ hi) : (n == c) = false ∧ (c == n) = false := by
  have : n ≠ c := by
    rintro rfl
    simp only [outS, Bool.or_eq_true, List.any_eq_true] at h
    rcases h with h | h | ⟨z, hz, h⟩
    · have := Nat.le_of_ble_eq_true h; omega
    · have := Nat.le_of_ble_eq_true h; omega
    · exact h0 ((eq_of_beq h) ▸ hz)
  exact ⟨by simpa using this, by simpa using fun e => this e.symm⟩
theorem someIfB_some {c b r : Bool} (h : someIfB c b = some r) : c = true ∧ r = b := by
  unfold someIfB at h
  split at h
  · simp only [Option.some.injEq] at h; exact ⟨rfl, h.symm⟩
  · cases h

theorem eqI_spec {x y : D} {r : Bool} {u v : Value} (h : eqI x y = some r) (hu : Rep ρ w x u) (hv : Rep ρ w y v) : ∃ k a b, u = .int k a ∧ v = .int k b ∧ r = (a == b) := by
  unfold eqI at h
  split at h
  · obtain ⟨h1, h2⟩ := someIfB_some h
    obtain rfl := of_decide_eq_true h1
    simp only [Rep] at hu hv
    exact ⟨_, _, _, hu, hv, h2⟩
  · obtain ⟨h1, h2⟩ := someIfB_some h
    simp only [Bool.and_eq_true] at h1
    obtain rfl := of_decide_eq_true h1.1
    simp only [Rep] at hu hv
    exact ⟨_, _, _, hu.1, hv, by rw [(outI_ne h1.2 hu.2.1 hu.2.2).1]; exact h2⟩
  · obtain ⟨h1, h2⟩ := someIfB_some h
    simp only [Bool.and_eq_true] at h1
    obtain rfl := of_decide_eq_true h1.1
    simp only [Rep] at hu hv
    exact ⟨_, _, _, hu, hv.1, by rw [(outI_ne h1.2 hv.2.1 hv.2.2).2]; exact h2⟩
  · obtain ⟨h1, h2⟩ := someIfB_some h
    simp only [Bool.and_eq_true] at h1
    obtain rfl := of_decide_eq_true h1.1
    obtain rfl := of_decide_eq_true h1.2
    simp only [Rep] at hu hv
    exact ⟨_, _, _, hu.1, hv.1, by simpa using h2⟩
  · cases h
theorem eqS_spec {x y : D} {r : Bool} {u v : Value} (h : eqS x y = some r) (hu : Rep ρ w x u) (hv : Rep ρ w y v) : ∃ a b : List UInt8, u = .string ⟨⟨a⟩⟩ ∧ v = .string ⟨⟨b⟩⟩ ∧ r = (a == b) := by
  unfold eqS at h
  split at h
  · simp only [Option.some.injEq] at h
    simp only [Rep] at hu hv
    exact ⟨_, _, hu, hv, h.symm⟩
  · obtain ⟨h1, h2⟩ := someIfB_some h
    simp only [Rep] at hu hv
    exact ⟨_, _, hu.1, hv, by rw [(outS_ne h1 hu.2.1 hu.2.2.1 hu.2.2.2).1]; exact h2⟩
  · obtain ⟨h1, h2⟩ := someIfB_some h
    simp only [Rep] at hu hv
    exact ⟨_, _, hu, hv.1, by rw [(outS_ne h1 hv.2.1 hv.2.2.1 hv.2.2.2).2]; exact h2⟩
  · obtain ⟨h1, h2⟩ := someIfB_some h
    obtain rfl := Nat.eq_of_beq_eq_true h1
    simp only [Rep] at hu hv
    exact ⟨_, _, hu.1, hv.1, by simpa using h2⟩
  · cases h
theorem eqB1_spec {x y : D} {r : Bool} {u v : Value} (h : eqB1 x y = some r) (hu : Rep ρ w x u) (hv : Rep ρ w y v) : ∃ a b, u = .bool a ∧ v = .bool b ∧ r = (a == b) := by
  unfold eqB1 at h
  split at h
  · simp only [Option.some.injEq] at h
    simp only [Rep] at hu hv
    exact ⟨_, _, hu, hv, h.symm⟩
  · obtain ⟨h1, h2⟩ := someIfB_some h
    obtain rfl := Nat.eq_of_beq_eq_true h1
    simp only [Rep] at hu hv
    exact ⟨_, _, hu, hv, by simpa using h2⟩
  · cases h
theorem symLt_spec {x y d : D} {u v : Value} (h : symLt x y = some d) (hu : Rep ρ w x u) (hv : Rep ρ w y v) : ∃ k a b, u = .int k a ∧ v = .int k b ∧ d = .bool (decide (a < b)) := by
  unfold symLt at h
  split at h
  · split at h
    · rename_i hk
      obtain rfl := of_decide_eq_true hk
      simp only [Rep] at hu hv
      split at h
      · rename_i h1
        have := of_decide_eq_true h1
        simp only [Option.some.injEq] at h; subst h
        exact ⟨_, _, _, hu.1, hv, congrArg D.bool (decide_eq_true (by omega)).symm⟩
      · rename_i h1 _
        have := of_decide_eq_true h1
        simp only [Option.some.injEq] at h; subst h
        exact ⟨_, _, _, hu.1, hv, congrArg D.bool (decide_eq_false (by omega)).symm⟩
      · cases h
    · cases h
  · split at h
    · rename_i hk
      obtain rfl := of_decide_eq_true hk
      simp only [Rep] at hu hv
      split at h
      · rename_i h1
        have := of_decide_eq_true h1
        simp only [Option.some.injEq] at h; subst h
        exact ⟨_, _, _, hu, hv.1, congrArg D.bool (decide_eq_true (by omega)).symm⟩
      · rename_i h1 _
        have := of_decide_eq_true h1
        simp only [Option.some.injEq] at h; subst h
        exact ⟨_, _, _, hu, hv.1, congrArg D.bool (decide_eq_false (by omega)).symm⟩
      · cases h
    · cases h
  · cases h
theorem symEq_spec {x y d : D} {u v : Value} (h : symEq x y = some d) (hu : Rep ρ w x u) (hv : Rep ρ w y v) :
    (∃ k a b, u = .int k a ∧ v = .int k b ∧ d = .bool (a == b)) ∨ ∃ a b : List UInt8, u = .string ⟨⟨a⟩⟩ ∧ v = .string ⟨⟨b⟩⟩ ∧ d = .bool (a == b) := by
  unfold symEq at h
  split at h
  · rename_i r hr
    obtain ⟨k, a, b, h1, h2, rfl⟩ := eqI_spec hr hu hv
    simp only [Option.some.injEq] at h; subst h
    exact .inl ⟨k, a, b, h1, h2, rfl⟩
  · split at h
    · rename_i r hr
      obtain ⟨a, b, h1, h2, rfl⟩ := eqS_spec hr hu hv
      simp only [Option.some.injEq] at h; subst h
      exact .inr ⟨a, b, h1, h2, rfl⟩
    · cases h

theorem mkLin_val {m c : Int} : ∀ {a : Sym}, (mkLin m c a).val = m * a.val + c
  | .i _ => rfl
  | .len _ => rfl
  | .lin m' c' a => by simp only [mkLin, Sym.val, Int.mul_add, Int.mul_assoc, Int.add_assoc]
theorem wrap64 {n : Int} (h1 : -9223372036854775808 ≤ n) (h2 : n ≤ 9223372036854775807) : IntKind.wrap .i64 n = n := by
  simp only [IntKind.wrap, IntKind.signed, IntKind.bits, Bool.true_and, decide_eq_true_eq, ge_iff_le]
  rw [show ((2 : Int) ^ (64 - 1)) = 9223372036854775808 from rfl, show ((2 : Int) ^ 64) = 18446744073709551616 from rfl]
  split <;> omega
theorem symLin_spec {k : IntKind} {m c lo hi n : Int} {a : Sym} {d : D} (h : symLin k m c a lo hi = some d) (hn : n = m * a.val + c) (h1 : lo ≤ n) (h2 : n ≤ hi) : Rep ρ w d (.int k (k.wrap n)) := by
  unfold symLin at h
  split at h
  · rename_i hk hl hh
    have hk := of_decide_eq_true hk
    have hl := of_decide_eq_true hl
    have hh := of_decide_eq_true hh
    simp only [Option.some.injEq] at h; subst h
    subst hk
    simp only [Rep, mkLin_val]
    rw [wrap64 (by omega) (by omega), ← hn]
    exact ⟨rfl, h1, h2⟩
  · cases h
theorem symAdd_spec {x y d : D} {u v : Value} (h : symAdd x y = some d) (hu : Rep ρ w x u) (hv : Rep ρ w y v) : ∃ k a b, u = .int k a ∧ v = .int k b ∧ Rep ρ w d (.int k (k.wrap (a + b))) := by
  unfold symAdd at h
  split at h
  · split at h
    · rename_i hk
      obtain rfl := of_decide_eq_true hk
      simp only [Rep] at hu hv
      exact ⟨_, _, _, hu.1, hv, symLin_spec h (by omega) (by omega) (by omega)⟩
    · cases h
  · split at h
    · rename_i hk
      obtain rfl := of_decide_eq_true hk
      simp only [Rep] at hu hv
      exact ⟨_, _, _, hu, hv.1, symLin_spec h (by omega) (by omega) (by omega)⟩
    · cases h
  · cases h
theorem symSub_spec {x y d : D} {u v : Value} (h : symSub x y = some d) (hu : Rep ρ w x u) (hv : Rep ρ w y v) : ∃ k a b, u = .int k a ∧ v = .int k b ∧ Rep ρ w d (.int k (k.wrap (a - b))) := by
  unfold symSub at h
  split at h
  · split at h
    · rename_i hk
      obtain rfl := of_decide_eq_true hk
      simp only [Rep] at hu hv
      exact ⟨_, _, _, hu.1, hv, symLin_spec h (by omega) (by omega) (by omega)⟩
    · cases h
  · split at h
    · rename_i hk
      obtain rfl := of_decide_eq_true hk
      simp only [Rep] at hu hv
      exact ⟨_, _, _, hu, hv.1, symLin_spec h (by omega) (by omega) (by omega)⟩
    · cases h
  · cases h
theorem add_run (t : TypeId) (k : IntKind) (a b : Int) : (binOp .add t (.int k a) (.int k b)).run P w = .ok (.int k (k.wrap (a + b))) w := by
  simp [binOp, Op.intArith]
theorem sub_run (t : TypeId) (k : IntKind) (a b : Int) : (binOp .sub t (.int k a) (.int k b)).run P w = .ok (.int k (k.wrap (a - b))) w := by
  simp [binOp, Op.intArith]

theorem bin_ok {op : BinOp} {x y d : D} {u v : Value} (hu : Rep ρ w x u) (hv : Rep ρ w y v) (h : binD op x y = some d) (t : TypeId) (px py : Operand) :
    ∃ r, (do eqGuard op t px py u v; binOp op t u v : Sem Value).run P w = .ok r w ∧ Rep ρ w d r := by
  unfold binD at h
  split at h
  · simp only [Rep] at hu hv; subst hu hv
    split at h
    · cases h
    · rename_i hb
      simp only [Option.some.injEq] at h; subst h
      exact ⟨_, by simp only [Sem.run_bind, guard_int, Result.andThen_ok]; simp [binOp, Op.shift, hb]; rfl, by simp [Rep]⟩
  · simp only [Rep] at hu hv; subst hu hv
    split at h
    · cases h
    · rename_i hb
      simp only [Option.some.injEq] at h; subst h
      exact ⟨_, by simp only [Sem.run_bind, guard_int, Result.andThen_ok]; simp [binOp, Op.shift, hb]; rfl, by simp [Rep]⟩
  · simp only [Rep] at hu hv; subst hu hv
    split at h
    · rename_i hk
      have hk' := of_decide_eq_true hk
      subst hk'
      obtain ⟨r, h1, h2⟩ := binInt_ok (P := P) (ρ := ρ) (w := w) h t
      exact ⟨r, by simp only [Sem.run_bind, guard_int, Result.andThen_ok]; exact h1, h2⟩
    · cases h
  · simp only [Rep] at hu hv; subst hu hv
    obtain ⟨r, h1, h2⟩ := binStr_ok (P := P) (ρ := ρ) (w := w) h t
    exact ⟨r, by simp only [Sem.run_bind, guard_str, Result.andThen_ok]; exact h1, h2⟩
  all_goals
    have int : ∀ (op : BinOp) (k : IntKind) (a b : Int) (d : D), binInt op k a b = some d → ∃ r, (do eqGuard op t px py (.int k a) (.int k b); binOp op t (.int k a) (.int k b) : Sem Value).run P w = .ok r w ∧ Rep ρ w d r := fun op k a b d h => by
      obtain ⟨r, h1, h2⟩ := binInt_ok (P := P) (ρ := ρ) (w := w) h t
      exact ⟨r, by simp only [Sem.run_bind, guard_int, Result.andThen_ok]; exact h1, h2⟩
    have str : ∀ (op : BinOp) (a b : List UInt8) (d : D), binStr op a b = some d → ∃ r, (do eqGuard op t px py (.string ⟨⟨a⟩⟩) (.string ⟨⟨b⟩⟩); binOp op t (.string ⟨⟨a⟩⟩) (.string ⟨⟨b⟩⟩) : Sem Value).run P w = .ok r w ∧ Rep ρ w d r := fun op a b d h => by
      obtain ⟨r, h1, h2⟩ := binStr_ok (P := P) (ρ := ρ) (w := w) h t
      exact ⟨r, by simp only [Sem.run_bind, guard_str, Result.andThen_ok]; exact h1, h2⟩
  · rcases symEq_spec h hu hv with ⟨k, a, b, rfl, rfl, rfl⟩ | ⟨a, b, rfl, rfl, rfl⟩
    · exact int _ _ _ _ _ rfl
    · exact str _ _ _ _ rfl
  · split at h
    · rename_i b0 hb0
      simp only [Option.some.injEq] at h; subst h
      rcases symEq_spec hb0 hu hv with ⟨k, a, b, rfl, rfl, hd⟩ | ⟨a, b, rfl, rfl, hd⟩
      · simp only [D.bool.injEq] at hd; subst hd
        exact int _ _ _ _ _ rfl
      · simp only [D.bool.injEq] at hd; subst hd
        exact str _ _ _ _ rfl
    · cases h
  · obtain ⟨k, a, b, rfl, rfl, rfl⟩ := symLt_spec h hu hv
    exact int _ _ _ _ _ rfl
  · obtain ⟨k, a, b, rfl, rfl, rfl⟩ := symLt_spec h hv hu
    exact int _ _ _ _ _ rfl
  · unfold symNot at h
    split at h
    · rename_i b0 hb0
      simp only [Option.some.injEq] at h; subst h
      obtain ⟨k, a, b, rfl, rfl, hd⟩ := symLt_spec hb0 hu hv
      simp only [D.bool.injEq] at hd; subst hd
      refine int _ _ _ _ _ ?_
      simp only [binInt, Option.some.injEq, D.bool.injEq]
      by_cases hh : a < b
      · rw [decide_eq_true hh, decide_eq_false (by omega)]; rfl
      · rw [decide_eq_false hh, decide_eq_true (by omega)]; rfl
    · cases h
  · unfold symNot at h
    split at h
    · rename_i b0 hb0
      simp only [Option.some.injEq] at h; subst h
      obtain ⟨k, a, b, rfl, rfl, hd⟩ := symLt_spec hb0 hv hu
      simp only [D.bool.injEq] at hd; subst hd
      refine int _ _ _ _ _ ?_
      simp only [binInt, Option.some.injEq, D.bool.injEq]
      by_cases hh : a < b
      · rw [decide_eq_true hh, decide_eq_false (by omega)]; rfl
      · rw [decide_eq_false hh, decide_eq_true (by omega)]; rfl
    · cases h
  · obtain ⟨k, a, b, rfl, rfl, hd⟩ := symAdd_spec h hu hv
    exact ⟨_, by simp only [Sem.run_bind, guard_int, Result.andThen_ok]; exact add_run t k a b, hd⟩
  · obtain ⟨k, a, b, rfl, rfl, hd⟩ := symSub_spec h hu hv
    exact ⟨_, by simp only [Sem.run_bind, guard_int, Result.andThen_ok]; exact sub_run t k a b, hd⟩
  · cases h

theorem un_ok {op : UnOp} {x d : D} {u : Value} (hu : Rep ρ w x u) (h : unD op x = some d) : ∃ r, (Op.unary op u).run P w = .ok r w ∧ Rep ρ w d r := by
  unfold unD at h
  split at h
  · simp only [Rep] at hu; subst hu
    simp only [Option.some.injEq] at h; subst h
    exact ⟨_, by simp [Op.unary, Op.intArith]; rfl, by simp [Rep]⟩
  · simp only [Rep] at hu; subst hu
    simp only [Option.some.injEq] at h; subst h
    exact ⟨_, by simp only [Op.unary, Op.intBits, Sem.run_pure]; rfl, by simp [Rep]⟩
  · simp only [Rep] at hu; subst hu
    simp only [Option.some.injEq] at h; subst h
    exact ⟨_, by simp [Op.unary]; rfl, by simp [Rep]⟩
  · cases h

/-! ### '==' -/
theorem run_part {t : TypeId} {cs : Array Value} {l : List D} {off : Nat} {sz : Option Nat} {d : D} (hl : RepL ρ w l cs.toList) (hs : l.all D.sc = true) (hsh : shapeB P t = some sz) (hp : part l off sz = some d) :
    ∃ v, (Go.part t cs off).run P w = .ok v w ∧ Rep ρ w d v := by
  have hr := part_rep hl hs hp
  cases hu : P.underlying t with
  | none => simp [shapeB, isAggB, hu] at hsh
  | some e =>
    by_cases hd : e.isRow = true
    · have ha : isAggB P t = some true := by cases e <;> simp_all [isAggB, TypeDesc.isRow]
      cases hz : sizeB P t with
      | none => simp [shapeB, hz] at hsh
      | some s =>
        simp only [shapeB, ha, hz, Option.some.injEq] at hsh
        subst hsh
        simp only at hr
        obtain ⟨h1, h2⟩ := hr
        have hagg : (isAgg t).run P w = .ok true w := by
          unfold isAgg
          rw [Sem.run_bind, run_underlying hu w]
          cases e <;> simp_all [TypeDesc.isRow]
        cases hq : P.info? t with
        | none => simp [sizeB, hq] at hz
        | some i =>
          have hi : i.size = s := by simpa [sizeB, hq] using hz
          refine ⟨.agg (cs.extract off (off + s)), ?_, ?_⟩
          · simp [Go.part, hagg, sizeOf, typeInfo, hq, hi]
          · have e1 : cs.extract off (off + s) = ((cs.toList.drop off).take s).toArray := by
              apply Array.toList_inj.1
              simp [Array.toList_extract]
            rw [e1]; exact h2
    · have ha : isAggB P t = some false := by cases e <;> simp_all [isAggB, TypeDesc.isRow]
      have h1 : sz = none := by
        simp only [shapeB, ha] at hsh
        split at hsh
        · simp_all
        · simpa using hsh.symm
        · cases hsh
      subst h1
      simp only at hr
      obtain ⟨v, h1, h2, _⟩ := hr
      have hd : e.isRow = false := by simpa using hd
      have hagg : (isAgg t).run P w = .ok false w := by
        unfold isAgg
        rw [Sem.run_bind, run_underlying hu w]
        cases e <;> simp_all [TypeDesc.isRow]
      have h1' : cs[off]? = some v := by simpa using h1
      exact ⟨v, by simp [Go.part, hagg, h1'], h2⟩

theorem fieldsOf_eq {t : TypeId} {fs : Array Field} (h : P.underlying t = some (.struct fs)) : P.fieldsOf t = fs := by
  simp [Program.fieldsOf, h]

theorem eqFields_ok {d : Nat} {f : TypeId → Option ET} {xs ys : Array Value} {lx ly : List D} (hx : RepL ρ w lx xs.toList) (hy : RepL ρ w ly ys.toList) (hsx : lx.all D.sc = true) (hsy : ly.all D.sc = true)
    (ih : ∀ t e, f t = some e → ∀ x y r u v, eqT false e x y = some r → Rep ρ w x u → Rep ρ w y v → (Op.equalIn d t u v).run P w = .ok r w) :
    ∀ (fs : List Field) (l : ETs), etB.fieldsB P f fs = some l → ∀ r, eqTs l lx ly = some r → (Op.eqFields d xs ys fs).run P w = .ok r w
  | [], l, h, r, hr => by
    simp only [etB.fieldsB, Option.some.injEq] at h; subst h
    simp only [eqTs, Option.some.injEq] at hr; subst hr
    simp [Op.eqFields]
  | x :: fs, l, h, r, hr => by
    simp only [etB.fieldsB] at h
    split at h
    · cases h
    · rename_i hn
      split at h
      · rename_i s e l' h1 h2 h3
        simp only [Option.some.injEq] at h; subst h
        simp only [eqTs] at hr
        split at hr
        · rename_i p q hp hq
          obtain ⟨u, hu1, hu2⟩ := run_part (P := P) hx hsx h1 hp
          obtain ⟨v, hv1, hv2⟩ := run_part (P := P) hy hsy h1 hq
          have hne : x.name ≠ "_" := by simpa using hn
          split at hr
          · rename_i hb
            have hi := ih x.type e h2 p q true u v hb hu2 hv2
            have hrest := eqFields_ok hx hy hsx hsy ih fs l' h3 r hr
            simp only [Op.eqFields, hne, ne_eq, not_false_eq_true, if_true, Sem.run_bind, hu1, hv1, hi, Result.andThen_ok]
            simpa using hrest
          · rename_i hb
            simp only [Option.some.injEq] at hr; subst hr
            have hi := ih x.type e h2 p q false u v hb hu2 hv2
            simp only [Op.eqFields, hne, ne_eq, not_false_eq_true, if_true, Sem.run_bind, hu1, hv1, hi, Result.andThen_ok]
            simp
          · cases hr
        · cases hr
      · cases h

set_option maxHeartbeats 2000000 in
theorem eqT_ok (oc : Bool) : ∀ (n : Nat) (t : TypeId) (et : ET), etB P n t = some et → ∀ (d : Nat), n ≤ d → ∀ (x y : D) (r : Bool) (u v : Value), eqT oc et x y = some r → Rep ρ w x u → Rep ρ w y v → (Op.equalIn d t u v).run P w = .ok r w := by
  intro n
  induction n generalizing oc with
  | zero => intro t et h; simp [etB] at h
  | succ n ih =>
    intro t et h d hd x y r u v he hu hv
    obtain ⟨d, rfl⟩ : ∃ k, d = k + 1 := ⟨d - 1, by omega⟩
    simp only [etB] at h
    split at h
    · rename_i hun
      simp only [Option.some.injEq] at h; subst h
      simp only [eqT] at he
      obtain ⟨p, q, rfl, rfl, rfl⟩ := eqB1_spec he hu hv
      exact run_equalIn_bool w d t _ _ hun
    · rename_i k hun
      simp only [Option.some.injEq] at h; subst h
      simp only [eqT] at he
      obtain ⟨_, p, q, rfl, rfl, rfl⟩ := eqI_spec he hu hv
      exact run_equalIn_int w d t _ _ _ _ hun
    · rename_i hun
      simp only [Option.some.injEq] at h; subst h
      simp only [eqT] at he
      obtain ⟨p, q, rfl, rfl, rfl⟩ := eqS_spec he hu hv
      rw [run_equalIn_string w d t _ _ hun, ByteArray.toList_eq, ByteArray.toList_eq]
    · rename_i e hun
      split at h
      · rename_i m hm
        simp only [Option.some.injEq] at h; subst h
        have key : ∀ (a b : Option Addr), (a = none ∨ b = none) → (Op.equalIn (d + 1) t (.pointer a) (.pointer b)).run P w = .ok (a.isNone && b.isNone) w := by
          intro a b hab
          cases a <;> cases b <;> simp_all [Op.equalIn, run_underlying hun]
        have shp : ∀ (z : D) (q : Value), Rep ρ w z q → (∃ o c, z = .ptr o c) ∨ (∃ o i c e, z = .eptr o i c e) ∨ (∃ e c, z = .vptr e c) → ∃ a, q = .pointer (some a) := by
          intro z q hz hs
          rcases hs with ⟨o, c, rfl⟩ | ⟨o, i, c, e, rfl⟩ | ⟨e, c, rfl⟩ <;> simp only [Rep] at hz
          · exact Gh.at_any hz fun _ _ q => ⟨_, q⟩
          · exact Gh.at_any hz fun _ _ q => ⟨_, q.2.2.2⟩
          · obtain ⟨_, _, _, _, _, _, _, rfl⟩ := hz; exact ⟨_, rfl⟩
        simp only [eqT] at he
        split at he <;> (try cases he)
        · simp only [Rep] at hu hv; subst hu hv; simpa using key none none (.inl rfl)
        · obtain ⟨a, rfl⟩ := shp _ _ hv (.inl ⟨_, _, rfl⟩); simp only [Rep] at hu; subst hu; simpa using key none (some a) (.inl rfl)
        · obtain ⟨a, rfl⟩ := shp _ _ hu (.inl ⟨_, _, rfl⟩); simp only [Rep] at hv; subst hv; simpa using key (some a) none (.inr rfl)
        · obtain ⟨a, rfl⟩ := shp _ _ hv (.inr (.inl ⟨_, _, _, _, rfl⟩)); simp only [Rep] at hu; subst hu; simpa using key none (some a) (.inl rfl)
        · obtain ⟨a, rfl⟩ := shp _ _ hu (.inr (.inl ⟨_, _, _, _, rfl⟩)); simp only [Rep] at hv; subst hv; simpa using key (some a) none (.inr rfl)
        · obtain ⟨a, rfl⟩ := shp _ _ hv (.inr (.inr ⟨_, _, rfl⟩)); simp only [Rep] at hu; subst hu; simpa using key none (some a) (.inl rfl)
        · obtain ⟨a, rfl⟩ := shp _ _ hu (.inr (.inr ⟨_, _, rfl⟩)); simp only [Rep] at hv; subst hv; simpa using key (some a) none (.inr rfl)
      · cases h
    · rename_i ms hun
      simp only [Option.some.injEq] at h; subst h
      simp only [eqT] at he
      split at he
      · split at he
        · cases he; simp only [Rep] at hu hv; subst hu hv; simp [Op.equalIn, run_underlying hun]
        · cases he
      · cases he; simp only [Rep] at hu hv; subst hu; obtain ⟨_, rfl, _⟩ := hv; simp [Op.equalIn, run_underlying hun]
      · cases he; simp only [Rep] at hu hv; subst hv; obtain ⟨_, rfl, _⟩ := hu; simp [Op.equalIn, run_underlying hun]
      · split at he
        · cases he
        · rename_i hb
          cases he
          simp only [Rep] at hu hv
          obtain ⟨_, rfl, _⟩ := hu
          obtain ⟨_, rfl, _⟩ := hv
          have hne := Nat.ne_of_beq_eq_false hb
          simp [Op.equalIn, run_underlying hun, hne]
      · cases he
    · rename_i e hun
      simp only [Option.some.injEq] at h; subst h
      have nilv : ∀ (nl : Bool) (sz : Nat) (l : List D) (q : Value), Rep ρ w (.vs nl sz l) q → ∃ a n c, q = .slice a n c ∧ a.isNone = nl := by
        intro nl sz l q hq
        simp only [Rep] at hq
        rcases hq with ⟨h1, _, rfl⟩ | ⟨h1, ad, c, rfl, _⟩
        · exact ⟨_, _, _, rfl, by simp [h1]⟩
        · exact ⟨_, _, _, rfl, by simp [h1]⟩
      have key : ∀ (a b : Option Addr) (n c n' c' : Nat), (a = none ∨ b = none) → (Op.equalIn (d + 1) t (.slice a n c) (.slice b n' c')).run P w = .ok (a.isNone && b.isNone) w := by
        intro a b n c n' c' hab
        cases a <;> cases b <;> simp_all [Op.equalIn, run_underlying hun]
      simp only [eqT] at he
      split at he <;> (try cases he)
      · obtain ⟨a, n1, c1, rfl, ha⟩ := nilv _ _ _ _ hu
        obtain ⟨b, n2, c2, rfl, hb⟩ := nilv _ _ _ _ hv
        rw [key a b _ _ _ _ (.inr (by simpa using hb)), ha, hb]; simp
      · obtain ⟨a, n1, c1, rfl, ha⟩ := nilv _ _ _ _ hu
        obtain ⟨b, n2, c2, rfl, hb⟩ := nilv _ _ _ _ hv
        rw [key a b _ _ _ _ (.inl (by simpa using ha)), ha, hb]; simp
      · obtain ⟨b, n2, c2, rfl, hb⟩ := nilv _ _ _ _ hv
        simp only [Rep] at hu
        obtain ⟨a, c, rfl⟩ := Gh.at_any hu fun _ _ ⟨_, _, _, _, _, q, _⟩ => ⟨_, _, q⟩
        rw [key _ b _ _ _ _ (.inr (by simpa using hb))]; simp
      · obtain ⟨b, n2, c2, rfl, hb⟩ := nilv _ _ _ _ hu
        simp only [Rep] at hv
        obtain ⟨a, c, rfl⟩ := Gh.at_any hv fun _ _ ⟨_, _, _, _, _, q, _⟩ => ⟨_, _, q⟩
        rw [key b _ _ _ _ _ (.inl (by simpa using hb))]; simp
    · rename_i q e hun
      simp only [Option.some.injEq] at h; subst h
      simp only [eqT] at he
      split at he <;> (try cases he)
      · simp only [Rep] at hu hv; subst hu hv; simp [Op.equalIn, run_underlying hun]
      · simp only [Rep] at hu hv; subst hu; obtain ⟨b, rfl⟩ := Gh.at_any hv fun _ _ q => ⟨_, q⟩; simp [Op.equalIn, run_underlying hun]
      · simp only [Rep] at hu hv; subst hv; obtain ⟨b, rfl⟩ := Gh.at_any hu fun _ _ q => ⟨_, q⟩; simp [Op.equalIn, run_underlying hun]
    · rename_i ps rs vr hun
      simp only [Option.some.injEq] at h; subst h
      simp only [eqT] at he
      split at he <;> (try cases he)
      · simp only [Rep] at hu hv; subst hu hv; simp [Op.equalIn, run_underlying hun]
      · simp only [Rep] at hu hv; subst hu; obtain ⟨_, _, rfl, _⟩ := hv; simp [Op.equalIn, run_underlying hun]
      · simp only [Rep] at hu hv; subst hv; obtain ⟨_, _, rfl, _⟩ := hu; simp [Op.equalIn, run_underlying hun]
    · rename_i fs hun
      split at h
      · cases h
      · rename_i hst
        simp only [Option.map_eq_some_iff] at h
        obtain ⟨l, hl, rfl⟩ := h
        simp only [eqT] at he
        split at he
        · simp only [Rep] at hu hv
          obtain ⟨xs, rfl, hx1, hx2⟩ := hu
          obtain ⟨ys, rfl, hy1, hy2⟩ := hv
          have hfo := fieldsOf_eq hun
          rw [run_equalIn_struct w d t xs ys (by rw [hfo]; exact hun) hst, hfo]
          exact eqFields_ok hx1 hy1 hx2 hy2 (fun t' e' h' x' y' r' u' v' he' hu' hv' => ih false t' e' h' d (by omega) x' y' r' u' v' he' hu' hv') fs.toList l hl r he
        · cases he
    · cases h

end Go.Ab
