/- Frames: an operation's step, a plain region. -/
import Derived.Test.YtloaklflgfefaaaGreatDoorA19
import Derived.Defers
namespace Go.Ab
open Go
set_option linter.unusedSectionVars false
set_option linter.unusedSimpArgs false
set_option linter.unusedVariables false
variable [Vals]
variable {ρ ρ' ρ0 : Gh} {w w' w0 : World} {P : Program} {G : Gl} {X : Exts} {A : Adv} {s s' : St} {env : Env} {a : Act} {lo : Nat} {d : D} {C : Caller} {al : Option Nat} {fr fr' : Fr}

/-- The calls that a frame has put off; the marks of its ranges over functions ('.nilf'). -/
def DefRel (ρ : Gh) (w : World) (lo : Nat) : List (D × List D) → List Deferred → Prop
  | [], ds => ds = []
  | (d, l) :: r, ds => (d = .nilf ∧ ∃ b t, ds = { target := .collected b, args := #[] } :: t ∧ lo ≤ b ∧ ρ.own b = .priv ∧ w.heap[b]? = some (.deferred (some [])) ∧ (∀ m ∈ t, m.target ≠ .collected b) ∧ DefRel ρ w lo r t) ∨
      ∃ f x y va vc vl t, d = .fn f x y ∧ ds = { target := .fn f vc, args := va ++ vl } :: t ∧ RepL ρ w x va.toList ∧ RepL ρ w y vc.toList ∧ RepL ρ w l vl.toList ∧ DefRel ρ w lo r t
theorem DefRel.mono' (hK : Kr ρ w ρ' w') (hd : ∀ b, ρ.own b = .priv → w.heap[b]? = some (.deferred (some [])) → ρ'.own b = .priv ∧ w'.heap[b]? = some (.deferred (some []))) : ∀ {l : List (D × List D)} {ds : List Deferred}, DefRel ρ w lo l ds → DefRel ρ' w' lo l ds
  | [], _, h => h
  | (d, l) :: r, _, h => by
    rcases h with ⟨h1, b, t, h2, h3, h4, h5, h6, h7⟩ | ⟨f, x, y, va, vc, vl, t, h1, h2, h3, h4, h5, h6⟩
    · obtain ⟨k1, k2⟩ := hd b h4 h5
      exact .inl ⟨h1, b, t, h2, h3, k1, k2, h6, DefRel.mono' hK hd h7⟩
    · exact .inr ⟨f, x, y, va, vc, vl, t, h1, h2, RepL.mono' hK _ _ h3, RepL.mono' hK _ _ h4, RepL.mono' hK _ _ h5, DefRel.mono' hK hd h6⟩
theorem DefRel.mono (hK : Kp ρ w ρ' w') {l : List (D × List D)} {ds : List Deferred} (h : DefRel ρ w lo l ds) : DefRel ρ' w' lo l ds :=
  h.mono' hK.r fun b hp hb => by
    obtain ⟨k1, k2⟩ := hK.kept b (Array.getElem?_eq_some_iff.1 hb).1 (fun o => by rw [hp]; simp)
    exact ⟨k2.trans hp, k1.trans hb⟩

/-- Where the marks lie. -/
theorem DefRel.marks : ∀ {l : List (D × List D)} {ds : List Deferred}, DefRel ρ w lo l ds → ∀ m ∈ ds, ∀ b, m.target = .collected b → b < w.heap.size
  | [], ds, h, m, hm, b, hb => by simp only [DefRel] at h; subst h; cases hm
  | (d, l) :: r, ds, h, m, hm, b, hb => by
    rcases h with ⟨h1, b', t, rfl, h3, h4, h5, h6, h7⟩ | ⟨f, x, y, va, vc, vl, t, h1, rfl, h3, h4, h5, h6⟩
    · rcases List.mem_cons.1 hm with rfl | hm
      · simp only [Target.collected.injEq] at hb; subst hb
        exact (Array.getElem?_eq_some_iff.1 h5).1
      · exact DefRel.marks h7 m hm b hb
    · rcases List.mem_cons.1 hm with rfl | hm
      · cases hb
      · exact DefRel.marks h6 m hm b hb

structure FrRel (ρ : Gh) (w : World) (lo nt : Nat) (fr : Fr) (a : Act) : Prop where
  env : EnvRel ρ w lo fr.env a.tmps
  size : nt ≤ a.tmps.size
  defers : DefRel ρ w lo fr.defers a.defers

theorem get_cons (e : Env) (t u : Nat) (d : D) : Env.get ((t, d) :: e) u = if t = u then some d else e.get u := by
  simp only [Env.get]
  by_cases h : t = u
  · rw [T.beq_t h, if_pos h]
  · rw [T.beq_f h, if_neg h]

theorem SlotRel.of_res {tmps : Array Value} {t : Nat} {v : Value} (h : ResRel ρ w env tmps d v) (ht : tmps[t]? = some v) (hne : ∀ a c, d = .lptr a c → False) : SlotRel ρ w lo env tmps t d := by
  cases d <;> simp only [ResRel] at h <;> simp only [SlotRel] <;> first | exact ⟨v, ht, h⟩ | exact h.elim | exact (hne _ _ rfl).elim

theorem EnvRel.put {tmps : Array Value} {t : Nat} {v : Value} (he : EnvRel ρ w lo env tmps) (ht : t < tmps.size) (hr : ResRel ρ w env tmps d v) : EnvRel ρ w lo ((t, d) :: env) (tmps.setIfInBounds t v) := by
  have hnl : ∀ x, d ≠ .lv x := by rintro x rfl; simp [ResRel] at hr
  have hsame : (tmps.setIfInBounds t v)[t]? = some v := by simp [ht]
  have hoth : ∀ u, u ≠ t → (tmps.setIfInBounds t v)[u]? = tmps[u]? := fun u hu => by
    rw [Array.getElem?_setIfInBounds, if_neg (fun e => hu e.symm)]
  have hlv : ∀ u x, Env.get ((t, d) :: env) u = some (.lv x) → u ≠ t ∧ env.get u = some (.lv x) := fun u x h => by
    rw [get_cons] at h
    split at h
    · simp only [Option.some.injEq] at h; exact absurd h (hnl x)
    · rename_i hne; exact ⟨fun e => hne e.symm, h⟩
  refine ⟨fun u q hq => ?_, fun u u' x x' b hne h1 h2 => ?_⟩
  · rw [get_cons] at hq
    split at hq
    · rename_i e; subst e
      simp only [Option.some.injEq] at hq; subst hq
      by_cases hp : ∃ a c, d = .lptr a c
      · obtain ⟨a, c, rfl⟩ := hp
        simp only [SlotRel]
        intro x hx
        obtain ⟨h1, h2⟩ := hlv a x hx
        simp only [ResRel] at hr
        obtain ⟨b, h3, h4⟩ := hr x h2
        exact ⟨b, by rw [hoth a h1]; exact h3, by rw [hsame, h4]⟩
      · have hr' : ResRel ρ w ((t, d) :: env) (tmps.setIfInBounds t v) d v := by
          cases d <;> first | exact hr | exact absurd ⟨_, _, rfl⟩ hp
        exact .of_res hr' hsame (fun a c e => hp ⟨a, c, e⟩)
    · rename_i hne
      have hne : u ≠ t := fun e => hne e.symm
      have := he.slot u q hq
      cases q with
      | lv x => simp only [SlotRel] at *; rw [hoth u hne]; exact this
      | lptr a c =>
        simp only [SlotRel] at *
        intro x hx
        obtain ⟨h1, h2⟩ := hlv a x hx
        rw [hoth a h1, hoth u hne]
        exact this x h2
      | _ => simp only [SlotRel] at *; rw [hoth u hne]; exact this
  · obtain ⟨g1, g2⟩ := hlv u x h1
    obtain ⟨g3, g4⟩ := hlv u' x' h2
    rw [hoth u g1, hoth u' g3]
    exact he.inj u u' x x' b hne g2 g4

theorem FrRel.put {nt : Nat} {dst : Option Nat} {v : Value} (h : FrRel ρ w lo nt fr a) (hd : ∀ t, dst = some t → t < nt) (hr : ResRel ρ w fr.env a.tmps d v) : FrRel ρ w lo nt { fr with env := putD fr.env dst d } (a.put dst v) := by
  cases dst with
  | none => exact ⟨h.env, h.size, h.defers⟩
  | some t => exact ⟨h.env.put (Nat.lt_of_lt_of_le (hd t rfl) h.size) hr, by simpa [Act.put] using h.size, h.defers⟩

theorem FrRel.mono {nt : Nat} (hK : Kp ρ w ρ' w') (h : FrRel ρ w lo nt fr a) : FrRel ρ' w' lo nt fr a := ⟨h.env.mono hK, h.size, h.defers.mono hK⟩

theorem ResRel.undef {tmps : Array Value} : ResRel ρ w env tmps (.tup []) undef := by simp [ResRel, Rep, RepL, Go.undef]

/-- A frame on its way: from the world that it was entered in. -/
def Inv (ρ0 : Gh) (w0 : World) (nt : Nat) (fr : Fr) (s : St) (a : Act) (w : World) : Prop := ∃ ρ, Kp ρ0 w0 ρ w ∧ FrRel ρ w w0.heap.size nt fr a ∧ StRel ρ s w

theorem wanted_ok {ops : Array Oper} {o : Oper} {g : Option (Nat × Bool)} {b : Bool} (he : EnvRel ρ w lo env a.tmps)
    (hg : (match o.guard with | none => some none | some (j, b) => match (ops[j]?).bind (·.dst) with | some t => some (some (t, b)) | none => none) = some g) (h : wantedD env g = some b) : Region.wanted o (yielded ops a.tmps) = b := by
  unfold Region.wanted
  cases hgd : o.guard with
  | none =>
    simp only [hgd, Option.some.injEq] at hg; subst hg
    simp only [wantedD, Option.some.injEq] at h
    exact h
  | some p =>
    obtain ⟨j, q⟩ := p
    simp only [hgd] at hg
    split at hg
    · rename_i t ht
      simp only [Option.some.injEq] at hg; subst hg
      simp only [wantedD] at h
      split at h
      · rename_i c hc
        simp only [Option.some.injEq] at h
        have := he.slot _ _ hc
        simp only [SlotRel, Rep] at this
        obtain ⟨v, hv, rfl⟩ := this
        simp only [yielded, ht, Option.bind_some, hv]
        subst h
        cases c <;> cases q <;> rfl
      · rename_i hc
        simp only [Option.some.injEq] at h
        have := he.slot _ _ hc
        simp only [SlotRel, Rep, RepL] at this
        obtain ⟨v, hv, vs, rfl, _⟩ := this
        simp only [yielded, ht, Option.bind_some, hv]
        subst h
        rfl
      · cases h
    · cases hg

/-- A private variable written. -/
theorem lstore_ok {nt : Nat} {r sz b c : Nat} {x v e' : D} {xv : Value} (hf : FrRel ρ w lo nt fr a) (hs : StRel ρ s w) (hlv : fr.env.get r = some (.lv x)) (hb : a.tmps[r]? = some (.pointer (some ⟨b, 0, none⟩))) (hxv : Rep ρ w v xv) (hov : x.over c v = some e') (hl : v.flat.length = sz) :
    w.there b c sz ∧ v.st = true ∧ Kr ρ w ρ (w.setCells b c xv.cells.toList) ∧ StRel ρ s (w.setCells b c xv.cells.toList) ∧ FrRel ρ (w.setCells b c xv.cells.toList) lo nt { fr with env := (r, .lv e') :: fr.env } a ∧
      (∀ ρ0 w0, w0.heap.size = lo → Kp ρ0 w0 ρ w → Kp ρ0 w0 ρ (w.setCells b c xv.cells.toList)) := by
  have hsl := hf.env.slot _ _ hlv
  simp only [SlotRel] at hsl
  obtain ⟨b', u, el, q1, q2, q3, q4, q5, q6⟩ := hsl
  rw [hb] at q1
  simp only [Option.some.injEq, Value.pointer.injEq, Addr.mk.injEq, and_true] at q1
  subst q1
  obtain ⟨u', o1, o2, o3, o4, hst⟩ := over_rep q4 q6 hxv hov
  have hxs := hxv.size hst
  obtain ⟨⟨cs', g1, g2⟩, g3, g4, g5, g6, g7⟩ := setCells_heap xv.cells.toList c w u.cells el (0, 0) q5 (by simpa using o4)
  have hne : ∀ b', ρ.own b' ≠ .priv → b' ≠ b := by rintro b' h rfl; exact h q2
  have hKr : Kr ρ w ρ (w.setCells b c xv.cells.toList) := ⟨fun b' _ hi => ⟨g3 b' (hne b' (by rw [hi]; simp)), hi⟩, fun _ h => ⟨h, rfl⟩, fun _ _ h => .inr ⟨h, fun _ hb => ⟨hb, rfl, Nat.le_refl _, rfl⟩⟩⟩
  have hcs : cs' = u'.cells := Array.ext' (by rw [g2, o3])
  refine ⟨fun j hj => ?_, hst, hKr, ?_, ⟨⟨fun t q hq => ?_, fun t t' y y' bb hne' h1 h2 => ?_⟩, hf.size, hf.defers.mono' hKr fun b' hp hb' => ⟨hp, (g3 b' (by rintro rfl; rw [q5] at hb'; cases hb')).trans hb'⟩⟩, fun ρ0 w0 hlo hK => ?_⟩
  · have : c + j < u.cells.size := by omega
    simp [World.cell?, World.frozen?, q5, this]
  · refine hs.keep hKr (fun _ _ => Iff.rfl) rfl (fun b' o hb' => ⟨g3 b' (hne b' (by rw [hb']; simp)), rfl, rfl, rfl⟩) (fun b' hb' => hs.size b' (by omega))
  · rw [get_cons] at hq
    split at hq
    · rename_i e; subst e
      simp only [Option.some.injEq] at hq; subst hq
      simp only [SlotRel]
      exact ⟨b, u', el, hb, q2, q3, Rep.mono' hKr _ _ o1, by rw [g1, hcs], o2⟩
    · rename_i hrt
      have := hf.env.slot t q hq
      cases q with
      | lv y =>
        simp only [SlotRel] at *
        obtain ⟨b2, v2, el2, p1, p2, p3, p4, p5, p6⟩ := this
        have hbb : b2 ≠ b := by
          rintro rfl
          exact hf.env.inj r t x y b2 hrt hlv hq hb p1
        exact ⟨b2, v2, el2, p1, p2, p3, Rep.mono' hKr _ _ p4, by rw [g3 b2 hbb]; exact p5, p6⟩
      | lptr k cc =>
        simp only [SlotRel] at *
        intro y hy
        rw [get_cons] at hy
        split at hy
        · rename_i e; subst e; exact this x hlv
        · exact this y hy
      | _ =>
        simp only [SlotRel] at *
        obtain ⟨v2, p1, p2⟩ := this
        exact ⟨v2, p1, Rep.mono' hKr _ _ p2⟩
  · have old : ∀ t y, Env.get ((r, .lv e') :: fr.env) t = some (.lv y) → ∃ y0, fr.env.get t = some (.lv y0) := fun t y h => by
      rw [get_cons] at h
      split at h
      · rename_i e; subst e; exact ⟨x, hlv⟩
      · exact ⟨y, h⟩
    obtain ⟨y0, p1⟩ := old t y h1
    obtain ⟨y1, p2⟩ := old t' y' h2
    exact hf.env.inj t t' y0 y1 bb hne' p1 p2
  · exact ⟨g5.trans hK.os, g6.trans hK.tape, g7.trans hK.output, by have := hK.size; omega, fun b' hb' hno => by
      obtain ⟨h1, h2⟩ := hK.kept b' hb' hno
      exact ⟨(g3 b' (by omega)).trans h1, h2⟩, hK.dead, hK.live⟩

/-- A private variable made. -/
theorem lbox_ok {nt r : Nat} {x : D} {u : Value} {e : TypeId} (hf : FrRel ρ w lo nt fr a) (hs : StRel ρ s w) (hlo : lo ≤ w.heap.size) (hr : r < nt) (hu : Rep ρ w x u) (hst : x.st = true) (hno : fr.env.noL r = true) :
    ∃ ρ', Kp ρ w ρ' (w.alloc (.cells u.cells e)) ∧ StRel ρ' s (w.alloc (.cells u.cells e)) ∧ FrRel ρ' (w.alloc (.cells u.cells e)) lo nt { fr with env := (r, .lv x) :: fr.env } (a.put (some r) (.pointer (some ⟨w.heap.size, 0, none⟩))) := by
  let ρ' : Gh := { ρ with own := fun b => if b = w.heap.size then .priv else ρ.own b }
  have hw : (w.alloc (.cells u.cells e)).heap = w.heap.push (.cells u.cells e) := rfl
  have hK : Kp ρ w ρ' (w.alloc (.cells u.cells e)) := by
    refine ⟨rfl, rfl, rfl, by rw [hw]; simp, fun b hb _ => ⟨heap_push_lt hw hb, ?_⟩, fun _ h => ⟨h, rfl⟩, fun o z h => .inr ⟨h, fun b hb => ⟨?_, rfl, Nat.le_refl _, rfl⟩⟩⟩
    · show (if b = w.heap.size then Own.priv else ρ.own b) = ρ.own b
      rw [if_neg (by omega)]
    · have := hs.own_lt hb
      show (if b = w.heap.size then Own.priv else ρ.own b) = .obj o
      rw [if_neg (by omega)]; exact hb
  have hS : StRel ρ' s (w.alloc (.cells u.cells e)) := by
    refine hs.keep hK.r (fun b o => ?_) rfl (fun b o hb => ⟨heap_push_lt hw (hs.own_lt hb), rfl, rfl, rfl⟩) (fun b hb => ?_)
    · show ((if b = w.heap.size then Own.priv else ρ.own b) = .obj o) ↔ _
      split
      · rename_i e; subst e; rw [hs.size _ (Nat.le_refl _)]; simp
      · rfl
    · rw [hw] at hb; simp at hb
      show (if b = w.heap.size then Own.priv else ρ.own b) = .imm
      rw [if_neg (by omega)]; exact hs.size b (by omega)
  have hsz : r < a.tmps.size := Nat.lt_of_lt_of_le hr hf.size
  have hsame : (a.tmps.setIfInBounds r (.pointer (some ⟨w.heap.size, 0, none⟩)))[r]? = some (.pointer (some ⟨w.heap.size, 0, none⟩)) := by simp [hsz]
  have hoth : ∀ t, t ≠ r → (a.tmps.setIfInBounds r (.pointer (some ⟨w.heap.size, 0, none⟩)))[t]? = a.tmps[t]? := fun t ht => by
    rw [Array.getElem?_setIfInBounds, if_neg (fun e => ht e.symm)]
  have hnl : ∀ (e : Env), e.noL r = true → ∀ t k c, e.get t = some (.lptr k c) → k ≠ r := by
    intro e
    induction e with
    | nil => intro _ t k c h; simp [Env.get] at h
    | cons p e ih =>
      obtain ⟨t0, d0⟩ := p
      intro h t k c hg
      rw [get_cons] at hg
      simp only [Env.noL] at h
      split at hg
      · simp only [Option.some.injEq] at hg; subst hg
        simp only at h
        split at h
        · cases h
        · rename_i hb; rintro rfl; rw [Nat.beq_refl] at hb; cases hb
      · split at h
        · split at h
          · cases h
          · exact ih h t k c hg
        · exact ih h t k c hg
  have hfm := hf.mono hK
  have htm : (a.put (some r) (Value.pointer (some ⟨w.heap.size, 0, none⟩))).tmps = a.tmps.setIfInBounds r (.pointer (some ⟨w.heap.size, 0, none⟩)) := rfl
  refine ⟨ρ', hK, hS, ⟨⟨fun t q hq => ?_, fun t t' y y' bb hne h1 h2 h3 => ?_⟩, by simpa [Act.put] using hf.size, hfm.defers⟩⟩
  · rw [get_cons] at hq
    split at hq
    · rename_i e2; subst e2
      simp only [Option.some.injEq] at hq; subst hq
      simp only [SlotRel]
      exact ⟨w.heap.size, u, e, hsame, by show (if w.heap.size = w.heap.size then Own.priv else _) = _; rw [if_pos rfl], hlo, hu.mono hK, heap_push_eq hw, hst⟩
    · rename_i hne
      have hne : t ≠ r := fun e => hne e.symm
      have := hfm.env.slot t q hq
      cases q with
      | lv y => simp only [SlotRel] at *; rw [htm, hoth t hne]; exact this
      | lptr k c =>
        simp only [SlotRel] at *
        intro y hy
        have hk := hnl fr.env hno t k c hq
        rw [get_cons, if_neg (fun e => hk e.symm)] at hy
        rw [htm, hoth k hk, hoth t hne]
        exact this y hy
      | _ => simp only [SlotRel] at *; rw [htm, hoth t hne]; exact this
  · have key : ∀ t y, t ≠ r → Env.get ((r, .lv x) :: fr.env) t = some (.lv y) → fr.env.get t = some (.lv y) ∧ a.tmps[t]? ≠ some (.pointer (some ⟨w.heap.size, 0, none⟩)) := fun t y ht h => by
      rw [get_cons, if_neg (fun e => ht e.symm)] at h
      refine ⟨h, fun hp => ?_⟩
      have := hf.env.slot t _ h
      simp only [SlotRel] at this
      obtain ⟨b2, v2, el2, p1, p2, p3, p4, p5, p6⟩ := this
      rw [hp] at p1
      simp only [Option.some.injEq, Value.pointer.injEq, Addr.mk.injEq, and_true] at p1
      have := heap_lt p5
      omega
    rw [htm] at h3 ⊢
    by_cases ht : t = r
    · subst ht
      rw [hsame] at h3
      simp only [Option.some.injEq, Value.pointer.injEq, Addr.mk.injEq, and_true] at h3
      subst h3
      rw [hoth t' (fun e => hne e.symm)]
      exact (key t' y' (fun e => hne e.symm) h2).2
    · obtain ⟨k1, k2⟩ := key t y ht h1
      rw [hoth t ht] at h3
      by_cases ht' : t' = r
      · subst ht'
        rw [hsame]
        intro e; rw [← e] at h3; exact k2 h3
      · obtain ⟨k3, _⟩ := key t' y' ht' h2
        rw [hoth t' ht']
        exact hf.env.inj t t' y y' bb hne k1 k3 h3
end Go.Ab
