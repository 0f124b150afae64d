/- Operations, one by one: calls; functions without a body. -/
import Derived.Test.YtloaklflgfefaaaGreatDoorA17
namespace Go.Ab
open Go
set_option linter.unusedSectionVars false
set_option linter.unusedSimpArgs false
set_option linter.unusedVariables false
variable [Vals]
variable {ρ ρ' : Gh} {w w' : World} {P : Program} {pn : Pins} {G : Gl} {X : Exts} {A : Adv} {s s' : St} {env : Env} {a : Act} {lo : Nat} {d : D} {C : Caller} {al : Option Nat}

/-- What stands behind a function without a body. -/
def ExtRow (e : Array Value → Sem Value) : Ext → Prop
  | .nop => e = (fun _ => do mark .disable; pure Extern.Race.none_) ∨ e = (fun _ => do mark .enable; pure Extern.Race.none_)
  | .race => e = Extern.Race.marked .acquire ∨ e = Extern.Race.marked .releaseMerge
  | .idp => e = Extern.AbiNoEscape.same
  | .aload k => e = Extern.Atomic.loadT (.int k)
  | .astore => e = Extern.Atomic.storeT
  | .acas k => e = Extern.Atomic.casT (.int k)
  | .aadd k => e = Extern.Atomic.update (Op.intArith .add) k true
structure ExtOk (P : Program) (f : FuncId) (k : Ext) : Prop where
  ok : ∃ fn e, P.funcs[f]? = some fn ∧ fn.body = none ∧ (fn.name == "runtime.NumGoroutine") = false ∧ Extern.findNext fn = none ∧ Extern.find fn = some e ∧ ExtRow e k

theorem ExtOk.run {f : FuncId} {k : Ext} (h : ExtOk P f k) : ∃ e, ExtRow e k ∧ ∀ (args : Array Value) w, (callFunc f args).run P w = ((do pure (.value (← e args))) : Sem Next).run P w := by
  obtain ⟨fn, e, h1, h2, h3, h4, h5, h6⟩ := h.ok
  refine ⟨e, h6, fun args w => ?_⟩
  have h3 : fn.name ≠ "runtime.NumGoroutine" := by simpa using h3
  simp [callFunc, h1, h2, h3, h4, h5]

theorem loadT_eq (t : Extern.Atomic.T) (x : Value) : Extern.Atomic.loadT t #[x] = (do Extern.Atomic.read t (← asAddr x)) := rfl
theorem storeT_eq (x v : Value) : Extern.Atomic.storeT #[x, v] = (do store (← asAddr x) v .atomic; pure Extern.Atomic.none_) := rfl
theorem casT_eq (k : IntKind) (x : Value) (j1 j2 : IntKind) (n1 n2 : Int) : Extern.Atomic.casT (.int k) #[x, .int j1 n1, .int j2 n2] = (do
    let a ← asAddr x
    if ← Extern.Atomic.touchesFrozen a then unsupported (.unsafePointer "a write to bytes that a string shares")
    let eq ← match Extern.Atomic.T.int k, ← Extern.Atomic.read (.int k) a, Value.int j1 n1 with
      | _, .int _ x, .int _ y => pure (x == y)
      | .ptr, .pointer x, .pointer y => samePointer x y
      | .int _, .pointer (some _), .int _ 0 | .int _, .int _ 0, .pointer (some _) => pure false
      | .int _, .pointer (some _), _ | .int _, _, .pointer (some _) => unsupported .addressObserved
      | _, _, _ => stuck "atomic.CompareAndSwap: old is no T"
    if eq then store a (.int j2 n2) .atomic
    pure (.bool eq)) := rfl
theorem update_eq (op : IntKind → Int → Int → Sem Value) (k : IntKind) (x y : Value) : Extern.Atomic.update op k true #[x, y] = (do
    let a ← asAddr x
    let old ← Extern.Atomic.read (.int k) a
    let new ← op k (← asInt old) (← asInt y)
    store a new .atomic
    pure new) := rfl

structure CallerOk (pn : Pins) (P : Program) (G : Gl) (C : Caller) : Prop where
  enter : ∀ f l s r, C f l s = some r → (f ≠ 0 ∨ yS l = false) → ∀ (args : Array Value) w, (callFunc f args).run P w = .ok (.enter f args) w
  calls : ∀ f l s d s' ρ w vs, C f l s = some (d, s') → StRel ρ s w → GlOk pn G ρ w → RepL ρ w l vs → Calls P f vs.toArray w (CallPost ρ w s' d)
  ro : ∀ f l s d s', s.ro = true → C f l s = some (d, s') → s' = s
  yields : ∀ y l s d s' ρ w u vs, C 0 (.lv y :: l) s = some (d, s') → StRel ρ s w → GlOk pn G ρ w → Rep ρ w y u → RepL ρ w l vs → ∃ b, u = .func (.yield b) #[] #[] ∧ YieldAt Fence.wide 0 P b vs.toArray w (CallPost ρ w s' d)
theorem RepL.yS {l : List D} {vs : List Value} (h : RepL ρ w l vs) : yS l = false := by
  cases l with
  | nil => rfl
  | cons x r =>
    simp only [RepL] at h
    obtain ⟨v, _, _, hv, _⟩ := h
    cases x <;> first | rfl | simp [Rep] at hv

section
variable (he : EnvRel ρ w lo env a.tmps) (hg : GlOk pn G ρ w) (hs : StRel ρ s w)
include he hg hs

omit hs in
theorem evs_rep : ∀ (l' : List Operand) (l : List Opd) (ds : List D), l'.mapM (opd G) = some l → evs env l = some ds → RepL ρ w ds (l'.map a.eval)
  | [], l, ds, h, h' => by
    simp at h; subst h
    simp only [evs, Option.some.injEq] at h'; subst h'
    simp [RepL]
  | x :: l', l, ds, h, h' => by
    simp only [List.mapM_cons, Option.pure_def, Option.bind_eq_bind, Option.bind_eq_some_iff] at h
    obtain ⟨y, h1, q, h2, h3⟩ := h
    simp only [Option.some.injEq] at h3; subst h3
    simp only [evs] at h'
    split at h'
    · rename_i d hd
      split at h'
      · rename_i t ht
        simp only [Option.some.injEq] at h'; subst h'
        simp only [List.map_cons, RepL]
        exact ⟨_, _, rfl, opd_rep h1 he hg hd, evs_rep l' q t h2 ht⟩
      · cases h'
    · cases h'

theorem ok_call (hC : CallerOk pn P G C) {f : FuncId} {args' : Array Operand} {args : List Opd} (ha : opds G args' = some args) (h : opF C env s al (.call false f args) = some (d, s')) {o : Oper} {tys : Array TypeId}
    (ho : o.op = .call { callee := .value (.func f), args := args', argTypes := tys }) : OpOk P ρ w env a.tmps d s' ((execOp a.eval o).run P w) := by
  simp only [opF] at h
  split at h
  · rename_i l hl
    have hr := evs_rep he hg _ _ l ha hl
    have hrun : (execOp a.eval o).run P w = .ok (.enter f (args'.map a.eval)) w := by
      simp only [execOp, ho, resolve, Act.eval, Deferred.ofValue]
      have := hC.enter _ _ _ _ h (.inr hr.yS) (args'.map a.eval) w
      simpa [invoke] using this
    rw [hrun]
    refine ⟨rfl, ?_⟩
    have := hC.calls _ _ _ _ _ ρ w _ h hs hg hr
    simpa [← Array.toList_map] using this
  · cases h

theorem ok_callv (hC : CallerOk pn P G C) {f' : Operand} {f : Opd} {args' : Array Operand} {args : List Opd} (hf : opd G f' = some f) (ha : opds G args' = some args) (h : opF C env s al (.callv f args) = some (d, s')) {o : Oper} {tys : Array TypeId}
    (ho : o.op = .call { callee := .value f', args := args', argTypes := tys }) : OpOk P ρ w env a.tmps d s' ((execOp a.eval o).run P w) := by
  simp only [opF] at h
  split at h
  · rename_i g x y l hfv hl
    have hr := evs_rep he hg _ _ l ha hl
    have hv := opd_rep hf he hg hfv
    simp only [Rep] at hv
    obtain ⟨va, vc, hv, hx, hy⟩ := hv
    have hrun : (execOp a.eval o).run P w = .ok (.enter g (va ++ args'.map a.eval ++ vc)) w := by
      simp only [execOp, ho, resolve, hv, Deferred.ofValue]
      have := hC.enter _ _ _ _ h (.inr ((hx.append hr).append hy).yS) (va ++ args'.map a.eval ++ vc) w
      simpa [invoke] using this
    rw [hrun]
    refine ⟨rfl, ?_⟩
    have := hC.calls _ _ _ _ _ ρ w _ h hs hg ((hx.append hr).append hy)
    have e : (va.toList ++ List.map a.eval args'.toList ++ vc.toList).toArray = va ++ args'.map a.eval ++ vc := by
      apply Array.ext'; simp
    rwa [e] at this
  · rename_i o1 l hfv hl
    have hr := evs_rep he hg _ _ l ha hl
    have hv := opd_rep hf he hg hfv
    obtain ⟨b, hb, fn, tmps, assign, body, hrun, hround⟩ := hC.yields _ _ _ _ _ ρ w _ _ h hs hg hv hr
    have hrun' : (execOp a.eval o).run P w = .ok (.round b fn tmps assign body) w := by
      simp only [execOp, ho, resolve, hb, Deferred.ofValue]
      simpa [invoke, ← Array.toList_map] using hrun
    rw [hrun']
    exact ⟨rfl, hround⟩
  · cases h

omit he hg in
theorem ext_run {k : Ext} {l : List D} {vs : List Value} {e : Array Value → Sem Value} (he : ExtRow e k) (hl : RepL ρ w l vs) (h : extD s k l = some (d, s')) :
    ∃ u w', (e vs.toArray).run P w = .ok u w' ∧ Kp ρ w ρ w' ∧ StRel ρ s' w' ∧ Rep ρ w' d u := by
  have one : ∀ (b c : Nat) (x : Value), w.setCells b c [x] = w.setCell ⟨b, c, none⟩ x := fun _ _ _ => rfl
  -- a number read
  have rd : ∀ (o c : Nat) (p : Value) (j : IntKind) (n : Int), Rep ρ w (.ptr o c) p → loadD s none (.ptr o c) = some (.int j n) → ∃ b, p = .pointer (some ⟨b, c, none⟩) ∧ w.cell? ⟨b, c, none⟩ = some (.int j n) ∧ w.frozen? ⟨b, c, none⟩ = false ∧ ∃ cs e, w.heap[b]? = some (.cells cs e (0, 0)) := by
    intro o c p j n hp hld
    simp only [loadD] at hld
    split at hld
    · rename_i ty v hob
      obtain ⟨b, u, k1, one', r1, r2, r3, r4⟩ := hs.ok _ _ hob
      simp only [Rep, Gh.at, k1] at hp
      obtain ⟨b', hb', hp⟩ := hp
      obtain rfl := one'.2 _ hb'
      have g1 := part_rep (r1.flat r4).1 (D.st_flat r4) hld
      obtain ⟨x, g2, g3, _⟩ := g1
      simp only [Rep] at g3; subst g3
      refine ⟨b', hp, ?_, by simp [World.frozen?, r2], _, _, r2⟩
      rw [cell_block r2]; simpa using g2
    · cases hld
  -- a number written
  have wr : ∀ (o c : Nat) (p : Value) (j : IntKind) (n : Int) (s' : St), Rep ρ w (.ptr o c) p → storeD s 1 (.ptr o c) (.int j n) = some s' → ∃ b, p = .pointer (some ⟨b, c, none⟩) ∧ (∀ m, (store ⟨b, c, none⟩ (.int j n) m).run P w = .ok () (w.setCell ⟨b, c, none⟩ (.int j n))) ∧
      Kp ρ w ρ (w.setCell ⟨b, c, none⟩ (.int j n)) ∧ StRel ρ s' (w.setCell ⟨b, c, none⟩ (.int j n)) := by
    intro o c p j n s' hp hst
    have hc : ∃ b c', p = .pointer (some ⟨b, c', none⟩) ∧ c' = c := by
      have := hp
      simp only [Rep] at this
      unfold storeD at hst
      simp only [D.flat] at hst
      split at hst
      · cases hst
      · split at hst
        · rename_i ty v hob
          obtain ⟨b, u, k1, one', _⟩ := hs.ok _ _ hob
          simp only [Gh.at, k1] at this
          obtain ⟨b', _, hp⟩ := this
          exact ⟨b', c, hp, rfl⟩
        · cases hst
    obtain ⟨b, c', hp1, rfl⟩ := hc
    obtain ⟨b2, c2, e1, e2, e3, e4, n1, n2⟩ := storeD_ok hs hp (show Rep ρ w (.int j n) (.int j n) by simp [Rep]) hst
    rw [hp1] at e1
    simp only [Value.pointer.injEq, Option.some.injEq, Addr.mk.injEq] at e1
    obtain ⟨rfl, rfl, _⟩ := e1
    refine ⟨b, hp1, fun m => ?_, by simpa [Value.cells, one] using n1, by simpa [Value.cells, one] using n2⟩
    obtain ⟨h1, h2⟩ := e4 0 (by omega)
    simp only [Nat.add_zero] at h1 h2
    obtain ⟨q, hq⟩ := Option.isSome_iff_exists.1 h1
    rw [run_store P w _ _ m rfl, hq, h2]
    simp
  unfold extD at h
  split at h
  · simp only [Option.some.injEq, Prod.mk.injEq] at h
    obtain ⟨rfl, rfl⟩ := h
    refine ⟨.tuple #[], w, ?_, Kp.refl _ _, hs, by simp [Rep, RepL]⟩
    rcases he with rfl | rfl <;> simp [Extern.Race.none_]
  · simp only [Option.some.injEq, Prod.mk.injEq] at h
    obtain ⟨rfl, rfl⟩ := h
    simp only [RepL] at hl
    obtain ⟨p, _, rfl, hp, rfl⟩ := hl
    simp only [Rep] at hp
    obtain ⟨q, rfl⟩ := Gh.at_any hp fun _ _ q => ⟨_, q⟩
    refine ⟨.tuple #[], w, ?_, Kp.refl _ _, hs, by simp [Rep, RepL]⟩
    rcases he with rfl | rfl <;> simp [Extern.Race.marked, Extern.Race.at_, Extern.Race.none_]
  · simp only [Option.some.injEq, Prod.mk.injEq] at h
    obtain ⟨rfl, rfl⟩ := h
    simp only [RepL] at hl
    obtain ⟨p, _, rfl, hp, rfl⟩ := hl
    obtain rfl := he
    exact ⟨p, w, rfl, Kp.refl _ _, hs, hp⟩
  · simp only [Option.some.injEq, Prod.mk.injEq] at h
    obtain ⟨rfl, rfl⟩ := h
    simp only [RepL] at hl
    obtain ⟨p, _, rfl, hp, rfl⟩ := hl
    obtain rfl := he
    exact ⟨p, w, rfl, Kp.refl _ _, hs, hp⟩
  · rename_i k o c
    split at h
    · rename_i j n hld
      split at h
      · rename_i hk
        have hk := of_decide_eq_true hk; subst hk
        simp only [Option.some.injEq, Prod.mk.injEq] at h
        obtain ⟨rfl, rfl⟩ := h
        simp only [RepL] at hl
        obtain ⟨p, _, rfl, hp, rfl⟩ := hl
        obtain ⟨b, rfl, h1, h2, _⟩ := rd o c p _ n hp hld
        obtain rfl := he
        refine ⟨.int k n, w, ?_, Kp.refl _ _, hs, by simp [Rep]⟩
        simp [loadT_eq, asAddr, Extern.Atomic.read, h1]
      · cases h
    · cases h
  · rename_i o c j n
    obtain ⟨h1, rfl⟩ := ofS_some h
    simp only [RepL] at hl
    obtain ⟨p, _, rfl, hp, x, _, rfl, hx, rfl⟩ := hl
    simp only [Rep] at hx; subst hx
    obtain ⟨b, rfl, h2, h3, h4⟩ := wr o c p j n s' hp h1
    obtain rfl := he
    refine ⟨.tuple #[], _, ?_, h3, h4, by simp [Rep, RepL]⟩
    simp [storeT_eq, asAddr, h2, Extern.Atomic.none_]
  · rename_i k o c j1 a1 j n
    split at h
    · rename_i j' x hld
      split at h
      · rename_i hk
        simp only [Bool.and_eq_true, decide_eq_true_eq] at hk
        obtain ⟨rfl, rfl⟩ := hk
        simp only [RepL] at hl
        obtain ⟨p, _, rfl, hp, y1, _, rfl, hy1, y2, _, rfl, hy2, rfl⟩ := hl
        simp only [Rep] at hy1 hy2; subst hy1 hy2
        obtain ⟨b, rfl, h1, h2, cs, e0, h3⟩ := rd o c p _ x hp hld
        obtain rfl := he
        have htf : (Extern.Atomic.touchesFrozen ⟨b, c, none⟩).run P w = .ok false w := by
          simp [Extern.Atomic.touchesFrozen, viewAt, shape, World.shape?, frozen, h3, h2, Sem.run]
        split at h
        · rename_i hxa
          have hxa : x = a1 := by simpa using hxa
          obtain ⟨h4, rfl⟩ := ofS_some h
          obtain ⟨b2, e2, g2, g3, g4⟩ := wr o c _ _ n s' hp h4
          simp only [Value.pointer.injEq, Option.some.injEq, Addr.mk.injEq] at e2
          obtain ⟨rfl, _⟩ := e2
          refine ⟨.bool true, _, ?_, g3, g4, by simp [Rep]⟩
          simp [casT_eq, asAddr, htf, Extern.Atomic.read, h1, hxa, g2]
        · rename_i hxa
          have hxa : ¬ x = a1 := by simpa using hxa
          simp only [Option.some.injEq, Prod.mk.injEq] at h
          obtain ⟨rfl, rfl⟩ := h
          refine ⟨.bool false, w, ?_, Kp.refl _ _, hs, by simp [Rep]⟩
          simp [casT_eq, asAddr, htf, Extern.Atomic.read, h1, hxa]
      · cases h
    · cases h
  · rename_i k o c j1 n
    split at h
    · rename_i j x hld
      split at h
      · rename_i hk
        have hk := of_decide_eq_true hk; subst hk
        obtain ⟨h4, rfl⟩ := ofS_some h
        simp only [RepL] at hl
        obtain ⟨p, _, rfl, hp, y1, _, rfl, hy1, rfl⟩ := hl
        simp only [Rep] at hy1; subst hy1
        obtain ⟨b, rfl, h1, h2, _⟩ := rd o c p _ x hp hld
        obtain rfl := he
        obtain ⟨b2, e2, g2, g3, g4⟩ := wr o c _ _ _ s' hp h4
        simp only [Value.pointer.injEq, Option.some.injEq, Addr.mk.injEq] at e2
        obtain ⟨rfl, _⟩ := e2
        refine ⟨.int k (k.wrap (x + n)), _, ?_, g3, g4, by simp [Rep]⟩
        simp [update_eq, asAddr, Extern.Atomic.read, h1, asInt, asIntOf, Op.intArith, g2]
      · cases h
    · cases h
  · cases h

theorem ok_ext {f : FuncId} {k : Ext} (hX : ExtOk P f k) {args' : Array Operand} {args : List Opd} (ha : opds G args' = some args) (h : opF C env s al (.ext k args) = some (d, s')) {o : Oper} {tys : Array TypeId}
    (ho : o.op = .call { callee := .value (.func f), args := args', argTypes := tys }) : OpOk P ρ w env a.tmps d s' ((execOp a.eval o).run P w) := by
  simp only [opF] at h
  split at h
  · rename_i l hl
    have hr := evs_rep he hg _ _ l ha hl
    obtain ⟨e, h1, h2⟩ := hX.run
    obtain ⟨u, w', g1, g2, g3, g4⟩ := ext_run (P := P) hs h1 hr h
    have hrun : (execOp a.eval o).run P w = .ok (.value u) w' := by
      simp only [execOp, ho, resolve, Act.eval, Deferred.ofValue]
      have h3 := h2 (args'.map a.eval) w
      have e : args'.map a.eval = (args'.toList.map a.eval).toArray := by apply Array.ext'; simp
      rw [Sem.run_bind, e, g1] at h3
      simp only [Result.andThen_ok, Sem.run_pure] at h3
      rw [← e] at h3
      simpa [invoke] using h3
    rw [hrun]
    exact .val g2 g3 g4
  · cases h
end
end Go.Ab
