/- Functions: results, calls put off, the whole of the interpreter. -/
import Derived.Test.YtloaklflgfefaaaGreatDoorA35
import Derived.RangeFuncLeaves
namespace Go.Ab
open Go
set_option linter.unusedSectionVars false
set_option linter.unusedSimpArgs false
set_option linter.unusedVariables false
variable [Vals]
variable {ρ ρ' ρ0 : Gh} {w w' w0 : World} {P : Program} {pn : Pins} {G : Gl} {X : Exts} {A : Adv} {s s' : St} {env : Env} {a : Act} {lo : Nat} {d : D} {C CD : Caller} {L : Looper} {al : Option Nat} {fr fr' : Fr}

theorem load_asAddr {t : TypeId} {v u : Value} (h : (Instr.loadAt t v).run P w = .ok u w) : ((do loadVar t (← asAddr v)) : Sem Value).run P w = .ok u w := by
  cases v with
  | pointer p =>
    cases p with
    | none => simp [Instr.loadAt, Instr.sureAddr, stuck, Sem.run] at h
    | some q => simpa [Instr.loadAt, Instr.sureAddr, asAddr] using h
  | _ => simp [Instr.loadAt, Instr.sureAddr, stuck, Sem.run] at h

def resV (tmps : Array Value) : ResultVar → Sem Value
  | .tmp t => pure (tmps.getD t undef)
  | .cell a t => do loadVar t (← asAddr (tmps.getD a undef))

theorem results_list (he : EnvRel ρ w lo env a.tmps) (hs : StRel ρ s w) : ∀ (rs : List ResultVar) (rs' : List ARes) (l : List D), rs.mapM (resB P) = some rs' → resD env s rs' = some l → ∃ vs, (rs.mapM (resV a.tmps)).run P w = .ok vs w ∧ RepL ρ w l vs
  | [], rs', l, h, h' => by
    simp at h; subst h
    simp only [resD, Option.some.injEq] at h'; subst h'
    exact ⟨[], by simp, by simp [RepL]⟩
  | r :: rs, rs', l, h, h' => by
    simp only [List.mapM_cons, Option.pure_def, Option.bind_eq_bind, Option.bind_eq_some_iff] at h
    obtain ⟨x, h1, q, h2, h3⟩ := h
    simp only [Option.some.injEq] at h3; subst h3
    have cons : ∀ d l' v, resD env s q = some l' → (resV a.tmps r).run P w = .ok v w → Rep ρ w d v → ∃ vs, ((r :: rs).mapM (resV a.tmps)).run P w = .ok vs w ∧ RepL ρ w (d :: l') vs := by
      intro d l' v hl hv hr
      obtain ⟨vs, g1, g2⟩ := results_list he hs rs q l' h2 hl
      refine ⟨v :: vs, by simp [List.mapM_cons, hv, g1], ?_⟩
      simp only [RepL]; exact ⟨v, vs, rfl, hr, g2⟩
    cases r with
    | tmp t =>
      simp only [resB, Option.some.injEq] at h1; subst h1
      simp only [resD] at h'
      split at h'
      · rename_i d l' hd hl
        simp only [Option.some.injEq] at h'; subst h'
        have hg : GlOk .none (fun _ => none) ρ w := ⟨(fun _ _ h => by cases h), trivial⟩
        exact cons d l' (a.tmps.getD t undef) hl (by simp only [resV, Sem.run_pure]) (opd_rep (x' := .tmp t) rfl he hg hd)
      · cases h'
    | cell b t =>
      simp only [resB, Option.map_eq_some_iff] at h1
      obtain ⟨sz, hsz, rfl⟩ := h1
      simp only [resD] at h'
      split at h'
      · rename_i v hlv
        split at h'
        · rename_i d l' hd hl
          simp only [Option.some.injEq] at h'; subst h'
          have hsl := he.slot _ _ hlv
          simp only [SlotRel] at hsl
          obtain ⟨b', q', el, q1, q2, q3, q4, q5, q6⟩ := hsl
          obtain ⟨hf, _⟩ := q4.flat q6
          have g1 := part_rep hf (D.st_flat q6) hd
          have g2 := run_load (P := P) (c := 0) (rangeAt_of_block q5) hsz
          simp only [Nat.add_zero] at g2
          have ht : a.tmps.getD b undef = .pointer (some ⟨b', 0, none⟩) := by simp [q1]
          cases sz with
          | some n =>
            obtain ⟨g3, g4⟩ := g1
            exact cons d l' _ hl (by simp only [resV, ht]; exact load_asAddr (g2 g3)) g4
          | none =>
            obtain ⟨u, g3, g4, _⟩ := g1
            exact cons d l' _ hl (by simp only [resV, ht]; exact load_asAddr (g2 u g3)) g4
        · cases h'
      · rename_i p hnl hp
        split at h'
        · rename_i d l' hd hl
          simp only [Option.some.injEq] at h'; subst h'
          have hsl := he.slot _ _ hp
          have hpv : Rep ρ w p (a.tmps.getD b undef) := by
            cases p <;> first | (simp only [loadD] at hd; cases hd; done) | (simp only [SlotRel] at hsl; obtain ⟨v, hv, hr⟩ := hsl; simpa [hv] using hr) | exact absurd rfl (hnl _)
          obtain ⟨u, g1, g2⟩ := load_ok (P := P) hs hsz hd hpv
          exact cons d l' u hl (by simp only [resV]; exact load_asAddr g1) g2
        · cases h'
      · cases h'

theorem results_ok (he : EnvRel ρ w lo env a.tmps) (hs : StRel ρ s w) {fn : Func} {rs' : List ARes} {l : List D} (h : fn.results.toList.mapM (resB P) = some rs') (h' : resD env s rs' = some l) : ∃ v, (results fn a.tmps).run P w = .ok v w ∧ Rep ρ w (single l) v := by
  obtain ⟨vs, g1, g2⟩ := results_list he hs _ _ _ h h'
  have hm : (fn.results.mapM (resV a.tmps)).run P w = .ok vs.toArray w := by
    rw [Array.mapM_eq_mapM_toList]
    simp [g1]
  refine ⟨if h : vs.toArray.size = 1 then vs.toArray[0] else .tuple vs.toArray, ?_, ?_⟩
  · have : results fn a.tmps = (do let vs ← fn.results.mapM (resV a.tmps); pure (if h : vs.size = 1 then vs[0] else .tuple vs)) := by
      unfold results
      congr 1
    rw [this, Sem.run_bind, hm]
    rfl
  · have hl := g2.length
    cases l with
    | nil => simp only [RepL] at g2; subst g2; simp [single, Rep, RepL]
    | cons d l =>
      cases l with
      | nil =>
        simp only [RepL] at g2
        obtain ⟨v, _, rfl, h1, rfl⟩ := g2
        simpa [single] using h1
      | cons d2 l =>
        have hne : ¬ vs.toArray.size = 1 := by simp; simp at hl; omega
        rw [dif_neg hne]
        simp only [single, Rep]
        exact ⟨_, rfl, by simpa using g2⟩

structure CallerDOk (pn : Pins) (P : Program) (G : Gl) (C : Caller) : Prop where
  enter : ∀ f l s r, C f l s = some r → ∀ (args : Array Value) w, (callFunc f args).run P w = .ok (.enter f args) w
  calls : ∀ f l s d s' ρ w vs u, C f l s = some (d, s') → StRel ρ s w → GlOk pn G ρ w → RepL ρ w l vs → CallsDIn Fence.wide 0 P f vs.toArray u w (fun e u' w' => u' = u ∧ CallPost ρ w s' d e w')

/-- A mark is taken. -/
theorem EnvRel.putDef {tmps : Array Value} (he : EnvRel ρ w lo env tmps) {b : Nat} {ds : List Deferred} (hp : ρ.own b = .priv) (hb : w.heap[b]? = some (.deferred (some ds))) (hK : Kr ρ w ρ (w.putObj b (.deferred none))) : EnvRel ρ (w.putObj b (.deferred none)) lo env tmps := by
  refine ⟨fun t d hd => ?_, he.inj⟩
  have := he.slot t d hd
  cases d with
  | lv x =>
    simp only [SlotRel] at *
    obtain ⟨b', v, el, h1, h2, h3, h4, h5, h6⟩ := this
    exact ⟨b', v, el, h1, h2, h3, Rep.mono' hK _ _ h4, (World.putObj_heap_other (by rintro rfl; rw [hb] at h5; cases h5)).trans h5, h6⟩
  | lptr a c => exact this
  | _ =>
    simp only [SlotRel] at *
    obtain ⟨v, h1, h2⟩ := this
    exact ⟨v, h1, Rep.mono' hK _ _ h2⟩
theorem DefRel.putDef {lo : Nat} {b : Nat} (hK : Kr ρ w ρ (w.putObj b (.deferred none))) : ∀ {l : List (D × List D)} {ds : List Deferred}, (∀ m ∈ ds, m.target ≠ .collected b) → DefRel ρ w lo l ds → DefRel ρ (w.putObj b (.deferred none)) lo l ds
  | [], _, _, h => h
  | (d, l) :: r, _, hm, h => by
    rcases h with ⟨h1, b', t, rfl, h3, h4, h5, h6, h7⟩ | ⟨f, x, y, va, vc, vl, t, h1, rfl, h3, h4, h5, h6⟩
    · have hne : b' ≠ b := by rintro rfl; exact hm { target := .collected b', args := #[] } (by simp) rfl
      exact .inl ⟨h1, b', t, rfl, h3, h4, (World.putObj_heap_other hne).trans h5, h6, DefRel.putDef hK (fun m h => hm m (by simp [h])) h7⟩
    · exact .inr ⟨f, x, y, va, vc, vl, t, h1, rfl, RepL.mono' hK _ _ h3, RepL.mono' hK _ _ h4, RepL.mono' hK _ _ h5, DefRel.putDef hK (fun m h => hm m (by simp [h])) h6⟩

theorem leave_ok (hCD : CallerDOk pn P G CD) (hg : GlOk pn G ρ0 w0) {fn : Func} {tmps : Array Value} {R : Ending → World → Prop} :
    ∀ (l : List (D × List D)) (ds : List Deferred) (s : St) (ρ : Gh) (w : World), DefRel ρ w w0.heap.size l ds → leave CD l s = some s' → StRel ρ s w → Kp ρ0 w0 ρ w → EnvRel ρ w lo env tmps →
      (∀ ρ' w', Kp ρ0 w0 ρ' w' → StRel ρ' s' w' → EnvRel ρ' w' lo env tmps → LeavesInM Fence.wide 0 P fn tmps R [] .returning w') → LeavesInM Fence.wide 0 P fn tmps R ds .returning w
  | [], ds, s, ρ, w, hd, h, hs, hK, he, hfin => by
    simp only [DefRel] at hd; subst hd
    simp only [leave, Option.some.injEq] at h; subst h
    exact hfin ρ w hK hs he
  | (d, l) :: r, ds, s, ρ, w, hd, h, hs, hK, he, hfin => by
    rcases hd with ⟨rfl, b, t, rfl, h3, h4, h5, h6, h7⟩ | ⟨f, x, y, va, vc, vl, t, rfl, rfl, h3, h4, h5, h6⟩
    · simp only [leave] at h
      obtain ⟨r1, r2⟩ := putObj_priv hs (l := b) (.deferred none) h4
      refine ⟨by simp, .inl ⟨b, _, rfl, run_takeDeferred h5, ?_⟩⟩
      refine leave_ok hCD hg r t s ρ _ (h7.putDef r1 h6) h r2 ⟨hK.os, hK.tape, hK.output, by rw [World.putObj_size]; exact hK.size, fun b' hb' hn => ?_, hK.dead, hK.live⟩ (he.putDef h4 h5 r1) hfin
      obtain ⟨e1, e2⟩ := hK.kept b' hb' hn
      exact ⟨(World.putObj_heap_other (by omega)).trans e1, e2⟩
    · cases f <;> simp only [leave] at h <;> (try (cases h; done))
      rename_i g
      split at h
      · rename_i d1 s1 hc
        have hi := hCD.enter _ _ _ _ hc (va ++ vl ++ vc) w
        refine ⟨by simp, .inr ⟨fun h => (by cases h), .func g, vc, g, va ++ vl ++ vc, rfl, by simpa [invoke] using hi, fun _ _ => trivial, ?_⟩⟩
        have := hCD.calls _ _ _ _ _ ρ w _ .returning hc hs (hg.mono hK) ((h3.append h5).append h4)
        have e : (va.toList ++ vl.toList ++ vc.toList).toArray = va ++ vl ++ vc := by apply Array.ext'; simp
        rw [e] at this
        refine this.mono fun e' u' w' hr => ?_
        obtain ⟨rfl, hr⟩ := hr
        cases e' with
        | returned v =>
          obtain ⟨ρ', k1, k2, k3⟩ := hr
          exact leave_ok hCD hg r t s1 ρ' w' (h6.mono k1) h k2 (hK.trans k1) (he.mono k1) hfin
        | panicked _ => exact hr.elim
        | outgrown => exact hr.elim
      · cases h

structure TabOk (P : Program) (G : Gl) (X : Exts) (T : Nat → Option AFn) : Prop where
  ok : ∀ f fn, T f = some fn → ∃ func A, P.funcs[f]? = some func ∧ (func.name == "runtime.NumGoroutine") = false ∧ compileFn P G X func A = some fn

theorem env0_get : ∀ {l : List D} {i t : Nat} {d : D}, (env0 i l).get t = some d → i ≤ t ∧ l[t - i]? = some d
  | [], i, t, d, h => by simp [env0, Env.get] at h
  | x :: l, i, t, d, h => by
    simp only [env0] at h
    rw [get_cons] at h
    split at h
    · rename_i e; subst e; simp only [Option.some.injEq] at h; subst h; simp
    · rename_i hne
      obtain ⟨h1, h2⟩ := env0_get h
      refine ⟨by omega, ?_⟩
      rw [show t - i = (t - (i + 1)) + 1 by omega]; simpa using h2

theorem inv0 (hs : StRel ρ s w) {l : List D} {vs : List Value} (hl : RepL ρ w l vs) (n : Nat) : Inv ρ w n { env := env0 0 l, defers := [] } s { tmps := vs.toArray ++ Array.replicate (n - vs.toArray.size) undef, defers := [] } w := by
  have key : ∀ t d, (env0 0 l).get t = some d → ∃ v, (vs.toArray ++ Array.replicate (n - vs.toArray.size) undef)[t]? = some v ∧ Rep ρ w d v := fun t d h => by
    obtain ⟨_, h2⟩ := env0_get h
    simp only [Nat.sub_zero] at h2
    obtain ⟨v, h3, h4⟩ := hl.get h2
    have hlt : t < vs.length := (List.getElem?_eq_some_iff.1 h3).1
    refine ⟨v, ?_, h4⟩
    rw [Array.getElem?_append_left (by simpa using hlt)]; simpa using h3
  refine ⟨ρ, Kp.refl _ _, ⟨⟨fun t d h => ?_, fun t t' x x' b _ h1 _ => ?_⟩, by simp; omega, rfl⟩, hs⟩
  · obtain ⟨v, h1, h2⟩ := key t d h
    cases d <;> first | exact ⟨v, h1, h2⟩ | (simp only [Rep] at h2)
  · obtain ⟨v, _, h2⟩ := key t _ h1
    simp only [Rep] at h2

theorem enter_ok {T : Nat → Option AFn} (hT : TabOk P G X T) {f : Nat} {fn : AFn} (h : T f = some fn) (args : Array Value) (w : World) : (callFunc f args).run P w = .ok (.enter f args) w := by
  obtain ⟨func, A, h1, h2, h3⟩ := hT.ok f fn h
  have h2 : func.name ≠ "runtime.NumGoroutine" := by simpa using h2
  unfold compileFn at h3
  split at h3
  · rename_i c rs hb _
    simp [callFunc, h1, h2, hb]
  · cases h3

theorem runFn_ok {T : Nat → Option AFn} (hT : TabOk P G X T) (hX : ∀ f k, X f = some k → ExtOk P f k) (hC : CallerOk pn P G C) (hCD : CallerDOk pn P G CD) (hL : LoopOk pn P G X L) (hD : DrawnOk pn P G X C) {f : Nat} {fn : AFn} (hf : T f = some fn) {l : List D} {vs : List Value}
    (h : runFn C CD L fn l s = some (d, s')) (hs : StRel ρ s w) (hg : GlOk pn G ρ w) (hl : RepL ρ w l vs) : Calls P f vs.toArray w (CallPost ρ w s' d) := by
  obtain ⟨func, A, h1, h2, h3⟩ := hT.ok f fn hf
  unfold compileFn at h3
  split at h3
  · rename_i c rs hb hrs
    simp only [Option.some.injEq] at h3; subst h3
    refine callsIn_wide.1 (callsIn_of_wp_marks (n := 0) h1 hb trivial ?_)
    unfold runFn at h
    have fin : ∀ e fr' s1, (e = .normal ∨ e = .ret) → execS C L (compile P G X { A with nt := func.ntmps } c A.ks).1 { env := env0 0 l, defers := [] } s = some (e, fr', s1) →
        (match leave CD fr'.defers s1 with | some s'' => (match resD fr'.env s'' rs with | some l => some (single l, s'') | none => none) | none => none) = some (d, s') → c.wpIn Fence.wide 0 P (bodyPostM Fence.wide 0 P func (CallPost ρ w s' d)) { tmps := vs.toArray ++ Array.replicate (func.ntmps - vs.toArray.size) undef, defers := [] } w := by
      intro e fr' s1 he hex hlv
      split at hlv
      · rename_i s2 hle
        split at hlv
        · rename_i l2 hres
          simp only [Option.some.injEq, Prod.mk.injEq] at hlv
          obtain ⟨rfl, rfl⟩ := hlv
          refine wpIn_mono (code_ok (rd := none) (A := { A with nt := func.ntmps }) hC hX hL hD hg c A.ks _ _ _ s e fr' s1 _ w (.inl rfl) rfl hex (inv0 hs hl func.ntmps)) fun ex a' w' hq => ?_
          obtain ⟨hx, ρ1, k1, k2, k3⟩ := hq
          have hlv : LeavesInM Fence.wide 0 P func a'.tmps (CallPost ρ w s2 (single l2)) a'.defers .returning w' :=
            leave_ok hCD hg fr'.defers a'.defers s1 ρ1 w' k2.defers hle k3 k1 k2.env (fun ρ2 w2 q1 q2 q3 => by
              obtain ⟨v, r1, r2⟩ := results_ok (P := P) q3 q2 hrs hres
              exact ⟨v, r1, ρ2, q1, q2, r2⟩)
          rcases he with rfl | rfl <;> cases ex <;> simp only [ExRel] at hx <;> exact hlv
        · cases hlv
      · cases hlv
    split at h
    · cases h
    · rename_i e fr' s1 hne hex
      refine fin e fr' s1 ?_ hex h
      cases e with
      | normal => exact .inl rfl
      | exit id => exact (hne id rfl).elim
      | ret => exact .inr rfl
    · cases h
  · cases h3

theorem callD_ok {T : Nat → Option AFn} (hT : TabOk P G X T) (hX : ∀ f k, X f = some k → ExtOk P f k) (hC : CallerOk pn P G C) (hL : LoopOk pn P G X L) (hD : DrawnOk pn P G X C) : CallerDOk pn P G (callD T C L) := by
  refine ⟨fun f l s r h args w => ?_, fun f l s d s' ρ w vs u h hs hg hl => ?_⟩
  · unfold callD at h
    split at h
    · rename_i fn hf; exact enter_ok hT hf args w
    · cases h
  · unfold callD at h
    split at h
    · rename_i fn hf
      obtain ⟨func, A, h1, h2, h3⟩ := hT.ok f fn hf
      unfold compileFn at h3
      split at h3
      · rename_i c rs hb hrs
        simp only [Option.some.injEq] at h3; subst h3
        refine callsDIn_of_wp (n := 0) h1 hb trivial ?_
        unfold runFnD at h
        have fin : ∀ e fr' s1, (e = .normal ∨ e = .ret) → execS C L (compile P G X { A with nt := func.ntmps } c A.ks).1 { env := env0 0 l, defers := [] } s = some (e, fr', s1) →
            (match fr'.defers with | [] => (match resD fr'.env s1 rs with | some l => some (single l, s1) | none => none) | _ => none) = some (d, s') → c.wpIn Fence.wide 0 P (bodyPost P func (CallPost ρ w s' d)) { tmps := vs.toArray ++ Array.replicate (func.ntmps - vs.toArray.size) undef, defers := [] } w := by
          intro e fr' s1 he hex hlv
          split at hlv
          · rename_i hdf
            split at hlv
            · rename_i l2 hres
              simp only [Option.some.injEq, Prod.mk.injEq] at hlv
              obtain ⟨rfl, rfl⟩ := hlv
              refine wpIn_mono (code_ok (rd := none) (A := { A with nt := func.ntmps }) hC hX hL hD hg c A.ks _ _ _ s e fr' s1 _ w (.inl rfl) rfl hex (inv0 hs hl func.ntmps)) fun ex a' w' hq => ?_
              obtain ⟨hx, ρ1, k1, k2, k3⟩ := hq
              have hd0 := k2.defers
              rw [hdf] at hd0
              simp only [DefRel] at hd0
              obtain ⟨v, r1, r2⟩ := results_ok (P := P) k2.env k3 hrs hres
              have hlv : a'.defers = [] ∧ ∃ v, (results func a'.tmps).run P w' = .ok v w' ∧ CallPost ρ w s1 (single l2) (.returned v) w' := ⟨hd0, v, r1, ρ1, k1, k3, r2⟩
              rcases he with rfl | rfl <;> cases ex <;> simp only [ExRel] at hx <;> exact hlv
            · cases hlv
          · cases hlv
        split at h
        · cases h
        · rename_i e fr' s1 hne hex
          refine fin e fr' s1 ?_ hex h
          cases e with
          | normal => exact .inl rfl
          | exit id => exact (hne id rfl).elim
          | ret => exact .inr rfl
        · cases h
      · cases h3
    · cases h

/-- The interpreter is right. -/
theorem callN_ok {T : Nat → Option AFn} (hT : TabOk P G X T) (hX : ∀ f k, X f = some k → ExtOk P f k) (hD : ∀ pn C, CallerOk pn P G C → DrawnOk pn P G X C) : ∀ n {pn : Pins} {H : Caller}, CallerOk pn P G H → CallerOk pn P G (callN T H n) ∧ LoopOk pn P G X (loopN T H n)
  | 0, pn, H, hH => by
    refine ⟨⟨fun f l s r h => ?_, fun f l s d s' ρ w vs h => ?_, (callN_ro hH.ro 0).1, fun y l s d s' ρ w u vs h => by simp [callN] at h⟩, ⟨(callN_ro hH.ro 0).2, fun rd A ρ0 w0 c ks ks' keep ac fr s e fr' s' a w hrd hnr hg hc h => ?_, fun A ρ0 w0 g g' ps ca cb k1 k2 k3 k4 keep x y fr s e fr' s' a w hg hgo hx hy nx ny hps h => ?_⟩⟩
    · simp [callN] at h
    · simp [callN] at h
    · simp [loopN] at h
    · simp [loopN] at h
  | n + 1, pn, H, hH => by
    obtain ⟨ih1, ih2⟩ := callN_ok hT hX hD n hH
    refine ⟨⟨fun f l s r h hy args w => ?_, fun f l s d s' ρ w vs h hs hg hl => ?_, (callN_ro hH.ro (n + 1)).1, fun y l s d s' ρ w u vs h => ?_⟩, ⟨(callN_ro hH.ro (n + 1)).2, loop_ok hX ih1 (hD _ _ ih1) ih2, fun A ρ0 w0 g g' ps ca cb k1 k2 k3 k4 keep x y fr s e fr' s' a w hg hgo hx hy nx ny hps h hI => ?_⟩⟩
    · simp only [callN] at h
      split at h
      · exact hH.enter f l s r h hy args w
      · split at h
        · rename_i fn hf; exact enter_ok hT hf args w
        · exact hH.enter f l s r h hy args w
    · simp only [callN, hl.yS] at h
      split at h
      · rename_i fn hf
        exact runFn_ok hT hX ih1 (callD_ok hT hX ih1 ih2 (hD _ _ ih1)) ih2 (hD _ _ ih1) hf h hs hg hl
      · exact hH.calls f l s d s' ρ w vs h hs hg hl
    · simp only [callN, yS] at h
      exact hH.yields y l s d s' ρ w u vs h
    · rw [loopN_range] at h
      exact range_ok (A := A) (fun k l r env e1 e2 e3 e4 => (callN_ok hT hX hD n (yHook_ok (A := A) ih1 hX ih2 (hD _ _ ih1) hH hx hy nx ny hps e1 e2 e3 e4)).1) hg hgo h hI
end Go.Ab
