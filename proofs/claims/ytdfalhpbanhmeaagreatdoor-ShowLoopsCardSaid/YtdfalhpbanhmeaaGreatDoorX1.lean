/- show.Text by hand: the rounds of its range over a function; the function; the caller with it. -/
import Derived.Test.YtdfalhpbanhmeaaGreatDoorA31
import Derived.RangeFuncRecord
import Derived.Test.YtdfalhpbanhmeaaGreatDoorTP
namespace Go.Ab
open Go
set_option linter.unusedSectionVars false
set_option linter.unusedSimpArgs false
set_option linter.unusedVariables false
variable [Vals]
variable {ρ ρ' ρ0 : Gh} {w w' w0 : World} {P : Program} {pn : Pins} {G : Gl} {s s' : St}

/-- A frame's own block is written over. -/
theorem putObj_priv (hs : StRel ρ s w) {l : Nat} (o : Go.Obj) (hp : ρ.own l = .priv) : Kr ρ w ρ (w.putObj l o) ∧ StRel ρ s (w.putObj l o) := by
  have hh : ∀ b, b ≠ l → (w.putObj l o).heap[b]? = w.heap[b]? := fun b hb => World.putObj_heap_other hb
  have hK : Kr ρ w ρ (w.putObj l o) := ⟨fun b _ hi => ⟨hh b (by rintro rfl; rw [hp] at hi; cases hi), hi⟩, fun _ h => ⟨h, rfl⟩, fun _ _ h => .inr ⟨h, fun _ hb => ⟨hb, rfl, Nat.le_refl _, rfl⟩⟩⟩
  exact ⟨hK, hs.keep hK (fun _ _ => Iff.rfl) rfl (fun b o hb => ⟨hh b (by rintro rfl; rw [hp] at hb; cases hb), rfl, rfl, rfl⟩) (fun b hb => hs.size b (by simpa using hb))⟩
theorem GlOk.kr {ρ' : Gh} (hg : GlOk pn G ρ w) (hK : Kr ρ w ρ' w') : GlOk .none G ρ' w' := ⟨fun g d hd => (hg.1 g d hd).mono' hK, trivial⟩

/-- The ghosts behind the entry of such a loop. -/
def Gh.loop (ρ : Gh) (n k : Nat) : Gh :=
  { ρ with
    own := fun b => if b = n then .priv else if b = n + 1 then .priv else ρ.own b
    kd := fun o => if o = k then .dead else ρ.kd o
    lp := fun o => if o = k then n + 1 else ρ.lp o }
theorem loop_enter (hs : StRel ρ s w) (rec : Go.Loop) : Kp ρ w (ρ.loop w.heap.size s.n) ((w.alloc (.deferred (some []))).alloc (.loop rec)) ∧ StRel (ρ.loop w.heap.size s.n) (s.push0 .dead) ((w.alloc (.deferred (some []))).alloc (.loop rec)) ∧
    PinOk (s.n, w.heap.size + 1, .loop rec) (ρ.loop w.heap.size s.n) ((w.alloc (.deferred (some []))).alloc (.loop rec)) ∧ ((w.alloc (.deferred (some []))).alloc (.loop rec)).heap[w.heap.size]? = some (.deferred (some [])) := by
  have hheap : ((w.alloc (.deferred (some []))).alloc (.loop rec)).heap = (w.heap.push (.deferred (some []))).push (.loop rec) := rfl
  have hn : s.get s.n = none := by
    cases h : s.get s.n with
    | none => rfl
    | some x => exact absurd (hs.lt _ _ h) (Nat.lt_irrefl _)
  have hf := hs.no _ hn
  have hold : ∀ b, b < w.heap.size → ((w.alloc (.deferred (some []))).alloc (.loop rec)).heap[b]? = w.heap[b]? := fun b hb => by
    rw [hheap, Array.getElem?_push, Array.getElem?_push, if_neg (by simp; omega), if_neg (by omega)]
  have hown : ∀ b, b < w.heap.size → (ρ.loop w.heap.size s.n).own b = ρ.own b := fun b hb => by
    simp only [Gh.loop]; rw [if_neg (by omega), if_neg (by omega)]
  have hK : Kp ρ w (ρ.loop w.heap.size s.n) ((w.alloc (.deferred (some []))).alloc (.loop rec)) := by
    refine ⟨rfl, rfl, rfl, by rw [hheap]; simp; omega, fun b hb _ => ⟨hold b hb, hown b hb⟩, fun o ho => ?_, fun o z ho => .inr ⟨?_, fun b hb => ⟨(hown b (hs.own_lt hb)).trans hb, rfl, Nat.le_refl _, rfl⟩⟩⟩
    · have : o ≠ s.n := by rintro rfl; rw [hf] at ho; cases ho
      exact ⟨by simp [Gh.loop, this, ho], by simp [Gh.loop, this]⟩
    · have : o ≠ s.n := by rintro rfl; rw [hf] at ho; cases ho
      simp [Gh.loop, this, ho]
  refine ⟨hK, ?_, ⟨by simp [Gh.loop], by simp [Gh.loop], by simp [Gh.loop], ?_⟩, ?_⟩
  · refine hs.upd hK s.n .dead (fun b o hne _ => ?_) (fun o hne => by simp [Gh.loop, hne]) (fun b o _ _ hb => ⟨hold b (hs.own_lt hb), rfl, rfl, rfl⟩) (by simp [ObjOk, Gh.loop]) (fun b hb => ?_) (by simp [St.push0]) (by simp [St.push0]) (St.get_push0 s _)
    · by_cases hb : b < w.heap.size
      · rw [hown b hb]
      · constructor
        · intro h
          simp only [Gh.loop] at h
          split at h
          · cases h
          · split at h
            · cases h
            · exact h
        · intro h; exact absurd (hs.own_lt h) hb
    · rw [hheap] at hb
      simp only [Array.size_push] at hb
      simp only [Gh.loop]
      rw [if_neg (by omega), if_neg (by omega)]
      exact hs.size b (by omega)
  · rw [hheap, Array.getElem?_push, if_pos (by simp)]
  · rw [hheap, Array.getElem?_push, if_neg (by simp), Array.getElem?_push, if_pos rfl]

/-- The statement. -/
theorem range_wp {g : Operand} {ps : Array Tmp} {assign body : Code} {Q : Exit → Act → World → Prop} {a : Act} {gf : Nat} {lb : Array Value} {caps : List D} {C1 : Caller} {d : D} {s2 : St}
    (hs : StRel ρ s w) (hgl : GlOk pn G ρ w) (J0 : Pins) (hJ : J0.J ρ w) (hgv : a.eval g = .func (.func gf) #[] lb) (hcaps : RepL ρ w caps lb.toList)
    (hrun : C1 gf (.yl s.n :: caps) (s.push0 .dead) = some (d, s2))
    (hC : ∀ fn, CallerOk (J0.loop (s.n, w.heap.size + 1, .loop { state := .ready, pending := none, fn := fn, tmps := a.tmps, params := ps, assign := assign, body := body, defers := w.heap.size })) P G C1)
    (hQ : ∀ ρ' w', Kp ρ w ρ' w' → StRel ρ' s2 w' → w'.heap[w.heap.size]? = some (.deferred (some [])) → ρ'.own w.heap.size = .priv → Q .normal { a with defers := { target := .collected w.heap.size, args := #[] } :: a.defers } w') :
    (Code.rangeFunc g ps assign body).wpIn Fence.wide 0 P Q a w := by
  refine wpIn_rangeFunc fun fn _ => ?_
  obtain ⟨rec, hrec⟩ : ∃ rec : Go.Loop, rec = { state := .ready, pending := none, fn := fn, tmps := a.tmps, params := ps, assign := assign, body := body, defers := w.heap.size } := ⟨_, rfl⟩
  have hC' := hC fn
  rw [← hrec] at hC'
  obtain ⟨k1, k2, k3, k4⟩ := loop_enter hs rec
  have hr := run_enterLoop_outer (P := P) (w := w) fn a.tmps ps assign body
  rw [← hrec] at hr
  obtain ⟨W1, hW1⟩ : ∃ W1, (w.alloc (.deferred (some []))).alloc (.loop rec) = W1 := ⟨_, rfl⟩
  rw [hW1] at k1 k2 k3 k4 hr
  have hy : yS (.yl s.n :: caps) = false := rfl
  have eg := hC'.enter _ _ _ _ hrun (.inr hy)
  refine ⟨w.heap.size + 1, [{ target := .collected w.heap.size, args := #[] }], W1, { target := .fn (.func gf) lb, args := #[.func (.yield (w.heap.size + 1)) #[] #[]] }, W1, gf,
    #[.func (.yield (w.heap.size + 1)) #[] #[]] ++ lb, W1, hr, ?_, fun _ _ => trivial, ?_, fun h => (by cases h), callsIn_wide.2 ?_⟩
  · simp only [resolve, hgv]
    simp [Deferred.ofValue, Act.eval]
  · simp [invoke, eg]
  · have hv : RepL (ρ.loop w.heap.size s.n) W1 (.yl s.n :: caps) (.func (.yield (w.heap.size + 1)) #[] #[] :: lb.toList) := by
      simp only [RepL]
      refine ⟨_, _, rfl, ?_, RepL.mono' k1.r _ _ hcaps⟩
      simp [Rep, Gh.loop]
    have hgl1 : GlOk (J0.loop (s.n, w.heap.size + 1, .loop rec)) G (ρ.loop w.heap.size s.n) W1 := ⟨(hgl.mono k1).1, k3, J0.mono k1 hJ⟩
    have hcall := hC'.calls _ _ _ _ _ _ _ _ hrun k2 hgl1 hv
    have e : (Value.func (.yield (w.heap.size + 1)) #[] #[] :: lb.toList).toArray = #[.func (.yield (w.heap.size + 1)) #[] #[]] ++ lb := by
      apply Array.ext'; simp
    rw [e] at hcall
    refine hcall.mono fun e w3 he => ?_
    cases e with
    | panicked _ => exact he.elim
    | outgrown => exact he.elim
    | returned v =>
      obtain ⟨ρ3, q1, q2, q3⟩ := he
      obtain ⟨p1, p2⟩ := q1.kept (w.heap.size + 1) (Array.getElem?_eq_some_iff.1 k3.2.2.2).1 (fun o => by rw [k3.2.2.1]; simp)
      have hl3 : w3.heap[w.heap.size + 1]? = some (.loop rec) := p1.trans k3.2.2.2
      obtain ⟨d1, d2⟩ := q1.kept w.heap.size (Array.getElem?_eq_some_iff.1 k4).1 (fun o => by simp [Gh.loop])
      have hend := run_endLoop (P := P) hl3 (by rw [hrec]; simp)
      rw [show rec.pending = none by rw [hrec]] at hend
      obtain ⟨r1, r2⟩ := putObj_priv q2 (l := w.heap.size + 1) (.loop { rec with state := .exhausted, pending := none }) (p2.trans k3.2.2.1)
      refine ⟨none, _, hend, hQ ρ3 _ ?_ r2 ?_ (d2.trans (by simp [Gh.loop]))⟩
      · have hk := k1.trans q1
        refine ⟨hk.os, hk.tape, hk.output, by simpa using hk.size, fun b hb hn => ?_, hk.dead, hk.live⟩
        obtain ⟨h1, h2⟩ := hk.kept b hb hn
        exact ⟨(World.putObj_heap_other (by omega)).trans h1, h2⟩
      · rw [World.putObj_heap_other (by omega)]
        exact d1.trans k4
end Go.Ab

namespace Go.Proofs.YtdfalhpbanhmeaaGreatDoor.Tab
open Go Go.Ab
set_option linter.unusedSectionVars false
set_option linter.unusedSimpArgs false
set_option linter.unusedVariables false
set_option maxRecDepth 100000

def cl : Code → Code
  | .seq a _ => a
  | .block _ a => a
  | c => c
def cr : Code → Code
  | .seq _ b => b
  | c => c
def rfA : Code → Code
  | .rangeFunc _ _ a _ => a
  | c => c
def rfB : Code → Code
  | .rangeFunc _ _ _ b => b
  | c => c
noncomputable def b6 : Code := Tryz.f6.body.getD .skip
noncomputable def cRF : Code := cl (cr (cl (cr (cr (cr b6)))))

/-- A round: does the text have room? Then the piece is written behind it. -/
def yC (K : Caller) (p : D) (k : Nat) : Caller := fun f l s => match f, l with
  | 0, [.lv (.yl k'), x] => match Nat.beq k k' with
    | true => match K 13 [p] s with
      | some (.int .i64 n, s1) => match decide (n < 4096) with
        | true => match K 14 [p, x] s1 with
          | some (_, s2) => some (.bool true, s2)
          | none => none
        | false => none
      | _ => none
    | false => none
  | _, _ => none
theorem yC_some {K : Caller} {p : D} {k f : Nat} {l : List D} {s : St} {r : D × St} (h : yC K p k f l s = some r) : ∃ x n s1 d s2, f = 0 ∧ l = [.lv (.yl k), x] ∧ K 13 [p] s = some (.int .i64 n, s1) ∧ n < 4096 ∧ K 14 [p, x] s1 = some (d, s2) ∧ r = (.bool true, s2) := by
  unfold yC at h
  split at h
  · rename_i k' x
    split at h
    · rename_i hk
      obtain rfl := Nat.eq_of_beq_eq_true hk
      split at h
      · rename_i n s1 h1
        split at h
        · rename_i hn
          split at h
          · rename_i d s2 h2
            simp only [Option.some.injEq] at h
            exact ⟨x, n, s1, d, s2, rfl, rfl, h1, of_decide_eq_true hn, h2, h.symm⟩
          · cases h
        · cases h
      · cases h
    · cases h
  · cases h

section
variable [Vals]
variable {ρ : Gh} {w : World} {a : Act} {K : Act → World → Prop} {Q : Exit → Act → World → Prop} {l : Nat}
theorem opIn {o : Oper} {r : Result Next} (hnd : ∀ c, o.op ≠ .defer c) (hr : (execOp a.eval o).run Tryz.prog w = r) (h : o.uponIn (Fence.wide.inRound l) 0 Tryz.prog a K Q r) : o.wpIn (Fence.wide.inRound l) 0 Tryz.prog a w K Q :=
  ⟨fun _ _ => trivial, by rw [Oper.semAt_eq _ _ _ hnd, hr]; exact h⟩
/-- What is kept: a datum is a value. -/
def Jp (p : D) (pv : Value) : Pins := ⟨fun ρ w => Rep ρ w p pv, fun h k => k.mono h⟩

theorem callIn {C : Caller} (hC : CallerOk .none Tryz.prog gl C) {o : Oper} {f : FuncId} {xs : Array Operand} {tys : Array TypeId} {ds : List D} {s s1 : St} {d : D} (ho : o.op = .call { callee := .value (.func f), args := xs, argTypes := tys }) (hf : f ≠ 0) (h : C f ds s = some (d, s1))
    (hs : StRel ρ s w) (hg : GlOk .none gl ρ w) (hr : RepL ρ w ds (xs.toList.map a.eval)) (hk : ∀ ρ' w' v, Kp ρ w ρ' w' → StRel ρ' s1 w' → Rep ρ' w' d v → K (a.put o.dst v) w') : o.wpIn (Fence.wide.inRound l) 0 Tryz.prog a w K Q := by
  refine opIn (by intro c h; rw [ho] at h; cases h) (r := .ok (.enter f (xs.map a.eval)) w) ?_ ?_
  · simp only [execOp, ho, resolve, Act.eval, Deferred.ofValue]
    have := hC.enter _ _ _ _ h (.inl hf) (xs.map a.eval) w
    simpa [invoke] using this
  · refine ⟨fun hd => (by cases hd), show CallsIn Fence.wide 0 _ f _ _ _ from callsIn_wide.2 ?_⟩
    have := hC.calls _ _ _ _ _ ρ w _ h hs hg hr
    rw [show (xs.toList.map a.eval).toArray = xs.map a.eval by simp [← Array.toList_map]] at this
    refine this.mono fun e w' he => ?_
    cases e with
    | returned v => obtain ⟨ρ', k1, k2, k3⟩ := he; exact hk ρ' w' v k1 k2 k3
    | panicked _ => exact he.elim
    | outgrown => exact he.elim

theorem round_ok {C : Caller} (hC : CallerOk .none Tryz.prog gl C) {p x : D} {pv xv : Value} {n : Int} {s s1 s2 : St} {d : D} {rec : Go.Loop}
    (h1 : C 13 [p] s = some (.int .i64 n, s1)) (hn : n < 4096) (h2 : C 14 [p, x] s1 = some (d, s2)) (hs : StRel ρ s w) (hg : GlOk .none gl ρ w) (hp : Rep ρ w p pv) (hx : Rep ρ w x xv)
    (hl : w.heap[l]? = some (.loop rec)) (ho : ρ.own l = .priv) (hst : rec.state = .ready) (hpe : rec.pending = none) (h9 : rec.tmps[9]? = some pv) (hsz : 32 ≤ rec.tmps.size) :
    RoundIn Fence.wide 0 Tryz.prog l rec.fn (rec.tmps.setIfInBounds 25 xv) (rfA cRF) (rfB cRF) w (CallPost ρ w s2 (.bool true)) := by
  refine roundIn_of_wpIn trivial ?_
  simp only [cRF, b6, Tryz.f6, Option.getD, cl, cr, rfA, rfB]
  have e25 : ({ tmps := rec.tmps.setIfInBounds 25 xv, defers := [] } : Act).eval (.tmp 25) = xv := by
    simp [Act.eval, Array.getElem?_setIfInBounds, show 25 < rec.tmps.size by omega]
  -- the assignment
  refine wpIn_region (show wpOpsIn _ _ _ _ _ [0] _ _ from ?_)
  simp only [wpOpsIn, List.getElem?_toArray, List.getElem?_cons_zero]
  rw [if_pos (by simp [Region.wanted])]
  refine opIn (by intro c h; cases h) (r := .ok (.value xv) w) (by simp [execOp, e25]) ?_
  rw [Oper.uponIn_value]
  obtain ⟨q1, q2⟩ := putObj_priv hs (.loop { rec with state := .busy }) ho
  have hw2 : (w.putObj l (.loop { rec with state := .busy })).heap[l]? = some (.loop { rec with state := .busy }) := World.putObj_heap_same (Array.getElem?_eq_some_iff.1 hl).1
  refine ⟨_, run_beginRound hl hst, ?_⟩
  -- the body
  generalize hwb : w.putObj l (.loop { rec with state := .busy }) = wb at *
  have hg2 := hg.kr q1
  have hp2 := hp.mono' q1
  have hx2 := hx.mono' q1
  refine wpIn_block (wpIn_seq (wpIn_seq (wpIn_region (show wpOpsIn _ _ _ _ _ [0, 1] _ _ from ?_))))
  simp only [wpOpsIn, List.getElem?_toArray, List.getElem?_cons_zero, List.getElem?_cons_succ]
  rw [if_pos (by simp [Region.wanted])]
  refine callIn hC rfl (by decide) h1 q2 hg2 (by
    simp only [RepL, List.map_cons, List.map_nil]
    refine ⟨pv, [], ?_, hp2, rfl⟩
    simp [Act.eval, Act.put, Array.getElem?_setIfInBounds, h9]) fun ρ3 w3 v3 k1 k2 k3 => ?_
  simp only [Rep] at k3
  subst k3
  rw [if_pos (by simp [Region.wanted])]
  refine opIn (by intro c h; cases h) (r := .ok (.value (.bool false)) w3) (by
    have : ¬ (4096 : Int) ≤ n := by omega
    simp [execOp, Act.eval, Act.put, Array.getElem?_setIfInBounds, show 26 < rec.tmps.size by omega]
    simp [eqGuard, binOp, go_sem, this]
    done) ?_
  rw [Oper.uponIn_value]
  refine wpIn_cond_false (by simp [Act.eval, Act.put, Array.getElem?_setIfInBounds, show 27 < rec.tmps.size by omega]) (wpIn_skip ?_)
  refine wpIn_region (show wpOpsIn _ _ _ _ _ [0, 1] _ _ from ?_)
  simp only [wpOpsIn, List.getElem?_toArray, List.getElem?_cons_zero, List.getElem?_cons_succ]
  rw [if_pos (by simp [Region.wanted])]
  refine opIn (by intro c h; cases h) (r := .ok (.value xv) w3) (by simp [execOp, Act.eval, Act.put, Array.getElem?_setIfInBounds, show 10 < rec.tmps.size by omega]) ?_
  rw [Oper.uponIn_value, if_pos (by simp [Region.wanted])]
  refine callIn hC rfl (by decide) h2 k2 (hg2.kr k1.r) (by
    simp only [RepL, List.map_cons, List.map_nil]
    refine ⟨pv, [xv], ?_, hp2.mono k1, xv, [], rfl, hx2.mono k1, rfl⟩
    simp [Act.eval, Act.put, Array.getElem?_setIfInBounds, h9, show 29 < rec.tmps.size by omega]) fun ρ4 w4 v4 m1 m2 m3 => ?_
  -- the end
  have hk := k1.trans m1
  obtain ⟨j1, j2⟩ := hk.kept l (Array.getElem?_eq_some_iff.1 hw2).1 (fun o => by rw [ho]; simp)
  have hl4 := j1.trans hw2
  have hend := run_endRound (P := Tryz.prog) none hl4
  obtain ⟨r1, r2⟩ := putObj_priv m2 (.loop rec) (j2.trans ho)
  have hrec : ({ rec with state := .ready, pending := none } : Go.Loop) = rec := by cases rec; simp only at hst hpe; subst hst; subst hpe; rfl
  have hb2 : ∀ b, b ≠ l → wb.heap[b]? = w.heap[b]? := fun b hb => by rw [← hwb]; exact World.putObj_heap_other hb
  have hbs : wb.heap.size = w.heap.size := by rw [← hwb]; exact World.putObj_size
  have he : ({ ({ rec with state := .busy } : Go.Loop) with state := if (none : Option Code).isNone = true then .ready else .done, pending := none } : Go.Loop) = rec := hrec
  rw [he] at hend
  refine ⟨_, _, hend, ρ4, ?_, r2, rfl⟩
  refine ⟨hk.os.trans (by rw [← hwb]; rfl), hk.tape.trans (by rw [← hwb]; rfl), hk.output.trans (by rw [← hwb]; rfl), ?_, fun b hb hn => ?_, hk.dead, hk.live⟩
  · have := hk.size
    rw [World.putObj_size]; omega
  · by_cases hbl : b = l
    · subst hbl
      exact ⟨(World.putObj_heap_same (Array.getElem?_eq_some_iff.1 hl4).1).trans hl.symm, j2⟩
    · obtain ⟨c1, c2⟩ := hk.kept b (by omega) hn
      exact ⟨(World.putObj_heap_other hbl).trans (c1.trans (hb2 b hbl)), c2⟩
end

def A6 : Adv := { adv6 with nt := 32 }
noncomputable def ac6 (c : Code) : AC := (compile Tryz.prog gl exts A6 c A6.ks).1
noncomputable def c0 : Code := cl b6
noncomputable def c1 : Code := cl (cr b6)
noncomputable def c3 : Code := cl (cr (cr b6))
noncomputable def c4 : Code := cl (cl (cr (cr (cr b6))))

noncomputable def textC (ex : AC → Fr → St → Option (Ex × Fr × St)) (K : Caller) (KY : D → Nat → Caller) : Caller := fun f args s => match Nat.beq f 6, s.ro with
  | true, false => match ex (ac6 c0) ⟨env0 0 args, []⟩ s with
    | some (.normal, f1, s1) => match ex (ac6 c1) f1 s1 with
      | some (.ret, f2, s2) => match f2.defers, resD f2.env s2 [.tmp 6] with
        | [], some [d] => some (d, s2)
        | _, _ => none
      | some (.normal, f2, s2) => match ex (ac6 c3) f2 s2 with
        | some (.normal, f3, s3) => match ex (ac6 c4) f3 s3 with
          | some (.normal, f4, s4) => match f4.defers, Opd.ev f4.env (.t 24), Opd.ev f4.env (.t 9) with
            | [], some (.fn (.func g) [] caps), some p => match KY p s4.n g (.yl s4.n :: caps) (s4.push0 .dead) with
              | some (_, s5) => K 15 [p] s5
              | none => none
            | _, _, _ => none
          | _ => none
        | _ => none
      | _ => none
    | _ => none
  | _, _ => none
theorem textC_some {ex : AC → Fr → St → Option (Ex × Fr × St)} {K : Caller} {KY : D → Nat → Caller} {f : Nat} {l : List D} {s : St} {r : D × St} (h : textC ex K KY f l s = some r) : f = 6 ∧ s.ro = false ∧
    ∃ f1 s1, ex (ac6 c0) ⟨env0 0 l, []⟩ s = some (.normal, f1, s1) ∧
      ((∃ f2 s2 d, ex (ac6 c1) f1 s1 = some (.ret, f2, s2) ∧ f2.defers = [] ∧ resD f2.env s2 [.tmp 6] = some [d] ∧ r = (d, s2)) ∨
       (∃ f2 s2 f3 s3 f4 s4 g caps p q s5, ex (ac6 c1) f1 s1 = some (.normal, f2, s2) ∧ ex (ac6 c3) f2 s2 = some (.normal, f3, s3) ∧ ex (ac6 c4) f3 s3 = some (.normal, f4, s4) ∧ f4.defers = [] ∧
        Opd.ev f4.env (.t 24) = some (.fn (.func g) [] caps) ∧ Opd.ev f4.env (.t 9) = some p ∧ KY p s4.n g (.yl s4.n :: caps) (s4.push0 .dead) = some (q, s5) ∧ K 15 [p] s5 = some r)) := by
  unfold textC at h
  split at h
  · rename_i hf hro
    refine ⟨Nat.eq_of_beq_eq_true hf, hro, ?_⟩
    split at h
    · rename_i f1 s1 h1
      refine ⟨f1, s1, h1, ?_⟩
      split at h
      · rename_i f2 s2 h2
        split at h
        · rename_i d hd hr
          simp only [Option.some.injEq] at h
          exact .inl ⟨f2, s2, d, h2, hd, hr, h.symm⟩
        · cases h
      · rename_i f2 s2 h2
        split at h
        · rename_i f3 s3 h3
          split at h
          · rename_i f4 s4 h4
            split at h
            · rename_i g caps p hd hg hp
              split at h
              · rename_i q s5 h5
                exact .inr ⟨f2, s2, f3, s3, f4, s4, g, caps, p, q, s5, h2, h3, h4, hd, hg, hp, h5, h⟩
              · cases h
            · cases h
          · cases h
        · cases h
      · cases h
    · cases h
  · cases h

section
variable [Vals]
variable {ρ : Gh} {w : World} {a : Act} {l : Nat}
/-- The yields of that loop. -/
theorem yC_ok {C : Caller} (hC : CallerOk .none Tryz.prog gl C) {p : D} {k L : Nat} {pv : Value} {rec : Go.Loop} (hst : rec.state = .ready) (hpe : rec.pending = none) (hps : rec.params = #[25]) (has : rec.assign = rfA cRF) (hbo : rec.body = rfB cRF)
    (h9 : rec.tmps[9]? = some pv) (hsz : 32 ≤ rec.tmps.size) : CallerOk ((Jp p pv).loop (k, L, .loop rec)) Tryz.prog gl (yC C p k) := by
  refine ⟨fun f l s r h hy => ?_, fun f l s d s' ρ w vs h hs hg hl => ?_, fun f l s d s' hro h => ?_, fun y l s d s' ρ w u vs h hs hg hu hl => ?_⟩
  · obtain ⟨x, n, s1, d, s2, rfl, rfl, _⟩ := yC_some h
    rcases hy with hy | hy
    · exact absurd rfl hy
    · cases hy
  · obtain ⟨x, n, s1, d, s2, rfl, rfl, _⟩ := yC_some h
    simp [RepL, Rep] at hl
  · obtain ⟨x, n, s1, d2, s2, rfl, rfl, h1, _, h2, h3⟩ := yC_some h
    simp only [Prod.mk.injEq] at h3
    obtain ⟨rfl, rfl⟩ := h3
    have e1 := hC.ro _ _ _ _ _ hro h1
    subst e1
    exact hC.ro _ _ _ _ _ hro h2
  · obtain ⟨x, n, s1, d2, s2, _, hlx, h1, hn, h2, h3⟩ := yC_some h
    simp only [List.cons.injEq, D.lv.injEq] at hlx
    obtain ⟨rfl, rfl⟩ := hlx
    simp only [Prod.mk.injEq] at h3
    obtain ⟨rfl, rfl⟩ := h3
    obtain ⟨hg1, ⟨j1, j2, j3, j4⟩, hpv⟩ := hg
    simp only [Rep] at hu
    simp only at j2 j3 j4
    simp only [RepL] at hl
    obtain ⟨xv, _, rfl, hxv, rfl⟩ := hl
    refine ⟨L, by rw [hu.2, j2], rec.fn, rec.tmps.setIfInBounds 25 xv, rfA cRF, rfB cRF, ?_, round_ok hC h1 hn h2 hs ⟨hg1, trivial⟩ hpv hxv j4 j3 hst hpe h9 hsz⟩
    have := run_yield (P := Tryz.prog) (args := #[xv]) j4 (by rw [hps]; rfl)
    rw [this, has, hbo, hps]
    simp

theorem opW {K : Act → World → Prop} {Q : Exit → Act → World → Prop} {o : Oper} {r : Result Next} (hr : (execOp a.eval o).run Tryz.prog w = r) (h : o.uponIn Fence.wide 0 Tryz.prog a K Q r) : o.wpIn Fence.wide 0 Tryz.prog a w K Q :=
  wpIn_wide'.2 (by rw [hr]; exact h)
theorem callW {K : Act → World → Prop} {Q : Exit → Act → World → Prop} {C : Caller} (hC : CallerOk .none Tryz.prog gl C) {o : Oper} {f : FuncId} {xs : Array Operand} {tys : Array TypeId} {ds : List D} {s s1 : St} {d : D} (ho : o.op = .call { callee := .value (.func f), args := xs, argTypes := tys }) (hf : f ≠ 0) (h : C f ds s = some (d, s1))
    (hs : StRel ρ s w) (hg : GlOk .none gl ρ w) (hr : RepL ρ w ds (xs.toList.map a.eval)) (hk : ∀ ρ' w' v, Kp ρ w ρ' w' → StRel ρ' s1 w' → Rep ρ' w' d v → K (a.put o.dst v) w') : o.wpIn Fence.wide 0 Tryz.prog a w K Q := by
  refine opW (r := .ok (.enter f (xs.map a.eval)) w) ?_ ?_
  · simp only [execOp, ho, resolve, Act.eval, Deferred.ofValue]
    have := hC.enter _ _ _ _ h (.inl hf) (xs.map a.eval) w
    simpa [invoke] using this
  · refine ⟨fun hd => (by cases hd), callsIn_wide.2 ?_⟩
    have := hC.calls _ _ _ _ _ ρ w _ h hs hg hr
    rw [show (xs.toList.map a.eval).toArray = xs.map a.eval by simp [← Array.toList_map]] at this
    refine this.mono fun e w' he => ?_
    cases e with
    | returned v => obtain ⟨ρ', k1, k2, k3⟩ := he; exact hk ρ' w' v k1 k2 k3
    | panicked _ => exact he.elim
    | outgrown => exact he.elim

theorem noDef {ρ : Gh} {w : World} {lo nt : Nat} {fr : Fr} {a : Act} (h : FrRel ρ w lo nt fr a) (hd : fr.defers = []) : a.defers = [] := by
  have := h.defers
  rw [hd] at this
  simpa only [DefRel] using this

theorem text_ok {ex : AC → Fr → St → Option (Ex × Fr × St)} {K : Caller} {L : Looper} {KY : D → Nat → Caller} (hex : ∀ a fr s, ex a fr s = execS K L a fr s) (hK : CallerOk .none Tryz.prog gl K) (hL : LoopOk .none Tryz.prog gl exts L)
    (hKY : ∀ (p : D) (k B : Nat) (pv : Value) (rec : Go.Loop), rec.state = .ready → rec.pending = none → rec.params = #[25] → rec.assign = rfA cRF → rec.body = rfB cRF → rec.tmps[9]? = some pv → 32 ≤ rec.tmps.size → CallerOk ((Jp p pv).loop (k, B, .loop rec)) Tryz.prog gl (KY p k)) :
    CallerOk .none Tryz.prog gl (textC ex K KY) := by
  refine ⟨fun f l s r h hy args w => ?_, fun f l s d s' ρ w vs h hs hg hl => ?_, fun f l s d s' hro h => ?_, fun y l s d s' ρ w u vs h hs hg hu hl => ?_⟩
  · obtain ⟨rfl, _⟩ := textC_some h
    simp [callFunc, Tryz.func6, Tryz.f6]
  · obtain ⟨rfl, hro, f1, s1, h1, hrest⟩ := textC_some h
    have hD : DrawnOk .none Tryz.prog gl exts K := drawn_ok mixed hK exts_ok
    rw [hex] at h1
    refine callsIn_wide.1 (callsIn_of_wp_marks (n := 0) (c := .seq c0 (.seq c1 (.seq c3 (.seq (.seq c4 (.block 0 (.rangeFunc (.tmp 24) #[25] (rfA cRF) (rfB cRF)))) (.seq (cl (cr (cr (cr (cr b6))))) .ret))))) Tryz.func6 rfl trivial ?_)
    have hI0 := inv0 hs hl 32
    refine wpIn_seq (wpIn_wide.2 (wp_mono (code_ok (A := A6) hK exts_ok hL hD hg c0 A6.ks _ (ac6 c0) _ s _ f1 s1 _ w rfl h1 hI0) fun x a1 w1 hq => ?_))
    obtain ⟨hx, hI1⟩ := hq
    cases x <;> simp only [ExRel] at hx
    simp only [Exit.then]
    rcases hrest with ⟨f2, s2, d1, h2, hd2, hr2, hr⟩ | ⟨f2, s2, f3, s3, f4, s4, g, caps, p, q, s5, h2, h3, h4, hd4, hg4, hp4, h5, h6⟩
    · -- an early way out
      simp only [Prod.mk.injEq] at hr
      obtain ⟨rfl, rfl⟩ := hr
      rw [hex] at h2
      refine wpIn_seq (wpIn_wide.2 (wp_mono (code_ok (A := A6) hK exts_ok hL hD hg c1 A6.ks _ (ac6 c1) f1 s1 _ f2 s' a1 w1 rfl h2 hI1) fun x a2 w2 hq => ?_))
      obtain ⟨hx, ρ2, k1, k2, k3⟩ := hq
      cases x <;> simp only [ExRel] at hx
      simp only [Exit.then, bodyPostM]
      rw [noDef k2 hd2]
      obtain ⟨v, r1, r2⟩ := results_ok (P := Tryz.prog) (fn := Tryz.f6) k2.env k3 (rs' := [.tmp 6]) rfl hr2
      exact ⟨v, r1, ρ2, k1, k3, r2⟩
    · rw [hex] at h2 h3 h4
      refine wpIn_seq (wpIn_wide.2 (wp_mono (code_ok (A := A6) hK exts_ok hL hD hg c1 A6.ks _ (ac6 c1) f1 s1 _ f2 s2 a1 w1 rfl h2 hI1) fun x a2 w2 hq => ?_))
      obtain ⟨hx, hI2⟩ := hq
      cases x <;> simp only [ExRel] at hx
      simp only [Exit.then]
      refine wpIn_seq (wpIn_wide.2 (wp_mono (code_ok (A := A6) hK exts_ok hL hD hg c3 A6.ks _ (ac6 c3) f2 s2 _ f3 s3 a2 w2 rfl h3 hI2) fun x a3 w3 hq => ?_))
      obtain ⟨hx, hI3⟩ := hq
      cases x <;> simp only [ExRel] at hx
      simp only [Exit.then]
      refine wpIn_seq (wpIn_seq (wpIn_wide.2 (wp_mono (code_ok (A := A6) hK exts_ok hL hD hg c4 A6.ks _ (ac6 c4) f3 s3 _ f4 s4 a3 w3 rfl h4 hI3) fun x a4 w4 hq => ?_)))
      obtain ⟨hx, ρ4, k1, k2, k3⟩ := hq
      cases x <;> simp only [ExRel] at hx
      simp only [Exit.then]
      have hg4' := hg.mono k1
      have hgv := opd_rep (G := gl) (x' := .tmp 24) (x := .t 24) rfl k2.env hg4' hg4
      have hpv := opd_rep (G := gl) (x' := .tmp 9) (x := .t 9) rfl k2.env hg4' hp4
      simp only [Rep, RepL] at hgv
      obtain ⟨va, vc, hgv, hva, hvc⟩ := hgv
      obtain rfl : va = #[] := Array.toList_eq_nil_iff.1 hva
      have hsz := k2.size
      have h9 : a4.tmps[9]? = some (a4.eval (.tmp 9)) := by
        have h9' : 9 < a4.tmps.size := Nat.lt_of_lt_of_le (by decide) hsz
        simp [Act.eval, Array.getElem?_eq_getElem h9']
      refine wpIn_block (range_wp k3 hg4' (Jp p (a4.eval (.tmp 9))) hpv hgv hvc h5 (fun fn => hKY p s4.n _ _ _ rfl rfl rfl rfl rfl h9 hsz) fun ρ5 w5 m1 m2 m3 m4 => ?_)
      simp only [Exit.inBlock, Exit.then]
      rw [noDef k2 hd4]
      simp only [b6, Tryz.f6, Option.getD, cl, cr]
      refine wpIn_seq (wpIn_region (show wpOpsIn _ _ _ _ _ [0, 1] _ _ from ?_))
      simp only [wpOpsIn, List.getElem?_toArray, List.getElem?_cons_zero, List.getElem?_cons_succ]
      rw [if_pos (by simp [Region.wanted])]
      refine callW hK rfl (by decide) h6 m2 (hg4'.mono m1) (by
        simp only [RepL, List.map_cons, List.map_nil]
        exact ⟨_, [], rfl, hpv.mono m1, rfl⟩) fun ρ6 w6 v n1 n2 n3 => ?_
      rw [if_pos (by simp [Region.wanted])]
      refine opW (r := .ok (.value v) w6) (by simp [execOp, Act.eval, Act.put, Array.getElem?_setIfInBounds, show 31 < a4.tmps.size from Nat.lt_of_lt_of_le (by decide) hsz]) ?_
      rw [Oper.uponIn_value]
      simp only [Exit.then]
      refine wpIn_ret ?_
      obtain ⟨d1, d2⟩ := n1.kept w4.heap.size (Array.getElem?_eq_some_iff.1 m3).1 (fun o => by rw [m4]; simp)
      obtain ⟨r1, r2⟩ := putObj_priv n2 (l := w4.heap.size) (.deferred none) (d2.trans m4)
      have hkk := k1.trans (m1.trans n1)
      simp only [bodyPostM, Act.put, LeavesInM]
      refine ⟨by simp, .inl ⟨_, _, rfl, run_takeDeferred (d1.trans m3), v, ?_, ρ6, ⟨hkk.os, hkk.tape, hkk.output, by rw [World.putObj_size]; exact hkk.size, fun b hb hn => ?_, hkk.dead, hkk.live⟩, r2, n3.mono' r1⟩⟩
      · have h31 : 6 < a4.tmps.size := Nat.lt_of_lt_of_le (by decide) hsz
        simp [results, Array.getElem?_setIfInBounds, h31]
        done
      · obtain ⟨e1, e2⟩ := hkk.kept b hb hn
        exact ⟨(World.putObj_heap_other (by have := k1.size; omega)).trans e1, e2⟩
  · obtain ⟨rfl, hro', _⟩ := textC_some h
    rw [hro] at hro'; cases hro'
  · obtain ⟨h0, _⟩ := textC_some h
    cases h0
end

noncomputable def tab1 : Nat → Option AFn := without tab0 [6]
noncomputable def KP : Caller × Looper := pairX tab1 noCall 200
noncomputable def KY (p : D) (k : Nat) : Caller := callX tab1 (yC KP.1 p k) 200
noncomputable def HT : Caller := textC (execX KP.1 KP.2) KP.1 KY
noncomputable def CT : Caller := callX tab1 HT 200
theorem tab1_ok [Vals] : TabOk Tryz.prog gl exts tab1 := TabOk.without tab_ok
theorem CT_ok [Vals] : CallerOk .none Tryz.prog gl CT := by
  have hp : CallerOk .none Tryz.prog gl KP.1 ∧ LoopOk .none Tryz.prog gl exts KP.2 := by
    unfold KP; rw [pairX_eq]
    exact callN_ok tab1_ok exts_ok noCall_ok (fun C hC => drawn_ok mixed hC exts_ok) 200
  refine callX_right mixed tab1_ok exts_ok (text_ok (fun a fr s => execX_eq _ _ a fr s) hp.1 hp.2 fun p k B pv rec h1 h2 h3 h4 h5 h6 h7 => ?_) 200
  exact callX_right mixed tab1_ok exts_ok (yC_ok hp.1 h1 h2 h3 h4 h5 h6 h7) 200
end Go.Proofs.YtdfalhpbanhmeaaGreatDoor.Tab
