/- One operation's step; a plain region. -/
import Derived.Test.YtloaklflgfefaaaGreatDoorA20
namespace Go.Ab
open Go
set_option linter.unusedSectionVars false
set_option linter.unusedSimpArgs false
set_option linter.unusedVariables false
variable [Vals]
variable {ρ ρ' ρ0 : Gh} {w w' w0 : World} {P : Program} {pn : Pins} {G : Gl} {X : Exts} {A : Adv} {s s' : St} {env : Env} {a : Act} {lo : Nat} {d : D} {C : Caller} {al : Option Nat} {fr fr' : Fr}

theorem spec_cases {o : Oper} {p : AOp} (h : spec P G A o = some p) :
    (∃ e z, o.op = .alloc e ∧ zeroB P e = some z ∧ p = .lbox (.c z)) ∨ (∃ e x' x, o.op = .box e x' ∧ opd G x' = some x ∧ p = .lbox x) ∨
    (∃ t x' v' r sz x v, o.op = .store t x' v' ∧ sizeB P t = some sz ∧ opd G x' = some x ∧ opd G v' = some v ∧ p = .lstore r sz x v) ∨
    (∃ x' args' tys x l, o.op = .defer { callee := .value x', args := args', argTypes := tys } ∧ opd G x' = some x ∧ opds G args' = some l ∧ p = .defer x l) := by
  unfold spec at h
  split at h
  · rename_i e ho
    split at h
    · simp only [Option.map_eq_some_iff] at h
      obtain ⟨z, hz, rfl⟩ := h
      exact .inl ⟨e, z, ho, hz, rfl⟩
    · cases h
  · rename_i e x ho
    split at h
    · simp only [Option.map_eq_some_iff] at h
      obtain ⟨z, hz, rfl⟩ := h
      exact .inr (.inl ⟨e, x, z, ho, hz, rfl⟩)
    · cases h
  · rename_i t x v ho
    split at h
    · rename_i r hr
      split at h
      · rename_i sz x1 v1 h1 h2 h3
        simp only [Option.some.injEq] at h; subst h
        exact .inr (.inr (.inl ⟨t, x, v, r, sz, x1, v1, ho, h1, h2, h3, rfl⟩))
      · cases h
    · cases h
  · rename_i x args tys ho
    split at h
    · rename_i x1 l h1 h2
      simp only [Option.some.injEq] at h; subst h
      exact .inr (.inr (.inr ⟨x, args, tys, x1, l, ho, h1, h2, rfl⟩))
    · cases h
  · cases h

theorem opF_okOp {p : AOp} {e : Env} {r : D × St} (h : opF C e s al p = some r) : (∀ x, p ≠ .lbox x) ∧ (∀ r sz x v, p ≠ .lstore r sz x v) ∧ (∀ x l, p ≠ .defer x l) ∧ p ≠ .bad := by
  refine ⟨?_, ?_, ?_, ?_⟩ <;> · intros; rintro rfl; simp [opF] at h

theorem operB_cases (P : Program) (G : Gl) (X : Exts) (A : Adv) (ops : Array Oper) (o : Oper) : ((operB P G X A ops o).op = .bad ∧ (operB P G X A ops o).guard = none) ∨ ((operB P G X A ops o).dst = o.dst ∧ (operB P G X A ops o).op = opB' P G X A o ∧ (∀ t, o.dst = some t → t < A.nt) ∧
    ∃ g, (match o.guard with | none => some none | some (j, b) => match (ops[j]?).bind (·.dst) with | some t => some (some (t, b)) | none => none) = some g ∧ (operB P G X A ops o).guard = g) := by
  unfold operB
  split
  · rename_i g hg
    split
    · rename_i hd
      refine .inr ⟨rfl, rfl, fun t ht => ?_, g, hg, rfl⟩
      rw [ht] at hd
      exact Nat.le_of_ble_eq_true hd
    · exact .inl ⟨rfl, rfl⟩
  · exact .inl ⟨rfl, rfl⟩

/-- The fence of a frame: a function's, or a round's. -/
abbrev Rd (r : Option Nat) : Fence := { Fence.wide with round := r }
theorem callsIn_rd {r : Option Nat} {f : FuncId} {args : Array Value} {R : Ending → World → Prop} : CallsIn (Rd r) 0 P f args w R ↔ Calls P f args w R := callsIn_wide (n := 0)
theorem wpIn_rd {r : Option Nat} {o : Oper} {K : Act → World → Prop} {Q : Exit → Act → World → Prop} (h : r = none ∨ ∀ c, o.op ≠ .defer c) : o.wpIn (Rd r) 0 P a w K Q ↔ o.uponIn (Rd r) 0 P a K Q ((execOp a.eval o).run P w) := by
  have e : (o.semAt r a.eval).run P w = (execOp a.eval o).run P w := by
    rcases h with rfl | h
    · rw [Oper.semAt_none]
    · rw [Oper.semAt_eq _ _ _ h]
  unfold Oper.wpIn
  rw [show (Rd r).round = r from rfl, e]
  exact ⟨fun h => h.2, fun h => ⟨fun _ _ => trivial, h⟩⟩
theorem wpIn_wide' {o : Oper} {K : Act → World → Prop} {Q : Exit → Act → World → Prop} : o.wpIn Fence.wide 0 P a w K Q ↔ o.uponIn Fence.wide 0 P a K Q ((execOp a.eval o).run P w) := ⟨fun h => h.2, fun h => ⟨fun _ _ => trivial, h⟩⟩

theorem spec_defer {o : Oper} {c : Call} (h : o.op = .defer c) {p : AOp} (hp : opB' P G X A o = p) : p = .bad ∨ ∃ f l, p = .defer f l := by
  subst hp
  have e : ∀ q, opB P G X A o = some q → ∃ f l, q = .defer f l := by
    intro q hq
    unfold opB at hq
    rw [h] at hq
    obtain ⟨ce, ar, ty⟩ := c
    cases ce with
    | value x =>
      simp only [Option.pure_def, Option.bind_eq_bind, Option.bind_eq_some_iff, Option.some.injEq] at hq
      obtain ⟨_, _, _, _, rfl⟩ := hq
      exact ⟨_, _, rfl⟩
    | _ => cases hq
  unfold opB'
  split
  · rename_i q hq
    rcases spec_cases hq with ⟨_, _, ho, _⟩ | ⟨_, _, _, ho, _⟩ | ⟨_, _, _, _, _, _, _, ho, _⟩ | ⟨_, _, _, _, _, ho, _, _, rfl⟩
    · rw [h] at ho; cases ho
    · rw [h] at ho; cases ho
    · rw [h] at ho; cases ho
    · exact .inr ⟨_, _, rfl⟩
  · split
    · rename_i q hq
      obtain ⟨f, l, rfl⟩ := e q hq
      exact .inl rfl
    · exact .inl rfl
theorem oper_step {rd : Option Nat} (hC : CallerOk pn P G C) (hX : ∀ f k, X f = some k → ExtOk P f k) (hg : GlOk pn G ρ0 w0) {ops : Array Oper} {o : Oper} {ao : AOper} {b : Nat} {K : Act → World → Prop} {Q : Exit → Act → World → Prop}
    (hao : ao.op = (operB P G X A ops o).op ∧ ao.dst = (operB P G X A ops o).dst ∧ ao.guard = (operB P G X A ops o).guard) (hrd : rd = none ∨ ao.op.nd = true) (h : oper C b ao fr s = some (fr', s')) (hI : Inv ρ0 w0 A.nt fr s a w) (hK : ∀ a' w', Inv ρ0 w0 A.nt fr' s' a' w' → K a' w') :
    if Region.wanted o (yielded ops a.tmps) then o.wpIn (Rd rd) 0 P a w K Q else K (a.put o.dst undef) w := by
  obtain ⟨ρ, hKp, hf, hs⟩ := hI
  have hg := hg.mono hKp
  rcases operB_cases P G X A ops o with ⟨d1, d2⟩ | ⟨c1, c3, c4, g, c5, c6⟩
  · rw [d1, d2] at hao
    unfold oper at h
    rw [hao.1, hao.2.2] at h
    simp [wantedD, opF] at h
  rw [c3, c1, c6] at hao
  obtain ⟨o1, o2, o3⟩ := hao
  unfold oper at h
  rw [o3] at h
  split at h
  · rename_i hw
    rw [wanted_ok hf.env c5 hw, if_pos rfl]
    rw [o1] at h
    have hnd : rd = none ∨ ∀ c, o.op ≠ .defer c := by
      rcases hrd with h0 | h0
      · exact .inl h0
      · refine .inr fun c hc => ?_
        rcases spec_defer (P := P) (G := G) (X := X) (A := A) hc rfl with e | ⟨f, l, e⟩
        · rw [e] at h; simp [opF] at h
        · rw [o1, e] at h0; cases h0
    have gen : ∀ p, ao.op = p → opB' P G X A o = p → (match opF C fr.env s (match ao.al with | some r => some (b + r) | none => none) p with | some (d, s') => some ({ fr with env := putD fr.env ao.dst d }, s') | none => none) = some (fr', s') → o.wpIn (Rd rd) 0 P a w K Q := by
      intro p _ hp h
      split at h
      · rename_i d s2 hop
        simp only [Option.some.injEq, Prod.mk.injEq] at h
        obtain ⟨rfl, rfl⟩ := h
        obtain ⟨n1, n2, n3, n4⟩ := opF_okOp hop
        have hb : opB P G X A o = some p ∧ okOp p = true := by
          unfold opB' at hp
          split at hp
          · rename_i q hq
            subst hp
            rcases spec_cases hq with ⟨_, _, _, _, rfl⟩ | ⟨_, _, _, _, _, rfl⟩ | ⟨_, _, _, _, _, _, _, _, _, _, _, rfl⟩ | ⟨_, _, _, _, _, _, _, _, rfl⟩
            · exact absurd rfl (n1 _)
            · exact absurd rfl (n1 _)
            · exact absurd rfl (n2 _ _ _ _)
            · exact absurd rfl (n3 _ _)
          · split at hp
            · rename_i q hq
              split at hp
              · rename_i hok; subst hp; exact ⟨hq, hok⟩
              · exact absurd hp.symm n4
            · exact absurd hp.symm n4
        have hres := op_ok hf.env hg hs hC hX hb.1 hb.2 hop
        rw [wpIn_rd hnd]
        generalize (execOp a.eval o).run P w = res at hres
        unfold OpOk at hres
        split at hres
        · rename_i v w'
          obtain ⟨ρ', k1, k2, k3⟩ := hres
          rw [Oper.uponIn_value]
          refine hK _ _ ⟨ρ', hKp.trans k1, ?_, k2⟩
          rw [o2]
          exact (hf.mono k1).put c4 k3
        · rename_i w'
          obtain ⟨ρ', k1, k2, rfl⟩ := hres
          rw [Oper.uponIn_skip]
          refine hK _ _ ⟨ρ', hKp.trans k1, ?_, k2⟩
          rw [o2]
          exact (hf.mono k1).put c4 ResRel.undef
        · rename_i f args w'
          obtain ⟨rfl, hc⟩ := hres
          refine ⟨fun hd => (by cases hd), callsIn_rd.2 (hc.mono fun e w'' hr => ?_)⟩
          cases e with
          | returned v =>
            obtain ⟨ρ', k1, k2, k3⟩ := hr
            refine hK _ _ ⟨ρ', hKp.trans k1, ?_, k2⟩
            rw [o2]
            exact (hf.mono k1).put c4 (.of_rep k3)
          | panicked _ => exact hr.elim
          | outgrown => exact hr.elim
        · rename_i l fn tm asg bd w'
          obtain ⟨rfl, hc⟩ := hres
          refine ⟨fun hd => (by cases hd), hc.mono fun e w'' hr => ?_⟩
          cases e with
          | returned v =>
            obtain ⟨ρ', k1, k2, k3⟩ := hr
            refine hK _ _ ⟨ρ', hKp.trans k1, ?_, k2⟩
            rw [o2]
            exact (hf.mono k1).put c4 (.of_rep k3)
          | panicked _ => exact hr.elim
          | outgrown => exact hr.elim
        · exact hres.elim
      · cases h
    split at h
    · -- a call put off
      rename_i f' args hop
      have hop' : opB' P G X A o = .defer f' args := hop
      have hsp : spec P G A o = some (.defer f' args) := by
        unfold opB' at hop'
        split at hop'
        · rename_i q hq; rw [hq, hop']
        · split at hop'
          · split at hop'
            · rename_i hok; subst hop'; cases hok
            · cases hop'
          · cases hop'
      rcases spec_cases hsp with ⟨_, _, _, _, h0⟩ | ⟨_, _, _, _, _, h0⟩ | ⟨_, _, _, _, _, _, _, _, _, _, _, h0⟩ | ⟨x', args', tys, x, l, ho, hx, hl, h0⟩
      · cases h0
      · cases h0
      · cases h0
      · simp only [AOp.defer.injEq] at h0
        obtain ⟨rfl, rfl⟩ := h0
        split at h
        · rename_i g x1 y1 l1 hfv hlv
          simp only [Option.some.injEq, Prod.mk.injEq] at h
          obtain ⟨rfl, rfl⟩ := h
          have hv := opd_rep hx hf.env hg hfv
          have hr := evs_rep hf.env hg _ _ l1 hl hlv
          simp only [Rep] at hv
          obtain ⟨va, vc, hv, hxa, hya⟩ := hv
          have hrun : (execOp a.eval o).run P w = .ok (.defer { target := .fn g vc, args := va ++ args'.map a.eval }) w := by
            simp [execOp, ho, resolve, hv, Deferred.ofValue]
          rw [wpIn_rd hnd]
          rw [hrun, Oper.uponIn_defer]
          refine hK _ _ ⟨ρ, hKp, ?_, hs⟩
          have := hf.put (dst := o.dst) (v := undef) (d := .tup []) c4 ResRel.undef
          rw [o2]
          refine ⟨?_, ?_, ?_⟩
          · cases hd : o.dst <;> simpa [Act.put, putD, hd] using this.env
          · cases hd : o.dst <;> simpa [Act.put, putD, hd] using this.size
          · have e1 : (({ a with defers := { target := .fn g vc, args := va ++ args'.map a.eval } :: a.defers } : Act).put o.dst undef).defers = { target := .fn g vc, args := va ++ args'.map a.eval } :: a.defers := by cases o.dst <;> rfl
            rw [e1]
            exact .inr ⟨g, x1, y1, va, vc, args'.map a.eval, a.defers, rfl, rfl, hxa, hya, by simpa using hr, hf.defers⟩
        · cases h
    · -- a variable of the frame's own
      rename_i x hop
      have hop' : opB' P G X A o = .lbox x := hop
      have hsp : spec P G A o = some (.lbox x) := by
        unfold opB' at hop'
        split at hop'
        · rename_i q hq; rw [hq, hop']
        · split at hop'
          · split at hop'
            · rename_i hok; subst hop'; cases hok
            · cases hop'
          · cases hop'
      split at h
      · rename_i r v hd hv
        split at h
        · rename_i hc
          simp only [Option.some.injEq, Prod.mk.injEq] at h
          obtain ⟨rfl, rfl⟩ := h
          simp only [Bool.and_eq_true] at hc
          have hd' : o.dst = some r := by rw [← o2]; exact hd
          have fin : ∀ e u, Rep ρ w v u → (execOp a.eval o).run P w = .ok (.value (.pointer (some ⟨w.heap.size, 0, none⟩))) (w.alloc (.cells u.cells e)) → o.wpIn (Rd rd) 0 P a w K Q := by
            intro e u hu hrun
            obtain ⟨ρ', k1, k2, k3⟩ := lbox_ok (e := e) hf hs hKp.size (c4 r hd') hu hc.2 hc.1
            rw [wpIn_rd hnd]
            rw [hrun, Oper.uponIn_value, hd']
            exact hK _ _ ⟨ρ', hKp.trans k1, k3, k2⟩
          rcases spec_cases hsp with ⟨e, z, ho, hz, h0⟩ | ⟨e, x', x1, ho, hx, h0⟩ | ⟨_, _, _, _, _, _, _, _, _, _, _, h0⟩ | ⟨_, _, _, _, _, _, _, _, h0⟩
          · simp only [AOp.lbox.injEq] at h0; subst h0
            simp only [Opd.ev, Option.some.injEq] at hv; subst hv
            obtain ⟨zv, z1, z2, z3⟩ := zero_run (w := w) hz
            refine fin e zv (ofV_rep _ _ z2) ?_
            simp [execOp, ho, Instr.alloc, z1, newVar, newRow, newObj]
            rfl
          · simp only [AOp.lbox.injEq] at h0; subst h0
            refine fin e (a.eval x') (opd_rep hx hf.env hg hv) ?_
            simp [execOp, ho, Instr.box, newVar, newRow, newObj]
            rfl
          · cases h0
          · cases h0
        · cases h
      · cases h
    · -- one written
      rename_i r sz x v hop
      have hop' : opB' P G X A o = .lstore r sz x v := hop
      have hsp : spec P G A o = some (.lstore r sz x v) := by
        unfold opB' at hop'
        split at hop'
        · rename_i q hq; rw [hq, hop']
        · split at hop'
          · split at hop'
            · rename_i hok; subst hop'; cases hok
            · cases hop'
          · cases hop'
      rcases spec_cases hsp with ⟨_, _, _, _, h0⟩ | ⟨_, _, _, _, _, h0⟩ | ⟨t, x', v', r1, sz1, x1, v1, ho, hsz, hx, hv, h0⟩ | ⟨_, _, _, _, _, _, _, _, h0⟩
      · cases h0
      · cases h0
      · simp only [AOp.lstore.injEq] at h0
        obtain ⟨rfl, rfl, rfl, rfl⟩ := h0
        split at h
        · rename_i r' c dv hxp hdv
          split at h
          · rename_i e hre hrl hsz2
            split at h
            · rename_i e' hov
              simp only [Option.some.injEq, Prod.mk.injEq] at h
              obtain ⟨rfl, rfl⟩ := h
              obtain rfl := Nat.eq_of_beq_eq_true hre
              obtain ⟨b1, h1, h2⟩ := opd_rel hx hf.env hg hxp e hrl
              have hdvr := opd_rep hv hf.env hg hdv
              obtain ⟨k1, k2, k3, k4, k5, k6⟩ := lstore_ok hf hs hrl h1 hdvr hov (Nat.eq_of_beq_eq_true hsz2)
              have hrun : (execOp a.eval o).run P w = .ok .skip (w.setCells b1 c (a.eval v').cells.toList) := by
                simp only [execOp, ho, h2]
                rw [Sem.run_bind, run_storeV (P := P) hsz hdvr k2 (Nat.eq_of_beq_eq_true hsz2) k1]; rfl
              rw [wpIn_rd hnd]
              rw [hrun, Oper.uponIn_skip]
              refine hK _ _ ⟨ρ, k6 ρ0 w0 rfl hKp, ?_, k4⟩
              rw [o2]
              exact k5.put c4 ResRel.undef
            · cases h
          · cases h
        · cases h
      · cases h0
    · exact gen _ o1 rfl h
  · rename_i hw
    rw [wanted_ok hf.env c5 hw, if_neg (by simp)]
    simp only [Option.some.injEq, Prod.mk.injEq] at h
    obtain ⟨rfl, rfl⟩ := h
    refine hK _ _ ⟨ρ, hKp, ?_, hs⟩
    rw [o2]
    exact hf.put c4 ResRel.undef
  · cases h
end Go.Ab
