/- Operations, one by one: slices written over (copy, clear). -/
import Derived.Test.YtdfalhpbanhmeaaGreatDoorB6
import Derived.Laws.IdiomCopy
namespace Go.Ab
open Go
set_option linter.unusedSectionVars false
set_option linter.unusedSimpArgs false
set_option linter.unusedVariables false
variable [Vals]
variable {ρ ρ' : Gh} {w w' : World} {P : Program} {pn : Pins} {G : Gl} {X : Exts} {A : Adv} {s s' : St} {env : Env} {a : Act} {lo : Nat} {d : D} {C : Caller} {al : Option Nat}
theorem StRel.ro_of {b : Bool} (h : StRel ρ s w) : StRel ρ { s with ro := b } w := ⟨h.lt, h.ok, h.no, h.live, h.size⟩
theorem StRel.of_ro {b : Bool} (h : StRel ρ { s with ro := b } w) : StRel ρ s w := ⟨h.lt, h.ok, h.no, h.live, h.size⟩
section
variable (he : EnvRel ρ w lo env a.tmps) (hg : GlOk pn G ρ w) (hs : StRel ρ s w)
include he hg hs
theorem ok_callro (hC : CallerOk pn P G C) {f : FuncId} {args' : Array Operand} {args : List Opd} (ha : opds G args' = some args) (h : opF C env s al (.call true f args) = some (d, s')) {o : Oper} {tys : Array TypeId}
    (ho : o.op = .call { callee := .value (.func f), args := args', argTypes := tys }) : OpOk P ρ w env a.tmps d s' ((execOp a.eval o).run P w) := by
  simp only [opF] at h
  split at h
  · rename_i l hl
    split at h
    · rename_i d1 s1 h1
      simp only [Option.some.injEq, Prod.mk.injEq] at h
      obtain ⟨rfl, rfl⟩ := h
      have hr := evs_rep he hg _ _ l ha hl
      have hrun : (execOp a.eval o).run P w = .ok (.enter f (args'.map a.eval)) w := by
        simp only [execOp, ho, resolve, Act.eval, Deferred.ofValue]
        have := hC.enter _ _ _ _ h1 (.inr hr.yS) (args'.map a.eval) w
        simpa [invoke] using this
      rw [hrun]
      refine ⟨rfl, ?_⟩
      have := hC.calls _ _ _ _ _ ρ w _ h1 hs.ro_of hg hr
      have hs1 : s1 = { s with ro := true } := hC.ro _ _ _ _ _ rfl h1
      subst hs1
      have e : (List.map a.eval args'.toList).toArray = args'.map a.eval := by simp [← Array.toList_map]
      rw [e] at this
      refine this.mono fun en w' hp => ?_
      cases en with
      | returned v => obtain ⟨ρ', k1, k2, k3⟩ := hp; exact ⟨ρ', k1, k2.of_ro, k3⟩
      | panicked _ => exact hp
      | outgrown => exact hp
    · cases h
  · cases h
end
end Go.Ab

namespace Go.Ab
open Go
set_option linter.unusedSectionVars false
set_option linter.unusedSimpArgs false
set_option linter.unusedVariables false
variable [Vals]
variable {ρ ρ' : Gh} {w w' : World} {P : Program} {pn : Pins} {G : Gl} {X : Exts} {A : Adv} {s s' : St} {env : Env} {a : Act} {lo : Nat} {d : D} {C : Caller} {al : Option Nat}

/-- A slice's own cells written over, from its beginning on. -/
theorem fillSl_ok (hs : StRel ρ s w) {sz : Nat} {x : D} {v : Value} {l : List D} {vs : List Value} (hx : Rep ρ w x v) (hl : RepC ρ w sz l vs) (h : fillSl s sz x l = some s') :
    ∃ p n c w', v = .slice p n c ∧ l.length ≤ n ∧ Kp ρ w ρ w' ∧ StRel ρ s' w' ∧ ((l = [] ∧ w' = w) ∨ ∃ b y, p = some ⟨b, y, none⟩ ∧ (storeCells ⟨b, y, none⟩ vs).run P w = .ok () w') := by
  unfold fillSl at h
  split at h
  · rename_i o off len cp
    split at h
    · rename_i z ty es st hob
      split at h
      · rename_i h1 h2 h3
        obtain rfl := Nat.eq_of_beq_eq_true h1
        have h2 := Nat.eq_of_beq_eq_true h2
        have h3 := Nat.le_of_ble_eq_true h3
        obtain ⟨z0, k1, hst1, ⟨cur, c1, c2, c3⟩, hbl, hall⟩ := hs.ok _ _ hob
        simp only [Rep, Gh.at, k1] at hx
        obtain ⟨b, hb, q1, q2, q3, y, cap, q4, q5, q6, q7⟩ := hx
        have hB := hbl b hb
        have hex : ρ.ext b = es.length := by have := hB.ext; omega
        obtain ⟨cs, f, hcs⟩ := hB.shape
        have hvl := hl.length
        by_cases hl0 : l = []
        · subst hl0
          simp only [RepC] at hl; subst hl
          obtain ⟨n1, n2⟩ := arr_rewrite (w' := w) (i := off) (l := []) (vs := []) (cs' := cs) hs hob hb hex q1 rfl (by simp; omega) hcs hcs (by rw [over_nil]) (fun _ _ => rfl) rfl rfl rfl rfl h
          exact ⟨_, _, _, w, q4, by simp, n1, n2, .inl ⟨rfl, rfl⟩⟩
        · have hlpos : 0 < l.length := List.length_pos_iff.2 hl0
          have hy : y = (off - ρ.sh b) * z := by rcases q6 with q6 | q6 <;> omega
          have hroom := hB.room
          have hin : y + vs.length ≤ ρ.cap b * z := by
            rw [hy, hvl, ← Nat.add_mul]; exact Nat.mul_le_mul_right _ (by omega)
          have hcap : ∀ j, j < ρ.cap b * z → j < cs.size := fun j hj => by
            have := (hB.cells j hj).1
            rw [cell_block hcs] at this
            rcases Nat.lt_or_ge j cs.size with h | h
            · exact h
            · simp [Array.getElem?_eq_none h] at this
          have hcsz : y + vs.length ≤ cs.size := by
            rcases Nat.eq_zero_or_pos (y + vs.length) with h0 | h0
            · omega
            · have := hcap (y + vs.length - 1) (by omega); omega
          obtain ⟨⟨cs', g1, g2⟩, g3, g4, g5, g6, g7⟩ := setCells_heap vs y w cs ty f hcs hcsz
          obtain ⟨n1, n2⟩ := arr_rewrite (w' := w.setCells b y vs) (i := off) hs hob hb hex q1 hl (by omega) hcs g1 (by rw [g2, hy]) g3 g4 g5 g6 g7 h
          have hrun := run_storeCells_cells (P := P) b y vs 0 w (fun j hj => (hB.cells (y + 0 + j) (by omega)).1) (fun j hj => (hB.cells (y + 0 + j) (by omega)).2) hl.one
          exact ⟨_, _, _, w.setCells b y vs, q4, h3, n1, n2, .inr ⟨b, y, rfl, hrun⟩⟩
      · cases h
    · cases h
  · split at h
    · simp only [Option.some.injEq] at h; subst h
      simp only [Rep] at hx
      rcases hx with ⟨_, _, rfl⟩ | ⟨_, ad, cap, rfl, _⟩
      · exact ⟨_, _, _, w, rfl, by simp, Kp.refl _ _, hs, .inl ⟨rfl, rfl⟩⟩
      · exact ⟨_, _, _, w, rfl, by simp, Kp.refl _ _, hs, .inl ⟨rfl, rfl⟩⟩
    · cases h
  · cases h

theorem lenD1_ok {x : D} {v : Value} {n : Nat} (h : lenD s 1 x = some n) (hx : Rep ρ w x v) : ∃ p c, v = .slice p n c := by
  simp only [lenD] at h
  split at h
  · simp only [Option.some.injEq] at h; subst h
    simp only [Rep] at hx
    rcases hx with ⟨_, rfl, rfl⟩ | ⟨_, ad, cap, rfl, _⟩
    · exact ⟨_, _, rfl⟩
    · exact ⟨_, _, rfl⟩
  · simp only [Option.some.injEq] at h; subst h
    simp only [Rep] at hx
    obtain ⟨p, c, rfl⟩ := Gh.at_any hx fun _ _ ⟨_, _, _, _, _, q, _⟩ => ⟨_, _, q⟩
    exact ⟨_, _, rfl⟩
  · cases h

theorem nil_or0 {z k : Nat} {l : List D} (h : (Nat.beq z k || (match l with | [] => true | _ => false)) = true) : z = k ∨ l = [] := by
  simp only [Bool.or_eq_true] at h
  rcases h with h | h
  · exact .inl (Nat.eq_of_beq_eq_true h)
  · cases l with
    | nil => exact .inr rfl
    | cons _ _ => simp at h
section
variable (he : EnvRel ρ w lo env a.tmps) (hg : GlOk pn G ρ w) (hs : StRel ρ s w)
include he hg hs

theorem ok_copy {t u e : TypeId} {m : Nat} {x' y' : Operand} {x y : Opd} (hx : opd G x' = some x) (hy : opd G y' = some y) (hu : P.underlying t = some (.slice e)) (hsz : sizeB P e = some (m + 1))
    (h : opF C env s al (.copy (m + 1) x y) = some (d, s')) {o : Oper} (ho : o.op = .call { callee := .builtin .copy, args := #[x', y'], argTypes := #[t, u] }) : OpOk P ρ w env a.tmps d s' ((execOp a.eval o).run P w) := by
  have fin : ∀ (dx : D) (l : List D) (vs : List Value) (n k : Nat), Rep ρ w dx (a.eval x') → lenD s 1 dx = some n → RepC ρ w (m + 1) l vs → l.length = min k n → (Builtin.lenOf (a.eval y')).run P w = .ok k w → (Builtin.firstCells (m + 1) (min k n) (a.eval y')).run P w = .ok vs.toArray w →
      ofS (goI (min (k : Int) (n : Int))) (fillSl s (m + 1) dx l) = some (d, s') → OpOk P ρ w env a.tmps d s' ((execOp a.eval o).run P w) := by
    intro dx l vs n k hdx hln hl hll hlen hcells h
    obtain ⟨h1, rfl⟩ := ofS_some h
    obtain ⟨p, nn, c, w', e1, e2, e3, e4, e5⟩ := fillSl_ok (P := P) hs hdx hl h1
    obtain ⟨p', c', e6⟩ := lenD1_ok hln hdx
    rw [e6] at e1
    simp only [Value.slice.injEq] at e1
    obtain ⟨rfl, rfl, rfl⟩ := e1
    have hst : ∀ q, p' = some q → (storeCells q vs).run P w = .ok () w' := fun q hq => by
      rcases e5 with ⟨hl0, rfl⟩ | ⟨b, yy, hp, hrun⟩
      · subst hl0
        simp only [RepC] at hl; subst hl
        rfl
      · rw [hq] at hp; simp only [Option.some.injEq] at hp; subst hp; exact hrun
    have hnone : p' = none → w' = w := fun hq => by
      rcases e5 with ⟨_, h⟩ | ⟨b, yy, hp, _⟩
      · exact h
      · rw [hq] at hp; cases hp
    have hmin : ∀ q : Nat, Nat.min q n = min q n := fun _ => rfl
    have hrun : (Builtin.copy_ #[t, u] o.type #[a.eval x', a.eval y']).run P w = .ok (goInt (min k n : Nat)) w' := by
      unfold Builtin.copy_
      simp only [List.getElem?_toArray, List.getElem?_cons_zero, List.getElem?_cons_succ]
      rw [Sem.run_bind, run_underlying hu]
      rw [e6]
      simp only [Result.andThen_ok, Sem.run_bind, hlen, sizeOf_run hsz, hmin, hcells]
      cases p' with
      | none => simp [hnone rfl]
      | some q => simp [hst q rfl]
    rw [run_builtin (b := .copy) ho]
    simp only [builtin, List.map_toArray, List.map_cons, List.map_nil]
    rw [Sem.run_bind, hrun]
    have hc : ((min k n : Nat) : Int) = min (k : Int) (n : Int) := by omega
    exact .val e3 e4 (by simp only [Rep, goI, goInt, hc])
  simp only [opF] at h
  split at h
  · rename_i dx l hdx hdy
    split at h
    · rename_i n h1 hln
      have hm : m + 1 = 1 := Nat.eq_of_beq_eq_true h1
      have hy' := opd_rep hy he hg hdy
      simp only [Rep] at hy'
      refine fin dx ((l.take n).map fun b => .int .u8 b.toNat) ((l.take n).map fun b => Value.int .u8 b.toNat) n l.length (opd_rep hx he hg hdx) hln (by rw [hm]; exact bytes_repC _) (by simp [Nat.min_comm]) (by rw [hy']; simp [Builtin.lenOf, ByteArray.size_mk']) ?_ h
      rw [hy', hm]
      simp only [Builtin.firstCells, Sem.run_pure]
      congr 1
      apply Array.ext'
      simp [Nat.min_comm]
    · cases h
  · rename_i dx dy hns hdx hdy
    split at h
    · rename_i z l n hit hln
      split at h
      · rename_i h1 h2
        have hz := nil_or0 h1
        have hyv := opd_rep hy he hg hdy
        rcases items_ok hs hit hyv with ⟨rfl, p, c, hv⟩ | ⟨b, q, c, hv, hE⟩
        · refine fin dx [] [] n 0 (opd_rep hx he hg hdx) hln rfl (by simp) (by rw [hv]; rfl) ?_ (by simpa using h)
          rw [hv]
          cases p with
          | none => simp [Builtin.firstCells]
          | some q => simp [Builtin.firstCells, loadCells, loadCellsFrom]
        · by_cases hl0 : l = []
          · subst hl0
            refine fin dx [] [] n 0 (opd_rep hx he hg hdx) hln rfl (by simp) (by rw [hv]; rfl) ?_ (by simpa using h)
            rw [hv]; simp [Builtin.firstCells, loadCells, loadCellsFrom]
          · obtain rfl := hz.resolve_right hl0
            obtain ⟨vs, g1, g2⟩ := (hE.take n).row
            refine fin dx (l.take n) vs n l.length (opd_rep hx he hg hdx) hln g1 (by simp [Nat.min_comm]) (by rw [hv]; rfl) ?_ h
            rw [hv]
            have hll := g1.length
            have hg2 : ∀ j u, vs[j]? = some u → w.cell? ((⟨b, q, none⟩ : Addr).add j) = some u := fun j u hj => by rw [Addr.add_mid]; exact g2 j u hj
            exact run_firstCells_some w (m + 1) (min l.length n) _ _ c vs (by rw [hll]; simp [Nat.min_comm]) hg2
      · cases h
    · cases h
  · cases h

theorem ok_clear {t : TypeId} {sz : Nat} {z : D} {x' : Operand} {x : Opd} (hx : opd G x' = some x)
    (hk : (∃ q e, P.underlying t = some (.map q e) ∧ z = .tup []) ∨ ∃ e, P.underlying t = some (.slice e) ∧ sizeB P e = some sz ∧ zeroB P e = some z ∧ 0 < sz)
    (h : opF C env s al (.clear sz z x) = some (d, s')) {o : Oper} (ho : o.op = .call { callee := .builtin .clear, args := #[x'], argTypes := #[t] }) : OpOk P ρ w env a.tmps d s' ((execOp a.eval o).run P w) := by
  have fin : ∀ w', (Builtin.clear_ #[t] o.type #[a.eval x']).run P w = .ok (.tuple #[]) w' → (execOp a.eval o).run P w = .ok (.value (.tuple #[])) w' := by
    intro w' hw
    rw [run_builtin (b := .clear) ho]
    simp only [builtin, List.map_toArray, List.map_cons, List.map_nil]
    rw [Sem.run_bind, hw]; rfl
  have hund : ∃ q, P.underlying t = some q := by
    rcases hk with ⟨_, _, h, _⟩ | ⟨_, h, _⟩ <;> exact ⟨_, h⟩
  simp only [opF] at h
  split at h
  · rename_i hp
    have hv := opd_rep hx he hg hp
    simp only [Rep] at hv
    simp only [Option.some.injEq, Prod.mk.injEq] at h
    obtain ⟨rfl, rfl⟩ := h
    obtain ⟨q, hq⟩ := hund
    have hr : (Builtin.clear_ #[t] o.type #[a.eval x']).run P w = .ok (.tuple #[]) w := by
      unfold Builtin.clear_
      simp [hv, run_underlying hq]
    rw [fin _ hr]
    exact .rep hs (by simp [Rep, RepL])
  · rename_i ob hp
    have hv := opd_rep hx he hg hp
    split at h
    · rename_i es c hob
      obtain ⟨h1, rfl⟩ := ofS_some h
      obtain ⟨b, ces, k1, one, hb, hM⟩ := hs.ok _ _ hob
      simp only [Rep, Gh.at, k1] at hv
      obtain ⟨b', hb', hv⟩ := hv
      obtain rfl := one.2 _ hb'
      obtain ⟨q, hq⟩ := hund
      obtain ⟨n1, n2⟩ := map_write (ces' := #[]) hs hob k1 one hb (by simp [RepM]) h1
      have hr : (Builtin.clear_ #[t] o.type #[a.eval x']).run P w = .ok (.tuple #[]) { w with heap := w.heap.setIfInBounds b' (.map #[] c) } := by
        unfold Builtin.clear_
        simp [hv, run_underlying hq, run_getMap hb, run_setMap _ hb]
      rw [fin _ hr]
      exact .val n1 n2 (by simp [Rep, RepL])
    · cases h
  · rename_i dx h1 h2 hp
    clear h1 h2
    have hv := opd_rep hx he hg hp
    split at h
    · rename_i n hn
      split at h
      · rename_i hall
        obtain ⟨h1, rfl⟩ := ofS_some h
        rcases hk with ⟨q, e, hu, rfl⟩ | ⟨e, hu, hsz, hz, hpos⟩
        · simp [allSz, D.st, D.sc] at hall
        · obtain ⟨zv, z1, z2, z3⟩ := zero_run (w := w) hz
          have hzv := ofV_rep (ρ := ρ) (w := w) zv z z2
          have hzs : zv.cells.size = sz ∧ z.st = true := by
            have := allSz_iff.1 hall z (by simp)
            exact ⟨by rw [hzv.size this.2]; exact this.1, this.2⟩
          have hcs : (Builtin.zeroCells zv.cells n).toList = (List.replicate n zv.cells.toList).flatten := range_mod zv.cells (by omega) n
          obtain ⟨p, nn, c, w', e1, e2, e3, e4, e5⟩ := fillSl_ok (P := P) hs hv (RepC.replicate hzv hzs.1 hzs.2 n) h1
          obtain ⟨p', c', e6⟩ := lenD1_ok hn hv
          rw [e6] at e1
          simp only [Value.slice.injEq] at e1
          obtain ⟨rfl, rfl, rfl⟩ := e1
          have hr : (Builtin.clear_ #[t] o.type #[a.eval x']).run P w = .ok (.tuple #[]) w' := by
            unfold Builtin.clear_
            simp only [List.getElem?_toArray, List.getElem?_cons_zero]
            rw [Sem.run_bind, run_underlying hu, e6]
            rcases e5 with ⟨hl0, rfl⟩ | ⟨b, yy, hpp, hrun⟩
            · have hn0 : n = 0 := by cases n with | zero => rfl | succ n => simp [List.replicate_succ] at hl0
              subst hn0
              cases p' <;> simp
            · subst hpp
              rw [← hcs] at hrun
              cases n with
              | zero =>
                have hz0 : (Builtin.zeroCells zv.cells 0).toList = [] := by rw [hcs]; rfl
                rw [hz0] at hrun
                simp only [storeCells, Sem.run_pure, Result.ok.injEq, true_and] at hrun
                subst hrun
                simp
              | succ n => simp [z1, hrun]
          rw [fin _ hr]
          exact .val e3 e4 (by simp [Rep, RepL])
      · cases h
    · cases h
  · cases h
end
end Go.Ab
