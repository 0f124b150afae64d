/- Operations, one by one: slices written over (copy, clear). -/
import Derived.Test.YtloaklflgfefaaaGreatDoorB4
import Derived.Laws.BytesString
import Derived.Laws.Cover4
import Derived.Laws.Cells
import Derived.Laws.IdiomCopy
namespace Go.Ab
open Go
set_option linter.unusedSectionVars false
set_option linter.unusedSimpArgs false
set_option linter.unusedVariables false
variable [Vals]
variable {ρ ρ' : Gh} {w w' : World} {P : Program} {pn : Pins} {G : Gl} {X : Exts} {A : Adv} {s s' : St} {env : Env} {a : Act} {lo : Nat} {d : D} {C : Caller} {al : Option Nat}

theorem bytesOf_cells {z b : Nat} : ∀ {l : List D} {y : Nat} {bs : List UInt8}, bytesOf l = some bs → (z = 1 ∨ l = []) → RepE ρ w z b y l → ∃ ns : List Int, ns.length = l.length ∧ (∀ j n, ns[j]? = some n → w.cell? ⟨b, y + j, none⟩ = some (.int .u8 n)) ∧
    ∀ p : List UInt8, ns.foldl (fun (r : ByteArray) n => r.push (UInt8.ofNat n.toNat)) ⟨⟨p⟩⟩ = ⟨⟨p ++ bs⟩⟩
  | [], y, bs, h, _, _ => by
    simp only [bytesOf, Option.some.injEq] at h; subst h
    exact ⟨[], rfl, fun j n hj => by simp at hj, fun p => by simp⟩
  | d :: r, y, bs, h, hz, hE => by
    obtain rfl : z = 1 := by rcases hz with h | h; exact h; cases h
    unfold bytesOf at h
    split at h
    · rename_i hh; cases hh
    · rename_i n r' hh
      simp only [List.cons.injEq] at hh
      obtain ⟨rfl, rfl⟩ := hh
      split at h
      · rename_i bs' hb
        simp only [Option.some.injEq] at h; subst h
        simp only [RepE] at hE
        obtain ⟨⟨v, h1, h2, h3, h4, h5⟩, h6⟩ := hE
        simp only [Rep] at h1; subst h1
        obtain ⟨ns, g1, g2, g3⟩ := bytesOf_cells hb (.inl rfl) h6
        refine ⟨n :: ns, by simp [g1], fun j m hj => ?_, fun p => ?_⟩
        · cases j with
          | zero =>
            simp only [List.getElem?_cons_zero, Option.some.injEq] at hj; subst hj
            have := h4 0 (by simp [Value.cells])
            simpa [Value.cells] using this
          | succ j =>
            simp only [List.getElem?_cons_succ] at hj
            have := g2 j m hj
            rwa [show y + (j + 1) = y + 1 + j by omega]
        · simp only [List.foldl_cons]
          have : (⟨⟨p⟩⟩ : ByteArray).push (UInt8.ofNat n.toNat) = ⟨⟨p ++ [UInt8.ofNat n.toNat]⟩⟩ := by simp [ByteArray.push]
          rw [this, g3]; simp
      · cases h
    · cases h

theorem codesOf_cells {z b : Nat} : ∀ {l : List D} {y : Nat} {bs : List UInt8}, codesOf l = some bs → (z = 1 ∨ l = []) → RepE ρ w z b y l → ∃ ns : List Int, ns.length = l.length ∧ (∀ j n, ns[j]? = some n → w.cell? ⟨b, y + j, none⟩ = some (.int .i32 n)) ∧
    ∀ p : List UInt8, ns.foldl (fun (r : ByteArray) n => r ++ Utf8.encode n) ⟨⟨p⟩⟩ = ⟨⟨p ++ bs⟩⟩
  | [], y, bs, h, _, _ => by
    simp only [codesOf, Option.some.injEq] at h; subst h
    exact ⟨[], rfl, fun j n hj => by simp at hj, fun p => by simp⟩
  | d :: r, y, bs, h, hz, hE => by
    obtain rfl : z = 1 := by rcases hz with h | h; exact h; cases h
    unfold codesOf at h
    split at h
    · rename_i hh; cases hh
    · rename_i n r' hh
      simp only [List.cons.injEq] at hh
      obtain ⟨rfl, rfl⟩ := hh
      split at h
      · rename_i bs' hb
        simp only [Option.some.injEq] at h; subst h
        simp only [RepE] at hE
        obtain ⟨⟨v, h1, h2, h3, h4, h5⟩, h6⟩ := hE
        simp only [Rep] at h1; subst h1
        obtain ⟨ns, g1, g2, g3⟩ := codesOf_cells hb (.inl rfl) h6
        refine ⟨n :: ns, by simp [g1], fun j m hj => ?_, fun p => ?_⟩
        · cases j with
          | zero =>
            simp only [List.getElem?_cons_zero, Option.some.injEq] at hj; subst hj
            have := h4 0 (by simp [Value.cells])
            simpa [Value.cells] using this
          | succ j =>
            simp only [List.getElem?_cons_succ] at hj
            have := g2 j m hj
            rwa [show y + (j + 1) = y + 1 + j by omega]
        · simp only [List.foldl_cons]
          have : (⟨⟨p⟩⟩ : ByteArray) ++ Utf8.encode n = ⟨⟨p ++ (Utf8.encode n).data.toList⟩⟩ := ByteArray.mk_append_mk p (Utf8.encode n).data.toList
          rw [this, g3]; simp
      · cases h
    · cases h

section
variable (he : EnvRel ρ w lo env a.tmps) (hg : GlOk pn G ρ w) (hs : StRel ρ s w)
include he hg hs

omit he hg hs in
theorem nil_or {z : Nat} {l : List D} (h : (Nat.beq z 1 || (match l with | [] => true | _ => false)) = true) : z = 1 ∨ l = [] := by
  simp only [Bool.or_eq_true] at h
  rcases h with h | h
  · exact .inl (Nat.eq_of_beq_eq_true h)
  · cases l with
    | nil => exact .inr rfl
    | cons _ _ => simp at h
omit he hg hs in
theorem load_ints {b y : Nat} {k : IntKind} {ns : List Int} (h : ∀ j n, ns[j]? = some n → w.cell? ⟨b, y + j, none⟩ = some (.int k n)) : (loadCells ⟨b, y, none⟩ ns.length).run P w = .ok (ns.map (Value.int k)).toArray w := by
  have := run_loadCells_list (P := P) (w := w) ⟨b, y, none⟩ (ns.map (Value.int k)) (fun j v hj => by
    rw [List.getElem?_map, Option.map_eq_some_iff] at hj
    obtain ⟨n, hn, rfl⟩ := hj
    rw [Addr.add_mid]
    exact h j n hn)
  simpa using this

theorem ok_bytesToStr {t u e : TypeId} {x' : Operand} {x : Opd} (hx : opd G x' = some x) (ht : P.underlying t = some (.slice e)) (he8 : P.underlying e = some (.int .u8)) (hu : P.underlying u = some .string) (h : opF C env s al (.bytesToStr x) = some (d, s')) {o : Oper} (ho : o.op = .convert t u x') :
    OpOk P ρ w env a.tmps d s' ((execOp a.eval o).run P w) := by
  simp only [opF] at h
  split at h
  · rename_i p hp
    have hv := opd_rep hx he hg hp
    split at h
    · rename_i z l hit
      split at h
      · rename_i bs hz hb
        simp only [Option.some.injEq, Prod.mk.injEq] at h
        obtain ⟨rfl, rfl⟩ := h
        have hz := nil_or hz
        have fin : (∃ q n c, a.eval x' = .slice q n c) → (Conv.bytesToString (a.eval x')).run P w = .ok (.string ⟨⟨bs⟩⟩) w → OpOk P ρ w env a.tmps (.str bs) s ((execOp a.eval o).run P w) := fun ⟨q, n, c, hsl⟩ hr => by
          have hrun : (execOp a.eval o).run P w = .ok (.value (.string ⟨⟨bs⟩⟩)) w := by
            rw [hsl] at hr
            simp only [execOp, ho, convert, hsl]
            simp [run_underlying ht, run_underlying hu, run_underlying he8, hr]
          rw [hrun]; exact .rep hs (by simp [Rep])
        rcases items_ok hs hit hv with ⟨rfl, q, c, hv⟩ | ⟨b, y, c, hv, hE⟩
        · refine fin ⟨_, _, _, hv⟩ ?_
          simp only [bytesOf, Option.some.injEq] at hb; subst hb
          rw [hv]
          cases q with
          | none => simp [Conv.bytesToString]; rfl
          | some ad =>
            have := run_bytesToString (P := P) w ad 0 c [] (by simp [loadCells, loadCellsFrom])
            exact this
        · refine fin ⟨_, _, _, hv⟩ ?_
          obtain ⟨ns, g1, g2, g3⟩ := bytesOf_cells hb hz hE
          have hl := load_ints (P := P) g2
          rw [g1] at hl
          rw [hv, run_bytesToString w _ _ c ns hl]
          have := g3 []
          simp only [List.nil_append] at this
          exact congrArg (fun q => Result.ok (Value.string q) w) this
      · cases h
    · cases h
  · cases h

theorem ok_runesToStr {t u e : TypeId} {x' : Operand} {x : Opd} (hx : opd G x' = some x) (ht : P.underlying t = some (.slice e)) (he8 : P.underlying e = some (.int .i32)) (hu : P.underlying u = some .string) (h : opF C env s al (.runesToStr x) = some (d, s')) {o : Oper} (ho : o.op = .convert t u x') :
    OpOk P ρ w env a.tmps d s' ((execOp a.eval o).run P w) := by
  simp only [opF] at h
  split at h
  · rename_i p hp
    have hv := opd_rep hx he hg hp
    split at h
    · rename_i z l hit
      split at h
      · rename_i bs hz hb
        simp only [Option.some.injEq, Prod.mk.injEq] at h
        obtain ⟨rfl, rfl⟩ := h
        have hz := nil_or hz
        have fin : (∃ q n c, a.eval x' = .slice q n c) → (Conv.runesToString (a.eval x')).run P w = .ok (.string ⟨⟨bs⟩⟩) w → OpOk P ρ w env a.tmps (.str bs) s ((execOp a.eval o).run P w) := fun ⟨q, n, c, hsl⟩ hr => by
          have hrun : (execOp a.eval o).run P w = .ok (.value (.string ⟨⟨bs⟩⟩)) w := by
            rw [hsl] at hr
            simp only [execOp, ho, convert, hsl]
            simp [run_underlying ht, run_underlying hu, run_underlying he8, hr]
          rw [hrun]; exact .rep hs (by simp [Rep])
        rcases items_ok hs hit hv with ⟨rfl, q, c, hv⟩ | ⟨b, y, c, hv, hE⟩
        · refine fin ⟨_, _, _, hv⟩ ?_
          simp only [codesOf, Option.some.injEq] at hb; subst hb
          rw [hv]
          cases q with
          | none => simp [Conv.runesToString]; rfl
          | some ad =>
            have := run_runesToString (P := P) w ad 0 c [] (by simp [loadCells, loadCellsFrom])
            exact this
        · refine fin ⟨_, _, _, hv⟩ ?_
          obtain ⟨ns, g1, g2, g3⟩ := codesOf_cells hb hz hE
          have hl := load_ints (P := P) g2
          rw [g1] at hl
          rw [hv, run_runesToString w _ _ c ns hl]
          have := g3 []
          simp only [List.nil_append] at this
          exact congrArg (fun q => Result.ok (Value.string q) w) this
      · cases h
    · cases h
  · cases h
end
end Go.Ab

namespace Go.Ab
open Go
set_option linter.unusedSectionVars false
set_option linter.unusedSimpArgs false
set_option linter.unusedVariables false
variable {s s' : St} {C : Caller} {L : Looper} {e : Env} {al : Option Nat} {d : D}

theorem ofO_st0 {x : Option D} (h : ofO s x = some (d, s')) : s' = s := by cases x <;> simp [ofO] at h; exact h.2.symm
theorem set_ro (hr : s.ro = true) (o : Nat) (x : Obj) : s.set o x = none := by unfold St.set; rw [hr]
theorem mk_ro (hr : s.ro = true) (al : Option Nat) (x : Obj) : s.mk' al x = none := by unfold St.mk'; rw [hr]
theorem storeD_ro (hr : s.ro = true) (sz : Nat) (p v : D) : storeD s sz p v = none := by
  unfold storeD
  repeat' split
  all_goals first
    | rfl
    | exact set_ro hr _ _
theorem fillSl_ro (hr : s.ro = true) {sz : Nat} {p : D} {l : List D} (h : fillSl s sz p l = some s') : s' = s := by
  unfold fillSl at h
  repeat' split at h
  all_goals first
    | (cases h; done)
    | (rw [set_ro hr] at h; cases h; done)
    | (simp only [Option.some.injEq] at h; exact h.symm)
theorem appendD_ro (hr : s.ro = true) {sz ty : Nat} {x : D} {l : List D} (h : appendD s al sz ty x l = some (d, s')) : s' = s := by
  unfold appendD at h
  simp only [set_ro hr, mk_ro hr] at h
  repeat' split at h
  all_goals first
    | (cases h; done)
    | (simp only [Option.some.injEq, Prod.mk.injEq] at h; exact h.2.symm)
    | (simp at h; done)
theorem extD_ro (hr : s.ro = true) {k : Ext} {l : List D} (h : extD s k l = some (d, s')) : s' = s := by
  unfold extD at h
  simp only [storeD_ro hr, ofS] at h
  repeat' split at h
  all_goals first
    | (cases h; done)
    | (simp only [Option.some.injEq, Prod.mk.injEq] at h; exact h.2.symm)
    | (simp at h; done)

/-- A caller that keeps to it. -/
def RoC (C : Caller) : Prop := ∀ f l s d s', s.ro = true → C f l s = some (d, s') → s' = s
def RoL (L : Looper) : Prop := ∀ k a fr s e fr' s', s.ro = true → L k a fr s = some (e, fr', s') → s' = s

theorem opF_ro (hC : RoC C) (hr : s.ro = true) {p : AOp} (h : opF C e s al p = some (d, s')) : s' = s := by
  cases p <;> simp only [opF, set_ro hr, mk_ro hr, storeD_ro hr, ofS] at h
  all_goals
    (repeat' split at h)
    all_goals first
      | (cases h; done)
      | exact ofO_st0 h
      | (simp only [Option.some.injEq, Prod.mk.injEq] at h; exact h.2.symm)
      | exact hC _ _ _ _ _ hr h
      | exact appendD_ro hr h
      | exact extD_ro hr h
      | (rename_i h1; simp only [Option.some.injEq, Prod.mk.injEq] at h; obtain ⟨rfl, rfl⟩ := h; exact fillSl_ro hr h1)
      | trace_state

theorem oper_ro (hC : RoC C) (hr : s.ro = true) {b : Nat} {o : AOper} {fr fr' : Fr} (h : oper C b o fr s = some (fr', s')) : s' = s := by
  unfold oper at h
  split at h
  · split at h
    · split at h
      · simp only [Option.some.injEq, Prod.mk.injEq] at h; exact h.2.symm
      · cases h
    · split at h
      · split at h
        · simp only [Option.some.injEq, Prod.mk.injEq] at h; exact h.2.symm
        · cases h
      · cases h
    · split at h
      · split at h
        · split at h
          · simp only [Option.some.injEq, Prod.mk.injEq] at h; exact h.2.symm
          · cases h
        · cases h
      · cases h
    · split at h
      · rename_i h1
        simp only [Option.some.injEq, Prod.mk.injEq] at h
        obtain ⟨_, rfl⟩ := h
        exact opF_ro hC hr h1
      · cases h
  · simp only [Option.some.injEq, Prod.mk.injEq] at h; exact h.2.symm
  · cases h
theorem opers_ro (hC : RoC C) {b : Nat} : ∀ {l : List AOper} {s s' : St} {fr fr' : Fr}, s.ro = true → opers C b l fr s = some (fr', s') → s' = s
  | [], s, s', fr, fr', hr, h => by simp only [opers, Option.some.injEq, Prod.mk.injEq] at h; exact h.2.symm
  | o :: r, s, s', fr, fr', hr, h => by
    simp only [opers] at h
    split at h
    · rename_i h1
      obtain rfl := oper_ro hC hr h1
      exact opers_ro hC hr h
    · cases h
theorem dopers_ro (hC : RoC C) {b : Nat} : ∀ {l : List (AOper × List Nat)} {acc : List Fp} {s s' : St} {fr fr' : Fr}, s.ro = true → dopers C b l acc fr s = some (fr', s') → s' = s
  | [], _, s, s', fr, fr', hr, h => by simp only [dopers, Option.some.injEq, Prod.mk.injEq] at h; exact h.2.symm
  | (o, q) :: r, _, s, s', fr, fr', hr, h => by
    simp only [dopers] at h
    split at h
    · split at h
      · rename_i h1
        obtain rfl := oper_ro hC hr h1
        split at h
        · exact dopers_ro hC hr h
        · cases h
      · cases h
    · cases h
theorem execS_ro (hC : RoC C) (hL : RoL L) : ∀ {a : AC} {s s' : St} {fr fr' : Fr} {e : Ex}, s.ro = true → execS C L a fr s = some (e, fr', s') → s' = s
  | .skip, s, s', fr, fr', e, hr, h => by simp only [execS, Option.some.injEq, Prod.mk.injEq] at h; exact h.2.2.symm
  | .reg ops, s, s', fr, fr', e, hr, h => by
    simp only [execS] at h
    split at h
    · rename_i h1
      simp only [Option.some.injEq, Prod.mk.injEq] at h
      obtain ⟨_, _, rfl⟩ := h
      exact opers_ro hC hr h1
    · cases h
  | .dreg k ops, s, s', fr, fr', e, hr, h => by
    simp only [execS] at h
    split at h
    · cases h
    · rename_i hk
      split at h
      · rename_i h1
        simp only [Option.some.injEq, Prod.mk.injEq] at h
        obtain ⟨_, _, rfl⟩ := h
        have hk0 : k = 0 := by
          rw [hr, Bool.true_and] at hk
          rcases Nat.eq_zero_or_pos k with h | h
          · exact h
          · have : Nat.blt 0 k = true := Nat.ble_eq_true_of_le h
            rw [this] at hk; cases hk
        subst hk0
        exact dopers_ro (s := s) hC hr h1
      · cases h
  | .seq a b, s, s', fr, fr', e, hr, h => by
    simp only [execS] at h
    split at h
    · rename_i h1
      obtain rfl := execS_ro hC hL hr h1
      exact execS_ro hC hL hr h
    · exact execS_ro hC hL hr h
  | .cond c a b, s, s', fr, fr', e, hr, h => by
    simp only [execS] at h
    split at h
    · exact execS_ro hC hL hr h
    · exact execS_ro hC hL hr h
    · cases h
  | .block id a, s, s', fr, fr', e, hr, h => by
    simp only [execS] at h
    split at h
    · rename_i h1
      obtain rfl := execS_ro hC hL hr h1
      split at h
      · simp only [Option.some.injEq, Prod.mk.injEq] at h; exact h.2.2.symm
      · simp only [Option.some.injEq, Prod.mk.injEq] at h; exact h.2.2.symm
    · exact execS_ro hC hL hr h
  | .loop keep a, s, s', fr, fr', e, hr, h => by
    simp only [execS] at h
    exact hL _ _ _ _ _ _ _ hr h
  | .rangef keep g ps x y, s, s', fr, fr', e, hr, h => by
    simp only [execS] at h
    exact hL _ _ _ _ _ _ _ hr h
  | .exit id, s, s', fr, fr', e, hr, h => by simp only [execS, Option.some.injEq, Prod.mk.injEq] at h; exact h.2.2.symm
  | .ret, s, s', fr, fr', e, hr, h => by simp only [execS, Option.some.injEq, Prod.mk.injEq] at h; exact h.2.2.symm
  | .bad, s, s', fr, fr', e, hr, h => by simp [execS] at h
theorem leave_ro (hC : RoC C) : ∀ {l : List (D × List D)} {s s' : St}, s.ro = true → leave C l s = some s' → s' = s
  | [], s, s', hr, h => by simp only [leave, Option.some.injEq] at h; exact h.symm
  | (f, l) :: r, s, s', hr, h => by
    unfold leave at h
    split at h
    · rename_i hh; cases hh
    · rename_i hh
      simp only [List.cons.injEq, Prod.mk.injEq] at hh
      obtain ⟨⟨rfl, rfl⟩, rfl⟩ := hh
      split at h
      · rename_i h1
        obtain rfl := hC _ _ _ _ _ hr h1
        exact leave_ro hC hr h
      · cases h
    · rename_i hh
      simp only [List.cons.injEq, Prod.mk.injEq] at hh
      obtain ⟨⟨rfl, rfl⟩, rfl⟩ := hh
      exact leave_ro hC hr h
    · cases h
theorem runFn_ro {CD : Caller} (hC : RoC C) (hCD : RoC CD) (hL : RoL L) (hr : s.ro = true) {fn : AFn} {args : List D} (h : runFn C CD L fn args s = some (d, s')) : s' = s := by
  unfold runFn at h
  split at h
  · cases h
  · rename_i h1
    obtain rfl := execS_ro hC hL hr h1
    split at h
    · rename_i h2
      obtain rfl := leave_ro hCD hr h2
      split at h
      · simp only [Option.some.injEq, Prod.mk.injEq] at h; exact h.2.symm
      · cases h
    · cases h
  · cases h
theorem callD_ro {T : Nat → Option AFn} (hC : RoC C) (hL : RoL L) : RoC (callD T C L) := by
  intro f l s d s' hr h
  unfold callD at h
  split at h
  · unfold runFnD at h
    split at h
    · cases h
    · rename_i h1
      obtain rfl := execS_ro hC hL hr h1
      split at h
      · split at h
        · simp only [Option.some.injEq, Prod.mk.injEq] at h; exact h.2.symm
        · cases h
      · cases h
    · cases h
  · cases h
theorem callN_ro {T : Nat → Option AFn} {H : Caller} (hH : RoC H) : ∀ n, RoC (callN T H n) ∧ RoL (loopN T H n)
  | 0 => ⟨fun f l s d s' _ h => by simp [callN] at h, fun k a fr s e fr' s' _ h => by simp [loopN] at h⟩
  | n + 1 => by
    obtain ⟨i1, i2⟩ := callN_ro (T := T) hH n
    refine ⟨fun f l s d s' hr h => ?_, fun k a fr s e fr' s' hr h => ?_⟩
    · simp only [callN] at h
      split at h
      · exact hH _ _ _ _ _ hr h
      · split at h
        · exact runFn_ro i1 (callD_ro i1 i2) i2 hr h
        · exact hH _ _ _ _ _ hr h
    · cases hb : a.isRangef with
      | true =>
        cases a <;> first | (cases hb; done) | skip
        rw [loopN_range, rangeF_ro hr] at h; cases h
      | false =>
        rw [loopN_plain _ _ _ _ hb] at h
        split at h
        · rename_i h1
          obtain rfl := execS_ro i1 i2 hr h1
          exact i2 _ _ _ _ _ _ _ hr h
        · exact execS_ro i1 i2 hr h
end Go.Ab

namespace Go.Ab
open Go
set_option linter.unusedSectionVars false
set_option linter.unusedSimpArgs false
set_option linter.unusedVariables false
variable [Vals]
variable {ρ ρ' : Gh} {w w' : World} {P : Program} {pn : Pins} {G : Gl} {X : Exts} {A : Adv} {s s' : St} {env : Env} {a : Act} {lo : Nat} {d : D} {C : Caller} {al : Option Nat}
theorem StRel.ro_of {b : Bool} (h : StRel ρ s w) : StRel ρ { s with ro := b } w := ⟨h.lt, h.ok, h.no, h.live, h.size⟩
theorem StRel.of_ro {b : Bool} (h : StRel ρ { s with ro := b } w) : StRel ρ s w := ⟨h.lt, h.ok, h.no, h.live, h.size⟩
section
variable (he : EnvRel ρ w lo env a.tmps) (hg : GlOk pn G ρ w) (hs : StRel ρ s w)
include he hg hs
theorem ok_callro (hC : CallerOk pn P G C) {f : FuncId} {args' : Array Operand} {args : List Opd} (ha : opds G args' = some args) (h : opF C env s al (.call true f args) = some (d, s')) {o : Oper} {tys : Array TypeId}
    (ho : o.op = .call { callee := .value (.func f), args := args', argTypes := tys }) : OpOk P ρ w env a.tmps d s' ((execOp a.eval o).run P w) := by
  simp only [opF] at h
  split at h
  · rename_i l hl
    split at h
    · rename_i d1 s1 h1
      simp only [Option.some.injEq, Prod.mk.injEq] at h
      obtain ⟨rfl, rfl⟩ := h
      have hr := evs_rep he hg _ _ l ha hl
      have hrun : (execOp a.eval o).run P w = .ok (.enter f (args'.map a.eval)) w := by
        simp only [execOp, ho, resolve, Act.eval, Deferred.ofValue]
        have := hC.enter _ _ _ _ h1 (.inr hr.yS) (args'.map a.eval) w
        simpa [invoke] using this
      rw [hrun]
      refine ⟨rfl, ?_⟩
      have := hC.calls _ _ _ _ _ ρ w _ h1 hs.ro_of hg hr
      have hs1 : s1 = { s with ro := true } := hC.ro _ _ _ _ _ rfl h1
      subst hs1
      have e : (List.map a.eval args'.toList).toArray = args'.map a.eval := by simp [← Array.toList_map]
      rw [e] at this
      refine this.mono fun en w' hp => ?_
      cases en with
      | returned v => obtain ⟨ρ', k1, k2, k3⟩ := hp; exact ⟨ρ', k1, k2.of_ro, k3⟩
      | panicked _ => exact hp
      | outgrown => exact hp
    · cases h
  · cases h
end
end Go.Ab

namespace Go.Ab
open Go
set_option linter.unusedSectionVars false
set_option linter.unusedSimpArgs false
set_option linter.unusedVariables false
variable [Vals]
variable {ρ ρ' : Gh} {w w' : World} {P : Program} {pn : Pins} {G : Gl} {X : Exts} {A : Adv} {s s' : St} {env : Env} {a : Act} {lo : Nat} {d : D} {C : Caller} {al : Option Nat}

/-- A slice's own cells written over, from its beginning on. -/
theorem fillSl_ok (hs : StRel ρ s w) {sz : Nat} {x : D} {v : Value} {l : List D} {vs : List Value} (hx : Rep ρ w x v) (hl : RepC ρ w sz l vs) (h : fillSl s sz x l = some s') :
    ∃ p n c w', v = .slice p n c ∧ l.length ≤ n ∧ Kp ρ w ρ w' ∧ StRel ρ s' w' ∧ ((l = [] ∧ w' = w) ∨ ∃ b y, p = some ⟨b, y, none⟩ ∧ (storeCells ⟨b, y, none⟩ vs).run P w = .ok () w') := by
  unfold fillSl at h
  split at h
  · rename_i o off len cp
    split at h
    · rename_i z ty es st hob
      split at h
      · rename_i h1 h2 h3
        obtain rfl := Nat.eq_of_beq_eq_true h1
        have h2 := Nat.eq_of_beq_eq_true h2
        have h3 := Nat.le_of_ble_eq_true h3
        obtain ⟨z0, k1, hst1, ⟨cur, c1, c2, c3⟩, hbl, hall⟩ := hs.ok _ _ hob
        simp only [Rep, Gh.at, k1] at hx
        obtain ⟨b, hb, q1, q2, q3, y, cap, q4, q5, q6, q7⟩ := hx
        have hB := hbl b hb
        have hex : ρ.ext b = es.length := by have := hB.ext; omega
        obtain ⟨cs, f, hcs⟩ := hB.shape
        have hvl := hl.length
        by_cases hl0 : l = []
        · subst hl0
          simp only [RepC] at hl; subst hl
          obtain ⟨n1, n2⟩ := arr_rewrite (w' := w) (i := off) (l := []) (vs := []) (cs' := cs) hs hob hb hex q1 rfl (by simp; omega) hcs hcs (by rw [over_nil]) (fun _ _ => rfl) rfl rfl rfl rfl h
          exact ⟨_, _, _, w, q4, by simp, n1, n2, .inl ⟨rfl, rfl⟩⟩
        · have hlpos : 0 < l.length := List.length_pos_iff.2 hl0
          have hy : y = (off - ρ.sh b) * z := by rcases q6 with q6 | q6 <;> omega
          have hroom := hB.room
          have hin : y + vs.length ≤ ρ.cap b * z := by
            rw [hy, hvl, ← Nat.add_mul]; exact Nat.mul_le_mul_right _ (by omega)
          have hcap : ∀ j, j < ρ.cap b * z → j < cs.size := fun j hj => by
            have := (hB.cells j hj).1
            rw [cell_block hcs] at this
            rcases Nat.lt_or_ge j cs.size with h | h
            · exact h
            · simp [Array.getElem?_eq_none h] at this
          have hcsz : y + vs.length ≤ cs.size := by
            rcases Nat.eq_zero_or_pos (y + vs.length) with h0 | h0
            · omega
            · have := hcap (y + vs.length - 1) (by omega); omega
          obtain ⟨⟨cs', g1, g2⟩, g3, g4, g5, g6, g7⟩ := setCells_heap vs y w cs ty f hcs hcsz
          obtain ⟨n1, n2⟩ := arr_rewrite (w' := w.setCells b y vs) (i := off) hs hob hb hex q1 hl (by omega) hcs g1 (by rw [g2, hy]) g3 g4 g5 g6 g7 h
          have hrun := run_storeCells_cells (P := P) b y vs 0 w (fun j hj => (hB.cells (y + 0 + j) (by omega)).1) (fun j hj => (hB.cells (y + 0 + j) (by omega)).2) hl.one
          exact ⟨_, _, _, w.setCells b y vs, q4, h3, n1, n2, .inr ⟨b, y, rfl, hrun⟩⟩
      · cases h
    · cases h
  · split at h
    · simp only [Option.some.injEq] at h; subst h
      simp only [Rep] at hx
      rcases hx with ⟨_, _, rfl⟩ | ⟨_, ad, cap, rfl, _⟩
      · exact ⟨_, _, _, w, rfl, by simp, Kp.refl _ _, hs, .inl ⟨rfl, rfl⟩⟩
      · exact ⟨_, _, _, w, rfl, by simp, Kp.refl _ _, hs, .inl ⟨rfl, rfl⟩⟩
    · cases h
  · cases h

theorem lenD1_ok {x : D} {v : Value} {n : Nat} (h : lenD s 1 x = some n) (hx : Rep ρ w x v) : ∃ p c, v = .slice p n c := by
  simp only [lenD] at h
  split at h
  · simp only [Option.some.injEq] at h; subst h
    simp only [Rep] at hx
    rcases hx with ⟨_, rfl, rfl⟩ | ⟨_, ad, cap, rfl, _⟩
    · exact ⟨_, _, rfl⟩
    · exact ⟨_, _, rfl⟩
  · simp only [Option.some.injEq] at h; subst h
    simp only [Rep] at hx
    obtain ⟨p, c, rfl⟩ := Gh.at_any hx fun _ _ ⟨_, _, _, _, _, q, _⟩ => ⟨_, _, q⟩
    exact ⟨_, _, rfl⟩
  · cases h

theorem nil_or0 {z k : Nat} {l : List D} (h : (Nat.beq z k || (match l with | [] => true | _ => false)) = true) : z = k ∨ l = [] := by
  simp only [Bool.or_eq_true] at h
  rcases h with h | h
  · exact .inl (Nat.eq_of_beq_eq_true h)
  · cases l with
    | nil => exact .inr rfl
    | cons _ _ => simp at h
section
variable (he : EnvRel ρ w lo env a.tmps) (hg : GlOk pn G ρ w) (hs : StRel ρ s w)
include he hg hs

theorem ok_copy {t u e : TypeId} {m : Nat} {x' y' : Operand} {x y : Opd} (hx : opd G x' = some x) (hy : opd G y' = some y) (hu : P.underlying t = some (.slice e)) (hsz : sizeB P e = some (m + 1))
    (h : opF C env s al (.copy (m + 1) x y) = some (d, s')) {o : Oper} (ho : o.op = .call { callee := .builtin .copy, args := #[x', y'], argTypes := #[t, u] }) : OpOk P ρ w env a.tmps d s' ((execOp a.eval o).run P w) := by
  have fin : ∀ (dx : D) (l : List D) (vs : List Value) (n k : Nat), Rep ρ w dx (a.eval x') → lenD s 1 dx = some n → RepC ρ w (m + 1) l vs → l.length = min k n → (Builtin.lenOf (a.eval y')).run P w = .ok k w → (Builtin.firstCells (m + 1) (min k n) (a.eval y')).run P w = .ok vs.toArray w →
      ofS (goI (min (k : Int) (n : Int))) (fillSl s (m + 1) dx l) = some (d, s') → OpOk P ρ w env a.tmps d s' ((execOp a.eval o).run P w) := by
    intro dx l vs n k hdx hln hl hll hlen hcells h
    obtain ⟨h1, rfl⟩ := ofS_some h
    obtain ⟨p, nn, c, w', e1, e2, e3, e4, e5⟩ := fillSl_ok (P := P) hs hdx hl h1
    obtain ⟨p', c', e6⟩ := lenD1_ok hln hdx
    rw [e6] at e1
    simp only [Value.slice.injEq] at e1
    obtain ⟨rfl, rfl, rfl⟩ := e1
    have hst : ∀ q, p' = some q → (storeCells q vs).run P w = .ok () w' := fun q hq => by
      rcases e5 with ⟨hl0, rfl⟩ | ⟨b, yy, hp, hrun⟩
      · subst hl0
        simp only [RepC] at hl; subst hl
        rfl
      · rw [hq] at hp; simp only [Option.some.injEq] at hp; subst hp; exact hrun
    have hnone : p' = none → w' = w := fun hq => by
      rcases e5 with ⟨_, h⟩ | ⟨b, yy, hp, _⟩
      · exact h
      · rw [hq] at hp; cases hp
    have hmin : ∀ q : Nat, Nat.min q n = min q n := fun _ => rfl
    have hrun : (Builtin.copy_ #[t, u] o.type #[a.eval x', a.eval y']).run P w = .ok (goInt (min k n : Nat)) w' := by
      unfold Builtin.copy_
      simp only [List.getElem?_toArray, List.getElem?_cons_zero, List.getElem?_cons_succ]
      rw [Sem.run_bind, run_underlying hu]
      rw [e6]
      simp only [Result.andThen_ok, Sem.run_bind, hlen, sizeOf_run hsz, hmin, hcells]
      cases p' with
      | none => simp [hnone rfl]
      | some q => simp [hst q rfl]
    rw [run_builtin (b := .copy) ho]
    simp only [builtin, List.map_toArray, List.map_cons, List.map_nil]
    rw [Sem.run_bind, hrun]
    have hc : ((min k n : Nat) : Int) = min (k : Int) (n : Int) := by omega
    exact .val e3 e4 (by simp only [Rep, goI, goInt, hc])
  simp only [opF] at h
  split at h
  · rename_i dx l hdx hdy
    split at h
    · rename_i n h1 hln
      have hm : m + 1 = 1 := Nat.eq_of_beq_eq_true h1
      have hy' := opd_rep hy he hg hdy
      simp only [Rep] at hy'
      refine fin dx ((l.take n).map fun b => .int .u8 b.toNat) ((l.take n).map fun b => Value.int .u8 b.toNat) n l.length (opd_rep hx he hg hdx) hln (by rw [hm]; exact bytes_repC _) (by simp [Nat.min_comm]) (by rw [hy']; simp [Builtin.lenOf, ByteArray.size_mk']) ?_ h
      rw [hy', hm]
      simp only [Builtin.firstCells, Sem.run_pure]
      congr 1
      apply Array.ext'
      simp [Nat.min_comm]
    · cases h
  · rename_i dx dy hns hdx hdy
    split at h
    · rename_i z l n hit hln
      split at h
      · rename_i h1 h2
        have hz := nil_or0 h1
        have hyv := opd_rep hy he hg hdy
        rcases items_ok hs hit hyv with ⟨rfl, p, c, hv⟩ | ⟨b, q, c, hv, hE⟩
        · refine fin dx [] [] n 0 (opd_rep hx he hg hdx) hln rfl (by simp) (by rw [hv]; rfl) ?_ (by simpa using h)
          rw [hv]
          cases p with
          | none => simp [Builtin.firstCells]
          | some q => simp [Builtin.firstCells, loadCells, loadCellsFrom]
        · by_cases hl0 : l = []
          · subst hl0
            refine fin dx [] [] n 0 (opd_rep hx he hg hdx) hln rfl (by simp) (by rw [hv]; rfl) ?_ (by simpa using h)
            rw [hv]; simp [Builtin.firstCells, loadCells, loadCellsFrom]
          · obtain rfl := hz.resolve_right hl0
            obtain ⟨vs, g1, g2⟩ := (hE.take n).row
            refine fin dx (l.take n) vs n l.length (opd_rep hx he hg hdx) hln g1 (by simp [Nat.min_comm]) (by rw [hv]; rfl) ?_ h
            rw [hv]
            have hll := g1.length
            have hg2 : ∀ j u, vs[j]? = some u → w.cell? ((⟨b, q, none⟩ : Addr).add j) = some u := fun j u hj => by rw [Addr.add_mid]; exact g2 j u hj
            exact run_firstCells_some w (m + 1) (min l.length n) _ _ c vs (by rw [hll]; simp [Nat.min_comm]) hg2
      · cases h
    · cases h
  · cases h

theorem ok_clear {t : TypeId} {sz : Nat} {z : D} {x' : Operand} {x : Opd} (hx : opd G x' = some x)
    (hk : (∃ q e, P.underlying t = some (.map q e) ∧ z = .tup []) ∨ ∃ e, P.underlying t = some (.slice e) ∧ sizeB P e = some sz ∧ zeroB P e = some z ∧ 0 < sz)
    (h : opF C env s al (.clear sz z x) = some (d, s')) {o : Oper} (ho : o.op = .call { callee := .builtin .clear, args := #[x'], argTypes := #[t] }) : OpOk P ρ w env a.tmps d s' ((execOp a.eval o).run P w) := by
  have fin : ∀ w', (Builtin.clear_ #[t] o.type #[a.eval x']).run P w = .ok (.tuple #[]) w' → (execOp a.eval o).run P w = .ok (.value (.tuple #[])) w' := by
    intro w' hw
    rw [run_builtin (b := .clear) ho]
    simp only [builtin, List.map_toArray, List.map_cons, List.map_nil]
    rw [Sem.run_bind, hw]; rfl
  have hund : ∃ q, P.underlying t = some q := by
    rcases hk with ⟨_, _, h, _⟩ | ⟨_, h, _⟩ <;> exact ⟨_, h⟩
  simp only [opF] at h
  split at h
  · rename_i hp
    have hv := opd_rep hx he hg hp
    simp only [Rep] at hv
    simp only [Option.some.injEq, Prod.mk.injEq] at h
    obtain ⟨rfl, rfl⟩ := h
    obtain ⟨q, hq⟩ := hund
    have hr : (Builtin.clear_ #[t] o.type #[a.eval x']).run P w = .ok (.tuple #[]) w := by
      unfold Builtin.clear_
      simp [hv, run_underlying hq]
    rw [fin _ hr]
    exact .rep hs (by simp [Rep, RepL])
  · rename_i ob hp
    have hv := opd_rep hx he hg hp
    split at h
    · rename_i es c hob
      obtain ⟨h1, rfl⟩ := ofS_some h
      obtain ⟨b, ces, k1, one, hb, hM⟩ := hs.ok _ _ hob
      simp only [Rep, Gh.at, k1] at hv
      obtain ⟨b', hb', hv⟩ := hv
      obtain rfl := one.2 _ hb'
      obtain ⟨q, hq⟩ := hund
      obtain ⟨n1, n2⟩ := map_write (ces' := #[]) hs hob k1 one hb (by simp [RepM]) h1
      have hr : (Builtin.clear_ #[t] o.type #[a.eval x']).run P w = .ok (.tuple #[]) { w with heap := w.heap.setIfInBounds b' (.map #[] c) } := by
        unfold Builtin.clear_
        simp [hv, run_underlying hq, run_getMap hb, run_setMap _ hb]
      rw [fin _ hr]
      exact .val n1 n2 (by simp [Rep, RepL])
    · cases h
  · rename_i dx h1 h2 hp
    clear h1 h2
    have hv := opd_rep hx he hg hp
    split at h
    · rename_i n hn
      split at h
      · rename_i hall
        obtain ⟨h1, rfl⟩ := ofS_some h
        rcases hk with ⟨q, e, hu, rfl⟩ | ⟨e, hu, hsz, hz, hpos⟩
        · simp [allSz, D.st, D.sc] at hall
        · obtain ⟨zv, z1, z2, z3⟩ := zero_run (w := w) hz
          have hzv := ofV_rep (ρ := ρ) (w := w) zv z z2
          have hzs : zv.cells.size = sz ∧ z.st = true := by
            have := allSz_iff.1 hall z (by simp)
            exact ⟨by rw [hzv.size this.2]; exact this.1, this.2⟩
          have hcs : (Builtin.zeroCells zv.cells n).toList = (List.replicate n zv.cells.toList).flatten := range_mod zv.cells (by omega) n
          obtain ⟨p, nn, c, w', e1, e2, e3, e4, e5⟩ := fillSl_ok (P := P) hs hv (RepC.replicate hzv hzs.1 hzs.2 n) h1
          obtain ⟨p', c', e6⟩ := lenD1_ok hn hv
          rw [e6] at e1
          simp only [Value.slice.injEq] at e1
          obtain ⟨rfl, rfl, rfl⟩ := e1
          have hr : (Builtin.clear_ #[t] o.type #[a.eval x']).run P w = .ok (.tuple #[]) w' := by
            unfold Builtin.clear_
            simp only [List.getElem?_toArray, List.getElem?_cons_zero]
            rw [Sem.run_bind, run_underlying hu, e6]
            rcases e5 with ⟨hl0, rfl⟩ | ⟨b, yy, hpp, hrun⟩
            · have hn0 : n = 0 := by cases n with | zero => rfl | succ n => simp [List.replicate_succ] at hl0
              subst hn0
              cases p' <;> simp
            · subst hpp
              rw [← hcs] at hrun
              cases n with
              | zero =>
                have hz0 : (Builtin.zeroCells zv.cells 0).toList = [] := by rw [hcs]; rfl
                rw [hz0] at hrun
                simp only [storeCells, Sem.run_pure, Result.ok.injEq, true_and] at hrun
                subst hrun
                simp
              | succ n => simp [z1, hrun]
          rw [fin _ hr]
          exact .val e3 e4 (by simp [Rep, RepL])
      · cases h
    · cases h
  · cases h
end
end Go.Ab
