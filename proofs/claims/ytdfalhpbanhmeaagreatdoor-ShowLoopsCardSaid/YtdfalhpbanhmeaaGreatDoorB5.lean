/- Operations, one by one: bytes and runes as strings. -/
import Derived.Test.YtdfalhpbanhmeaaGreatDoorB4
import Derived.Laws.BytesString
import Derived.Laws.Cover4
import Derived.Laws.Cells
namespace Go.Ab
open Go
set_option linter.unusedSectionVars false
set_option linter.unusedSimpArgs false
set_option linter.unusedVariables false
variable [Vals]
variable {ρ ρ' : Gh} {w w' : World} {P : Program} {pn : Pins} {G : Gl} {X : Exts} {A : Adv} {s s' : St} {env : Env} {a : Act} {lo : Nat} {d : D} {C : Caller} {al : Option Nat}

theorem bytesOf_cells {z b : Nat} : ∀ {l : List D} {y : Nat} {bs : List UInt8}, bytesOf l = some bs → (z = 1 ∨ l = []) → RepE ρ w z b y l → ∃ ns : List Int, ns.length = l.length ∧ (∀ j n, ns[j]? = some n → w.cell? ⟨b, y + j, none⟩ = some (.int .u8 n)) ∧
    ∀ p : List UInt8, ns.foldl (fun (r : ByteArray) n => r.push (UInt8.ofNat n.toNat)) ⟨⟨p⟩⟩ = ⟨⟨p ++ bs⟩⟩
  | [], y, bs, h, _, _ => by
    simp only [bytesOf, Option.some.injEq] at h; subst h
    exact ⟨[], rfl, fun j n hj => by simp at hj, fun p => by simp⟩
  | d :: r, y, bs, h, hz, hE => by
    obtain rfl : z = 1 := by rcases hz with h | h; exact h; cases h
    unfold bytesOf at h
    split at h
    · rename_i hh; cases hh
    · rename_i n r' hh
      simp only [List.cons.injEq] at hh
      obtain ⟨rfl, rfl⟩ := hh
      split at h
      · rename_i bs' hb
        simp only [Option.some.injEq] at h; subst h
        simp only [RepE] at hE
        obtain ⟨⟨v, h1, h2, h3, h4, h5⟩, h6⟩ := hE
        simp only [Rep] at h1; subst h1
        obtain ⟨ns, g1, g2, g3⟩ := bytesOf_cells hb (.inl rfl) h6
        refine ⟨n :: ns, by simp [g1], fun j m hj => ?_, fun p => ?_⟩
        · cases j with
          | zero =>
            simp only [List.getElem?_cons_zero, Option.some.injEq] at hj; subst hj
            have := h4 0 (by simp [Value.cells])
            simpa [Value.cells] using this
          | succ j =>
            simp only [List.getElem?_cons_succ] at hj
            have := g2 j m hj
            rwa [show y + (j + 1) = y + 1 + j by omega]
        · simp only [List.foldl_cons]
          have : (⟨⟨p⟩⟩ : ByteArray).push (UInt8.ofNat n.toNat) = ⟨⟨p ++ [UInt8.ofNat n.toNat]⟩⟩ := by simp [ByteArray.push]
          rw [this, g3]; simp
      · cases h
    · cases h

theorem codesOf_cells {z b : Nat} : ∀ {l : List D} {y : Nat} {bs : List UInt8}, codesOf l = some bs → (z = 1 ∨ l = []) → RepE ρ w z b y l → ∃ ns : List Int, ns.length = l.length ∧ (∀ j n, ns[j]? = some n → w.cell? ⟨b, y + j, none⟩ = some (.int .i32 n)) ∧
    ∀ p : List UInt8, ns.foldl (fun (r : ByteArray) n => r ++ Utf8.encode n) ⟨⟨p⟩⟩ = ⟨⟨p ++ bs⟩⟩
  | [], y, bs, h, _, _ => by
    simp only [codesOf, Option.some.injEq] at h; subst h
    exact ⟨[], rfl, fun j n hj => by simp at hj, fun p => by simp⟩
  | d :: r, y, bs, h, hz, hE => by
    obtain rfl : z = 1 := by rcases hz with h | h; exact h; cases h
    unfold codesOf at h
    split at h
    · rename_i hh; cases hh
    · rename_i n r' hh
      simp only [List.cons.injEq] at hh
      obtain ⟨rfl, rfl⟩ := hh
      split at h
      · rename_i bs' hb
        simp only [Option.some.injEq] at h; subst h
        simp only [RepE] at hE
        obtain ⟨⟨v, h1, h2, h3, h4, h5⟩, h6⟩ := hE
        simp only [Rep] at h1; subst h1
        obtain ⟨ns, g1, g2, g3⟩ := codesOf_cells hb (.inl rfl) h6
        refine ⟨n :: ns, by simp [g1], fun j m hj => ?_, fun p => ?_⟩
        · cases j with
          | zero =>
            simp only [List.getElem?_cons_zero, Option.some.injEq] at hj; subst hj
            have := h4 0 (by simp [Value.cells])
            simpa [Value.cells] using this
          | succ j =>
            simp only [List.getElem?_cons_succ] at hj
            have := g2 j m hj
            rwa [show y + (j + 1) = y + 1 + j by omega]
        · simp only [List.foldl_cons]
          have : (⟨⟨p⟩⟩ : ByteArray) ++ Utf8.encode n = ⟨⟨p ++ (Utf8.encode n).data.toList⟩⟩ := ByteArray.mk_append_mk p (Utf8.encode n).data.toList
          rw [this, g3]; simp
      · cases h
    · cases h

section
variable (he : EnvRel ρ w lo env a.tmps) (hg : GlOk pn G ρ w) (hs : StRel ρ s w)
include he hg hs

omit he hg hs in
theorem nil_or {z : Nat} {l : List D} (h : (Nat.beq z 1 || (match l with | [] => true | _ => false)) = true) : z = 1 ∨ l = [] := by
  simp only [Bool.or_eq_true] at h
  rcases h with h | h
  · exact .inl (Nat.eq_of_beq_eq_true h)
  · cases l with
    | nil => exact .inr rfl
    | cons _ _ => simp at h
omit he hg hs in
theorem load_ints {b y : Nat} {k : IntKind} {ns : List Int} (h : ∀ j n, ns[j]? = some n → w.cell? ⟨b, y + j, none⟩ = some (.int k n)) : (loadCells ⟨b, y, none⟩ ns.length).run P w = .ok (ns.map (Value.int k)).toArray w := by
  have := run_loadCells_list (P := P) (w := w) ⟨b, y, none⟩ (ns.map (Value.int k)) (fun j v hj => by
    rw [List.getElem?_map, Option.map_eq_some_iff] at hj
    obtain ⟨n, hn, rfl⟩ := hj
    rw [Addr.add_mid]
    exact h j n hn)
  simpa using this

theorem ok_bytesToStr {t u e : TypeId} {x' : Operand} {x : Opd} (hx : opd G x' = some x) (ht : P.underlying t = some (.slice e)) (he8 : P.underlying e = some (.int .u8)) (hu : P.underlying u = some .string) (h : opF C env s al (.bytesToStr x) = some (d, s')) {o : Oper} (ho : o.op = .convert t u x') :
    OpOk P ρ w env a.tmps d s' ((execOp a.eval o).run P w) := by
  simp only [opF] at h
  split at h
  · rename_i p hp
    have hv := opd_rep hx he hg hp
    split at h
    · rename_i z l hit
      split at h
      · rename_i bs hz hb
        simp only [Option.some.injEq, Prod.mk.injEq] at h
        obtain ⟨rfl, rfl⟩ := h
        have hz := nil_or hz
        have fin : (∃ q n c, a.eval x' = .slice q n c) → (Conv.bytesToString (a.eval x')).run P w = .ok (.string ⟨⟨bs⟩⟩) w → OpOk P ρ w env a.tmps (.str bs) s ((execOp a.eval o).run P w) := fun ⟨q, n, c, hsl⟩ hr => by
          have hrun : (execOp a.eval o).run P w = .ok (.value (.string ⟨⟨bs⟩⟩)) w := by
            rw [hsl] at hr
            simp only [execOp, ho, convert, hsl]
            simp [run_underlying ht, run_underlying hu, run_underlying he8, hr]
          rw [hrun]; exact .rep hs (by simp [Rep])
        rcases items_ok hs hit hv with ⟨rfl, q, c, hv⟩ | ⟨b, y, c, hv, hE⟩
        · refine fin ⟨_, _, _, hv⟩ ?_
          simp only [bytesOf, Option.some.injEq] at hb; subst hb
          rw [hv]
          cases q with
          | none => simp [Conv.bytesToString]; rfl
          | some ad =>
            have := run_bytesToString (P := P) w ad 0 c [] (by simp [loadCells, loadCellsFrom])
            exact this
        · refine fin ⟨_, _, _, hv⟩ ?_
          obtain ⟨ns, g1, g2, g3⟩ := bytesOf_cells hb hz hE
          have hl := load_ints (P := P) g2
          rw [g1] at hl
          rw [hv, run_bytesToString w _ _ c ns hl]
          have := g3 []
          simp only [List.nil_append] at this
          exact congrArg (fun q => Result.ok (Value.string q) w) this
      · cases h
    · cases h
  · cases h

theorem ok_runesToStr {t u e : TypeId} {x' : Operand} {x : Opd} (hx : opd G x' = some x) (ht : P.underlying t = some (.slice e)) (he8 : P.underlying e = some (.int .i32)) (hu : P.underlying u = some .string) (h : opF C env s al (.runesToStr x) = some (d, s')) {o : Oper} (ho : o.op = .convert t u x') :
    OpOk P ρ w env a.tmps d s' ((execOp a.eval o).run P w) := by
  simp only [opF] at h
  split at h
  · rename_i p hp
    have hv := opd_rep hx he hg hp
    split at h
    · rename_i z l hit
      split at h
      · rename_i bs hz hb
        simp only [Option.some.injEq, Prod.mk.injEq] at h
        obtain ⟨rfl, rfl⟩ := h
        have hz := nil_or hz
        have fin : (∃ q n c, a.eval x' = .slice q n c) → (Conv.runesToString (a.eval x')).run P w = .ok (.string ⟨⟨bs⟩⟩) w → OpOk P ρ w env a.tmps (.str bs) s ((execOp a.eval o).run P w) := fun ⟨q, n, c, hsl⟩ hr => by
          have hrun : (execOp a.eval o).run P w = .ok (.value (.string ⟨⟨bs⟩⟩)) w := by
            rw [hsl] at hr
            simp only [execOp, ho, convert, hsl]
            simp [run_underlying ht, run_underlying hu, run_underlying he8, hr]
          rw [hrun]; exact .rep hs (by simp [Rep])
        rcases items_ok hs hit hv with ⟨rfl, q, c, hv⟩ | ⟨b, y, c, hv, hE⟩
        · refine fin ⟨_, _, _, hv⟩ ?_
          simp only [codesOf, Option.some.injEq] at hb; subst hb
          rw [hv]
          cases q with
          | none => simp [Conv.runesToString]; rfl
          | some ad =>
            have := run_runesToString (P := P) w ad 0 c [] (by simp [loadCells, loadCellsFrom])
            exact this
        · refine fin ⟨_, _, _, hv⟩ ?_
          obtain ⟨ns, g1, g2, g3⟩ := codesOf_cells hb hz hE
          have hl := load_ints (P := P) g2
          rw [g1] at hl
          rw [hv, run_runesToString w _ _ c ns hl]
          have := g3 []
          simp only [List.nil_append] at this
          exact congrArg (fun q => Result.ok (Value.string q) w) this
      · cases h
    · cases h
  · cases h
end
end Go.Ab
