/- Operations, one by one: what strings.Builder does with its bytes. -/
import Derived.Test.YtloaklflgfefaaaGreatDoorB8
import Derived.Lib.ConvBytes
import Derived.Lib.UnsafeStr
namespace Go.Ab
open Go
set_option linter.unusedSectionVars false
set_option linter.unusedSimpArgs false
set_option linter.unusedVariables false
variable [Vals]
variable {ρ ρ' : Gh} {w w' : World} {P : Program} {pn : Pins} {G : Gl} {X : Exts} {A : Adv} {s s' : St} {env : Env} {a : Act} {lo : Nat} {d : D} {C : Caller} {al : Option Nat}

theorem new_rowf (hs : StRel ρ s w) {z cp : Nat} {l : List D} {vs rest : List Value} {cs : Array Value} {e : TypeId} {k f1 f2 : Nat} (hf : cs.size ≤ f1) (z0 : 0 < z) (hm : s.mk' al (.arr z e l 0) = some (k, s')) (hl : RepC ρ w z l vs) (hcs : cs.toList = vs ++ rest) (hsz : cs.size = cp * z) (hle : l.length ≤ cp)
    (hh : w'.heap = w.heap.push (.cells cs e (f1, f2))) (ho : w'.os = w.os) (ht : w'.tape = w.tape) (hu : w'.output = w.output) :
    ∃ ρ', Kp ρ w ρ' w' ∧ StRel ρ' s' w' ∧ Rep ρ' w' (.sl k 0 l.length l.length) (.slice (some ⟨w.heap.size, 0, none⟩) l.length cp) := by
  obtain ⟨n1, n2, n3, n4⟩ := new_ok (w' := w') hs hm z l.length cp hh ho ht hu (fun hK hone hb => by
    refine ⟨z0, by simp [Gh.new], by omega, ⟨w.heap.size, hone.1, by simp [Gh.new], fun b h _ => hone.2 b h⟩, fun b hb' => ?_, hl.allSz⟩
    obtain rfl := hone.2 b hb'
    refine ⟨by simp [Gh.new], by simp [Gh.new], by simp [Gh.new]; exact hle, fun j hj => ?_, ⟨_, _, hb⟩, fun _ i d h1 h2 h3 => ?_⟩
    · simp only [Gh.new, if_true] at hj
      rw [← hsz] at hj
      refine ⟨by rw [cell_block hb]; simp [hj], ?_⟩
      have : ¬ f1 ≤ j := by omega
      simp [World.frozen?, hb, this]
    · obtain ⟨v, v1, v2, v3, v4⟩ := (hl.mono hK).get (w' := w') (rangeAt_block' hb hcs) i d h3
      refine ⟨v, v1, v2, ?_⟩
      simpa [Gh.new] using v3)
  refine ⟨_, n1, n2, ?_⟩
  simp only [Rep, Gh.at, n4]
  exact ⟨w.heap.size, n3, by simp [Gh.new], by simp [Gh.new], Nat.le_refl _, 0, cp, rfl, hle, .inr (by simp), by simp [Gh.new]⟩

section
variable (he : EnvRel ρ w lo env a.tmps) (hg : GlOk pn G ρ w) (hs : StRel ρ s w)
include he hg hs

theorem ok_strToBytes {t u e : TypeId} {x' : Operand} {x : Opd} (hx : opd G x' = some x) (ht : P.underlying t = some .string) (hu : P.underlying u = some (.slice e)) (he8 : P.underlying e = some (.int .u8)) (h : opF C env s al (.strToBytes e x) = some (d, s')) {o : Oper} (ho : o.op = .convert t u x') :
    OpOk P ρ w env a.tmps d s' ((execOp a.eval o).run P w) := by
  simp only [opF] at h
  split at h
  · rename_i l hp
    have hv := opd_rep hx he hg hp
    simp only [Rep] at hv
    split at h
    · rename_i hle
      have hle := Nat.le_of_ble_eq_true hle
      split at h
      · rename_i k s2 hm
        simp only [Option.some.injEq, Prod.mk.injEq] at h
        obtain ⟨rfl, rfl⟩ := h
        let S : ByteArray := ⟨⟨l⟩⟩
        have hS : S.size = l.length := by simp [S, ByteArray.size_mk']
        have hcap : l.length ≤ grownCap w S.size 0 e := by
          have := grownCap_ge w S.size 0 e
          omega
        have hcs : (Lib.bytesCells w e S).toList = (l.map fun b => Value.int .u8 b.toNat) ++ List.replicate (grownCap w S.size 0 e - S.size) (.int .u8 0) := by
          simp [Lib.bytesCells, S]
        have hsz : (Lib.bytesCells w e S).size = grownCap w S.size 0 e * 1 := by
          have := congrArg List.length hcs
          simp at this
          omega
        have hheap : (Lib.bytesWorld w e S).heap = w.heap.push (.cells (Lib.bytesCells w e S) e ((Lib.bytesCells w e S).size, (Lib.bytesCells w e S).size + 1)) := by
          apply Array.ext_getElem?
          intro i
          rcases Nat.lt_trichotomy i w.heap.size with hi | hi | hi
          · rw [Lib.bytesWorld_at_old w e S i hi, Array.getElem?_push, if_neg (by omega)]
          · subst hi; rw [Lib.bytesWorld_at_new, Array.getElem?_push, if_pos rfl]
          · rw [Array.getElem?_eq_none (by rw [Lib.bytesWorld_size]; omega), Array.getElem?_eq_none (by simp; omega)]
        obtain ⟨ρ', n1, n2, n3⟩ := new_rowf (w' := Lib.bytesWorld w e S) (cs := Lib.bytesCells w e S) (cp := grownCap w S.size 0 e) hs (Nat.le_refl _) Nat.one_pos hm (bytes_repC l) hcs hsz (by simpa using hcap) hheap rfl rfl rfl
        have hr : (execOp a.eval o).run P w = .ok (.value (.slice (some ⟨w.heap.size, 0, none⟩) l.length (grownCap w S.size 0 e))) (Lib.bytesWorld w e S) := by
          simp only [execOp, ho, hv]
          rw [Sem.run_bind, Lib.run_convert_string_bytes w t u e S ht hu he8, hS]
          rfl
        rw [hr]
        simp only [List.length_map] at n3
        exact .val n1 n2 n3
      · cases h
    · cases h
  · cases h
end
end Go.Ab

namespace Go.Ab
open Go
set_option linter.unusedSectionVars false
set_option linter.unusedSimpArgs false
set_option linter.unusedVariables false
variable [Vals]
variable {ρ ρ' : Gh} {w w' : World} {P : Program} {pn : Pins} {G : Gl} {X : Exts} {A : Adv} {s s' : St} {env : Env} {a : Act} {lo : Nat} {d : D} {C : Caller} {al : Option Nat}

theorem memTc_spec {t c n : Nat} : ∀ {l : List (Nat × Nat × Nat)}, memTc t c n l = true → (t, c, n) ∈ l
  | [], h => by simp [memTc] at h
  | (t', c', n') :: r, h => by
    simp only [memTc] at h
    split at h
    · rename_i hb
      simp only [Bool.and_eq_true, Nat.beq_eq] at hb
      obtain ⟨rfl, rfl, rfl⟩ := hb
      simp
    · exact List.mem_cons_of_mem _ (memTc_spec h)

/-- A row that is given up. -/
theorem kill_ok (hs : StRel ρ s w) {o : Nat} {x : Obj} (ho : s.get o = some x) (hset : s.set o .dead = some s') (hh : ∀ b, ρ.own b ≠ .obj o → w'.heap[b]? = w.heap[b]?) (hsz : w'.heap.size = w.heap.size)
    (h1 : w'.os = w.os) (h2 : w'.tape = w.tape) (h3 : w'.output = w.output) : ∃ ρ', Kp ρ w ρ' w' ∧ StRel ρ' s' w' := by
  have hs' : s' = s.set0 o .dead := by
    unfold St.set at hset
    split at hset
    · cases hset
    · split at hset
      · cases hset
      · simp only [Option.some.injEq] at hset; exact hset.symm
  subst hs'
  let ρ1 : Gh := { ρ with kd := fun q => if q = o then .dead else ρ.kd q }
  have hkd : ∀ q, q ≠ o → ρ1.kd q = ρ.kd q := fun q hq => by simp [ρ1, hq]
  have hK : Kp ρ w ρ1 w' := by
    refine ⟨h1, h2, h3, by omega, fun b hb hn => ⟨hh b (hn o), rfl⟩, fun q hq => ?_, fun q z hq => ?_⟩
    · simp only [ρ1]; split
      · exact ⟨rfl, trivial⟩
      · exact ⟨hq, trivial⟩
    · by_cases hqo : q = o
      · exact .inl (by simp [ρ1, hqo])
      · exact .inr ⟨by rw [hkd q hqo]; exact hq, fun b hb => ⟨hb, rfl, Nat.le_refl _, rfl⟩⟩
  refine ⟨ρ1, hK, hs.upd hK o .dead (fun b q hq _ => Iff.rfl) hkd (fun b q hq _ hb => ⟨hh b (by rw [hb]; simp [hq]), rfl, rfl, rfl⟩) (by simp [ObjOk, ρ1]) (fun b hb => hs.size b (by omega)) (hs.lt _ _ ho) (Nat.le_refl _) (St.get_set0 s o _)⟩

section
variable (he : EnvRel ρ w lo env a.tmps) (hg : GlOk pn G ρ w) (hs : StRel ρ s w)
include he hg hs

theorem ok_sldata {t : TypeId} {x' : Operand} {x : Opd} (hx : opd G x' = some x) (h : opF C env s al (.sldata x) = some (d, s')) {o : Oper}
    (ho : o.op = .call { callee := .builtin .unsafeSliceData, args := #[x'], argTypes := #[t] }) : OpOk P ρ w env a.tmps d s' ((execOp a.eval o).run P w) := by
  have fin : ∀ u, (Builtin.unsafeSliceData_ #[t] o.type #[a.eval x']).run P w = .ok u w → Rep ρ w d u → s' = s → OpOk P ρ w env a.tmps d s' ((execOp a.eval o).run P w) := by
    intro u g1 g2 g3
    subst g3
    rw [run_builtin ho]
    simp only [builtin, List.map_toArray, List.map_cons, List.map_nil]
    rw [Sem.run_bind, g1]
    exact .rep hs g2
  simp only [opF] at h
  split at h
  · rename_i z l hp
    have hv := opd_rep hx he hg hp
    simp only [Option.some.injEq, Prod.mk.injEq] at h
    obtain ⟨rfl, rfl⟩ := h
    simp only [Rep] at hv
    rcases hv with ⟨_, _, hv⟩ | ⟨hv, _⟩
    · exact fin (.pointer none) (by rw [hv]; exact Lib.run_unsafeSliceData_nil _ _ _ _ _) (by simp [Rep]) rfl
    · cases hv
  · rename_i ob off len cp hp
    have hv := opd_rep hx he hg hp
    split at h
    · rename_i z ty es st hob
      split at h
      · rename_i hcp
        have hcp := Nat.le_of_ble_eq_true hcp
        simp only [Option.some.injEq, Prod.mk.injEq] at h
        obtain ⟨rfl, rfl⟩ := h
        obtain ⟨z0, k1, _⟩ := hs.ok _ _ hob
        simp only [Rep, Gh.at, k1] at hv
        obtain ⟨b, hb, q1, q2, q3, y, cap, q4, q5, q6, q7⟩ := hv
        have hc0 : cap ≠ 0 := by omega
        have q6 := q6.resolve_left hc0
        subst q6
        refine fin (.pointer (some ⟨b, (off - ρ.sh b) * z, none⟩)) (by rw [q4]; exact Lib.run_unsafeSliceData_row _ _ _ _ _ _ hc0) ?_ rfl
        simp only [Rep, Gh.at, k1]
        exact ⟨b, hb, q1, by omega, q2, by simp⟩
      · cases h
    · cases h
  · cases h

theorem ok_upto {t u e : TypeId} {n : Nat} {x' : Operand} {x : Opd} (hx : opd G x' = some x) (ht : P.underlying t = some .unsafePointer) (hu : P.underlying u = some (.pointer e)) (hn : sizeB P e = some (n + 1))
    (h : opF C env s al (.upto [(e, 0, n + 1)] x) = some (d, s')) {o : Oper} (ho : o.op = .convert t u x') : OpOk P ρ w env a.tmps d s' ((execOp a.eval o).run P w) := by
  simp only [opF] at h
  split at h
  · rename_i hp
    have hv := opd_rep hx he hg hp
    simp only [Option.some.injEq, Prod.mk.injEq] at h
    obtain ⟨rfl, rfl⟩ := h
    simp only [Rep] at hv
    have hr : (execOp a.eval o).run P w = .ok (.value (.pointer none)) w := by
      simp only [execOp, ho, hv, convert]
      simp [run_underlying ht, run_underlying hu, Conv.unsafePointer]
    rw [hr]; exact .rep hs (by simp [Rep])
  · rename_i ob c hp
    have hv := opd_rep hx he hg hp
    split at h
    · rename_i ty v hob
      split at h
      · rename_i hm
        simp only [Option.some.injEq, Prod.mk.injEq] at h
        obtain ⟨rfl, rfl⟩ := h
        have hm := memTc_spec hm
        simp only [List.mem_singleton, Prod.mk.injEq] at hm
        obtain ⟨rfl, rfl, hl⟩ := hm
        obtain ⟨b, q, g1, g2, g3, g4, g5, g6⟩ := hs.ok _ _ hob
        have hv0 := hv
        simp only [Rep, Gh.at, g1] at hv
        obtain ⟨b', h1, h3⟩ := hv
        obtain rfl := g2.2 b' h1
        have hqs : q.cells.size = n + 1 := by rw [g3.size g6]; exact hl
        have hcells : P.cellsOf ty = n + 1 := by
          cases hi : P.info? ty with
          | none => simp [sizeB, hi] at hn
          | some i => simpa [Program.cellsOf, sizeB, hi] using hn
        have hlies : liesAt P P.depth ty (q.cells.size / P.cellsOf ty) 0 ty 1 = true := by
          have hd : P.depth = (2 * (P.types.size + Made.depth) + 1) + 1 := rfl
          rw [hd]
          simp only [liesAt, Bool.or_eq_true]
          left
          rw [hd]
          simp [rowAt, hcells, hqs, sameLayout]
        have hr : (execOp a.eval o).run P w = .ok (.value (a.eval x')) w := by
          simp only [execOp, ho, h3, convert]
          have hsh : ∀ {α : Type} (f : Option (TypeId × Nat) → Sem α), (Sem.shape b' f).run P w = (f (some (ty, q.cells.size))).run P w := fun f => by
            simp [Sem.run, World.shape?, g4]
          simp [run_underlying ht, run_underlying hu, Conv.unsafePointer, Conv.seenAt, viewAt, shape, getObj, hsh, variablesAt, sizeOf_run hn, hlies]
        rw [hr]; exact .rep hs hv0
      · cases h
    · cases h
  · cases h

omit he hg hs in
theorem run_loadInts : ∀ (ns : List Int) (ad : Addr) (acc : ByteArray), (∀ j n, ns[j]? = some n → w.cell? (ad.add j) = some (.int .u8 n)) →
    (loadBytes ad acc ns.length).run P w = .ok (ns.foldl (fun (r : ByteArray) n => r.push (UInt8.ofNat n.toNat)) acc) w
  | [], ad, acc, _ => by simp [loadBytes]
  | n :: ns, ad, acc, h => by
    have h0 : w.cell? ad = some (.int .u8 n) := by
      have := h 0 n rfl
      simpa [Addr.add] using this
    have ih := run_loadInts ns (ad.add 1) (acc.push (UInt8.ofNat n.toNat)) (fun j m hj => by
      have := h (j + 1) m (by simpa using hj)
      have e : (ad.add 1).add j = ad.add (j + 1) := by
        unfold Addr.add
        by_cases hj : j = 0
        · subst hj; simp
        · simp [hj]; omega
      rw [e]; exact this)
    simp only [List.length_cons, loadBytes, Sem.run_bind, Go.run_load, h0, Result.andThen, List.foldl_cons]
    exact ih

omit he hg hs in
theorem liesAt_row {e : TypeId} (hc : P.cellsOf e = 1) (count off n : Nat) (hn : off + n ≤ count) : liesAt P P.depth e count off e n = true := by
  have hd : P.depth = (2 * (P.types.size + Made.depth) + 1) + 1 := rfl
  rw [hd]
  simp only [liesAt, Bool.or_eq_true]
  left
  rw [hd]
  simp [rowAt, hc, hn, sameLayout, Nat.mod_one]

theorem ok_ustr {t it e : TypeId} {x' y' : Operand} {x y : Opd} (hx : opd G x' = some x) (hy : opd G y' = some y) (ht : P.underlying t = some (.pointer e)) (hn : sizeB P e = some 1) (h : opF C env s al (.ustr e x y) = some (d, s')) {o : Oper}
    (ho : o.op = .call { callee := .builtin .unsafeString, args := #[x', y'], argTypes := #[t, it] }) : OpOk P ρ w env a.tmps d s' ((execOp a.eval o).run P w) := by
  have hmax : IntKind.i64.max = 9223372036854775807 := rfl
  have hce : P.cellsOf e = 1 := by
    cases hi : P.info? e with
    | none => simp [sizeB, hi] at hn
    | some i => simpa [Program.cellsOf, sizeB, hi] using hn
  have fin : ∀ u w' ρ', (Builtin.unsafeString_ #[t, it] o.type #[a.eval x', a.eval y']).run P w = .ok u w' → Kp ρ w ρ' w' → StRel ρ' s' w' → Rep ρ' w' d u → OpOk P ρ w env a.tmps d s' ((execOp a.eval o).run P w) := by
    intro u w' ρ' g1 g2 g3 g4
    rw [run_builtin ho]
    simp only [builtin, List.map_toArray, List.map_cons, List.map_nil]
    rw [Sem.run_bind, g1]
    exact .val g2 g3 g4
  simp only [opF] at h
  split at h
  · rename_i k n hpx hpy
    have hvx := opd_rep hx he hg hpx
    have hvy := opd_rep hy he hg hpy
    split at h
    · rename_i hc
      simp only [Bool.and_eq_true, decide_eq_true_eq] at hc
      obtain ⟨rfl, rfl⟩ := hc
      simp only [Option.some.injEq, Prod.mk.injEq] at h
      obtain ⟨rfl, rfl⟩ := h
      simp only [Rep] at hvx hvy
      exact fin (.string .empty) w ρ (by rw [hvx, hvy]; exact Lib.run_unsafeString_none w t it _ none) (Kp.refl _ _) hs (by simp [Rep]; rfl)
    · cases h
  · rename_i ob i c en k n hpx hpy
    have hvx := opd_rep hx he hg hpx
    have hvy := opd_rep hy he hg hpy
    split at h
    · rename_i z ty es st hob
      split at h
      · rename_i bs h1 h2 h3 h4
        simp only [Bool.and_eq_true, Nat.beq_eq] at h1
        obtain ⟨rfl, rfl, rfl⟩ := h1
        simp only [Bool.and_eq_true, decide_eq_true_eq] at h2
        obtain ⟨rfl, hn0, hnm⟩ := h2
        have hnm := Nat.le_of_ble_eq_true hnm
        have hmx : maxElems = 2147483648 := rfl
        simp only [Bool.and_eq_true] at h3
        obtain ⟨i1, i2, i3⟩ := h3
        have i1 := Nat.le_of_ble_eq_true i1
        have i2 := Nat.le_of_ble_eq_true i2
        have i3 := Nat.le_of_ble_eq_true i3
        unfold ofS at h
        split at h
        · rename_i s2 hset
          simp only [Option.some.injEq, Prod.mk.injEq] at h
          obtain ⟨rfl, rfl⟩ := h
          obtain ⟨z0, k1, hst1, _, hbl, hall⟩ := hs.ok _ _ hob
          simp only [Rep, Gh.at, k1] at hvx
          obtain ⟨b, hb, q1, q2, q3, q4⟩ := hvx
          simp only [Rep] at hvy
          have hB := hbl b hb
          obtain ⟨cs, f, hcell⟩ := hB.shape
          simp only [Nat.mul_one, Nat.add_zero] at q4
          have hle : ((es.drop i).take n.toNat).length = n.toNat := by simp; omega
          have hroom := hB.room
          have hext := hB.ext
          have hcapsz : ρ.cap b ≤ cs.size := by
            rcases Nat.eq_zero_or_pos (ρ.cap b) with h | h
            · omega
            · have := (hB.cells (ρ.cap b - 1) (by omega)).1
              rw [cell_block hcell] at this
              rcases Nat.lt_or_ge (ρ.cap b - 1) cs.size with h' | h'
              · omega
              · simp [Array.getElem?_eq_none h'] at this
          have hE : RepE ρ w 1 b (i - ρ.sh b) ((es.drop i).take n.toNat) := RepE.of Nat.one_pos _ _ fun j e' hj => by
            rw [List.getElem?_take] at hj
            split at hj
            · rw [List.getElem?_drop] at hj
              obtain ⟨u, r1, r2, r3⟩ := hB.get (by omega) (by omega) (by omega) hj
              refine ⟨u, r1, r2, ?_, (allSz_get hall hj).2⟩
              rw [show i - ρ.sh b + j * 1 = (i + j - ρ.sh b) * 1 by omega]
              exact r3
            · cases hj
          obtain ⟨ns, m1, m2, m3⟩ := bytesOf_cells h4 (.inl rfl) hE
          have hlb := run_loadInts (P := P) (w := w) ns ⟨b, i - ρ.sh b, none⟩ .empty (fun j m hj => by
            have := m2 j m hj
            by_cases hj0 : j = 0
            · subst hj0; simpa [Addr.add] using this
            · simpa [Addr.add, hj0] using this)
          rw [m1, hle] at hlb
          have hm3 := m3 []
          simp only [List.nil_append] at hm3
          have hemp : ByteArray.empty = ⟨⟨[]⟩⟩ := rfl
          rw [hemp, hm3] at hlb
          have hsh : w.shape? b = some (ty, cs.size) := by simp [World.shape?, hcell]
          have hlies := liesAt_row (P := P) hce (cs.size / P.cellsOf ty) (i - ρ.sh b) n.toNat (by rw [hce]; simp; omega)
          have hrun : ¬ (9223372036854775807 : Int) < n → (Builtin.unsafeString_ #[t, it] o.type #[a.eval x', a.eval y']).run P w = .ok (.string ⟨⟨bs⟩⟩) (w.freeze ⟨b, i - ρ.sh b, none⟩ n.toNat) := by
            intro h63
            rw [q4, hvy]
            have hdef : Builtin.unsafeString_ #[t, it] o.type #[.pointer (some ⟨b, i - ρ.sh b, none⟩), .int .i64 n] =
                (do
                  let n ← asInt (.int .i64 n)
                  if n < 0 then runtimePanic (.error "unsafe.String: len out of range")
                  if n > IntKind.i64.max then unsupported (.unsafePointer "String: a length above the largest int")
                  if n = 0 then pure (.string .empty)
                  else if ← variablesAt ⟨b, i - ρ.sh b, none⟩ (← elemOf t) n.toNat then do
                    let s ← loadBytes ⟨b, i - ρ.sh b, none⟩ .empty n.toNat
                    freeze ⟨b, i - ρ.sh b, none⟩ n.toNat
                    pure (.string s)
                  else unsupported (.unsafePointer "String: not so many bytes at ptr")) := rfl
            rw [hdef]
            have hneg : ¬ n < 0 := by omega
            have hnz : ¬ n = 0 := by omega
            rw [hemp] at *
            simp [asInt, asIntOf, hmax, h63, hneg, hnz, variablesAt, hsh, elemOf, run_underlying ht, hlies, hlb]
          have hle64 : ¬ (9223372036854775807 : Int) < n := by omega
          have hh : ∀ b', ρ.own b' ≠ .obj ob → (w.freeze ⟨b, i - ρ.sh b, none⟩ n.toNat).heap[b']? = w.heap[b']? := fun b' hb' => by
            have hne : b ≠ b' := by rintro rfl; exact hb' hb
            unfold World.freeze
            split
            · rfl
            · simp only [Array.getElem?_modify]; rw [if_neg hne]
          obtain ⟨ρ', n1, n2⟩ := kill_ok (w' := w.freeze ⟨b, i - ρ.sh b, none⟩ n.toNat) hs hob hset hh (by unfold World.freeze; split <;> simp) (by unfold World.freeze; split <;> rfl) (by unfold World.freeze; split <;> rfl) (by unfold World.freeze; split <;> rfl)
          exact fin _ _ ρ' (hrun hle64) n1 n2 (by simp [Rep])
        · cases h
      · cases h
    · cases h
  · cases h
end
end Go.Ab
