/- Operations, one by one: slices made. -/
import Derived.Test.YtloaklflgfefaaaGreatDoorA18
import Derived.Laws.Runes
namespace Go.Ab
open Go
set_option linter.unusedSectionVars false
set_option linter.unusedSimpArgs false
set_option linter.unusedVariables false
variable [Vals]
variable {ρ ρ' : Gh} {w w' : World} {P : Program} {pn : Pins} {G : Gl} {X : Exts} {A : Adv} {s s' : St} {env : Env} {a : Act} {lo : Nat} {d : D} {C : Caller} {al : Option Nat}
section
variable (he : EnvRel ρ w lo env a.tmps) (hg : GlOk pn G ρ w) (hs : StRel ρ s w)
include he hg hs

omit he hg hs in
theorem info_lt {t : TypeId} {i : TypeInfo} (h : P.types[t]? = some i) : P.info? t = some i := by
  have hlt : t < P.types.size := by
    rcases Nat.lt_or_ge t P.types.size with h1 | h1
    · exact h1
    · rw [Array.getElem?_eq_none h1] at h; cases h
  unfold Tables.info?
  rw [if_pos hlt, h]
omit he hg hs in
theorem okD_rep {ok b : Bool} {v : D} {u : Value} (h : Rep ρ w v u) : Rep ρ w (okD ok v b) (if ok then .tuple #[u, .bool b] else u) := by
  cases ok with
  | false => simpa [okD] using h
  | true => simp only [okD, if_true, Rep, RepL]; exact ⟨_, rfl, _, _, rfl, h, _, _, rfl, rfl, rfl⟩

theorem ok_tassert {t xt : TypeId} {z : D} {ok : Bool} {x' : Operand} {x : Opd} (hx : opd G x' = some x) {e : TypeDesc} (hu : P.underlying t = some e) (hni : ∀ ms, e ≠ .interface ms) (hz : zeroB P t = some z)
    (h : opF C env s al (.tassert t z ok x) = some (d, s')) {o : Oper} (ho : o.op = .typeAssert x' xt t ok) : OpOk P ρ w env a.tmps d s' ((execOp a.eval o).run P w) := by
  obtain ⟨zv, z1, z2, _⟩ := zero_run (w := w) hz
  have hzr : Rep ρ w z zv := ofV_rep _ _ z2
  have hfail : ∀ dy : Option TypeId, ok = true → Rep ρ w (.tup [z, .bool false]) (.tuple #[zv, .bool false]) := fun _ _ => by
    simp only [Rep, RepL]; exact ⟨_, rfl, _, _, rfl, hzr, _, _, rfl, rfl, rfl⟩
  simp only [opF] at h
  split at h
  · rename_i u v hp
    have hv := opd_rep hx he hg hp
    simp only [Rep] at hv
    obtain ⟨q, hv, hq⟩ := hv
    split at h
    · rename_i hb
      obtain rfl := Nat.eq_of_beq_eq_true hb
      simp only [Option.some.injEq, Prod.mk.injEq] at h
      obtain ⟨rfl, rfl⟩ := h
      have hr : (execOp a.eval o).run P w = .ok (.value (if ok then .tuple #[q, .bool true] else q)) w := by
        simp only [execOp, ho, hv, Instr.typeAssert]
        cases e <;> first
          | exact absurd rfl (hni _)
          | (simp [run_underlying hu])
      rw [hr]; exact .rep hs (okD_rep hq)
    · rename_i hb
      have hne : u ≠ t := by rintro rfl; rw [Nat.beq_refl] at hb; cases hb
      split at h
      · simp only [Option.some.injEq, Prod.mk.injEq] at h
        obtain ⟨rfl, rfl⟩ := h
        have hr : (execOp a.eval o).run P w = .ok (.value (.tuple #[zv, .bool false])) w := by
          simp only [execOp, ho, hv, Instr.typeAssert]
          cases e <;> first
            | exact absurd rfl (hni _)
            | (simp [run_underlying hu, hne, z1])
        rw [hr]; exact .rep hs (hfail none rfl)
      · cases h
  · rename_i hp
    have hv := opd_rep hx he hg hp
    simp only [Rep] at hv
    split at h
    · simp only [Option.some.injEq, Prod.mk.injEq] at h
      obtain ⟨rfl, rfl⟩ := h
      have hr : (execOp a.eval o).run P w = .ok (.value (.tuple #[zv, .bool false])) w := by
        simp only [execOp, ho, hv, Instr.typeAssert]
        cases e <;> first
          | exact absurd rfl (hni _)
          | (simp [run_underlying hu, z1])
      rw [hr]; exact .rep hs (hfail none rfl)
    · cases h
  · cases h

omit he hg hs in
theorem memN_iff {o : Nat} : ∀ {l : List Nat}, memN o l = true ↔ o ∈ l
  | [] => by simp [memN]
  | x :: r => by
    simp only [memN, List.mem_cons]
    split
    · rename_i h; exact ⟨fun _ => .inl (Nat.eq_of_beq_eq_true h).symm, fun _ => rfl⟩
    · rename_i h
      rw [memN_iff]
      exact ⟨.inr, fun q => q.resolve_left (by rintro rfl; rw [Nat.beq_refl] at h; cases h)⟩

omit he hg hs in
theorem implB_mem {want : Array (String × TypeId)} {u : Nat} : memN u (implB P want) = true ↔ ∃ i, P.types[u]? = some i ∧ Instr.missingMethod want i.methods = none := by
  rw [memN_iff]
  unfold implB
  simp only [List.mem_filterMap, Prod.exists]
  constructor
  · rintro ⟨i, t, h1, h2⟩
    rw [List.mem_zipIdx_iff_getElem?] at h1
    split at h2
    · rename_i hm
      simp only [Option.some.injEq] at h2; subst h2
      exact ⟨i, by simpa using h1, hm⟩
    · cases h2
  · rintro ⟨i, h1, h2⟩
    refine ⟨i, u, ?_, ?_⟩
    · rw [List.mem_zipIdx_iff_getElem?]; simpa using h1
    · simp only [h2]

theorem ok_tassertI {t xt : TypeId} {want : Array (String × TypeId)} {ok : Bool} {x' : Operand} {x : Opd} (hx : opd G x' = some x) (hu : P.underlying t = some (.interface want)) (hz : zeroB P t = some .nili)
    (h : opF C env s al (.tassertI P.types.size (implB P want) ok x) = some (d, s')) {o : Oper} (ho : o.op = .typeAssert x' xt t ok) : OpOk P ρ w env a.tmps d s' ((execOp a.eval o).run P w) := by
  obtain ⟨zv, z1, z2, _⟩ := zero_run (w := w) hz
  have hzr : Rep ρ w .nili zv := ofV_rep _ _ z2
  have hfail : Rep ρ w (.tup [.nili, .bool false]) (.tuple #[zv, .bool false]) := by
    simp only [Rep, RepL] at *; exact ⟨_, rfl, _, _, rfl, hzr, _, _, rfl, rfl, rfl⟩
  simp only [opF] at h
  split at h
  · rename_i u v hp
    have hv := opd_rep hx he hg hp
    have hv0 := hv
    simp only [Rep] at hv
    obtain ⟨q, hv, hq⟩ := hv
    split at h
    · rename_i hb
      obtain ⟨i, hi, hm⟩ := implB_mem.1 hb
      simp only [Option.some.injEq, Prod.mk.injEq] at h
      obtain ⟨rfl, rfl⟩ := h
      have hr : (execOp a.eval o).run P w = .ok (.value (if ok then .tuple #[a.eval x', .bool true] else a.eval x')) w := by
        simp only [execOp, ho, hv, Instr.typeAssert]
        simp [run_underlying hu, typeInfo, info_lt hi, hm]
      rw [hr]; exact .rep hs (okD_rep hv0)
    · rename_i hb
      split at h
      · rename_i hc
        simp only [Bool.and_eq_true] at hc
        obtain ⟨rfl, hlt⟩ := hc
        have hlt : u < P.types.size := Nat.le_of_ble_eq_true hlt
        simp only [Option.some.injEq, Prod.mk.injEq] at h
        obtain ⟨rfl, rfl⟩ := h
        have hi : P.types[u]? = some P.types[u] := Array.getElem?_eq_getElem hlt
        cases hm : Instr.missingMethod want P.types[u].methods with
        | none => exact absurd (implB_mem.2 ⟨_, hi, hm⟩) (by rw [hb]; simp)
        | some msg =>
          have hr : (execOp a.eval o).run P w = .ok (.value (.tuple #[zv, .bool false])) w := by
            simp only [execOp, ho, hv, Instr.typeAssert]
            simp [run_underlying hu, typeInfo, info_lt hi, hm, z1]
          rw [hr]; exact .rep hs hfail
      · cases h
  · rename_i hp
    have hv := opd_rep hx he hg hp
    simp only [Rep] at hv
    split at h
    · simp only [Option.some.injEq, Prod.mk.injEq] at h
      obtain ⟨rfl, rfl⟩ := h
      have hr : (execOp a.eval o).run P w = .ok (.value (.tuple #[zv, .bool false])) w := by
        simp only [execOp, ho, hv, Instr.typeAssert]
        simp [run_underlying hu, z1]
      rw [hr]; exact .rep hs hfail
    · cases h
  · cases h

omit he hg hs in
theorem minI_ok {mx : Bool} : ∀ (l : List D) (vs : List Value) (d0 d : D) (v0 : Value), minI mx d0 l = some d → Rep ρ w d0 v0 → RepL ρ w l vs → ∃ v, (vs.foldlM (if mx then Builtin.max2 else Builtin.min2) v0).run P w = .ok v w ∧ Rep ρ w d v
  | [], vs, d0, d, v0, h, h0, hl => by
    simp only [RepL] at hl; subst hl
    have : minI mx d0 [] = some d0 := by cases d0 <;> rfl
    rw [this] at h
    simp only [Option.some.injEq] at h; subst h
    exact ⟨v0, by simp, h0⟩
  | x :: l, vs, d0, d, v0, h, h0, hl => by
    simp only [RepL] at hl
    obtain ⟨v1, r, rfl, h1, h2⟩ := hl
    unfold minI at h
    split at h
    · rename_i hh; cases hh
    · rename_i k p j q l2 hh
      simp only [List.cons.injEq] at hh
      obtain ⟨rfl, rfl⟩ := hh
      split at h
      · rename_i hk
        obtain rfl := of_decide_eq_true hk
        simp only [Rep] at h0 h1
        subst h0 h1
        obtain ⟨v, g1, g2⟩ := minI_ok l r _ d _ h rfl h2
        refine ⟨v, ?_, g2⟩
        rw [List.foldlM_cons]
        cases mx <;> simpa [Builtin.max2, Builtin.min2] using g1
      · cases h
    · cases h

theorem ok_minmax {mx : Bool} {l' : List Operand} {l : List Opd} {tys : Array TypeId} (hl : l'.mapM (opd G) = some l) (h : opF C env s al (.minmax mx l) = some (d, s')) {o : Oper} (ho : o.op = .call { callee := .builtin (if mx then .max else .min), args := l'.toArray, argTypes := tys }) :
    OpOk P ρ w env a.tmps d s' ((execOp a.eval o).run P w) := by
  simp only [opF] at h
  split at h
  · rename_i d0 r hev
    obtain ⟨h1, rfl⟩ := ofO_some h
    have hr := evs_rep he hg _ _ _ hl hev
    simp only [RepL] at hr
    obtain ⟨v0, vr, e1, e2, e3⟩ := hr
    obtain ⟨v, g1, g2⟩ := minI_ok (P := P) r vr d0 d v0 h1 e2 e3
    have hrun : (execOp a.eval o).run P w = .ok (.value v) w := by
      cases mx with
      | false =>
        rw [run_builtin (b := .min) ho]
        simp only [builtin, Builtin.min_, List.map_toArray, e1]
        rw [Sem.run_bind]
        simp only [if_false, Bool.false_eq_true] at g1
        rw [g1]; rfl
      | true =>
        rw [run_builtin (b := .max) ho]
        simp only [builtin, Builtin.max_, List.map_toArray, e1]
        rw [Sem.run_bind]
        simp only [if_true] at g1
        rw [g1]; rfl
    rw [hrun]; exact .rep hs g2
  · cases h
end
end Go.Ab

namespace Go.Ab
open Go
set_option linter.unusedSectionVars false
set_option linter.unusedSimpArgs false
set_option linter.unusedVariables false
variable [Vals]
variable {ρ ρ' : Gh} {w w' : World} {P : Program} {pn : Pins} {G : Gl} {X : Exts} {A : Adv} {s s' : St} {env : Env} {a : Act} {lo : Nat} {d : D} {C : Caller} {al : Option Nat}

theorem RepM.erase : ∀ {es : List (Nat × D × D)} {ces : List MapEntry} (i : Nat), RepM ρ w es ces → RepM ρ w (es.eraseIdx i) (ces.eraseIdx i)
  | [], _, i, h => by simp only [RepM] at h; subst h; simp [RepM]
  | (n, k, v) :: es, _, i, h => by
    simp only [RepM] at h
    obtain ⟨e, r, rfl, h1, h2, h3, h4⟩ := h
    cases i with
    | zero => simpa using h4
    | succ i =>
      simp only [List.eraseIdx_cons_succ, RepM]
      exact ⟨e, _, rfl, h1, h2, h3, RepM.erase i h4⟩

section
variable (he : EnvRel ρ w lo env a.tmps) (hg : GlOk pn G ρ w) (hs : StRel ρ s w)
include he hg hs

theorem ok_delete {t q e : TypeId} {et : ET} {m' k' : Operand} {m k : Opd} {tys : Array TypeId} (hm : opd G m' = some m) (hk : opd G k' = some k) (hu : P.underlying t = some (.map q e)) (het : etB P 8 q = some et) (hty : tys[0]? = some t)
    (h : opF C env s al (.delete et m k) = some (d, s')) {o : Oper} (ho : o.op = .call { callee := .builtin .delete, args := #[m', k'], argTypes := tys }) : OpOk P ρ w env a.tmps d s' ((execOp a.eval o).run P w) := by
  have fin : ∀ w', (Builtin.delete_ tys o.type #[a.eval m', a.eval k']).run P w = .ok (.tuple #[]) w' → (execOp a.eval o).run P w = .ok (.value (.tuple #[])) w' := by
    intro w' hw
    rw [run_builtin (b := .delete) ho]
    simp only [builtin, List.map_toArray, List.map_cons, List.map_nil]
    rw [Sem.run_bind, hw]; rfl
  simp only [opF] at h
  split at h
  · rename_i dm dk hdm hdk
    split at h
    · cases h
    · rename_i hkd
      have hmv := opd_rep hm he hg hdm
      have hkv := opd_rep hk he hg hdk
      have hck : ∀ em, (Instr.checkKey em 10000 q (a.eval k')).run P w = .ok () w := fun em => checkKey_ok em 8 q et het 10000 (by decide) dk _ hkd hkv
      split at h
      · simp only [Option.some.injEq, Prod.mk.injEq] at h
        obtain ⟨rfl, rfl⟩ := h
        simp only [Rep] at hmv
        have hr : (Builtin.delete_ tys o.type #[a.eval m', a.eval k']).run P w = .ok (.tuple #[]) w := by
          unfold Builtin.delete_
          simp [hty, hmv, run_underlying hu, hck]
        rw [fin _ hr]
        exact .rep hs (by simp [Rep, RepL])
      · rename_i ob
        split at h
        · rename_i es c hob
          obtain ⟨b, ces, k1, one, hb, hM⟩ := hs.ok _ _ hob
          simp only [Rep, Gh.at, k1] at hmv
          obtain ⟨b', hb', hmv⟩ := hmv
          obtain rfl := one.2 _ hb'
          split at h
          · rename_i i v0 hf
            obtain ⟨h1, rfl⟩ := ofS_some h
            obtain ⟨r', g1, g2⟩ := findKey_ok (P := P) het hkv hM hf
            obtain ⟨u0, rfl, g3⟩ := g2
            obtain ⟨n1, n2⟩ := map_write (ces' := ces.eraseIdxIfInBounds i) hs hob k1 one hb (by
              have : (ces.eraseIdxIfInBounds i).toList = ces.toList.eraseIdx i := by
                unfold Array.eraseIdxIfInBounds
                split
                · simp [Array.toList_eraseIdx]
                · rename_i hlt
                  rw [List.eraseIdx_of_length_le (by simpa using hlt)]
              rw [this]
              exact RepM.erase i hM) h1
            have hr : (Builtin.delete_ tys o.type #[a.eval m', a.eval k']).run P w = .ok (.tuple #[]) { w with heap := w.heap.setIfInBounds b' (.map (ces.eraseIdxIfInBounds i) c) } := by
              unfold Builtin.delete_
              simp [hty, hmv, run_underlying hu, hck, run_getMap hb, g1, run_setMap _ hb]
            rw [fin _ hr]
            exact .val n1 n2 (by simp [Rep, RepL])
          · rename_i hf
            obtain ⟨h1, rfl⟩ := ofS_some h
            obtain ⟨r', g1, g2⟩ := findKey_ok (P := P) het hkv hM hf
            simp only [Found] at g2; subst g2
            obtain ⟨n1, n2⟩ := map_write (ces' := ces) hs hob k1 one hb hM h1
            have hr : (Builtin.delete_ tys o.type #[a.eval m', a.eval k']).run P w = .ok (.tuple #[]) { w with heap := w.heap.setIfInBounds b' (.map ces c) } := by
              unfold Builtin.delete_
              simp [hty, hmv, run_underlying hu, hck, run_getMap hb, g1, run_setMap _ hb]
            rw [fin _ hr]
            exact .val n1 n2 (by simp [Rep, RepL])
          · cases h
        · cases h
      · cases h
  · cases h

theorem ok_range {t : TypeId} {x' : Operand} {x : Opd} (hx : opd G x' = some x) (hu : P.underlying t = some .string) (h : opF C env s al (.range x) = some (d, s')) {o : Oper} (ho : o.op = .range t x') :
    OpOk P ρ w env a.tmps d s' ((execOp a.eval o).run P w) := by
  simp only [opF] at h
  split at h
  · rename_i l hp
    have hv := opd_rep hx he hg hp
    simp only [Rep] at hv
    split at h
    · rename_i k s2 hm
      simp only [Option.some.injEq, Prod.mk.injEq] at h
      obtain ⟨rfl, rfl⟩ := h
      obtain ⟨n1, n2, n3, n4⟩ := new_ok (w' := w.alloc (.stringIter ⟨⟨l⟩⟩ 0)) hs hm 1 0 0 rfl rfl rfl rfl (fun hK hone hh => ⟨w.heap.size, by simp [Gh.new], hone, hh⟩)
      have hrun : (execOp a.eval o).run P w = .ok (.value (.pointer (some ⟨w.heap.size, 0, none⟩))) (w.alloc (.stringIter ⟨⟨l⟩⟩ 0)) := by
        simp only [execOp, ho]
        simp [Instr.range, run_underlying hu, hv, newObj]
        rfl
      rw [hrun]
      exact .val n1 n2 (by simp only [Rep, Gh.at, n4]; exact ⟨_, n3, rfl⟩)
    · cases h
  · cases h

theorem ok_nexts {x' : Operand} {x : Opd} (hx : opd G x' = some x) (h : opF C env s al (.nexts x) = some (d, s')) {o : Oper} (ho : o.op = .next x' true) :
    OpOk P ρ w env a.tmps d s' ((execOp a.eval o).run P w) := by
  simp only [opF] at h
  split at h
  · rename_i ob hp
    have hv := opd_rep hx he hg hp
    split at h
    · rename_i l pos hob
      obtain ⟨b, k1, one, hb⟩ := hs.ok _ _ hob
      simp only [Rep, Gh.at, k1] at hv
      obtain ⟨b', hb', hv⟩ := hv
      obtain rfl := one.2 _ hb'
      have hget : (getObj b').run P w = .ok (.stringIter ⟨⟨l⟩⟩ pos) w := by simp [getObj, Sem.run, hb]
      have hset : ∀ ob : Go.Obj, (setObj b' ob).run P w = .ok () { w with heap := w.heap.setIfInBounds b' ob } := fun ob => by simp [setObj, Sem.run, hb]
      split at h
      · rename_i hlt
        have hlt : pos < l.length := Nat.le_of_ble_eq_true hlt
        obtain ⟨h1, rfl⟩ := ofS_some h
        obtain ⟨n1, n2⟩ : Kp ρ w ρ { w with heap := w.heap.setIfInBounds b' (.stringIter ⟨⟨l⟩⟩ (pos + (Utf8.decode ⟨⟨l⟩⟩ pos).2)) } ∧ StRel ρ s' { w with heap := w.heap.setIfInBounds b' (.stringIter ⟨⟨l⟩⟩ (pos + (Utf8.decode ⟨⟨l⟩⟩ pos).2)) } :=
          write_ok1 hs h1 one.1 (hs.lt _ _ hob) (fun _ h => heap_set_ne h) (by simp) rfl rfl rfl fun hK => ⟨b', k1, one, heap_set_eq (heap_lt hb)⟩
        have hr : (execOp a.eval o).run P w = .ok (.value (.tuple #[.bool true, goInt pos, .int .i32 (Utf8.decode ⟨⟨l⟩⟩ pos).1])) { w with heap := w.heap.setIfInBounds b' (.stringIter ⟨⟨l⟩⟩ (pos + (Utf8.decode ⟨⟨l⟩⟩ pos).2)) } := by
          simp only [execOp, ho, hv, Instr.next]
          rw [Sem.run_bind, Sem.run_bind, hget]
          simp [ByteArray.size_mk', hlt, hset]
        rw [hr]
        exact .val n1 n2 (by simp [Rep, RepL, goI, goInt])
      · rename_i hlt
        have hlt : ¬ pos < l.length := fun hc => by
          have : Nat.blt pos l.length = true := Nat.ble_eq_true_of_le hc
          rw [this] at hlt; cases hlt
        simp only [Option.some.injEq, Prod.mk.injEq] at h
        obtain ⟨rfl, rfl⟩ := h
        have hr : (execOp a.eval o).run P w = .ok (.value (.tuple #[.bool false])) w := by
          simp only [execOp, ho, hv, Instr.next]
          rw [Sem.run_bind, Sem.run_bind, hget]
          simp [ByteArray.size_mk', hlt]
        rw [hr]
        exact .rep hs (by simp [Rep, RepL])
    · cases h
  · cases h
end
end Go.Ab

namespace Go.Ab
open Go
set_option linter.unusedSectionVars false
set_option linter.unusedSimpArgs false
set_option linter.unusedVariables false
variable [Vals]
variable {ρ ρ' : Gh} {w w' : World} {P : Program} {pn : Pins} {G : Gl} {X : Exts} {A : Adv} {s s' : St} {env : Env} {a : Act} {lo : Nat} {d : D} {C : Caller} {al : Option Nat}

theorem tblR_mem : ∀ {l : List (Nat × Nat × Recv)} {t : Nat} {r : Nat × Recv}, tblR l t = some r → (t, r) ∈ l
  | [], _, _, h => by simp [tblR] at h
  | (x, g) :: r, t, f, h => by
    simp only [tblR] at h
    split at h
    · rename_i hb
      obtain rfl := Nat.eq_of_beq_eq_true hb
      simp only [Option.some.injEq] at h; subst h
      exact List.mem_cons_self
    · exact List.mem_cons_of_mem _ (tblR_mem h)

theorem methodB_spec {name : String} {t f : Nat} {r : Recv} (h : tblR (methodB P name) t = some (f, r)) : ∃ i m ptr, P.types[t]? = some i ∧ i.methods.find? (·.name == name) = some m ∧ m.func = some (f, ptr) ∧ recvR P t m.path.toList ptr = some r := by
  have hm := tblR_mem h
  unfold methodB at hm
  simp only [List.mem_filterMap, Prod.exists] at hm
  obtain ⟨i, t', h1, h2⟩ := hm
  rw [List.mem_zipIdx_iff_getElem?] at h1
  split at h2
  · rename_i m hm
    split at h2
    · rename_i g ptr hf
      simp only [Option.map_eq_some_iff, Prod.mk.injEq] at h2
      obtain ⟨r', h2, rfl, rfl, rfl⟩ := h2
      exact ⟨i, m, ptr, by simpa using h1, hm, hf, h2⟩
    · cases h2
  · cases h2

theorem tkind_some {e : Option TypeDesc} {k : Nat} (h : tkind e = k) (hk : k = 0 ∨ k = 1) : ∃ q, e = some q := by
  unfold tkind at h
  split at h <;> first | exact ⟨_, rfl⟩ | omega
/-- A receiver as it is. -/
theorem rcv_get {xt : TypeId} {x : Place} {ptr : Bool} {wr : Option String} (h : (tkind (P.underlying xt) = 0 ∧ ptr = true) ∨ (tkind (P.underlying xt) = 1 ∧ ptr = false)) : (receiverAt xt x ptr wr).run P w = (x.get xt).run P w := by
  have hq : ∃ q, P.underlying xt = some q := h.elim (fun h => tkind_some h.1 (.inl rfl)) (fun h => tkind_some h.1 (.inr rfl))
  obtain ⟨q, hq⟩ := hq
  rw [hq] at h
  unfold receiverAt
  rw [Sem.run_bind, run_underlying hq]
  rcases h with ⟨h, rfl⟩ | ⟨h, rfl⟩ <;> cases q <;> first
    | (simp [tkind] at h; done)
    | (cases x <;> rfl)
theorem rcv_addr {xt : TypeId} {a : Addr} {wr : Option String} (h : tkind (P.underlying xt) = 1) : (receiverAt xt (.var a) true wr).run P w = .ok (.pointer (some a)) w := by
  obtain ⟨q, hq⟩ := tkind_some h (.inr rfl)
  rw [hq] at h
  unfold receiverAt
  rw [Sem.run_bind, run_underlying hq]
  cases q <;> first
    | (simp [tkind] at h; done)
    | rfl
theorem fadd_ok {off : Nat} {x y : D} {v : Value} (h : fadd off x = some y) (hv : Rep ρ w x v) : ∃ a, v = .pointer (some a) ∧ Rep ρ w y (.pointer (some (a.add off))) := by
  unfold fadd at h
  split at h
  · rename_i o c
    simp only [Option.some.injEq] at h; subst h
    simp only [Rep] at hv ⊢
    unfold Gh.at at *
    split at hv
    · exact hv.elim
    · obtain ⟨q, rfl⟩ := hv; exact ⟨q, rfl, _, rfl⟩
    · obtain ⟨b, hb, rfl⟩ := hv; exact ⟨_, rfl, b, hb, by rw [Addr.add_mid]⟩
  · rename_i o i c e
    simp only [Option.some.injEq] at h; subst h
    simp only [Rep] at hv ⊢
    unfold Gh.at at *
    split at hv
    · exact hv.elim
    · obtain ⟨q, rfl⟩ := hv; exact ⟨q, rfl, _, rfl⟩
    · obtain ⟨b, hb, h1, h2, h3, rfl⟩ := hv; exact ⟨_, rfl, b, hb, h1, h2, h3, by rw [Addr.add_mid, Nat.add_assoc]⟩
  · rename_i e c
    simp only [Option.some.injEq] at h; subst h
    simp only [Rep] at hv ⊢
    obtain ⟨b, x, u, h1, h2, h3, h4, rfl⟩ := hv
    exact ⟨_, rfl, b, x, u, h1, h2, h3, h4, by rw [Addr.add_mid, Nat.add_assoc]⟩
  · cases h
theorem path_one {p : Array FieldStep} {st : FieldStep} (h : p.toList = [st]) : p.isEmpty = false := by
  cases hp : p.isEmpty with
  | false => rfl
  | true =>
    have : p = #[] := by simpa using hp
    rw [this] at h; cases h
theorem recv_ok (hs : StRel ρ s w) {name : String} {t f n : Nat} {r : Recv} {v v' : D} {u : Value} (h : tblR (methodB P name) t = some (f, r)) (hr : recvD s v r = some v') (hv : Rep ρ w v u) :
    ∃ u', (method (n + 1) t u name).run P w = .ok (f, u') w ∧ Rep ρ w v' u' := by
  obtain ⟨i, m, ptr, g1, g2, g3, g4⟩ := methodB_spec h
  unfold recvR at g4
  split at g4
  · rename_i hpath
    have key : (tkind (P.underlying t) = 0 ∧ ptr = true) ∨ (tkind (P.underlying t) = 1 ∧ ptr = false) → r = .self → ∃ u', (method (n + 1) t u name).run P w = .ok (f, u') w ∧ Rep ρ w v' u' := by
      rintro hk rfl
      simp only [recvD, Option.some.injEq] at hr; subst hr
      refine ⟨u, ?_, hv⟩
      simp only [method, typeInfo]
      simp [info_lt g1, g2, hpath, follow, g3, rcv_get hk, Place.get]
    split at g4
    · rename_i hk
      simp only [Option.some.injEq] at g4
      exact key (.inl ⟨hk, rfl⟩) g4.symm
    · rename_i hk
      simp only [Option.some.injEq] at g4
      exact key (.inr ⟨hk, rfl⟩) g4.symm
    · cases g4
  · rename_i st hpath
    have hne := path_one hpath
    split at g4
    · rename_i fs hst
      split at g4
      · rename_i fl hfl
        have stepD : st.deref = true → ∀ (a : Addr) (m0 : Nat), u = .pointer (some a) → sizeB P fl.type = some (m0 + 1) → (follow [st] t (.val u)).run P w = .ok (fl.type, .var (a.add fl.offset)) w := by
          intro hd a m0 hu hsz
          subst hu
          simp [follow, run_underlying hst, hfl, hd, Place.get, asAddr, fieldPlace, sizeOf_run hsz]
        split at g4
        · rename_i hd
          split at g4
          · rename_i hk
            simp only [Bool.and_eq_true, Nat.beq_eq] at hk
            obtain ⟨hk, hptr⟩ := hk
            subst hptr
            split at g4
            · rename_i m0 hsz
              simp only [Option.some.injEq] at g4; subst g4
              simp only [recvD] at hr
              obtain ⟨a, hu, ha⟩ := fadd_ok hr hv
              refine ⟨_, ?_, ha⟩
              simp only [method, typeInfo]
              simp [info_lt g1, g2, hpath, stepD hd a m0 hu hsz, g3, hne, rcv_addr hk]
            · cases g4
          split at g4
          · rename_i m0 sz hkb hsz hsh
            simp only [Option.some.injEq] at g4; subst g4
            simp only [recvD] at hr
            split at hr
            · rename_i p hp
              obtain ⟨a, hu, ha⟩ := fadd_ok hp hv
              obtain ⟨u', k1, k2⟩ := load_ok (P := P) hs hsh hr ha
              have hk : (tkind (P.underlying fl.type) = 0 ∧ ptr = true) ∨ (tkind (P.underlying fl.type) = 1 ∧ ptr = false) := by
                simp only [Bool.or_eq_true, Bool.and_eq_true, Nat.beq_eq, Bool.not_eq_true'] at hkb
                exact hkb
              have k1' : (loadVar fl.type (a.add fl.offset)).run P w = .ok u' w := by
                simpa [Instr.loadAt, Instr.sureAddr] using k1
              refine ⟨u', ?_, k2⟩
              simp only [method, typeInfo]
              simp [info_lt g1, g2, hpath, stepD hd a m0 hu hsz, g3, hne, rcv_get hk, Place.get, k1']
            · cases hr
          · cases g4
        · rename_i hd
          split at g4
          · rename_i sz hkb hsh
            simp only [Option.some.injEq] at g4; subst g4
            simp only [recvD] at hr
            split at hr
            · rename_i cs
              simp only [Rep] at hv
              obtain ⟨vs, rfl, hl, hsc⟩ := hv
              obtain ⟨u', k1, k2⟩ := run_part (P := P) (w := w) hl hsc hsh hr
              have hk : (tkind (P.underlying fl.type) = 0 ∧ ptr = true) ∨ (tkind (P.underlying fl.type) = 1 ∧ ptr = false) := by
                simp only [Bool.or_eq_true, Bool.and_eq_true, Nat.beq_eq, Bool.not_eq_true'] at hkb
                exact hkb
              refine ⟨u', ?_, k2⟩
              simp only [method, typeInfo]
              simp [info_lt g1, g2, hpath, follow, run_underlying hst, hfl, hd, k1, g3, hne, rcv_get hk, Place.get]
            · cases hr
          · cases g4
      · cases g4
    · cases g4
  · cases g4

section
variable (he : EnvRel ρ w lo env a.tmps) (hg : GlOk pn G ρ w) (hs : StRel ρ s w)
include he hg hs

theorem ok_invoke (hC : CallerOk pn P G C) {x' : Operand} {name : String} {x : Opd} {args' : Array Operand} {args : List Opd} (hx : opd G x' = some x) (ha : opds G args' = some args) (h : opF C env s al (.invoke (methodB P name) x args) = some (d, s')) {o : Oper} {tys : Array TypeId}
    (ho : o.op = .call { callee := .invoke x' name, args := args', argTypes := tys }) : OpOk P ρ w env a.tmps d s' ((execOp a.eval o).run P w) := by
  simp only [opF] at h
  split at h
  · rename_i t v l hxv hl
    split at h
    · rename_i f r hf
      split at h
      · rename_i v' hrv
        have hr := evs_rep he hg _ _ l ha hl
        have hv := opd_rep hx he hg hxv
        simp only [Rep] at hv
        obtain ⟨u, hv, hu⟩ := hv
        obtain ⟨u', hmeth, hu'⟩ := recv_ok (n := P.types.size + 99) hs hf hrv hu
        have hq : RepL ρ w (v' :: l) (u' :: List.map a.eval args'.toList) := by simp only [RepL]; exact ⟨u', _, rfl, hu', hr⟩
        have hrun : (execOp a.eval o).run P w = .ok (.enter f (#[u'] ++ args'.map a.eval)) w := by
          simp only [execOp, ho, resolve, hv]
          have := hC.enter _ _ _ _ h (.inr hq.yS) (#[u'] ++ args'.map a.eval) w
          have hd : P.types.size + Made.depth = (P.types.size + 99) + 1 := rfl
          have hex : (#[Value.iface t u] ++ args'.map a.eval).extract 1 (#[Value.iface t u] ++ args'.map a.eval).size = args'.map a.eval := by
            apply Array.ext'
            simp only [Array.toList_extract, Array.toList_append, Array.toList_map, Array.size_append, Array.size_map, List.size_toArray, List.length_cons, List.length_nil, List.cons_append, List.nil_append, List.extract_eq_take_drop, List.drop_succ_cons, List.drop_zero]
            exact List.take_of_length_le (by simp)
          have h0 : (#[Value.iface t u] ++ args'.map a.eval)[0]? = some (.iface t u) := by simp [Array.getElem?_append]
          have hm1 : (callMethod (.iface t u) name (args'.map a.eval)).run P w = .ok (.enter f (#[u'] ++ args'.map a.eval)) w := by
            simp [callMethod, hd, hmeth, this]
          show (do let d ← (pure { target := .fn (.method name) #[], args := #[Value.iface t u] ++ args'.map a.eval } : Sem Deferred); Go.invoke d.target d.args : Sem Next).run P w = _
          simp only [Sem.run_bind, Sem.run_pure, Result.andThen_ok, invoke, h0, hex]
          exact hm1
        rw [hrun]
        refine ⟨rfl, ?_⟩
        have := hC.calls _ _ _ _ _ ρ w (u' :: List.map a.eval args'.toList) h hs hg (by simp only [RepL]; exact ⟨u', _, rfl, hu', hr⟩)
        have e : (u' :: List.map a.eval args'.toList).toArray = #[u'] ++ args'.map a.eval := by
          apply Array.ext'; simp
        rwa [e] at this
      · cases h
    · cases h
  · cases h
end
end Go.Ab

namespace Go.Ab
open Go
set_option linter.unusedSectionVars false
set_option linter.unusedSimpArgs false
set_option linter.unusedVariables false
variable [Vals]
variable {ρ ρ' : Gh} {w w' : World} {P : Program} {pn : Pins} {G : Gl} {X : Exts} {A : Adv} {s s' : St} {env : Env} {a : Act} {lo : Nat} {d : D} {C : Caller} {al : Option Nat}

section
variable (he : EnvRel ρ w lo env a.tmps) (hg : GlOk pn G ρ w) (hs : StRel ρ s w)
include he hg hs

theorem ok_mkslice {t e : TypeId} {m bytes : Nat} {i : TypeInfo} {z : D} {l' c' : Operand} {l c : Opd} (hl : opd G l' = some l) (hc : opd G c' = some c) (hu : P.underlying t = some (.slice e)) (hsz : sizeB P e = some (m + 1)) (hz : zeroB P e = some z) (hi : P.info? e = some i) (hb : i.bytes = bytes)
    (h : opF C env s al (.mkslice (m + 1) bytes e z l c) = some (d, s')) {o : Oper} (ho : o.op = .makeSlice t l' c') : OpOk P ρ w env a.tmps d s' ((execOp a.eval o).run P w) := by
  simp only [opF] at h
  split at h
  · rename_i dl dc hdl hdc
    have hlv := opd_rep hl he hg hdl
    have hcv := opd_rep hc he hg hdc
    split at h
    · rename_i nl nc hnl hnc
      split at h
      · rename_i h1 h2 h3
        simp only [Bool.and_eq_true] at h1
        obtain ⟨h1, hall⟩ := h1
        have h1 := Nat.le_of_ble_eq_true h1
        have h2 := Nat.le_of_ble_eq_true h2
        have h3 := Nat.le_of_ble_eq_true h3
        have hmx : maxElems = 2147483648 := rfl
        split at h
        · rename_i k s2 hm
          simp only [Option.some.injEq, Prod.mk.injEq] at h
          obtain ⟨rfl, rfl⟩ := h
          obtain ⟨kl, vl, e1, e2⟩ : ∃ k n, a.eval l' = .int k n ∧ (0 ≤ n ∧ n.toNat = nl) := by
            unfold idx at hnl
            split at hnl
            · split at hnl
              · simp only [Option.some.injEq] at hnl
                simp only [Rep] at hlv
                exact ⟨_, _, hlv, by assumption, hnl⟩
              · cases hnl
            · cases hnl
          obtain ⟨kc, vc, e3, e4⟩ : ∃ k n, a.eval c' = .int k n ∧ (0 ≤ n ∧ n.toNat = nc) := by
            unfold idx at hnc
            split at hnc
            · split at hnc
              · simp only [Option.some.injEq] at hnc
                simp only [Rep] at hcv
                exact ⟨_, _, hcv, by assumption, hnc⟩
              · cases hnc
            · cases hnc
          obtain ⟨zv, z1, z2, z3⟩ := zero_run (w := w) hz
          have hzv := ofV_rep (ρ := ρ) (w := w) zv z z2
          have hzs : zv.cells.size = m + 1 ∧ z.st = true := by
            have := allSz_iff.1 hall z (by simp)
            exact ⟨by rw [hzv.size this.2]; exact this.1, this.2⟩
          have hel : vl = (nl : Int) := by omega
          have hec : vc = (nc : Int) := by omega
          let cs : Array Value := (Array.range (nc * (m + 1))).map (zv.cells[· % (m + 1)]!)
          have hcs : cs.toList = (List.replicate nc zv.cells.toList).flatten := by
            have := range_mod zv.cells (by omega) nc
            rw [hzs.1] at this
            exact this
          have hsplit : cs.toList = (List.replicate nl zv.cells.toList).flatten ++ (List.replicate (nc - nl) zv.cells.toList).flatten := by
            rw [hcs, ← List.flatten_append, List.replicate_append_replicate]
            congr 2; omega
          obtain ⟨ρ', n1, n2, n3⟩ := new_row (w' := w.alloc (.cells cs e)) (cs := cs) (cp := nc) hs (Nat.succ_pos m) hm (RepC.replicate hzv hzs.1 hzs.2 nl) hsplit (by simp [cs]) (by simpa using h1) rfl rfl rfl rfl
          have hr : (execOp a.eval o).run P w = .ok (.value (.slice (some ⟨w.heap.size, 0, none⟩) nl nc)) (w.alloc (.cells cs e)) := by
            simp only [execOp, ho, e1, e3, hel, hec]
            have hti : (typeInfo e).run P w = .ok i w := by simp [typeInfo, hi]
            have w1 := wrap_small (nl : Int) (by omega) (by omega)
            have w2 := wrap_small (nc : Int) (by omega) (by omega)
            have hbig : ¬ ((i.bytes : Int) * (nc : Int) > 2 ^ 48) := by
              rw [hb]
              have : ((bytes : Int) * (nc : Int)) = ((nc * bytes : Nat) : Int) := by rw [Int.natCast_mul, Int.mul_comm]
              rw [this]; omega
            have hl1 : ¬ ((nl : Int) < 0) := by omega
            have hc1 : ¬ ((nc : Int) < 0) := by omega
            have hlc : ¬ ((nl : Int) > (nc : Int)) := by omega
            have hroom : ¬ (nc * i.bytes > roomBytes) := by
              have : roomBytes = 2 ^ 47 := rfl
              rw [this, hb]; omega
            have hbig' : ¬ ((2 : Int) ^ 48 < (i.bytes : Int) * (nc : Int)) := hbig
            have hask : (askRoom (nc * i.bytes)).run P w = .ok () w := by unfold askRoom; rw [if_neg hroom]; rfl
            unfold Instr.makeSlice
            rw [Sem.run_bind, Sem.run_bind, run_underlying hu]
            simp only [Result.andThen_ok, asInt, asIntOf, Sem.run_bind, Sem.run_pure, hti, w1, w2]
            have hbig2 : ¬ ((281474976710656 : Int) < (i.bytes : Int) * (nc : Int)) := hbig'
            simp [hl1, hc1, hlc, hbig2, hask, sizeOf_run hsz]
            have hle : nl ≤ nc := h1
            by_cases h0 : nc * (m + 1) = 0
            · have hn0 : nc = 0 := by
                rcases Nat.mul_eq_zero.1 h0 with h | h
                · exact h
                · omega
              have hc0 : cs = #[] := by apply Array.ext'; rw [hcs, hn0]; rfl
              rw [hc0]
              have hE : ∀ f : Nat → Value, Array.map f (Array.range 0) = #[] := fun f => by apply Array.ext'; simp
              simp [hle, hn0, newRow, newObj, hE]
              rfl
            · simp [hle, h0, z1, hzs.1, newRow, newObj]
              rfl
          rw [hr]
          simp only [List.length_replicate] at n3
          exact .val n1 n2 n3
        · cases h
      · cases h
    · cases h
  · cases h
end
end Go.Ab
