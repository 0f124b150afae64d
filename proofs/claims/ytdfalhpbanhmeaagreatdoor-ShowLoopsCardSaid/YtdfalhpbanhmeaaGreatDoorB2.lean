/- Operations, one by one: entries taken out of maps, maps cleared; strings iterated. -/
import Derived.Test.YtdfalhpbanhmeaaGreatDoorB1
namespace Go.Ab
open Go
set_option linter.unusedSectionVars false
set_option linter.unusedSimpArgs false
set_option linter.unusedVariables false
variable [Vals]
variable {ρ ρ' : Gh} {w w' : World} {P : Program} {pn : Pins} {G : Gl} {X : Exts} {A : Adv} {s s' : St} {env : Env} {a : Act} {lo : Nat} {d : D} {C : Caller} {al : Option Nat}

theorem RepM.erase : ∀ {es : List (Nat × D × D)} {ces : List MapEntry} (i : Nat), RepM ρ w es ces → RepM ρ w (es.eraseIdx i) (ces.eraseIdx i)
  | [], _, i, h => by simp only [RepM] at h; subst h; simp [RepM]
  | (n, k, v) :: es, _, i, h => by
    simp only [RepM] at h
    obtain ⟨e, r, rfl, h1, h2, h3, h4⟩ := h
    cases i with
    | zero => simpa using h4
    | succ i =>
      simp only [List.eraseIdx_cons_succ, RepM]
      exact ⟨e, _, rfl, h1, h2, h3, RepM.erase i h4⟩

section
variable (he : EnvRel ρ w lo env a.tmps) (hg : GlOk pn G ρ w) (hs : StRel ρ s w)
include he hg hs

theorem ok_delete {t q e : TypeId} {et : ET} {m' k' : Operand} {m k : Opd} {tys : Array TypeId} (hm : opd G m' = some m) (hk : opd G k' = some k) (hu : P.underlying t = some (.map q e)) (het : etB P 8 q = some et) (hty : tys[0]? = some t)
    (h : opF C env s al (.delete et m k) = some (d, s')) {o : Oper} (ho : o.op = .call { callee := .builtin .delete, args := #[m', k'], argTypes := tys }) : OpOk P ρ w env a.tmps d s' ((execOp a.eval o).run P w) := by
  have fin : ∀ w', (Builtin.delete_ tys o.type #[a.eval m', a.eval k']).run P w = .ok (.tuple #[]) w' → (execOp a.eval o).run P w = .ok (.value (.tuple #[])) w' := by
    intro w' hw
    rw [run_builtin (b := .delete) ho]
    simp only [builtin, List.map_toArray, List.map_cons, List.map_nil]
    rw [Sem.run_bind, hw]; rfl
  simp only [opF] at h
  split at h
  · rename_i dm dk hdm hdk
    split at h
    · cases h
    · rename_i hkd
      have hmv := opd_rep hm he hg hdm
      have hkv := opd_rep hk he hg hdk
      have hck : ∀ em, (Instr.checkKey em 10000 q (a.eval k')).run P w = .ok () w := fun em => checkKey_ok em 8 q et het 10000 (by decide) dk _ hkd hkv
      split at h
      · simp only [Option.some.injEq, Prod.mk.injEq] at h
        obtain ⟨rfl, rfl⟩ := h
        simp only [Rep] at hmv
        have hr : (Builtin.delete_ tys o.type #[a.eval m', a.eval k']).run P w = .ok (.tuple #[]) w := by
          unfold Builtin.delete_
          simp [hty, hmv, run_underlying hu, hck]
        rw [fin _ hr]
        exact .rep hs (by simp [Rep, RepL])
      · rename_i ob
        split at h
        · rename_i es c hob
          obtain ⟨b, ces, k1, one, hb, hM⟩ := hs.ok _ _ hob
          simp only [Rep, Gh.at, k1] at hmv
          obtain ⟨b', hb', hmv⟩ := hmv
          obtain rfl := one.2 _ hb'
          split at h
          · rename_i i v0 hf
            obtain ⟨h1, rfl⟩ := ofS_some h
            obtain ⟨r', g1, g2⟩ := findKey_ok (P := P) het hkv hM hf
            obtain ⟨u0, rfl, g3⟩ := g2
            obtain ⟨n1, n2⟩ := map_write (ces' := ces.eraseIdxIfInBounds i) hs hob k1 one hb (by
              have : (ces.eraseIdxIfInBounds i).toList = ces.toList.eraseIdx i := by
                unfold Array.eraseIdxIfInBounds
                split
                · simp [Array.toList_eraseIdx]
                · rename_i hlt
                  rw [List.eraseIdx_of_length_le (by simpa using hlt)]
              rw [this]
              exact RepM.erase i hM) h1
            have hr : (Builtin.delete_ tys o.type #[a.eval m', a.eval k']).run P w = .ok (.tuple #[]) { w with heap := w.heap.setIfInBounds b' (.map (ces.eraseIdxIfInBounds i) c) } := by
              unfold Builtin.delete_
              simp [hty, hmv, run_underlying hu, hck, run_getMap hb, g1, run_setMap _ hb]
            rw [fin _ hr]
            exact .val n1 n2 (by simp [Rep, RepL])
          · rename_i hf
            obtain ⟨h1, rfl⟩ := ofS_some h
            obtain ⟨r', g1, g2⟩ := findKey_ok (P := P) het hkv hM hf
            simp only [Found] at g2; subst g2
            obtain ⟨n1, n2⟩ := map_write (ces' := ces) hs hob k1 one hb hM h1
            have hr : (Builtin.delete_ tys o.type #[a.eval m', a.eval k']).run P w = .ok (.tuple #[]) { w with heap := w.heap.setIfInBounds b' (.map ces c) } := by
              unfold Builtin.delete_
              simp [hty, hmv, run_underlying hu, hck, run_getMap hb, g1, run_setMap _ hb]
            rw [fin _ hr]
            exact .val n1 n2 (by simp [Rep, RepL])
          · cases h
        · cases h
      · cases h
  · cases h

theorem ok_range {t : TypeId} {x' : Operand} {x : Opd} (hx : opd G x' = some x) (hu : P.underlying t = some .string) (h : opF C env s al (.range x) = some (d, s')) {o : Oper} (ho : o.op = .range t x') :
    OpOk P ρ w env a.tmps d s' ((execOp a.eval o).run P w) := by
  simp only [opF] at h
  split at h
  · rename_i l hp
    have hv := opd_rep hx he hg hp
    simp only [Rep] at hv
    split at h
    · rename_i k s2 hm
      simp only [Option.some.injEq, Prod.mk.injEq] at h
      obtain ⟨rfl, rfl⟩ := h
      obtain ⟨n1, n2, n3, n4⟩ := new_ok (w' := w.alloc (.stringIter ⟨⟨l⟩⟩ 0)) hs hm 1 0 0 rfl rfl rfl rfl (fun hK hone hh => ⟨w.heap.size, by simp [Gh.new], hone, hh⟩)
      have hrun : (execOp a.eval o).run P w = .ok (.value (.pointer (some ⟨w.heap.size, 0, none⟩))) (w.alloc (.stringIter ⟨⟨l⟩⟩ 0)) := by
        simp only [execOp, ho]
        simp [Instr.range, run_underlying hu, hv, newObj]
        rfl
      rw [hrun]
      exact .val n1 n2 (by simp only [Rep, Gh.at, n4]; exact ⟨_, n3, rfl⟩)
    · cases h
  · cases h

theorem ok_nexts {x' : Operand} {x : Opd} (hx : opd G x' = some x) (h : opF C env s al (.nexts x) = some (d, s')) {o : Oper} (ho : o.op = .next x' true) :
    OpOk P ρ w env a.tmps d s' ((execOp a.eval o).run P w) := by
  simp only [opF] at h
  split at h
  · rename_i ob hp
    have hv := opd_rep hx he hg hp
    split at h
    · rename_i l pos hob
      obtain ⟨b, k1, one, hb⟩ := hs.ok _ _ hob
      simp only [Rep, Gh.at, k1] at hv
      obtain ⟨b', hb', hv⟩ := hv
      obtain rfl := one.2 _ hb'
      have hget : (getObj b').run P w = .ok (.stringIter ⟨⟨l⟩⟩ pos) w := by simp [getObj, Sem.run, hb]
      have hset : ∀ ob : Go.Obj, (setObj b' ob).run P w = .ok () { w with heap := w.heap.setIfInBounds b' ob } := fun ob => by simp [setObj, Sem.run, hb]
      split at h
      · rename_i hlt
        have hlt : pos < l.length := Nat.le_of_ble_eq_true hlt
        obtain ⟨h1, rfl⟩ := ofS_some h
        obtain ⟨n1, n2⟩ : Kp ρ w ρ { w with heap := w.heap.setIfInBounds b' (.stringIter ⟨⟨l⟩⟩ (pos + (Utf8.decode ⟨⟨l⟩⟩ pos).2)) } ∧ StRel ρ s' { w with heap := w.heap.setIfInBounds b' (.stringIter ⟨⟨l⟩⟩ (pos + (Utf8.decode ⟨⟨l⟩⟩ pos).2)) } :=
          write_ok1 hs h1 one.1 (hs.lt _ _ hob) (fun _ h => heap_set_ne h) (by simp) rfl rfl rfl fun hK => ⟨b', k1, one, heap_set_eq (heap_lt hb)⟩
        have hr : (execOp a.eval o).run P w = .ok (.value (.tuple #[.bool true, goInt pos, .int .i32 (Utf8.decode ⟨⟨l⟩⟩ pos).1])) { w with heap := w.heap.setIfInBounds b' (.stringIter ⟨⟨l⟩⟩ (pos + (Utf8.decode ⟨⟨l⟩⟩ pos).2)) } := by
          simp only [execOp, ho, hv, Instr.next]
          rw [Sem.run_bind, Sem.run_bind, hget]
          simp [ByteArray.size_mk', hlt, hset]
        rw [hr]
        exact .val n1 n2 (by simp [Rep, RepL, goI, goInt])
      · rename_i hlt
        have hlt : ¬ pos < l.length := fun hc => by
          have : Nat.blt pos l.length = true := Nat.ble_eq_true_of_le hc
          rw [this] at hlt; cases hlt
        simp only [Option.some.injEq, Prod.mk.injEq] at h
        obtain ⟨rfl, rfl⟩ := h
        have hr : (execOp a.eval o).run P w = .ok (.value (.tuple #[.bool false])) w := by
          simp only [execOp, ho, hv, Instr.next]
          rw [Sem.run_bind, Sem.run_bind, hget]
          simp [ByteArray.size_mk', hlt]
        rw [hr]
        exact .rep hs (by simp [Rep, RepL])
    · cases h
  · cases h
end
end Go.Ab
