/- Operations, one by one: maps written. -/
import Derived.Test.YtdfalhpbanhmeaaGreatDoorA14
namespace Go.Ab
open Go
set_option linter.unusedSectionVars false
set_option linter.unusedSimpArgs false
set_option linter.unusedVariables false
variable [Vals]
variable {ρ ρ' : Gh} {w w' : World} {P : Program} {pn : Pins} {G : Gl} {X : Exts} {A : Adv} {s s' : St} {env : Env} {a : Act} {lo : Nat} {d : D} {C : Caller} {al : Option Nat}

theorem RepM.modify {f : Nat × D × D → Nat × D × D} {f' : MapEntry → MapEntry}
    (hf : ∀ (x : Nat × D × D) (e : MapEntry), e.born = x.1 → Rep ρ w x.2.1 e.key → Rep ρ w x.2.2 e.val → (f' e).born = (f x).1 ∧ Rep ρ w (f x).2.1 (f' e).key ∧ Rep ρ w (f x).2.2 (f' e).val) :
    ∀ {es : List (Nat × D × D)} {ces : List MapEntry} (i : Nat), RepM ρ w es ces → RepM ρ w (setAt es i f) (ces.modify i f')
  | [], _, i, h => by simp only [RepM] at h; subst h; simp [setAt, RepM]
  | (n, k, v) :: es, _, i, h => by
    simp only [RepM] at h
    obtain ⟨e, r, rfl, h1, h2, h3, h4⟩ := h
    cases i with
    | zero =>
      obtain ⟨g1, g2, g3⟩ := hf (n, k, v) e h1 h2 h3
      simp only [setAt, List.modify_zero_cons]
      rw [show f (n, k, v) = ((f (n, k, v)).1, (f (n, k, v)).2.1, (f (n, k, v)).2.2) from rfl]
      simp only [RepM]
      exact ⟨_, _, rfl, g1, g2, g3, h4⟩
    | succ i =>
      simp only [setAt, List.modify_succ_cons, RepM]
      exact ⟨e, _, rfl, h1, h2, h3, RepM.modify hf i h4⟩

theorem RepM.snoc {c : Nat} {k v : D} {e : MapEntry} (h1 : e.born = c) (h2 : Rep ρ w k e.key) (h3 : Rep ρ w v e.val) : ∀ {es : List (Nat × D × D)} {ces : List MapEntry}, RepM ρ w es ces → RepM ρ w (es ++ [(c, k, v)]) (ces ++ [e])
  | [], _, h => by simp only [RepM] at h; subst h; simp only [List.nil_append, RepM]; exact ⟨e, [], rfl, h1, h2, h3, rfl⟩
  | (n, k', v') :: es, _, h => by
    simp only [RepM] at h
    obtain ⟨e', r, rfl, g1, g2, g3, g4⟩ := h
    simp only [List.cons_append, RepM]
    exact ⟨e', _, rfl, g1, g2, g3, RepM.snoc h1 h2 h3 g4⟩

theorem RepM.get : ∀ {es : List (Nat × D × D)} {ces : List MapEntry} {i : Nat} {x : Nat × D × D}, RepM ρ w es ces → es[i]? = some x → ∃ e, ces[i]? = some e ∧ e.born = x.1 ∧ Rep ρ w x.2.1 e.key ∧ Rep ρ w x.2.2 e.val
  | [], _, i, x, h, hi => by simp at hi
  | (n, k, v) :: es, _, i, x, h, hi => by
    simp only [RepM] at h
    obtain ⟨e, r, rfl, h1, h2, h3, h4⟩ := h
    cases i with
    | zero => simp at hi; subst hi; exact ⟨e, by simp, h1, h2, h3⟩
    | succ i => simp at hi; simpa using RepM.get h4 hi

theorem run_getMap {b c : Nat} {ces : Array MapEntry} (hb : w.heap[b]? = some (.map ces c)) : (getObj b).run P w = .ok (.map ces c) w := by simp [getObj, Sem.run, hb]
theorem run_setMap {b c : Nat} {ces : Array MapEntry} (ob : Go.Obj) (hb : w.heap[b]? = some (.map ces c)) : (setObj b ob).run P w = .ok () { w with heap := w.heap.setIfInBounds b ob } := by simp [setObj, Sem.run, hb]

theorem sameK_bits {k k' : D} {u u' : Value} (h : sameK k k' = true) (h1 : Rep ρ w k u) (h2 : Rep ρ w k' u') : (Instr.keyThatStays u u').run P w = .ok u' w := by
  have : Instr.sameBits 10000 u u' = true := by
    unfold sameK at h
    split at h
    · simp only [Rep] at h1 h2; subst h1 h2; simpa [Instr.sameBits] using h
    · simp only [Rep] at h1 h2; subst h1 h2; simpa [Instr.sameBits] using h
    · simp only [Rep] at h1 h2; subst h1 h2
      simp only [beq_iff_eq] at h
      subst h
      simp only [Instr.sameBits]
      rw [beq_toListBytes]; simp
    · cases h
  simp [Instr.keyThatStays, this]

theorem findBorn_ok {b : Int} : ∀ {es : List (Nat × D × D)} {ces : List MapEntry} {k i : Nat}, RepM ρ w es ces → findBorn b es k = some i → ∃ m, i = k + m ∧ ces.findIdx? (fun e => (e.born : Int) == b) = some m
  | [], _, k, i, h, hf => by simp [findBorn] at hf
  | (n, q, v) :: es, _, k, i, h, hf => by
    simp only [RepM] at h
    obtain ⟨e, r, rfl, h1, h2, h3, h4⟩ := h
    simp only [findBorn] at hf
    split at hf
    · rename_i hn
      simp only [Option.some.injEq] at hf
      refine ⟨0, by omega, ?_⟩
      rw [List.findIdx?_cons, h1]; simp [hn]
    · rename_i hn
      obtain ⟨m, g1, g2⟩ := findBorn_ok h4 hf
      refine ⟨m + 1, by omega, ?_⟩
      rw [List.findIdx?_cons, h1, g2]; simp [hn]

section
variable (he : EnvRel ρ w lo env a.tmps) (hg : GlOk pn G ρ w) (hs : StRel ρ s w)
include he hg hs

omit he hg in
/-- A map's block written. -/
theorem map_write {o b c c' : Nat} {es es' : List (Nat × D × D)} {ces ces' : Array MapEntry} (hob : s.get o = some (.map es c)) (k1 : ρ.kd o = .live 1) (one : ρ.one o b) (hb : w.heap[b]? = some (.map ces c)) (hM : RepM ρ w es' ces'.toList)
    (hset : s.set o (.map es' c') = some s') : Kp ρ w ρ { w with heap := w.heap.setIfInBounds b (.map ces' c') } ∧ StRel ρ s' { w with heap := w.heap.setIfInBounds b (.map ces' c') } :=
  write_ok1 hs hset one.1 (hs.lt _ _ hob) (fun _ h => heap_set_ne h) (by simp) rfl rfl rfl fun hK => ⟨b, ces', k1, one, heap_set_eq (heap_lt hb), hM.mono hK⟩

theorem ok_mupd {t q e : TypeId} {et : ET} {m' k' v' : Operand} {m k v : Opd} (hm : opd G m' = some m) (hk : opd G k' = some k) (hv : opd G v' = some v) (hu : P.underlying t = some (.map q e)) (het : etB P 8 q = some et)
    (h : opF C env s al (.mupd et m k v) = some (d, s')) {o : Oper} (ho : o.op = .mapUpdate t m' k' v' ∨ o.op = .insert t m' k' v') : OpOk P ρ w env a.tmps d s' ((execOp a.eval o).run P w) := by
  have fin : ∀ w', (Instr.mapUpdate t (a.eval m') (a.eval k') (a.eval v')).run P w = .ok () w' → (execOp a.eval o).run P w = .ok .skip w' := by
    intro w' hw
    rcases ho with ho | ho <;> · simp only [execOp, ho]; rw [Sem.run_bind, hw]; rfl
  simp only [opF] at h
  split at h
  · rename_i ob dk dv hdm hdk hdv
    split at h
    · cases h
    · rename_i hkd
      split at h
      · rename_i es c hob
        have hmv := opd_rep hm he hg hdm
        have hkv := opd_rep hk he hg hdk
        have hvv := opd_rep hv he hg hdv
        have hck : ∀ em, (Instr.checkKey em 10000 q (a.eval k')).run P w = .ok () w := fun em => checkKey_ok em 8 q et het 10000 (by decide) dk _ hkd hkv
        obtain ⟨b, ces, k1, one, hb, hM⟩ := hs.ok _ _ hob
        simp only [Rep, Gh.at, k1] at hmv
        obtain ⟨b', hb', hmv⟩ := hmv
        obtain rfl := one.2 _ hb'
        split at h
        · rename_i i v0 hf
          split at h
          · rename_i n0 k0 v1 hei
            split at h
            · rename_i hsk
              obtain ⟨h1, rfl⟩ := ofS_some h
              obtain ⟨r', g1, g2⟩ := findKey_ok (P := P) het hkv hM hf
              obtain ⟨u0, rfl, g3⟩ := g2
              obtain ⟨ent, e1, e2, e3, e4⟩ := hM.get hei
              have e1' : ces[i]? = some ent := by simpa using e1
              have hkey := sameK_bits (P := P) hsk e3 hkv
              obtain ⟨n1, n2⟩ := map_write (ces' := ces.modify i fun e => { e with key := a.eval k', val := a.eval v' }) hs hob k1 one hb (by
                rw [Array.toList_modify]
                exact hM.modify (f := fun x => (x.1, dk, dv)) (f' := fun e => { e with key := a.eval k', val := a.eval v' }) (fun x e q1 q2 q3 => ⟨q1, hkv, hvv⟩) i) h1
              have hr : (Instr.mapUpdate t (a.eval m') (a.eval k') (a.eval v')).run P w = .ok () { w with heap := w.heap.setIfInBounds b' (.map (ces.modify i fun e => { e with key := a.eval k', val := a.eval v' }) c) } := by
                unfold Instr.mapUpdate
                rw [Sem.run_bind, run_underlying hu]
                simp [hmv, run_getMap hb, hck, g1, e1', hkey, run_setMap _ hb]
              rw [fin _ hr]
              exact ⟨ρ, n1, n2, rfl⟩
            · cases h
          · cases h
        · rename_i hf
          obtain ⟨h1, rfl⟩ := ofS_some h
          obtain ⟨r', g1, g2⟩ := findKey_ok (P := P) het hkv hM hf
          simp only [Found] at g2; subst g2
          obtain ⟨n1, n2⟩ := map_write (ces' := ces.push { key := a.eval k', val := a.eval v', born := c }) hs hob k1 one hb (by
            rw [Array.toList_push]
            exact RepM.snoc (e := { key := a.eval k', val := a.eval v', born := c }) rfl hkv hvv hM) h1
          have hr : (Instr.mapUpdate t (a.eval m') (a.eval k') (a.eval v')).run P w = .ok () { w with heap := w.heap.setIfInBounds b' (.map (ces.push { key := a.eval k', val := a.eval v', born := c }) (c + 1)) } := by
            unfold Instr.mapUpdate
            rw [Sem.run_bind, run_underlying hu]
            simp [hmv, run_getMap hb, hck, g1, run_setMap _ hb]
          rw [fin _ hr]
          exact ⟨ρ, n1, n2, rfl⟩
        · cases h
      · cases h
  · cases h

theorem ok_mentry {t q e : TypeId} {et : ET} {z : D} {m' k' : Operand} {m k : Opd} (hm : opd G m' = some m) (hk : opd G k' = some k) (hu : P.underlying t = some (.map q e)) (het : etB P 8 q = some et) (hz : zeroB P e = some z)
    (h : opF C env s al (.mentry et z m k) = some (d, s')) {o : Oper} (ho : o.op = .mapEntry t m' k') : OpOk P ρ w env a.tmps d s' ((execOp a.eval o).run P w) := by
  have fin : ∀ u w', (Instr.mapEntry t (a.eval m') (a.eval k')).run P w = .ok u w' → (execOp a.eval o).run P w = .ok (.value u) w' := by
    intro u w' hw
    simp only [execOp, ho]; rw [Sem.run_bind, hw]; rfl
  simp only [opF] at h
  split at h
  · rename_i ob dk hdm hdk
    split at h
    · cases h
    · rename_i hkd
      split at h
      · rename_i es c hob
        have hmv := opd_rep hm he hg hdm
        have hkv := opd_rep hk he hg hdk
        have hck : ∀ em, (Instr.checkKey em 10000 q (a.eval k')).run P w = .ok () w := fun em => checkKey_ok em 8 q et het 10000 (by decide) dk _ hkd hkv
        obtain ⟨b, ces, k1, one, hb, hM⟩ := hs.ok _ _ hob
        simp only [Rep, Gh.at, k1] at hmv
        obtain ⟨b', hb', hmv⟩ := hmv
        obtain rfl := one.2 _ hb'
        split at h
        · rename_i i v0 hf
          split at h
          · rename_i n0 k0 v1 hei
            split at h
            · rename_i hsk
              obtain ⟨h1, rfl⟩ := ofS_some h
              obtain ⟨r', g1, g2⟩ := findKey_ok (P := P) het hkv hM hf
              obtain ⟨u0, rfl, g3⟩ := g2
              obtain ⟨ent, e1, e2, e3, e4⟩ := hM.get hei
              have e1' : ces[i]? = some ent := by simpa using e1
              have hkey := sameK_bits (P := P) hsk e3 hkv
              obtain ⟨n1, n2⟩ := map_write (ces' := ces.modify i fun e => { e with key := a.eval k' }) hs hob k1 one hb (by
                rw [Array.toList_modify]
                exact hM.modify (f := fun x => (x.1, dk, x.2.2)) (f' := fun e => { e with key := a.eval k' }) (fun x e q1 q2 q3 => ⟨q1, hkv, q3⟩) i) h1
              have hr : (Instr.mapEntry t (a.eval m') (a.eval k')).run P w = .ok (.tuple #[u0, goInt n0]) { w with heap := w.heap.setIfInBounds b' (.map (ces.modify i fun e => { e with key := a.eval k' }) c) } := by
                unfold Instr.mapEntry
                rw [Sem.run_bind, run_underlying hu]
                simp [hmv, run_getMap hb, hck, g1, e1', hkey, run_setMap _ hb, e2]
              rw [fin _ _ hr]
              refine .val n1 n2 ?_
              simp [Rep, RepL, goI, goInt, g3.mono n1]
            · cases h
          · cases h
        · rename_i hf
          obtain ⟨h1, rfl⟩ := ofS_some h
          obtain ⟨r', g1, g2⟩ := findKey_ok (P := P) het hkv hM hf
          simp only [Found] at g2; subst g2
          obtain ⟨zv, z1, z2, z3⟩ := zero_run (w := w) hz
          have hzv := ofV_rep (ρ := ρ) (w := w) zv z z2
          obtain ⟨n1, n2⟩ := map_write (ces' := ces.push { key := a.eval k', val := zv, born := c }) hs hob k1 one hb (by
            rw [Array.toList_push]
            exact RepM.snoc (e := { key := a.eval k', val := zv, born := c }) rfl hkv hzv hM) h1
          have hr : (Instr.mapEntry t (a.eval m') (a.eval k')).run P w = .ok (.tuple #[zv, goInt c]) { w with heap := w.heap.setIfInBounds b' (.map (ces.push { key := a.eval k', val := zv, born := c }) (c + 1)) } := by
            unfold Instr.mapEntry
            rw [Sem.run_bind, run_underlying hu]
            simp [hmv, run_getMap hb, hck, g1, z1, run_setMap _ hb]
          rw [fin _ _ hr]
          refine .val n1 n2 ?_
          simp [Rep, RepL, goI, goInt, hzv.mono n1]
        · cases h
      · cases h
  · cases h

theorem ok_mestore {t : TypeId} {m' k' v' : Operand} {m k v : Opd} (hm : opd G m' = some m) (hk : opd G k' = some k) (hv : opd G v' = some v)
    (h : opF C env s al (.mestore m k v) = some (d, s')) {o : Oper} (ho : o.op = .entryStore t m' k' v') : OpOk P ρ w env a.tmps d s' ((execOp a.eval o).run P w) := by
  simp only [opF] at h
  split at h
  · rename_i ob kk n dv hdm hdk hdv
    split at h
    · rename_i es c hob
      split at h
      · rename_i i hfb
        obtain ⟨h1, rfl⟩ := ofS_some h
        have hmv := opd_rep hm he hg hdm
        have hkv := opd_rep hk he hg hdk
        have hvv := opd_rep hv he hg hdv
        obtain ⟨b, ces, k1, one, hb, hM⟩ := hs.ok _ _ hob
        simp only [Rep, Gh.at, k1] at hmv hkv
        obtain ⟨b', hb', hmv⟩ := hmv
        obtain rfl := one.2 _ hb'
        obtain ⟨j, hj, hfi⟩ := findBorn_ok hM hfb
        have hfi' : ces.findIdx? (fun e => (e.born : Int) == n) = some i := by
          have : ces.toList.toArray.findIdx? (fun e => (e.born : Int) == n) = ces.toList.findIdx? (fun e => (e.born : Int) == n) := List.findIdx?_toArray _ _
          simp only [Array.toArray_toList] at this
          rw [this, hfi]; simp; omega
        obtain ⟨n1, n2⟩ := map_write (ces' := ces.modify i fun e => { e with val := a.eval v' }) hs hob k1 one hb (by
          rw [Array.toList_modify]
          exact hM.modify (f := fun x => (x.1, x.2.1, dv)) (f' := fun e => { e with val := a.eval v' }) (fun x e q1 q2 q3 => ⟨q1, q2, hvv⟩) i) h1
        have hr : (execOp a.eval o).run P w = .ok .skip { w with heap := w.heap.setIfInBounds b' (.map (ces.modify i fun e => { e with val := a.eval v' }) c) } := by
          simp only [execOp, ho]
          simp [Instr.entryStore, hmv, hkv, run_getMap hb, asInt, asIntOf, hfi', run_setMap _ hb]
        rw [hr]
        exact ⟨ρ, n1, n2, rfl⟩
      · cases h
    · cases h
  · cases h
end
end Go.Ab
