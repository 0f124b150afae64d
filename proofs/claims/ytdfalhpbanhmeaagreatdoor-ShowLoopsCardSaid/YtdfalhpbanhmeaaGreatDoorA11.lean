/- Operations, one by one: slices cut, maps asked, texts out of bytes, assertions, structs built. -/
import Derived.Test.YtdfalhpbanhmeaaGreatDoorA10
namespace Go.Ab
open Go
set_option linter.unusedSectionVars false
set_option linter.unusedSimpArgs false
set_option linter.unusedVariables false
variable [Vals]
variable {ρ : Gh} {w : World} {P : Program} {G : Gl} {X : Exts} {A : Adv} {s s' : St} {env : Env} {a : Act} {lo : Nat} {d : D} {C : Caller} {al : Option Nat}

/-! ### Keys -/
theorem checkFields {em : Bool} {n : Nat} {xs : Array Value} {lx : List D} {f : TypeId → Option ET} (hx : RepL ρ w lx xs.toList) (hsx : lx.all D.sc = true)
    (ih : ∀ t e, f t = some e → ∀ x u, keyD e x = true → Rep ρ w x u → (Instr.checkKey em n t u).run P w = .ok () w) :
    ∀ (fs : List Field) (l : ETs), etB.fieldsB P f fs = some l → keyDs l lx = true →
      ((forIn fs PUnit.unit fun f _ => do
          if f.name ≠ "_" then do
            let v ← Go.part f.type xs f.offset
            Instr.checkKey em n f.type v
            pure (ForInStep.yield PUnit.unit)
          else pure (ForInStep.yield PUnit.unit) : Sem PUnit)).run P w = .ok PUnit.unit w
  | [], _, _, _ => by simp
  | x :: fs, l, h, hk => by
    simp only [etB.fieldsB] at h
    split at h
    · cases h
    · rename_i hn
      split at h
      · rename_i s e l' h1 h2 h3
        simp only [Option.some.injEq] at h; subst h
        simp only [keyDs] at hk
        split at hk
        · rename_i p hp
          simp only [Bool.and_eq_true] at hk
          obtain ⟨u, hu1, hu2⟩ := run_part (P := P) hx hsx h1 hp
          have hne : x.name ≠ "_" := by simpa using hn
          have hi := ih x.type e h2 p u hk.1 hu2
          have hrest := checkFields hx hsx ih fs l' h3 hk.2
          simp only [List.forIn_cons, hne, ne_eq, not_false_eq_true, if_true, Sem.run_bind, hu1, hi, Result.andThen_ok, Sem.run_pure]
          exact hrest
        · cases hk
      · cases h

theorem checkKey_ok (em : Bool) : ∀ (n : Nat) (t : TypeId) (et : ET), etB P n t = some et → ∀ (k : Nat), n ≤ k → ∀ (x : D) (u : Value), keyD et x = true → Rep ρ w x u → (Instr.checkKey em k t u).run P w = .ok () w := by
  intro n
  induction n with
  | zero => intro t et h; simp [etB] at h
  | succ n ih =>
    intro t et h k hkn x u hxy hu
    obtain ⟨k, rfl⟩ : ∃ j, k = j + 1 := ⟨k - 1, by omega⟩
    simp only [etB] at h
    split at h
    · rename_i hun
      simp only [Option.some.injEq] at h; subst h
      simp only [keyD] at hxy
      split at hxy <;> (try cases hxy)
      · simp only [Rep] at hu; subst hu
        simp [Instr.checkKey, run_underlying hun]
      · simp only [Rep] at hu; subst hu
        simp [Instr.checkKey, run_underlying hun]
    · rename_i kk hun
      simp only [Option.some.injEq] at h; subst h
      simp only [keyD] at hxy
      split at hxy <;> (try cases hxy)
      · simp only [Rep] at hu; subst hu
        simp [Instr.checkKey, run_underlying hun]
      · simp only [Rep] at hu; obtain ⟨rfl, _⟩ := hu
        simp [Instr.checkKey, run_underlying hun]
    · rename_i hun
      simp only [Option.some.injEq] at h; subst h
      simp only [keyD] at hxy
      split at hxy <;> (try cases hxy)
      · simp only [Rep] at hu; subst hu
        simp [Instr.checkKey, run_underlying hun]
      · simp only [Rep] at hu; obtain ⟨rfl, _⟩ := hu
        simp [Instr.checkKey, run_underlying hun]
    · split at h <;> simp at h; subst h; simp [keyD] at hxy
    · simp only [Option.some.injEq] at h; subst h; simp [keyD] at hxy
    · simp only [Option.some.injEq] at h; subst h; simp [keyD] at hxy
    · simp only [Option.some.injEq] at h; subst h; simp [keyD] at hxy
    · simp only [Option.some.injEq] at h; subst h; simp [keyD] at hxy
    · rename_i fs hun
      split at h
      · cases h
      · simp only [Option.map_eq_some_iff] at h
        obtain ⟨l, hl, rfl⟩ := h
        simp only [keyD] at hxy
        split at hxy
        · simp only [Rep] at hu
          obtain ⟨xs, rfl, hx1, hx2⟩ := hu
          simp only [Instr.checkKey, Sem.run_bind, run_underlying hun, Result.andThen_ok]
          rw [← Array.forIn_toList]
          have := checkFields (P := P) (w := w) (ρ := ρ) (em := em) (n := k) hx1 hx2 (fun t' e' h' x' u' hh hu' => ih t' e' h' k (by omega) x' u' hh hu') fs.toList l hl hxy
          rw [this]; rfl
        · cases hxy
    · cases h

/-- What is found, both ways. -/
def Found (ρ : Gh) (w : World) : Option (Nat × D) → Option (Nat × Value) → Prop
  | none, r => r = none
  | some (i, d), r => ∃ v, r = some (i, v) ∧ Rep ρ w d v

theorem sameNow_ok {t : TypeId} {e : TypeDesc} {et : ET} {x y : D} {u v : Value} {r r' : Bool} (hu : P.underlying t = some e) (het : etB P 8 t = some et) (h : eqT false et x y = some r) (h' : Instr.sameNow e u v = some r') (hx : Rep ρ w x u) (hy : Rep ρ w y v) : r' = r := by
  simp only [etB, hu] at het
  cases e <;> simp only [Instr.sameNow] at h' <;> (try cases h')
  · simp only [Option.some.injEq] at het; subst het
    simp only [eqT] at h
    obtain ⟨p, q, rfl, rfl, rfl⟩ := eqB1_spec h hx hy
    simp only [Option.some.injEq] at h'; exact h'.symm
  · simp only [Option.some.injEq] at het; subst het
    simp only [eqT] at h
    obtain ⟨k, p, q, rfl, rfl, rfl⟩ := eqI_spec h hx hy
    simp only [if_true, Option.some.injEq] at h'; exact h'.symm
  · simp only [Option.some.injEq] at het; subst het
    simp only [eqT] at h
    obtain ⟨p, q, rfl, rfl, rfl⟩ := eqS_spec h hx hy
    simp only [Option.some.injEq] at h'
    rw [← h', beq_toListBytes, ByteArray.toList_eq, ByteArray.toList_eq]

theorem findNow_ok {t : TypeId} {e : TypeDesc} {et : ET} {k : D} {u : Value} (hu : P.underlying t = some e) (het : etB P 8 t = some et) (hk : Rep ρ w k u) :
    ∀ (es : List (Nat × D × D)) (ces : List MapEntry) (i : Nat) (r : Option (Nat × D)) (r' : Option (Nat × Value)), RepM ρ w es ces → findKey et k es i = some r → Instr.findNow e u ces i = some r' → Found ρ w r r'
  | [], _, i, r, r', hM, h, h' => by
    simp only [RepM] at hM; subst hM
    simp only [findKey, Option.some.injEq] at h; subst h
    simp only [Instr.findNow, Option.some.injEq] at h'; subst h'
    rfl
  | (n, k', v) :: es, _, i, r, r', hM, h, h' => by
    simp only [RepM] at hM
    obtain ⟨c, cs, rfl, _, h1, h2, h3⟩ := hM
    simp only [findKey] at h
    simp only [Instr.findNow] at h'
    cases hs : Instr.sameNow e u c.key with
    | none => simp [hs] at h'
    | some b' =>
      cases hq : eqT false et k k' with
      | none => simp [hq] at h
      | some b =>
        have hb := sameNow_ok (P := P) hu het hq hs hk h1
        subst hb
        cases b'
        · simp only [hq] at h
          simp only [hs] at h'
          exact findNow_ok hu het hk es cs (i + 1) r r' h3 h h'
        · simp only [hq, Option.some.injEq] at h
          simp only [hs, Option.some.injEq] at h'
          subst h h'
          exact ⟨_, rfl, h2⟩

theorem findAsking_ok {t : TypeId} {et : ET} {k : D} {u : Value} (het : etB P 8 t = some et) (hk : Rep ρ w k u) :
    ∀ (es : List (Nat × D × D)) (ces : List MapEntry) (i : Nat) (r : Option (Nat × D)), RepM ρ w es ces → findKey et k es i = some r → ∃ r', (Instr.findAsking t u ces i).run P w = .ok r' w ∧ Found ρ w r r'
  | [], _, i, r, hM, h => by
    simp only [RepM] at hM; subst hM
    simp only [findKey, Option.some.injEq] at h; subst h
    exact ⟨none, by simp [Instr.findAsking], rfl⟩
  | (n, k', v) :: es, _, i, r, hM, h => by
    simp only [RepM] at hM
    obtain ⟨c, cs, rfl, _, h1, h2, h3⟩ := hM
    simp only [findKey] at h
    cases hq : eqT false et k k' with
    | none => simp [hq] at h
    | some b =>
      have he : (Op.equal t u c.key).run P w = .ok b w := eqT_ok false 8 t et het Op.maxDepth (by decide) k k' b _ _ hq hk h1
      cases b
      · simp only [hq] at h
        obtain ⟨r', g1, g2⟩ := findAsking_ok het hk es cs (i + 1) r h3 h
        exact ⟨r', by simp [Instr.findAsking, he, g1], g2⟩
      · simp only [hq, Option.some.injEq] at h; subst h
        exact ⟨some (i, c.val), by simp [Instr.findAsking, he], _, rfl, h2⟩

theorem findKey_ok {t : TypeId} {et : ET} {k : D} {u : Value} (het : etB P 8 t = some et) (hk : Rep ρ w k u) {es : List (Nat × D × D)} {ces : List MapEntry} {r : Option (Nat × D)} (hM : RepM ρ w es ces) (h : findKey et k es 0 = some r) :
    ∃ r', (Instr.findKey t u ces).run P w = .ok r' w ∧ Found ρ w r r' := by
  cases hu : P.underlying t with
  | none => simp [etB, hu] at het
  | some e =>
    simp only [Instr.findKey, Sem.run_bind, run_underlying hu, Result.andThen_ok]
    cases hn : Instr.findNow e u ces 0 with
    | some r' => exact ⟨r', by simp, findNow_ok hu het hk es ces 0 r r' hM h hn⟩
    | none =>
      obtain ⟨r', g1, g2⟩ := findAsking_ok (P := P) het hk es ces 0 r hM h
      exact ⟨r', by simpa using g1, g2⟩
end Go.Ab
