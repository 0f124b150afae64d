/- Operations, one by one: comparing, structs built, texts cut, addresses, reading. -/
import Derived.Test.YtdfalhpbanhmeaaGreatDoorA7
namespace Go.Ab
open Go
set_option linter.unusedSectionVars false
set_option linter.unusedSimpArgs false
set_option linter.unusedVariables false
variable [Vals]
variable {ρ : Gh} {w : World} {P : Program} {pn : Pins} {G : Gl} {X : Exts} {A : Adv} {s s' : St} {env : Env} {a : Act} {lo : Nat} {d : D} {C : Caller} {al : Option Nat}

/-! ### '==' -/
def plainV : Value → Bool
  | .int .. | .string _ | .float .. | .complex .. => false
  | _ => true
theorem binOp_eql {t : TypeId} {u v : Value} (h : plainV u = true) : binOp .eql t u v = (do pure (.bool (← Op.equal t u v))) := by
  cases u <;> simp only [plainV] at h <;> (try cases h) <;> cases v <;> rfl
theorem binOp_neq {t : TypeId} {u v : Value} (h : plainV u = true) : binOp .neq t u v = (do pure (.bool (!(← Op.equal t u v)))) := by
  cases u <;> simp only [plainV] at h <;> (try cases h) <;> cases v <;> rfl

theorem eqT_plain {oc : Bool} {et : ET} {x y : D} {r : Bool} {u v : Value} (h : eqT oc et x y = some r) (h1 : et ≠ .int) (h2 : et ≠ .str) (hu : Rep ρ w x u) (hv : Rep ρ w y v) :
    plainV u = true ∧ (u = .nilIface → v = .nilIface → oc = true) ∧ (∀ p q, u = .agg p → v = .agg q → ∃ l, et = .st l) := by
  have sp : ∀ {d : D} {q : Value}, Rep ρ w d q → (∃ o c, d = .ptr o c) ∨ (∃ o i c e, d = .eptr o i c e) ∨ (∃ e c, d = .vptr e c) ∨ d = .nilp → ∃ p, q = .pointer p := by
    intro d q hq hs
    rcases hs with ⟨o, c, rfl⟩ | ⟨o, i, c, e, rfl⟩ | ⟨e, c, rfl⟩ | rfl <;> simp only [Rep] at hq
    · obtain ⟨p, rfl⟩ := Gh.at_any hq fun _ _ q => ⟨_, q⟩; exact ⟨_, rfl⟩
    · obtain ⟨p, rfl⟩ := Gh.at_any hq fun _ _ q => ⟨_, q.2.2.2⟩; exact ⟨_, rfl⟩
    · obtain ⟨_, _, _, _, _, _, _, rfl⟩ := hq; exact ⟨_, rfl⟩
    · exact ⟨_, hq⟩
  have ss : ∀ {d : D} {q : Value}, Rep ρ w d q → (∃ n z l, d = .vs n z l) ∨ (∃ o a b c, d = .sl o a b c) → ∃ p n c, q = .slice p n c := by
    intro d q hq hs
    rcases hs with ⟨n, z, l, rfl⟩ | ⟨o, a, b, c, rfl⟩ <;> simp only [Rep] at hq
    · rcases hq with ⟨_, _, rfl⟩ | ⟨_, _, _, rfl, _⟩ <;> exact ⟨_, _, _, rfl⟩
    · obtain ⟨p, c, rfl⟩ := Gh.at_any hq fun _ _ ⟨_, _, _, _, _, q, _⟩ => ⟨_, _, q⟩; exact ⟨_, _, _, rfl⟩
  cases et with
  | int => exact absurd rfl h1
  | str => exact absurd rfl h2
  | bool =>
    simp only [eqT] at h
    obtain ⟨_, _, rfl, _, _⟩ := eqB1_spec h hu hv
    simp [plainV]
  | ptr =>
    simp only [eqT] at h
    split at h <;> (try cases h)
    all_goals
      obtain ⟨p, rfl⟩ := sp hu (by simp)
      simp [plainV]
  | slice =>
    simp only [eqT] at h
    split at h <;> (try cases h)
    all_goals
      obtain ⟨p, n, c, rfl⟩ := ss hu (by simp)
      simp [plainV]
  | map =>
    simp only [eqT] at h
    split at h <;> (try cases h)
    · simp only [Rep] at hu; subst hu; simp [plainV]
    · simp only [Rep] at hu; subst hu; simp [plainV]
    · simp only [Rep] at hu; obtain ⟨p, rfl⟩ := Gh.at_any hu fun _ _ q => ⟨_, q⟩; simp [plainV]
  | func =>
    simp only [eqT] at h
    split at h <;> (try cases h)
    · simp only [Rep] at hu; subst hu; simp [plainV]
    · simp only [Rep] at hu; subst hu; simp [plainV]
    · simp only [Rep] at hu; obtain ⟨_, _, rfl, _⟩ := hu; simp [plainV]
  | iface =>
    simp only [eqT] at h
    split at h <;> (try cases h)
    · split at h
      · simp only [Rep] at hu; subst hu; simp [plainV]
      · cases h
    · simp only [Rep] at hu hv; subst hu; obtain ⟨_, rfl, _⟩ := hv; simp [plainV]
    · simp only [Rep] at hu hv; subst hv; obtain ⟨_, rfl, _⟩ := hu; simp [plainV]
    · simp only [Rep] at hu hv; obtain ⟨_, rfl, _⟩ := hu; simp [plainV]
  | st l =>
    simp only [eqT] at h
    split at h
    · simp only [Rep] at hu; obtain ⟨_, rfl, _⟩ := hu; simp [plainV]
    · cases h

theorem guard_ok {op : BinOp} {t : TypeId} {px py : Operand} {u v : Value} (hn : u = .nilIface → v = .nilIface → (constB px || constB py) = true) (hag : ∀ p q, u = .agg p → v = .agg q → P.eqGuardType P.depth t = false) :
    (eqGuard op t px py u v).run P w = .ok () w := by
  by_cases hop : op = .eql ∨ op = .neq
  · by_cases h1 : u = .nilIface ∧ v = .nilIface
    · obtain ⟨rfl, rfl⟩ := h1
      have := hn rfl rfl
      rcases hop with rfl | rfl <;> cases px <;> cases py <;> first | (simp [eqGuard]; done) | (exact absurd this (by simp [constB]))
    · by_cases h2 : (∃ p, u = .agg p) ∧ ∃ q, v = .agg q
      · obtain ⟨⟨p, rfl⟩, q, rfl⟩ := h2
        exact run_eqGuard_agg w op t px py p q (hag p q rfl rfl)
      · rcases hop with rfl | rfl <;> cases u <;> cases v <;> first | (simp [eqGuard]; done) | (exact absurd ⟨rfl, rfl⟩ h1) | (exact absurd ⟨⟨_, rfl⟩, ⟨_, rfl⟩⟩ h2)
  · cases op <;> first | (exact absurd (Or.inl rfl) hop) | (exact absurd (Or.inr rfl) hop) | simp [eqGuard]

theorem equalIn_ptr (d : Nat) {t e : TypeId} {m : Nat} (ht : P.underlying t = some (.pointer e)) (hsz : (sizeOf e).run P w = .ok (m + 1) w) (p q : Addr) :
    (Op.equalIn (d + 1) t (.pointer (some p)) (.pointer (some q))).run P w = (sameAddr p q).run P w := by
  simp only [Op.equalIn, Sem.run_bind, run_underlying ht, Result.andThen_ok, hsz]
  simp

/-- Two pointers to variables of their own. -/
theorem eqP_ok {x y : D} {r : Bool} {u v : Value} {t e : TypeId} {m : Nat} (hs : StRel ρ s w) (ht : P.underlying t = some (.pointer e)) (hm : sizeB P e = some (m + 1)) (h : eqP s x y = some r) (hu : Rep ρ w x u) (hv : Rep ρ w y v) :
    (∃ p, u = .pointer (some p)) ∧ (Op.equal t u v).run P w = .ok r w := by
  unfold eqP at h
  split at h
  · rename_i o c o' c'
    split at h
    · rename_i t1 d1 t2 d2 h1 h2
      simp only [Option.some.injEq] at h; subst h
      obtain ⟨b1, v1, k1, one1, _, hb1, hp1, _⟩ := hs.ok _ _ h1
      obtain ⟨b2, v2, k2, one2, _, hb2, hp2, _⟩ := hs.ok _ _ h2
      simp only [Rep, Gh.at, k1, k2] at hu hv
      obtain ⟨b1', hb1', rfl⟩ := hu
      obtain ⟨b2', hb2', rfl⟩ := hv
      obtain rfl := one1.2 _ hb1'
      obtain rfl := one2.2 _ hb2'
      refine ⟨⟨_, rfl⟩, ?_⟩
      have hsz : (sizeOf e).run P w = .ok (m + 1) w := by
        cases hq : P.info? e with
        | none => simp [sizeB, hq] at hm
        | some i =>
          have : i.size = m + 1 := by simpa [sizeB, hq] using hm
          simp [sizeOf, typeInfo, hq, this]
      have hsame : (sameAddr ⟨b1', c, none⟩ ⟨b2', c', none⟩).run P w = .ok (Nat.beq o o' && Nat.beq c c') w := by
        by_cases hbb : b1' = b2'
        · subst hbb
          have hoo : o = o' := by
            have := hb1'.symm.trans hb2'
            simpa using this
          subst hoo
          have e1 : Nat.beq o o = true := Nat.beq_refl o
          have e2 : ((⟨b1', c, none⟩ : Addr) == ⟨b1', c', none⟩) = Nat.beq c c' := by
            rw [Bool.eq_iff_iff, beq_iff_eq, Nat.beq_eq]
            simp
          simp [sameAddr, e2]
        · have hoo : o ≠ o' := fun h => hbb (by subst h; exact (one1.2 _ hb2').symm)
          have e1 : Nat.beq o o' = false := T.beq_f hoo
          have f1 : ∀ x, w.frozen? ⟨b1', x, none⟩ = false := fun x => by simp [World.frozen?, hb1]
          have f2 : ∀ x, w.frozen? ⟨b2', x, none⟩ = false := fun x => by simp [World.frozen?, hb2]
          have s1 : w.shape? b1' = some (t1, v1.cells.size) := by simp [World.shape?, hb1]
          have s2 : w.shape? b2' = some (t2, v2.cells.size) := by simp [World.shape?, hb2]
          simp [sameAddr, hbb, f1, f2, noView, viewAt, s1, s2, mayBeOne, stringish, e1]
      exact (equalIn_ptr 9999 ht hsz _ _).trans hsame
    · cases h
  · cases h

section
variable (he : EnvRel ρ w lo env a.tmps) (hg : GlOk pn G ρ w) (hs : StRel ρ s w)
include he hg hs

theorem ok_eq {op : BinOp} {neg oc : Bool} {et : ET} {t u : TypeId} {x' y' : Operand} {x y : Opd} (hx : opd G x' = some x) (hy : opd G y' = some y) (het : etB P 8 t = some et) (h1 : et ≠ .int) (h2 : et ≠ .str)
    (hop : (op = .eql ∧ neg = false) ∨ (op = .neq ∧ neg = true)) (hoc : oc = (constB x' || constB y')) (hgd : ∀ l, et = .st l → P.eqGuardType P.depth t = false)
    (h : opF C env s al (.eq et neg oc x y) = some (d, s')) {o : Oper} (ho : o.op = .binOp op t x' y' u) : OpOk P ρ w env a.tmps d s' ((execOp a.eval o).run P w) := by
  simp only [opF] at h
  split at h
  · rename_i p q hp hq
    have hu := opd_rep hx he hg hp
    have hv := opd_rep hy he hg hq
    have fin : ∀ r : Bool, (eqGuard op t x' y' (a.eval x') (a.eval y')).run P w = .ok () w → plainV (a.eval x') = true → (Op.equal t (a.eval x') (a.eval y')).run P w = .ok r w → (execOp a.eval o).run P w = .ok (.value (.bool (r != neg))) w := by
      intro r hgu hpl heq
      simp only [execOp, ho, Sem.run_bind, hgu, Result.andThen_ok]
      rcases hop with ⟨rfl, rfl⟩ | ⟨rfl, rfl⟩
      · simp [binOp_eql hpl, heq]
      · simp [binOp_neq hpl, heq]
    split at h
    · rename_i r hr
      simp only [Option.some.injEq, Prod.mk.injEq] at h
      obtain ⟨rfl, rfl⟩ := h
      obtain ⟨e1, e2, e3⟩ := eqT_plain hr h1 h2 hu hv
      have heq : (Op.equal t (a.eval x') (a.eval y')).run P w = .ok r w := eqT_ok oc 8 t et het Op.maxDepth (by decide) p q r _ _ hr hu hv
      rw [fin r (guard_ok (fun a b => hoc ▸ e2 a b) (fun a b c d => hgd _ (e3 a b c d).choose_spec)) e1 heq]
      exact .rep hs (by simp [Rep])
    · split at h
      · split at h
        · rename_i r hr
          simp only [Option.some.injEq, Prod.mk.injEq] at h
          obtain ⟨rfl, rfl⟩ := h
          have hpt : ∃ e m, P.underlying t = some (.pointer e) ∧ sizeB P e = some (m + 1) := by
            simp only [etB] at het
            split at het <;> (try cases het)
            · rename_i e hun
              split at het
              · rename_i m hm; exact ⟨e, m, hun, hm⟩
              · cases het
            · split at het
              · cases het
              · simp at het
          obtain ⟨e, m, hun, hm⟩ := hpt
          obtain ⟨⟨pp, hpp⟩, heq⟩ := eqP_ok (P := P) hs hun hm hr hu hv
          rw [fin r (guard_ok (fun a _ => by rw [hpp] at a; cases a) (fun a _ b _ => by rw [hpp] at b; cases b)) (by rw [hpp]; rfl) heq]
          exact .rep hs (by simp [Rep])
        · cases h
      · cases h
  · cases h
end
end Go.Ab
