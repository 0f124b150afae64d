/- Operations, one by one: calls through interfaces. -/
import Derived.Test.YtdfalhpbanhmeaaGreatDoorB2
namespace Go.Ab
open Go
set_option linter.unusedSectionVars false
set_option linter.unusedSimpArgs false
set_option linter.unusedVariables false
variable [Vals]
variable {ρ ρ' : Gh} {w w' : World} {P : Program} {pn : Pins} {G : Gl} {X : Exts} {A : Adv} {s s' : St} {env : Env} {a : Act} {lo : Nat} {d : D} {C : Caller} {al : Option Nat}

theorem tblR_mem : ∀ {l : List (Nat × Nat × Recv)} {t : Nat} {r : Nat × Recv}, tblR l t = some r → (t, r) ∈ l
  | [], _, _, h => by simp [tblR] at h
  | (x, g) :: r, t, f, h => by
    simp only [tblR] at h
    split at h
    · rename_i hb
      obtain rfl := Nat.eq_of_beq_eq_true hb
      simp only [Option.some.injEq] at h; subst h
      exact List.mem_cons_self
    · exact List.mem_cons_of_mem _ (tblR_mem h)

theorem methodB_spec {name : String} {t f : Nat} {r : Recv} (h : tblR (methodB P name) t = some (f, r)) : ∃ i m ptr, P.types[t]? = some i ∧ i.methods.find? (·.name == name) = some m ∧ m.func = some (f, ptr) ∧ recvR P t m.path.toList ptr = some r := by
  have hm := tblR_mem h
  unfold methodB at hm
  simp only [List.mem_filterMap, Prod.exists] at hm
  obtain ⟨i, t', h1, h2⟩ := hm
  rw [List.mem_zipIdx_iff_getElem?] at h1
  split at h2
  · rename_i m hm
    split at h2
    · rename_i g ptr hf
      simp only [Option.map_eq_some_iff, Prod.mk.injEq] at h2
      obtain ⟨r', h2, rfl, rfl, rfl⟩ := h2
      exact ⟨i, m, ptr, by simpa using h1, hm, hf, h2⟩
    · cases h2
  · cases h2

theorem tkind_some {e : Option TypeDesc} {k : Nat} (h : tkind e = k) (hk : k = 0 ∨ k = 1) : ∃ q, e = some q := by
  unfold tkind at h
  split at h <;> first | exact ⟨_, rfl⟩ | omega
/-- A receiver as it is. -/
theorem rcv_get {xt : TypeId} {x : Place} {ptr : Bool} {wr : Option String} (h : (tkind (P.underlying xt) = 0 ∧ ptr = true) ∨ (tkind (P.underlying xt) = 1 ∧ ptr = false)) : (receiverAt xt x ptr wr).run P w = (x.get xt).run P w := by
  have hq : ∃ q, P.underlying xt = some q := h.elim (fun h => tkind_some h.1 (.inl rfl)) (fun h => tkind_some h.1 (.inr rfl))
  obtain ⟨q, hq⟩ := hq
  rw [hq] at h
  unfold receiverAt
  rw [Sem.run_bind, run_underlying hq]
  rcases h with ⟨h, rfl⟩ | ⟨h, rfl⟩ <;> cases q <;> first
    | (simp [tkind] at h; done)
    | (cases x <;> rfl)
theorem rcv_addr {xt : TypeId} {a : Addr} {wr : Option String} (h : tkind (P.underlying xt) = 1) : (receiverAt xt (.var a) true wr).run P w = .ok (.pointer (some a)) w := by
  obtain ⟨q, hq⟩ := tkind_some h (.inr rfl)
  rw [hq] at h
  unfold receiverAt
  rw [Sem.run_bind, run_underlying hq]
  cases q <;> first
    | (simp [tkind] at h; done)
    | rfl
theorem fadd_ok {off : Nat} {x y : D} {v : Value} (h : fadd off x = some y) (hv : Rep ρ w x v) : ∃ a, v = .pointer (some a) ∧ Rep ρ w y (.pointer (some (a.add off))) := by
  unfold fadd at h
  split at h
  · rename_i o c
    simp only [Option.some.injEq] at h; subst h
    simp only [Rep] at hv ⊢
    unfold Gh.at at *
    split at hv
    · exact hv.elim
    · obtain ⟨q, rfl⟩ := hv; exact ⟨q, rfl, _, rfl⟩
    · obtain ⟨b, hb, rfl⟩ := hv; exact ⟨_, rfl, b, hb, by rw [Addr.add_mid]⟩
  · rename_i o i c e
    simp only [Option.some.injEq] at h; subst h
    simp only [Rep] at hv ⊢
    unfold Gh.at at *
    split at hv
    · exact hv.elim
    · obtain ⟨q, rfl⟩ := hv; exact ⟨q, rfl, _, rfl⟩
    · obtain ⟨b, hb, h1, h2, h3, rfl⟩ := hv; exact ⟨_, rfl, b, hb, h1, h2, h3, by rw [Addr.add_mid, Nat.add_assoc]⟩
  · rename_i e c
    simp only [Option.some.injEq] at h; subst h
    simp only [Rep] at hv ⊢
    obtain ⟨b, x, u, h1, h2, h3, h4, rfl⟩ := hv
    exact ⟨_, rfl, b, x, u, h1, h2, h3, h4, by rw [Addr.add_mid, Nat.add_assoc]⟩
  · cases h
theorem path_one {p : Array FieldStep} {st : FieldStep} (h : p.toList = [st]) : p.isEmpty = false := by
  cases hp : p.isEmpty with
  | false => rfl
  | true =>
    have : p = #[] := by simpa using hp
    rw [this] at h; cases h
theorem recv_ok (hs : StRel ρ s w) {name : String} {t f n : Nat} {r : Recv} {v v' : D} {u : Value} (h : tblR (methodB P name) t = some (f, r)) (hr : recvD s v r = some v') (hv : Rep ρ w v u) :
    ∃ u', (method (n + 1) t u name).run P w = .ok (f, u') w ∧ Rep ρ w v' u' := by
  obtain ⟨i, m, ptr, g1, g2, g3, g4⟩ := methodB_spec h
  unfold recvR at g4
  split at g4
  · rename_i hpath
    have key : (tkind (P.underlying t) = 0 ∧ ptr = true) ∨ (tkind (P.underlying t) = 1 ∧ ptr = false) → r = .self → ∃ u', (method (n + 1) t u name).run P w = .ok (f, u') w ∧ Rep ρ w v' u' := by
      rintro hk rfl
      simp only [recvD, Option.some.injEq] at hr; subst hr
      refine ⟨u, ?_, hv⟩
      simp only [method, typeInfo]
      simp [info_lt g1, g2, hpath, follow, g3, rcv_get hk, Place.get]
    split at g4
    · rename_i hk
      simp only [Option.some.injEq] at g4
      exact key (.inl ⟨hk, rfl⟩) g4.symm
    · rename_i hk
      simp only [Option.some.injEq] at g4
      exact key (.inr ⟨hk, rfl⟩) g4.symm
    · cases g4
  · rename_i st hpath
    have hne := path_one hpath
    split at g4
    · rename_i fs hst
      split at g4
      · rename_i fl hfl
        have stepD : st.deref = true → ∀ (a : Addr) (m0 : Nat), u = .pointer (some a) → sizeB P fl.type = some (m0 + 1) → (follow [st] t (.val u)).run P w = .ok (fl.type, .var (a.add fl.offset)) w := by
          intro hd a m0 hu hsz
          subst hu
          simp [follow, run_underlying hst, hfl, hd, Place.get, asAddr, fieldPlace, sizeOf_run hsz]
        split at g4
        · rename_i hd
          split at g4
          · rename_i hk
            simp only [Bool.and_eq_true, Nat.beq_eq] at hk
            obtain ⟨hk, hptr⟩ := hk
            subst hptr
            split at g4
            · rename_i m0 hsz
              simp only [Option.some.injEq] at g4; subst g4
              simp only [recvD] at hr
              obtain ⟨a, hu, ha⟩ := fadd_ok hr hv
              refine ⟨_, ?_, ha⟩
              simp only [method, typeInfo]
              simp [info_lt g1, g2, hpath, stepD hd a m0 hu hsz, g3, hne, rcv_addr hk]
            · cases g4
          split at g4
          · rename_i m0 sz hkb hsz hsh
            simp only [Option.some.injEq] at g4; subst g4
            simp only [recvD] at hr
            split at hr
            · rename_i p hp
              obtain ⟨a, hu, ha⟩ := fadd_ok hp hv
              obtain ⟨u', k1, k2⟩ := load_ok (P := P) hs hsh hr ha
              have hk : (tkind (P.underlying fl.type) = 0 ∧ ptr = true) ∨ (tkind (P.underlying fl.type) = 1 ∧ ptr = false) := by
                simp only [Bool.or_eq_true, Bool.and_eq_true, Nat.beq_eq, Bool.not_eq_true'] at hkb
                exact hkb
              have k1' : (loadVar fl.type (a.add fl.offset)).run P w = .ok u' w := by
                simpa [Instr.loadAt, Instr.sureAddr] using k1
              refine ⟨u', ?_, k2⟩
              simp only [method, typeInfo]
              simp [info_lt g1, g2, hpath, stepD hd a m0 hu hsz, g3, hne, rcv_get hk, Place.get, k1']
            · cases hr
          · cases g4
        · rename_i hd
          split at g4
          · rename_i sz hkb hsh
            simp only [Option.some.injEq] at g4; subst g4
            simp only [recvD] at hr
            split at hr
            · rename_i cs
              simp only [Rep] at hv
              obtain ⟨vs, rfl, hl, hsc⟩ := hv
              obtain ⟨u', k1, k2⟩ := run_part (P := P) (w := w) hl hsc hsh hr
              have hk : (tkind (P.underlying fl.type) = 0 ∧ ptr = true) ∨ (tkind (P.underlying fl.type) = 1 ∧ ptr = false) := by
                simp only [Bool.or_eq_true, Bool.and_eq_true, Nat.beq_eq, Bool.not_eq_true'] at hkb
                exact hkb
              refine ⟨u', ?_, k2⟩
              simp only [method, typeInfo]
              simp [info_lt g1, g2, hpath, follow, run_underlying hst, hfl, hd, k1, g3, hne, rcv_get hk, Place.get]
            · cases hr
          · cases g4
      · cases g4
    · cases g4
  · cases g4

section
variable (he : EnvRel ρ w lo env a.tmps) (hg : GlOk pn G ρ w) (hs : StRel ρ s w)
include he hg hs

theorem ok_invoke (hC : CallerOk pn P G C) {x' : Operand} {name : String} {x : Opd} {args' : Array Operand} {args : List Opd} (hx : opd G x' = some x) (ha : opds G args' = some args) (h : opF C env s al (.invoke (methodB P name) x args) = some (d, s')) {o : Oper} {tys : Array TypeId}
    (ho : o.op = .call { callee := .invoke x' name, args := args', argTypes := tys }) : OpOk P ρ w env a.tmps d s' ((execOp a.eval o).run P w) := by
  simp only [opF] at h
  split at h
  · rename_i t v l hxv hl
    split at h
    · rename_i f r hf
      split at h
      · rename_i v' hrv
        have hr := evs_rep he hg _ _ l ha hl
        have hv := opd_rep hx he hg hxv
        simp only [Rep] at hv
        obtain ⟨u, hv, hu⟩ := hv
        obtain ⟨u', hmeth, hu'⟩ := recv_ok (n := P.types.size + 99) hs hf hrv hu
        have hq : RepL ρ w (v' :: l) (u' :: List.map a.eval args'.toList) := by simp only [RepL]; exact ⟨u', _, rfl, hu', hr⟩
        have hrun : (execOp a.eval o).run P w = .ok (.enter f (#[u'] ++ args'.map a.eval)) w := by
          simp only [execOp, ho, resolve, hv]
          have := hC.enter _ _ _ _ h (.inr hq.yS) (#[u'] ++ args'.map a.eval) w
          have hd : P.types.size + Made.depth = (P.types.size + 99) + 1 := rfl
          have hex : (#[Value.iface t u] ++ args'.map a.eval).extract 1 (#[Value.iface t u] ++ args'.map a.eval).size = args'.map a.eval := by
            apply Array.ext'
            simp only [Array.toList_extract, Array.toList_append, Array.toList_map, Array.size_append, Array.size_map, List.size_toArray, List.length_cons, List.length_nil, List.cons_append, List.nil_append, List.extract_eq_take_drop, List.drop_succ_cons, List.drop_zero]
            exact List.take_of_length_le (by simp)
          have h0 : (#[Value.iface t u] ++ args'.map a.eval)[0]? = some (.iface t u) := by simp [Array.getElem?_append]
          have hm1 : (callMethod (.iface t u) name (args'.map a.eval)).run P w = .ok (.enter f (#[u'] ++ args'.map a.eval)) w := by
            simp [callMethod, hd, hmeth, this]
          show (do let d ← (pure { target := .fn (.method name) #[], args := #[Value.iface t u] ++ args'.map a.eval } : Sem Deferred); Go.invoke d.target d.args : Sem Next).run P w = _
          simp only [Sem.run_bind, Sem.run_pure, Result.andThen_ok, invoke, h0, hex]
          exact hm1
        rw [hrun]
        refine ⟨rfl, ?_⟩
        have := hC.calls _ _ _ _ _ ρ w (u' :: List.map a.eval args'.toList) h hs hg (by simp only [RepL]; exact ⟨u', _, rfl, hu', hr⟩)
        have e : (u' :: List.map a.eval args'.toList).toArray = #[u'] ++ args'.map a.eval := by
          apply Array.ext'; simp
        rwa [e] at this
      · cases h
    · cases h
  · cases h
end
end Go.Ab
