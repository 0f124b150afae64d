/- Operations, one by one: those that leave the world alone. -/
import Derived.Test.YtdfalhpbanhmeaaGreatDoorA6
namespace Go.Ab
open Go
set_option linter.unusedSectionVars false
set_option linter.unusedSimpArgs false
set_option linter.unusedVariables false
variable [Vals]
variable {ρ : Gh} {w : World} {P : Program} {pn : Pins} {G : Gl} {X : Exts} {A : Adv} {s s' : St} {env : Env} {a : Act} {lo : Nat} {d : D} {C : Caller} {al : Option Nat}

/-- What is asked behind a call. -/
def CallPost (ρ : Gh) (w : World) (s' : St) (d : D) : Ending → World → Prop
  | .returned v, w' => ∃ ρ', Kp ρ w ρ' w' ∧ StRel ρ' s' w' ∧ Rep ρ' w' d v
  | .panicked _, _ => False
  | .outgrown, _ => False

/-- What is asked of an operation's outcome. -/
def OpOk (P : Program) (ρ : Gh) (w : World) (env : Env) (tmps : Array Value) (d : D) (s' : St) : Result Next → Prop
  | .ok (.value v) w' => ∃ ρ', Kp ρ w ρ' w' ∧ StRel ρ' s' w' ∧ ResRel ρ' w' env tmps d v
  | .ok .skip w' => ∃ ρ', Kp ρ w ρ' w' ∧ StRel ρ' s' w' ∧ d = .tup []
  | .ok (.enter f args) w' => w' = w ∧ Calls P f args w (CallPost ρ w s' d)
  | .ok (.round l fn tmps assign body) w' => w' = w ∧ RoundIn Fence.wide 0 P l fn tmps assign body w (CallPost ρ w s' d)
  | _ => False

theorem OpOk.pure {v : Value} {tmps : Array Value} (hs : StRel ρ s w) (h : ResRel ρ w env tmps d v) : OpOk P ρ w env tmps d s (.ok (.value v) w) := ⟨ρ, Kp.refl _ _, hs, h⟩
theorem OpOk.rep {v : Value} {tmps : Array Value} (hs : StRel ρ s w) (h : Rep ρ w d v) : OpOk P ρ w env tmps d s (.ok (.value v) w) := .pure hs (.of_rep h)

theorem ofO_some {o : Option D} (h : ofO s o = some (d, s')) : o = some d ∧ s' = s := by
  cases o with
  | none => simp [ofO] at h
  | some x => simp only [ofO, Option.some.injEq, Prod.mk.injEq] at h; exact ⟨by rw [h.1], h.2.symm⟩
theorem ofS_some {x : D} {o : Option St} (h : ofS x o = some (d, s')) : o = some s' ∧ d = x := by
  cases o with
  | none => simp [ofS] at h
  | some y => simp only [ofS, Option.some.injEq, Prod.mk.injEq] at h; exact ⟨by rw [h.2], h.1.symm⟩

section
variable (he : EnvRel ρ w lo env a.tmps) (hg : GlOk pn G ρ w) (hs : StRel ρ s w)
include he hg hs

theorem ok_mv {x' : Operand} {x : Opd} (hx : opd G x' = some x) (h : opF C env s al (.mv x) = some (d, s')) {o : Oper} (ho : o.op = .move x' ∨ o.op = .assign x') :
    OpOk P ρ w env a.tmps d s' ((execOp a.eval o).run P w) := by
  simp only [opF] at h
  obtain ⟨h1, rfl⟩ := ofO_some h
  have hr : (execOp a.eval o).run P w = .ok (.value (a.eval x')) w := by rcases ho with ho | ho <;> simp [execOp, ho]
  rw [hr]
  exact .pure hs (opd_rel hx he hg h1)

theorem ok_pick {c' x' y' : Operand} {c x y : Opd} (hc : opd G c' = some c) (hx : opd G x' = some x) (hy : opd G y' = some y) (h : opF C env s al (.pick c x y) = some (d, s')) {o : Oper} (ho : o.op = .pick c' x' y') :
    OpOk P ρ w env a.tmps d s' ((execOp a.eval o).run P w) := by
  simp only [opF] at h
  split at h
  · rename_i t ht
    have h1 := opd_rep hc he hg ht
    simp only [Rep] at h1
    split at h
    · obtain ⟨h2, rfl⟩ := ofO_some h
      have hr : (execOp a.eval o).run P w = .ok (.value (a.eval x')) w := by simp [execOp, ho, h1, asBool]
      rw [hr]; exact .rep hs (opd_rep hx he hg h2)
    · obtain ⟨h2, rfl⟩ := ofO_some h
      have hr : (execOp a.eval o).run P w = .ok (.value (a.eval y')) w := by simp [execOp, ho, h1, asBool]
      rw [hr]; exact .rep hs (opd_rep hy he hg h2)
  · cases h

omit he hg hs in
theorem isLv_some {b : Nat} (h : env.isLv b = true) : ∃ x, env.get b = some (.lv x) := by
  unfold Env.isLv at h
  split at h
  · rename_i x hx; exact ⟨x, hx⟩
  · cases h

theorem ok_nilchk {x' : Operand} {x : Opd} (hx : opd G x' = some x) (h : opF C env s al (.nilchk x) = some (d, s')) {o : Oper} (ho : o.op = .nilCheck x') :
    OpOk P ρ w env a.tmps d s' ((execOp a.eval o).run P w) := by
  have key : ∀ (v : Value), a.eval x' = v → (match v with | .pointer (some _) => true | .iface _ _ => true | .func (.func _) _ _ => true | _ => false) = true →
      (execOp a.eval o).run P w = .ok (.value (a.eval x')) w := by
    intro v hv hm
    cases v with
    | pointer p => cases p with
      | none => simp at hm
      | some q => simp [execOp, ho, hv]
    | iface t u => simp [execOp, ho, hv]
    | func f x y => cases f with
      | func f => simp [execOp, ho, hv]
      | _ => simp at hm
    | _ => simp at hm
  simp only [opF] at h
  have hr := fun e => opd_rel (d := e) hx he hg
  split at h
  · rename_i b c hp
    have h1 := hr _ hp
    split at h
    · rename_i hlv
      simp only [Option.some.injEq, Prod.mk.injEq] at h
      obtain ⟨rfl, rfl⟩ := h
      obtain ⟨y, hy⟩ := isLv_some hlv
      obtain ⟨bb, _, h3⟩ := h1 y hy
      rw [key _ h3 rfl]
      exact .pure hs h1
    · cases h
  · rename_i b c hp
    simp only [Option.some.injEq, Prod.mk.injEq] at h
    obtain ⟨rfl, rfl⟩ := h
    have h1 := hr _ hp
    have h2 := h1
    simp only [ResRel, Rep] at h2
    obtain ⟨q, hq⟩ := Gh.at_any h2 fun _ _ q => ⟨_, q⟩
    rw [key _ hq rfl]
    exact .pure hs h1
  · rename_i b i c e hp
    simp only [Option.some.injEq, Prod.mk.injEq] at h
    obtain ⟨rfl, rfl⟩ := h
    have h1 := hr _ hp
    have h2 := h1
    simp only [ResRel, Rep] at h2
    obtain ⟨q, hq⟩ := Gh.at_any h2 fun _ _ q => ⟨_, q.2.2.2⟩
    rw [key _ hq rfl]
    exact .pure hs h1
  · rename_i e c hp
    simp only [Option.some.injEq, Prod.mk.injEq] at h
    obtain ⟨rfl, rfl⟩ := h
    have h1 := hr _ hp
    have h2 := h1
    simp only [ResRel, Rep] at h2
    obtain ⟨_, _, _, _, _, _, _, hq⟩ := h2
    rw [key _ hq rfl]
    exact .pure hs h1
  · rename_i t v hp
    simp only [Option.some.injEq, Prod.mk.injEq] at h
    obtain ⟨rfl, rfl⟩ := h
    have h1 := hr _ hp
    have h2 := h1
    simp only [ResRel, Rep] at h2
    obtain ⟨_, hq, _⟩ := h2
    rw [key _ hq rfl]
    exact .pure hs h1
  · rename_i f x y hp
    simp only [Option.some.injEq, Prod.mk.injEq] at h
    obtain ⟨rfl, rfl⟩ := h
    have h1 := hr _ hp
    have h2 := h1
    simp only [ResRel, Rep] at h2
    obtain ⟨_, _, hq, _⟩ := h2
    rw [key _ hq rfl]
    exact .pure hs h1
  · cases h

theorem ok_bin {op : BinOp} {t u : TypeId} {x' y' : Operand} {x y : Opd} (hx : opd G x' = some x) (hy : opd G y' = some y) (h : opF C env s al (.bin op x y) = some (d, s')) {o : Oper} (ho : o.op = .binOp op t x' y' u) :
    OpOk P ρ w env a.tmps d s' ((execOp a.eval o).run P w) := by
  simp only [opF] at h
  split at h
  · rename_i p q hp hq
    obtain ⟨h1, rfl⟩ := ofO_some h
    obtain ⟨r, h2, h3⟩ := bin_ok (P := P) (opd_rep hx he hg hp) (opd_rep hy he hg hq) h1 t x' y'
    have hr : (execOp a.eval o).run P w = .ok (.value r) w := by
      simp only [execOp, ho]
      rw [Sem.run_bind, h2]; rfl
    rw [hr]; exact .rep hs h3
  · cases h

theorem ok_un {op : UnOp} {t : TypeId} {x' : Operand} {x : Opd} (hx : opd G x' = some x) (h : opF C env s al (.un op x) = some (d, s')) {o : Oper} (ho : o.op = .unOp op t x') :
    OpOk P ρ w env a.tmps d s' ((execOp a.eval o).run P w) := by
  simp only [opF] at h
  split at h
  · rename_i p hp
    obtain ⟨h1, rfl⟩ := ofO_some h
    obtain ⟨r, h2, h3⟩ := un_ok (P := P) (opd_rep hx he hg hp) h1
    have hr : (execOp a.eval o).run P w = .ok (.value r) w := by
      simp only [execOp, ho]
      rw [Sem.run_bind, h2]; rfl
    rw [hr]; exact .rep hs h3
  · cases h

theorem ok_mkif {t : TypeId} {x' : Operand} {x : Opd} (hx : opd G x' = some x) (ht : ∃ e, P.underlying t = some e ∧ ∀ ms, e ≠ .interface ms) (h : opF C env s al (.mkif t x) = some (d, s')) {o : Oper} (ho : o.op = .makeInterface t x') :
    OpOk P ρ w env a.tmps d s' ((execOp a.eval o).run P w) := by
  simp only [opF] at h
  split at h
  · rename_i p hp
    simp only [Option.some.injEq, Prod.mk.injEq] at h
    obtain ⟨rfl, rfl⟩ := h
    obtain ⟨e, hu, hne⟩ := ht
    have hr : (execOp a.eval o).run P w = .ok (.value (.iface t (a.eval x'))) w := by
      simp only [execOp, ho, Instr.makeInterface]
      rw [Sem.run_bind, Sem.run_bind, run_underlying hu]
      cases e <;> simp_all
    rw [hr]; exact .rep hs (by simp only [Rep]; exact ⟨_, rfl, opd_rep hx he hg hp⟩)
  · cases h

theorem ok_mkfn {f : Fn} {x' y' : Array Operand} {x y : List Opd} (hx : opds G x' = some x) (hy : opds G y' = some y) (h : opF C env s al (.mkfn f x y) = some (d, s')) {o : Oper} (ho : o.op = .makeFunc f x' y') :
    OpOk P ρ w env a.tmps d s' ((execOp a.eval o).run P w) := by
  simp only [opF] at h
  split at h
  · rename_i p q hp hq
    simp only [Option.some.injEq, Prod.mk.injEq] at h
    obtain ⟨rfl, rfl⟩ := h
    have hr : (execOp a.eval o).run P w = .ok (.value (.func f (x'.map a.eval) (y'.map a.eval))) w := by
      simp [execOp, ho, Instr.makeFunc]
    rw [hr]; exact .rep hs (by simp only [Rep]; exact ⟨_, _, rfl, opds_rep' he hg hx hp, opds_rep' he hg hy hq⟩)
  · cases h

theorem ok_extract {i : Nat} {x' : Operand} {x : Opd} (hx : opd G x' = some x) (h : opF C env s al (.extract i x) = some (d, s')) {o : Oper} (ho : o.op = .extract x' i) :
    OpOk P ρ w env a.tmps d s' ((execOp a.eval o).run P w) := by
  simp only [opF] at h
  split at h
  · rename_i l hp
    obtain ⟨h1, rfl⟩ := ofO_some h
    have h2 := opd_rep hx he hg hp
    simp only [Rep] at h2
    obtain ⟨vs, hv, hl⟩ := h2
    obtain ⟨v, hi, hd⟩ := hl.get h1
    have hi' : vs[i]? = some v := by simpa using hi
    have hr : (execOp a.eval o).run P w = .ok (.value v) w := by
      simp [execOp, ho, hv, Instr.extract, hi']
    rw [hr]; exact .rep hs hd
  · cases h

theorem ok_field {t : TypeId} {i : Nat} {x' : Operand} {x : Opd} {fs : Array Field} {f : Field} {sz : Option Nat} (hx : opd G x' = some x) (hu : P.underlying t = some (.struct fs)) (hf : fs[i]? = some f) (hsh : shapeB P f.type = some sz)
    (h : opF C env s al (.field f.offset sz x) = some (d, s')) {o : Oper} (ho : o.op = .field t x' i) :
    OpOk P ρ w env a.tmps d s' ((execOp a.eval o).run P w) := by
  simp only [opF] at h
  split at h
  · rename_i l hp
    obtain ⟨h1, rfl⟩ := ofO_some h
    have h2 := opd_rep hx he hg hp
    simp only [Rep] at h2
    obtain ⟨vs, hv, hl, hsc⟩ := h2
    obtain ⟨v, hr1, hd⟩ := run_part (P := P) hl hsc hsh h1
    have hr : (execOp a.eval o).run P w = .ok (.value v) w := by
      simp only [execOp, ho, Instr.field, hv, asAgg]
      simp [run_underlying hu, hf, hr1]
    rw [hr]; exact .rep hs hd
  · cases h

theorem ok_sidx {t : TypeId} {x' i' : Operand} {x i : Opd} (hx : opd G x' = some x) (hi : opd G i' = some i) (hu : P.underlying t = some .string) (h : opF C env s al (.sidx x i) = some (d, s')) {o : Oper} (ho : o.op = .index t x' i') :
    OpOk P ρ w env a.tmps d s' ((execOp a.eval o).run P w) := by
  simp only [opF] at h
  split at h
  · rename_i l n hp hn
    split at h
    · rename_i k hk
      split at h
      · rename_i b hb
        simp only [Option.some.injEq, Prod.mk.injEq] at h
        obtain ⟨rfl, rfl⟩ := h
        have h1 := opd_rep hx he hg hp
        have h2 := opd_rep hi he hg hn
        cases n <;> simp only [idx] at hk <;> (try cases hk)
        rename_i kk m
        split at hk
        · rename_i hm
          simp only [Option.some.injEq] at hk; subst hk
          simp only [Rep] at h1 h2
          have hb' : (⟨⟨l⟩⟩ : ByteArray)[m.toNat]? = some b := by
            have hlt : m.toNat < l.length := (List.getElem?_eq_some_iff.1 hb).1
            rw [ByteArray.getElem?_lt' _ _ (by simpa [ByteArray.size_mk'] using hlt)]
            have := (List.getElem?_eq_some_iff.1 hb).2
            exact congrArg some this
          have hr : (execOp a.eval o).run P w = .ok (.value (.int .u8 b.toNat)) w := by
            simp only [execOp, ho, h1, h2, Instr.index, asIntOf]
            simp [run_underlying hu, hm, hb']
          rw [hr]; exact .rep hs (by simp [Rep])
        · cases hk
      · cases h
    · cases h
  · cases h

theorem ok_toInt {t u : TypeId} {k j : IntKind} {x' : Operand} {x : Opd} (hx : opd G x' = some x) (ht : P.underlying t = some (.int j)) (hu : P.underlying u = some (.int k)) (h : opF C env s al (.toInt k x) = some (d, s')) {o : Oper} (ho : o.op = .convert t u x') :
    OpOk P ρ w env a.tmps d s' ((execOp a.eval o).run P w) := by
  simp only [opF] at h
  split at h
  · rename_i kk n hp
    simp only [Option.some.injEq, Prod.mk.injEq] at h
    obtain ⟨rfl, rfl⟩ := h
    have h1 := opd_rep hx he hg hp
    simp only [Rep] at h1
    have hr : (execOp a.eval o).run P w = .ok (.value (.int k (k.wrap n))) w := by
      simp only [execOp, ho, h1, convert]
      simp [run_underlying ht, run_underlying hu, Conv.intToInt]
    rw [hr]; exact .rep hs (by simp [Rep])
  · cases h

theorem ok_strId {t u : TypeId} {x' : Operand} {x : Opd} (hx : opd G x' = some x) (ht : P.underlying t = some .string) (hu : P.underlying u = some .string) (h : opF C env s al (.strId x) = some (d, s')) {o : Oper} (ho : o.op = .convert t u x') :
    OpOk P ρ w env a.tmps d s' ((execOp a.eval o).run P w) := by
  simp only [opF] at h
  split at h
  · rename_i l hp
    simp only [Option.some.injEq, Prod.mk.injEq] at h
    obtain ⟨rfl, rfl⟩ := h
    have h1 := opd_rep hx he hg hp
    have h2 := h1
    simp only [Rep] at h1
    have hr : (execOp a.eval o).run P w = .ok (.value (a.eval x')) w := by
      simp only [execOp, ho, h1, convert]
      simp [run_underlying ht, run_underlying hu]
    rw [hr]; exact .rep hs h2
  · cases h

theorem ok_intToStr {t u : TypeId} {j : IntKind} {x' : Operand} {x : Opd} (hx : opd G x' = some x) (ht : P.underlying t = some (.int j)) (hu : P.underlying u = some .string) (h : opF C env s al (.intToStr x) = some (d, s')) {o : Oper} (ho : o.op = .convert t u x') :
    OpOk P ρ w env a.tmps d s' ((execOp a.eval o).run P w) := by
  simp only [opF] at h
  split at h
  · rename_i kk n hp
    simp only [Option.some.injEq, Prod.mk.injEq] at h
    obtain ⟨rfl, rfl⟩ := h
    have h1 := opd_rep hx he hg hp
    simp only [Rep] at h1
    have hr : (execOp a.eval o).run P w = .ok (.value (.string (Utf8.encode n))) w := by
      simp only [execOp, ho, h1, convert]
      simp [run_underlying ht, run_underlying hu, Conv.intToString]
    rw [hr]; exact .rep hs (by simp [Rep])
  · cases h
end
end Go.Ab
