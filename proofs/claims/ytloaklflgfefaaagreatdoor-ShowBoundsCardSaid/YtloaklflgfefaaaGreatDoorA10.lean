/- Operations, one by one: elements and their addresses, reading. -/
import Derived.Test.YtloaklflgfefaaaGreatDoorA6
import Derived.Lib.Strings
namespace Go.Ab
open Go
set_option linter.unusedSectionVars false
set_option linter.unusedSimpArgs false
set_option linter.unusedVariables false
variable [Vals]
variable {ρ : Gh} {w : World} {P : Program} {pn : Pins} {G : Gl} {X : Exts} {A : Adv} {s s' : St} {env : Env} {a : Act} {lo : Nat} {d : D} {C : Caller} {al : Option Nat}

/-- What is asked behind a call. -/
def CallPost (ρ : Gh) (w : World) (s' : St) (d : D) : Ending → World → Prop
  | .returned v, w' => ∃ ρ', Kp ρ w ρ' w' ∧ StRel ρ' s' w' ∧ Rep ρ' w' d v
  | .panicked _, _ => False
  | .outgrown, _ => False

/-- What is asked of an operation's outcome. -/
def OpOk (P : Program) (ρ : Gh) (w : World) (env : Env) (tmps : Array Value) (d : D) (s' : St) : Result Next → Prop
  | .ok (.value v) w' => ∃ ρ', Kp ρ w ρ' w' ∧ StRel ρ' s' w' ∧ ResRel ρ' w' env tmps d v
  | .ok .skip w' => ∃ ρ', Kp ρ w ρ' w' ∧ StRel ρ' s' w' ∧ d = .tup []
  | .ok (.enter f args) w' => w' = w ∧ Calls P f args w (CallPost ρ w s' d)
  | .ok (.round l fn tmps assign body) w' => w' = w ∧ RoundIn Fence.wide 0 P l fn tmps assign body w (CallPost ρ w s' d)
  | _ => False

theorem OpOk.pure {v : Value} {tmps : Array Value} (hs : StRel ρ s w) (h : ResRel ρ w env tmps d v) : OpOk P ρ w env tmps d s (.ok (.value v) w) := ⟨ρ, Kp.refl _ _, hs, h⟩
theorem OpOk.rep {v : Value} {tmps : Array Value} (hs : StRel ρ s w) (h : Rep ρ w d v) : OpOk P ρ w env tmps d s (.ok (.value v) w) := .pure hs (.of_rep h)

theorem ofO_some {o : Option D} (h : ofO s o = some (d, s')) : o = some d ∧ s' = s := by
  cases o with
  | none => simp [ofO] at h
  | some x => simp only [ofO, Option.some.injEq, Prod.mk.injEq] at h; exact ⟨by rw [h.1], h.2.symm⟩
theorem ofS_some {x : D} {o : Option St} (h : ofS x o = some (d, s')) : o = some s' ∧ d = x := by
  cases o with
  | none => simp [ofS] at h
  | some y => simp only [ofS, Option.some.injEq, Prod.mk.injEq] at h; exact ⟨by rw [h.2], h.1.symm⟩

section
variable (he : EnvRel ρ w lo env a.tmps) (hg : GlOk pn G ρ w) (hs : StRel ρ s w)
include he hg hs

theorem ok_mv {x' : Operand} {x : Opd} (hx : opd G x' = some x) (h : opF C env s al (.mv x) = some (d, s')) {o : Oper} (ho : o.op = .move x' ∨ o.op = .assign x') :
    OpOk P ρ w env a.tmps d s' ((execOp a.eval o).run P w) := by
  simp only [opF] at h
  obtain ⟨h1, rfl⟩ := ofO_some h
  have hr : (execOp a.eval o).run P w = .ok (.value (a.eval x')) w := by rcases ho with ho | ho <;> simp [execOp, ho]
  rw [hr]
  exact .pure hs (opd_rel hx he hg h1)

theorem ok_pick {c' x' y' : Operand} {c x y : Opd} (hc : opd G c' = some c) (hx : opd G x' = some x) (hy : opd G y' = some y) (h : opF C env s al (.pick c x y) = some (d, s')) {o : Oper} (ho : o.op = .pick c' x' y') :
    OpOk P ρ w env a.tmps d s' ((execOp a.eval o).run P w) := by
  simp only [opF] at h
  split at h
  · rename_i t ht
    have h1 := opd_rep hc he hg ht
    simp only [Rep] at h1
    split at h
    · obtain ⟨h2, rfl⟩ := ofO_some h
      have hr : (execOp a.eval o).run P w = .ok (.value (a.eval x')) w := by simp [execOp, ho, h1, asBool]
      rw [hr]; exact .rep hs (opd_rep hx he hg h2)
    · obtain ⟨h2, rfl⟩ := ofO_some h
      have hr : (execOp a.eval o).run P w = .ok (.value (a.eval y')) w := by simp [execOp, ho, h1, asBool]
      rw [hr]; exact .rep hs (opd_rep hy he hg h2)
  · cases h

omit he hg hs in
theorem isLv_some {b : Nat} (h : env.isLv b = true) : ∃ x, env.get b = some (.lv x) := by
  unfold Env.isLv at h
  split at h
  · rename_i x hx; exact ⟨x, hx⟩
  · cases h

theorem ok_nilchk {x' : Operand} {x : Opd} (hx : opd G x' = some x) (h : opF C env s al (.nilchk x) = some (d, s')) {o : Oper} (ho : o.op = .nilCheck x') :
    OpOk P ρ w env a.tmps d s' ((execOp a.eval o).run P w) := by
  have key : ∀ (v : Value), a.eval x' = v → (match v with | .pointer (some _) => true | .iface _ _ => true | .func (.func _) _ _ => true | _ => false) = true →
      (execOp a.eval o).run P w = .ok (.value (a.eval x')) w := by
    intro v hv hm
    cases v with
    | pointer p => cases p with
      | none => simp at hm
      | some q => simp [execOp, ho, hv]
    | iface t u => simp [execOp, ho, hv]
    | func f x y => cases f with
      | func f => simp [execOp, ho, hv]
      | _ => simp at hm
    | _ => simp at hm
  simp only [opF] at h
  have hr := fun e => opd_rel (d := e) hx he hg
  split at h
  · rename_i b c hp
    have h1 := hr _ hp
    split at h
    · rename_i hlv
      simp only [Option.some.injEq, Prod.mk.injEq] at h
      obtain ⟨rfl, rfl⟩ := h
      obtain ⟨y, hy⟩ := isLv_some hlv
      obtain ⟨bb, _, h3⟩ := h1 y hy
      rw [key _ h3 rfl]
      exact .pure hs h1
    · cases h
  · rename_i b c hp
    simp only [Option.some.injEq, Prod.mk.injEq] at h
    obtain ⟨rfl, rfl⟩ := h
    have h1 := hr _ hp
    have h2 := h1
    simp only [ResRel, Rep] at h2
    obtain ⟨q, hq⟩ := Gh.at_any h2 fun _ _ q => ⟨_, q⟩
    rw [key _ hq rfl]
    exact .pure hs h1
  · rename_i b i c e hp
    simp only [Option.some.injEq, Prod.mk.injEq] at h
    obtain ⟨rfl, rfl⟩ := h
    have h1 := hr _ hp
    have h2 := h1
    simp only [ResRel, Rep] at h2
    obtain ⟨q, hq⟩ := Gh.at_any h2 fun _ _ q => ⟨_, q.2.2.2⟩
    rw [key _ hq rfl]
    exact .pure hs h1
  · rename_i e c hp
    simp only [Option.some.injEq, Prod.mk.injEq] at h
    obtain ⟨rfl, rfl⟩ := h
    have h1 := hr _ hp
    have h2 := h1
    simp only [ResRel, Rep] at h2
    obtain ⟨_, _, _, _, _, _, _, hq⟩ := h2
    rw [key _ hq rfl]
    exact .pure hs h1
  · rename_i t v hp
    simp only [Option.some.injEq, Prod.mk.injEq] at h
    obtain ⟨rfl, rfl⟩ := h
    have h1 := hr _ hp
    have h2 := h1
    simp only [ResRel, Rep] at h2
    obtain ⟨_, hq, _⟩ := h2
    rw [key _ hq rfl]
    exact .pure hs h1
  · rename_i f x y hp
    simp only [Option.some.injEq, Prod.mk.injEq] at h
    obtain ⟨rfl, rfl⟩ := h
    have h1 := hr _ hp
    have h2 := h1
    simp only [ResRel, Rep] at h2
    obtain ⟨_, _, hq, _⟩ := h2
    rw [key _ hq rfl]
    exact .pure hs h1
  · cases h

theorem ok_bin {op : BinOp} {t u : TypeId} {x' y' : Operand} {x y : Opd} (hx : opd G x' = some x) (hy : opd G y' = some y) (h : opF C env s al (.bin op x y) = some (d, s')) {o : Oper} (ho : o.op = .binOp op t x' y' u) :
    OpOk P ρ w env a.tmps d s' ((execOp a.eval o).run P w) := by
  simp only [opF] at h
  split at h
  · rename_i p q hp hq
    obtain ⟨h1, rfl⟩ := ofO_some h
    obtain ⟨r, h2, h3⟩ := bin_ok (P := P) (opd_rep hx he hg hp) (opd_rep hy he hg hq) h1 t x' y'
    have hr : (execOp a.eval o).run P w = .ok (.value r) w := by
      simp only [execOp, ho]
      rw [Sem.run_bind, h2]; rfl
    rw [hr]; exact .rep hs h3
  · cases h

theorem ok_un {op : UnOp} {t : TypeId} {x' : Operand} {x : Opd} (hx : opd G x' = some x) (h : opF C env s al (.un op x) = some (d, s')) {o : Oper} (ho : o.op = .unOp op t x') :
    OpOk P ρ w env a.tmps d s' ((execOp a.eval o).run P w) := by
  simp only [opF] at h
  split at h
  · rename_i p hp
    obtain ⟨h1, rfl⟩ := ofO_some h
    obtain ⟨r, h2, h3⟩ := un_ok (P := P) (opd_rep hx he hg hp) h1
    have hr : (execOp a.eval o).run P w = .ok (.value r) w := by
      simp only [execOp, ho]
      rw [Sem.run_bind, h2]; rfl
    rw [hr]; exact .rep hs h3
  · cases h

theorem ok_mkif {t : TypeId} {x' : Operand} {x : Opd} (hx : opd G x' = some x) (ht : ∃ e, P.underlying t = some e ∧ ∀ ms, e ≠ .interface ms) (h : opF C env s al (.mkif t x) = some (d, s')) {o : Oper} (ho : o.op = .makeInterface t x') :
    OpOk P ρ w env a.tmps d s' ((execOp a.eval o).run P w) := by
  simp only [opF] at h
  split at h
  · rename_i p hp
    simp only [Option.some.injEq, Prod.mk.injEq] at h
    obtain ⟨rfl, rfl⟩ := h
    obtain ⟨e, hu, hne⟩ := ht
    have hr : (execOp a.eval o).run P w = .ok (.value (.iface t (a.eval x'))) w := by
      simp only [execOp, ho, Instr.makeInterface]
      rw [Sem.run_bind, Sem.run_bind, run_underlying hu]
      cases e <;> simp_all
    rw [hr]; exact .rep hs (by simp only [Rep]; exact ⟨_, rfl, opd_rep hx he hg hp⟩)
  · cases h

theorem ok_mkfn {f : Fn} {x' y' : Array Operand} {x y : List Opd} (hx : opds G x' = some x) (hy : opds G y' = some y) (h : opF C env s al (.mkfn f x y) = some (d, s')) {o : Oper} (ho : o.op = .makeFunc f x' y') :
    OpOk P ρ w env a.tmps d s' ((execOp a.eval o).run P w) := by
  simp only [opF] at h
  split at h
  · rename_i p q hp hq
    simp only [Option.some.injEq, Prod.mk.injEq] at h
    obtain ⟨rfl, rfl⟩ := h
    have hr : (execOp a.eval o).run P w = .ok (.value (.func f (x'.map a.eval) (y'.map a.eval))) w := by
      simp [execOp, ho, Instr.makeFunc]
    rw [hr]; exact .rep hs (by simp only [Rep]; exact ⟨_, _, rfl, opds_rep' he hg hx hp, opds_rep' he hg hy hq⟩)
  · cases h

theorem ok_extract {i : Nat} {x' : Operand} {x : Opd} (hx : opd G x' = some x) (h : opF C env s al (.extract i x) = some (d, s')) {o : Oper} (ho : o.op = .extract x' i) :
    OpOk P ρ w env a.tmps d s' ((execOp a.eval o).run P w) := by
  simp only [opF] at h
  split at h
  · rename_i l hp
    obtain ⟨h1, rfl⟩ := ofO_some h
    have h2 := opd_rep hx he hg hp
    simp only [Rep] at h2
    obtain ⟨vs, hv, hl⟩ := h2
    obtain ⟨v, hi, hd⟩ := hl.get h1
    have hi' : vs[i]? = some v := by simpa using hi
    have hr : (execOp a.eval o).run P w = .ok (.value v) w := by
      simp [execOp, ho, hv, Instr.extract, hi']
    rw [hr]; exact .rep hs hd
  · cases h

theorem ok_field {t : TypeId} {i : Nat} {x' : Operand} {x : Opd} {fs : Array Field} {f : Field} {sz : Option Nat} (hx : opd G x' = some x) (hu : P.underlying t = some (.struct fs)) (hf : fs[i]? = some f) (hsh : shapeB P f.type = some sz)
    (h : opF C env s al (.field f.offset sz x) = some (d, s')) {o : Oper} (ho : o.op = .field t x' i) :
    OpOk P ρ w env a.tmps d s' ((execOp a.eval o).run P w) := by
  simp only [opF] at h
  split at h
  · rename_i l hp
    obtain ⟨h1, rfl⟩ := ofO_some h
    have h2 := opd_rep hx he hg hp
    simp only [Rep] at h2
    obtain ⟨vs, hv, hl, hsc⟩ := h2
    obtain ⟨v, hr1, hd⟩ := run_part (P := P) hl hsc hsh h1
    have hr : (execOp a.eval o).run P w = .ok (.value v) w := by
      simp only [execOp, ho, Instr.field, hv, asAgg]
      simp [run_underlying hu, hf, hr1]
    rw [hr]; exact .rep hs hd
  · cases h

theorem ok_sidx {t : TypeId} {x' i' : Operand} {x i : Opd} (hx : opd G x' = some x) (hi : opd G i' = some i) (hu : P.underlying t = some .string) (h : opF C env s al (.sidx x i) = some (d, s')) {o : Oper} (ho : o.op = .index t x' i') :
    OpOk P ρ w env a.tmps d s' ((execOp a.eval o).run P w) := by
  simp only [opF] at h
  split at h
  · rename_i l n hp hn
    split at h
    · rename_i k hk
      split at h
      · rename_i b hb
        simp only [Option.some.injEq, Prod.mk.injEq] at h
        obtain ⟨rfl, rfl⟩ := h
        have h1 := opd_rep hx he hg hp
        have h2 := opd_rep hi he hg hn
        cases n <;> simp only [idx] at hk <;> (try cases hk)
        rename_i kk m
        split at hk
        · rename_i hm
          simp only [Option.some.injEq] at hk; subst hk
          simp only [Rep] at h1 h2
          have hb' : (⟨⟨l⟩⟩ : ByteArray)[m.toNat]? = some b := by
            have hlt : m.toNat < l.length := (List.getElem?_eq_some_iff.1 hb).1
            rw [ByteArray.getElem?_lt' _ _ (by simpa [ByteArray.size_mk'] using hlt)]
            have := (List.getElem?_eq_some_iff.1 hb).2
            exact congrArg some this
          have hr : (execOp a.eval o).run P w = .ok (.value (.int .u8 b.toNat)) w := by
            simp only [execOp, ho, h1, h2, Instr.index, asIntOf]
            simp [run_underlying hu, hm, hb']
          rw [hr]; exact .rep hs (by simp [Rep])
        · cases hk
      · cases h
    · cases h
  · cases h

theorem ok_toInt {t u : TypeId} {k j : IntKind} {x' : Operand} {x : Opd} (hx : opd G x' = some x) (ht : P.underlying t = some (.int j)) (hu : P.underlying u = some (.int k)) (h : opF C env s al (.toInt k x) = some (d, s')) {o : Oper} (ho : o.op = .convert t u x') :
    OpOk P ρ w env a.tmps d s' ((execOp a.eval o).run P w) := by
  simp only [opF] at h
  split at h
  · rename_i kk n hp
    simp only [Option.some.injEq, Prod.mk.injEq] at h
    obtain ⟨rfl, rfl⟩ := h
    have h1 := opd_rep hx he hg hp
    simp only [Rep] at h1
    have hr : (execOp a.eval o).run P w = .ok (.value (.int k (k.wrap n))) w := by
      simp only [execOp, ho, h1, convert]
      simp [run_underlying ht, run_underlying hu, Conv.intToInt]
    rw [hr]; exact .rep hs (by simp [Rep])
  · cases h

theorem ok_strId {t u : TypeId} {x' : Operand} {x : Opd} (hx : opd G x' = some x) (ht : P.underlying t = some .string) (hu : P.underlying u = some .string) (h : opF C env s al (.strId x) = some (d, s')) {o : Oper} (ho : o.op = .convert t u x') :
    OpOk P ρ w env a.tmps d s' ((execOp a.eval o).run P w) := by
  simp only [opF] at h
  split at h
  · rename_i l hp
    simp only [Option.some.injEq, Prod.mk.injEq] at h
    obtain ⟨rfl, rfl⟩ := h
    have h1 := opd_rep hx he hg hp
    have h2 := h1
    simp only [Rep] at h1
    have hr : (execOp a.eval o).run P w = .ok (.value (a.eval x')) w := by
      simp only [execOp, ho, h1, convert]
      simp [run_underlying ht, run_underlying hu]
    rw [hr]; exact .rep hs h2
  · cases h

theorem ok_intToStr {t u : TypeId} {j : IntKind} {x' : Operand} {x : Opd} (hx : opd G x' = some x) (ht : P.underlying t = some (.int j)) (hu : P.underlying u = some .string) (h : opF C env s al (.intToStr x) = some (d, s')) {o : Oper} (ho : o.op = .convert t u x') :
    OpOk P ρ w env a.tmps d s' ((execOp a.eval o).run P w) := by
  simp only [opF] at h
  split at h
  · rename_i kk n hp
    simp only [Option.some.injEq, Prod.mk.injEq] at h
    obtain ⟨rfl, rfl⟩ := h
    have h1 := opd_rep hx he hg hp
    simp only [Rep] at h1
    have hr : (execOp a.eval o).run P w = .ok (.value (.string (Utf8.encode n))) w := by
      simp only [execOp, ho, h1, convert]
      simp [run_underlying ht, run_underlying hu, Conv.intToString]
    rw [hr]; exact .rep hs (by simp [Rep])
  · cases h
end
end Go.Ab

namespace Go.Ab
open Go
set_option linter.unusedSectionVars false
set_option linter.unusedSimpArgs false
set_option linter.unusedVariables false
variable [Vals]
variable {ρ : Gh} {w : World} {P : Program} {pn : Pins} {G : Gl} {X : Exts} {A : Adv} {s s' : St} {env : Env} {a : Act} {lo : Nat} {d : D} {C : Caller} {al : Option Nat}

/-! ### '==' -/
def plainV : Value → Bool
  | .int .. | .string _ | .float .. | .complex .. => false
  | _ => true
theorem binOp_eql {t : TypeId} {u v : Value} (h : plainV u = true) : binOp .eql t u v = (do pure (.bool (← Op.equal t u v))) := by
  cases u <;> simp only [plainV] at h <;> (try cases h) <;> cases v <;> rfl
theorem binOp_neq {t : TypeId} {u v : Value} (h : plainV u = true) : binOp .neq t u v = (do pure (.bool (!(← Op.equal t u v)))) := by
  cases u <;> simp only [plainV] at h <;> (try cases h) <;> cases v <;> rfl

theorem eqT_plain {oc : Bool} {et : ET} {x y : D} {r : Bool} {u v : Value} (h : eqT oc et x y = some r) (h1 : et ≠ .int) (h2 : et ≠ .str) (hu : Rep ρ w x u) (hv : Rep ρ w y v) :
    plainV u = true ∧ (u = .nilIface → v = .nilIface → oc = true) ∧ (∀ p q, u = .agg p → v = .agg q → ∃ l, et = .st l) := by
  have sp : ∀ {d : D} {q : Value}, Rep ρ w d q → (∃ o c, d = .ptr o c) ∨ (∃ o i c e, d = .eptr o i c e) ∨ (∃ e c, d = .vptr e c) ∨ d = .nilp → ∃ p, q = .pointer p := by
    intro d q hq hs
    rcases hs with ⟨o, c, rfl⟩ | ⟨o, i, c, e, rfl⟩ | ⟨e, c, rfl⟩ | rfl <;> simp only [Rep] at hq
    · obtain ⟨p, rfl⟩ := Gh.at_any hq fun _ _ q => ⟨_, q⟩; exact ⟨_, rfl⟩
    · obtain ⟨p, rfl⟩ := Gh.at_any hq fun _ _ q => ⟨_, q.2.2.2⟩; exact ⟨_, rfl⟩
    · obtain ⟨_, _, _, _, _, _, _, rfl⟩ := hq; exact ⟨_, rfl⟩
    · exact ⟨_, hq⟩
  have ss : ∀ {d : D} {q : Value}, Rep ρ w d q → (∃ n z l, d = .vs n z l) ∨ (∃ o a b c, d = .sl o a b c) → ∃ p n c, q = .slice p n c := by
    intro d q hq hs
    rcases hs with ⟨n, z, l, rfl⟩ | ⟨o, a, b, c, rfl⟩ <;> simp only [Rep] at hq
    · rcases hq with ⟨_, _, rfl⟩ | ⟨_, _, _, rfl, _⟩ <;> exact ⟨_, _, _, rfl⟩
    · obtain ⟨p, c, rfl⟩ := Gh.at_any hq fun _ _ ⟨_, _, _, _, _, q, _⟩ => ⟨_, _, q⟩; exact ⟨_, _, _, rfl⟩
  cases et with
  | int => exact absurd rfl h1
  | str => exact absurd rfl h2
  | bool =>
    simp only [eqT] at h
    obtain ⟨_, _, rfl, _, _⟩ := eqB1_spec h hu hv
    simp [plainV]
  | ptr =>
    simp only [eqT] at h
    split at h <;> (try cases h)
    all_goals
      obtain ⟨p, rfl⟩ := sp hu (by simp)
      simp [plainV]
  | slice =>
    simp only [eqT] at h
    split at h <;> (try cases h)
    all_goals
      obtain ⟨p, n, c, rfl⟩ := ss hu (by simp)
      simp [plainV]
  | map =>
    simp only [eqT] at h
    split at h <;> (try cases h)
    · simp only [Rep] at hu; subst hu; simp [plainV]
    · simp only [Rep] at hu; subst hu; simp [plainV]
    · simp only [Rep] at hu; obtain ⟨p, rfl⟩ := Gh.at_any hu fun _ _ q => ⟨_, q⟩; simp [plainV]
  | func =>
    simp only [eqT] at h
    split at h <;> (try cases h)
    · simp only [Rep] at hu; subst hu; simp [plainV]
    · simp only [Rep] at hu; subst hu; simp [plainV]
    · simp only [Rep] at hu; obtain ⟨_, _, rfl, _⟩ := hu; simp [plainV]
  | iface =>
    simp only [eqT] at h
    split at h <;> (try cases h)
    · split at h
      · simp only [Rep] at hu; subst hu; simp [plainV]
      · cases h
    · simp only [Rep] at hu hv; subst hu; obtain ⟨_, rfl, _⟩ := hv; simp [plainV]
    · simp only [Rep] at hu hv; subst hv; obtain ⟨_, rfl, _⟩ := hu; simp [plainV]
    · simp only [Rep] at hu hv; obtain ⟨_, rfl, _⟩ := hu; simp [plainV]
  | st l =>
    simp only [eqT] at h
    split at h
    · simp only [Rep] at hu; obtain ⟨_, rfl, _⟩ := hu; simp [plainV]
    · cases h

theorem guard_ok {op : BinOp} {t : TypeId} {px py : Operand} {u v : Value} (hn : u = .nilIface → v = .nilIface → (constB px || constB py) = true) (hag : ∀ p q, u = .agg p → v = .agg q → P.eqGuardType P.depth t = false) :
    (eqGuard op t px py u v).run P w = .ok () w := by
  by_cases hop : op = .eql ∨ op = .neq
  · by_cases h1 : u = .nilIface ∧ v = .nilIface
    · obtain ⟨rfl, rfl⟩ := h1
      have := hn rfl rfl
      rcases hop with rfl | rfl <;> cases px <;> cases py <;> first | (simp [eqGuard]; done) | (exact absurd this (by simp [constB]))
    · by_cases h2 : (∃ p, u = .agg p) ∧ ∃ q, v = .agg q
      · obtain ⟨⟨p, rfl⟩, q, rfl⟩ := h2
        exact run_eqGuard_agg w op t px py p q (hag p q rfl rfl)
      · rcases hop with rfl | rfl <;> cases u <;> cases v <;> first | (simp [eqGuard]; done) | (exact absurd ⟨rfl, rfl⟩ h1) | (exact absurd ⟨⟨_, rfl⟩, ⟨_, rfl⟩⟩ h2)
  · cases op <;> first | (exact absurd (Or.inl rfl) hop) | (exact absurd (Or.inr rfl) hop) | simp [eqGuard]

theorem equalIn_ptr (d : Nat) {t e : TypeId} {m : Nat} (ht : P.underlying t = some (.pointer e)) (hsz : (sizeOf e).run P w = .ok (m + 1) w) (p q : Addr) :
    (Op.equalIn (d + 1) t (.pointer (some p)) (.pointer (some q))).run P w = (sameAddr p q).run P w := by
  simp only [Op.equalIn, Sem.run_bind, run_underlying ht, Result.andThen_ok, hsz]
  simp

/-- Two pointers to variables of their own. -/
theorem eqP_ok {x y : D} {r : Bool} {u v : Value} {t e : TypeId} {m : Nat} (hs : StRel ρ s w) (ht : P.underlying t = some (.pointer e)) (hm : sizeB P e = some (m + 1)) (h : eqP s x y = some r) (hu : Rep ρ w x u) (hv : Rep ρ w y v) :
    (∃ p, u = .pointer (some p)) ∧ (Op.equal t u v).run P w = .ok r w := by
  unfold eqP at h
  split at h
  · rename_i o c o' c'
    split at h
    · rename_i t1 d1 t2 d2 h1 h2
      simp only [Option.some.injEq] at h; subst h
      obtain ⟨b1, v1, k1, one1, _, hb1, hp1, _⟩ := hs.ok _ _ h1
      obtain ⟨b2, v2, k2, one2, _, hb2, hp2, _⟩ := hs.ok _ _ h2
      simp only [Rep, Gh.at, k1, k2] at hu hv
      obtain ⟨b1', hb1', rfl⟩ := hu
      obtain ⟨b2', hb2', rfl⟩ := hv
      obtain rfl := one1.2 _ hb1'
      obtain rfl := one2.2 _ hb2'
      refine ⟨⟨_, rfl⟩, ?_⟩
      have hsz : (sizeOf e).run P w = .ok (m + 1) w := by
        cases hq : P.info? e with
        | none => simp [sizeB, hq] at hm
        | some i =>
          have : i.size = m + 1 := by simpa [sizeB, hq] using hm
          simp [sizeOf, typeInfo, hq, this]
      have hsame : (sameAddr ⟨b1', c, none⟩ ⟨b2', c', none⟩).run P w = .ok (Nat.beq o o' && Nat.beq c c') w := by
        by_cases hbb : b1' = b2'
        · subst hbb
          have hoo : o = o' := by
            have := hb1'.symm.trans hb2'
            simpa using this
          subst hoo
          have e1 : Nat.beq o o = true := Nat.beq_refl o
          have e2 : ((⟨b1', c, none⟩ : Addr) == ⟨b1', c', none⟩) = Nat.beq c c' := by
            rw [Bool.eq_iff_iff, beq_iff_eq, Nat.beq_eq]
            simp
          simp [sameAddr, e2]
        · have hoo : o ≠ o' := fun h => hbb (by subst h; exact (one1.2 _ hb2').symm)
          have e1 : Nat.beq o o' = false := T.beq_f hoo
          have f1 : ∀ x, w.frozen? ⟨b1', x, none⟩ = false := fun x => by simp [World.frozen?, hb1]
          have f2 : ∀ x, w.frozen? ⟨b2', x, none⟩ = false := fun x => by simp [World.frozen?, hb2]
          have s1 : w.shape? b1' = some (t1, v1.cells.size) := by simp [World.shape?, hb1]
          have s2 : w.shape? b2' = some (t2, v2.cells.size) := by simp [World.shape?, hb2]
          simp [sameAddr, hbb, f1, f2, noView, viewAt, s1, s2, mayBeOne, stringish, e1]
      exact (equalIn_ptr 9999 ht hsz _ _).trans hsame
    · cases h
  · cases h

section
variable (he : EnvRel ρ w lo env a.tmps) (hg : GlOk pn G ρ w) (hs : StRel ρ s w)
include he hg hs

theorem ok_eq {op : BinOp} {neg oc : Bool} {et : ET} {t u : TypeId} {x' y' : Operand} {x y : Opd} (hx : opd G x' = some x) (hy : opd G y' = some y) (het : etB P 8 t = some et) (h1 : et ≠ .int) (h2 : et ≠ .str)
    (hop : (op = .eql ∧ neg = false) ∨ (op = .neq ∧ neg = true)) (hoc : oc = (constB x' || constB y')) (hgd : ∀ l, et = .st l → P.eqGuardType P.depth t = false)
    (h : opF C env s al (.eq et neg oc x y) = some (d, s')) {o : Oper} (ho : o.op = .binOp op t x' y' u) : OpOk P ρ w env a.tmps d s' ((execOp a.eval o).run P w) := by
  simp only [opF] at h
  split at h
  · rename_i p q hp hq
    have hu := opd_rep hx he hg hp
    have hv := opd_rep hy he hg hq
    have fin : ∀ r : Bool, (eqGuard op t x' y' (a.eval x') (a.eval y')).run P w = .ok () w → plainV (a.eval x') = true → (Op.equal t (a.eval x') (a.eval y')).run P w = .ok r w → (execOp a.eval o).run P w = .ok (.value (.bool (r != neg))) w := by
      intro r hgu hpl heq
      simp only [execOp, ho, Sem.run_bind, hgu, Result.andThen_ok]
      rcases hop with ⟨rfl, rfl⟩ | ⟨rfl, rfl⟩
      · simp [binOp_eql hpl, heq]
      · simp [binOp_neq hpl, heq]
    split at h
    · rename_i r hr
      simp only [Option.some.injEq, Prod.mk.injEq] at h
      obtain ⟨rfl, rfl⟩ := h
      obtain ⟨e1, e2, e3⟩ := eqT_plain hr h1 h2 hu hv
      have heq : (Op.equal t (a.eval x') (a.eval y')).run P w = .ok r w := eqT_ok oc 8 t et het Op.maxDepth (by decide) p q r _ _ hr hu hv
      rw [fin r (guard_ok (fun a b => hoc ▸ e2 a b) (fun a b c d => hgd _ (e3 a b c d).choose_spec)) e1 heq]
      exact .rep hs (by simp [Rep])
    · split at h
      · split at h
        · rename_i r hr
          simp only [Option.some.injEq, Prod.mk.injEq] at h
          obtain ⟨rfl, rfl⟩ := h
          have hpt : ∃ e m, P.underlying t = some (.pointer e) ∧ sizeB P e = some (m + 1) := by
            simp only [etB] at het
            split at het <;> (try cases het)
            · rename_i e hun
              split at het
              · rename_i m hm; exact ⟨e, m, hun, hm⟩
              · cases het
            · split at het
              · cases het
              · simp at het
          obtain ⟨e, m, hun, hm⟩ := hpt
          obtain ⟨⟨pp, hpp⟩, heq⟩ := eqP_ok (P := P) hs hun hm hr hu hv
          rw [fin r (guard_ok (fun a _ => by rw [hpp] at a; cases a) (fun a _ b _ => by rw [hpp] at b; cases b)) (by rw [hpp]; rfl) heq]
          exact .rep hs (by simp [Rep])
        · cases h
      · cases h
  · cases h
end
end Go.Ab

namespace Go.Ab
open Go
set_option linter.unusedSectionVars false
set_option linter.unusedSimpArgs false
set_option linter.unusedVariables false
variable [Vals]
variable {ρ : Gh} {w : World} {P : Program} {pn : Pins} {G : Gl} {X : Exts} {A : Adv} {s s' : St} {env : Env} {a : Act} {lo : Nat} {d : D} {C : Caller} {al : Option Nat}

theorem idx_int {n : D} {i : Nat} {v : Value} (h : idx n = some i) (hr : Rep ρ w n v) : ∃ k, v = .int k (i : Int) := by
  cases n <;> simp only [idx] at h <;> (try cases h)
  rename_i k m
  split at h
  · rename_i hm
    simp only [Option.some.injEq] at h; subst h
    simp only [Rep] at hr
    exact ⟨k, by rw [hr, Int.toNat_of_nonneg hm]⟩
  · cases h

theorem sizeOf_run {t : TypeId} {n : Nat} (h : sizeB P t = some n) : (sizeOf t).run P w = .ok n w := by
  cases hq : P.info? t with
  | none => simp [sizeB, hq] at h
  | some i =>
    have : i.size = n := by simpa [sizeB, hq] using h
    simp [sizeOf, typeInfo, hq, this]

theorem mk_extract (l : List UInt8) (x y : Nat) : (⟨⟨l⟩⟩ : ByteArray).extract x y = ⟨⟨(l.take y).drop x⟩⟩ := by
  have h := Lib.extract_data (⟨⟨l⟩⟩ : ByteArray) x y
  have h2 : ((⟨⟨l⟩⟩ : ByteArray).extract x y).data.toList = (l.take y).drop x := by
    rw [h, List.drop_take]
  generalize (⟨⟨l⟩⟩ : ByteArray).extract x y = q at *
  obtain ⟨⟨m⟩⟩ := q
  simp only at h2
  rw [h2]

section
variable (he : EnvRel ρ w lo env a.tmps) (hg : GlOk pn G ρ w) (hs : StRel ρ s w)
include he hg

theorem evo_rep {x' : Option Operand} {x : Option Opd} {r : Option D} (hx : opdo G x' = some x) (h : evo env x = some r) :
    (r = none ∧ x'.map a.eval = none) ∨ (∃ d v, r = some d ∧ x'.map a.eval = some v ∧ Rep ρ w d v) := by
  cases x' with
  | none =>
    simp only [opdo, Option.some.injEq] at hx; subst hx
    simp only [evo, Option.some.injEq] at h; subst h
    exact .inl ⟨rfl, rfl⟩
  | some y =>
    simp only [opdo, Option.map_eq_some_iff] at hx
    obtain ⟨z, hz, rfl⟩ := hx
    simp only [evo] at h
    split at h
    · rename_i d hd
      simp only [Option.some.injEq] at h; subst h
      exact .inr ⟨d, _, rfl, rfl, opd_rep hz he hg hd⟩
    · cases h

omit he hg in
theorem bound_ok {x : Option Value} {r : Option D} {k y : Nat} {code : BoundsCode} (hr : (r = none ∧ x = none) ∨ (∃ d v, r = some d ∧ x = some v ∧ Rep ρ w d v)) (hi : idxo k r = some y) :
    (r = none ∧ x = none ∧ y = k) ∨ (∃ v, r.isSome = true ∧ x = some v ∧ ∀ m, y ≤ m → (Instr.sliceBound v m code).run P w = .ok y w) := by
  rcases hr with ⟨rfl, rfl⟩ | ⟨d, v, rfl, rfl, h⟩
  · simp only [idxo, Option.some.injEq] at hi; exact .inl ⟨rfl, rfl, hi.symm⟩
  · simp only [idxo] at hi
    obtain ⟨kk, rfl⟩ := idx_int hi h
    refine .inr ⟨_, rfl, rfl, fun m hm => ?_⟩
    have : (0 : Int) ≤ (y : Int) ∧ (y : Int) ≤ (m : Int) := by omega
    simp [Instr.sliceBound, asIntOf, this]

include hs
theorem ok_sstr {t : TypeId} {x' : Operand} {x : Opd} {lo' hi' : Option Operand} {l0 h0 : Option Opd} (hx : opd G x' = some x) (hl : opdo G lo' = some l0) (hh : opdo G hi' = some h0) (hu : P.underlying t = some .string)
    (h : opF C env s al (.sstr x l0 h0) = some (d, s')) {o : Oper} (ho : o.op = .slice t x' lo' hi' none) : OpOk P ρ w env a.tmps d s' ((execOp a.eval o).run P w) := by
  simp only [opF] at h
  split at h
  · rename_i l p q hp hlo hhi
    split at h
    · rename_i y z hy hz
      split at h
      · rename_i hb1 hb2
        simp only [Option.some.injEq, Prod.mk.injEq] at h
        obtain ⟨rfl, rfl⟩ := h
        have hyz := Nat.le_of_ble_eq_true hb1
        have hzl := Nat.le_of_ble_eq_true hb2
        have hv := opd_rep hx he hg hp
        simp only [Rep] at hv
        have b1 := bound_ok (P := P) (code := .sliceAlen) (evo_rep he hg hh hhi) hz
        have b2 := bound_ok (P := P) (code := .sliceB) (evo_rep he hg hl hlo) hy
        have hr : (execOp a.eval o).run P w = .ok (.value (.string ((⟨⟨l⟩⟩ : ByteArray).extract y z))) w := by
          simp only [execOp, ho, Option.map_none]
          rw [Sem.run_bind]
          have e1 : (Instr.sliceAt t (a.eval x') (lo'.map a.eval) (hi'.map a.eval) none).run P w = .ok (.string ((⟨⟨l⟩⟩ : ByteArray).extract y z)) w := by
            rw [hv]
            simp only [Instr.sliceAt, Instr.slice, Instr.sliceBounds]
            rcases b1 with ⟨_, e, rfl⟩ | ⟨v1, _, e, e1⟩ <;> rcases b2 with ⟨_, f, rfl⟩ | ⟨v2, _, f, f1⟩ <;> rw [e, f]
            · simp [run_underlying hu]; rw [mk_extract]; simp
            · simp [run_underlying hu, ByteArray.size_mk', f1 _ hyz]
            · simp [run_underlying hu, ByteArray.size_mk', e1 _ hzl]
            · simp [run_underlying hu, ByteArray.size_mk', e1 _ hzl, f1 _ hyz]
          rw [e1]; rfl
        rw [hr]
        exact .rep hs (by simp only [Rep]; rw [mk_extract])
      · cases h
    · cases h
  · cases h

theorem ok_faddr {t : TypeId} {i : Nat} {x' : Operand} {x : Opd} {fs : Array Field} {f : Field} {m : Nat} (hx : opd G x' = some x) (hu : P.underlying t = some (.struct fs)) (hf : fs[i]? = some f) (hsz : sizeB P f.type = some (m + 1))
    (h : opF C env s al (.faddr f.offset x) = some (d, s')) {o : Oper} (ho : o.op = .fieldAddr t x' i) : OpOk P ρ w env a.tmps d s' ((execOp a.eval o).run P w) := by
  have key : ∀ b c, a.eval x' = .pointer (some ⟨b, c, none⟩) → (execOp a.eval o).run P w = .ok (.value (.pointer (some ⟨b, c + f.offset, none⟩))) w := by
    intro b c hv
    simp only [execOp, ho, hv, Instr.fieldAt, Instr.sureAddr]
    simp [run_underlying hu, hf, fieldPlace, sizeOf_run hsz, Addr.add_mid]
  simp only [opF] at h
  split at h
  · rename_i b c hp
    split at h
    · rename_i hlv
      simp only [Option.some.injEq, Prod.mk.injEq] at h
      obtain ⟨rfl, rfl⟩ := h
      obtain ⟨y, hy⟩ := isLv_some hlv
      obtain ⟨bb, h2, h3⟩ := opd_rel hx he hg hp y hy
      rw [key _ _ h3]
      exact .pure hs (by simp only [ResRel]; exact fun _ _ => ⟨bb, h2, rfl⟩)
    · cases h
  · rename_i b c hp
    simp only [Option.some.injEq, Prod.mk.injEq] at h
    obtain ⟨rfl, rfl⟩ := h
    have h1 := opd_rel hx he hg hp
    simp only [ResRel, Rep] at h1
    unfold Gh.at at h1
    split at h1
    · exact h1.elim
    · rename_i hk
      obtain ⟨⟨q1, q2, q3⟩, hq⟩ := h1
      simp only [execOp, ho, hq, Instr.fieldAt, Instr.sureAddr]
      simp only [Sem.run_bind, run_underlying hu, Result.andThen_ok, hf, Sem.run_pure, fieldPlace, sizeOf_run hsz]
      simp only [Nat.add_eq_zero_iff, Nat.one_ne_zero, and_false, if_false, Sem.run_pure, Result.andThen_ok]
      exact .rep hs (by simp only [Rep, Gh.at, hk]; exact ⟨_, rfl⟩)
    · rename_i sz hk
      obtain ⟨bb, h2, h3⟩ := h1
      rw [key _ _ h3]
      exact .rep hs (by simp only [Rep, Gh.at, hk]; exact ⟨bb, h2, rfl⟩)
  · rename_i b i2 c z hp
    simp only [Option.some.injEq, Prod.mk.injEq] at h
    obtain ⟨rfl, rfl⟩ := h
    have h1 := opd_rel hx he hg hp
    simp only [ResRel, Rep] at h1
    unfold Gh.at at h1
    split at h1
    · exact h1.elim
    · rename_i hk
      obtain ⟨⟨q1, q2, q3⟩, hq⟩ := h1
      simp only [execOp, ho, hq, Instr.fieldAt, Instr.sureAddr]
      simp only [Sem.run_bind, run_underlying hu, Result.andThen_ok, hf, Sem.run_pure, fieldPlace, sizeOf_run hsz]
      simp only [Nat.add_eq_zero_iff, Nat.one_ne_zero, and_false, if_false, Sem.run_pure, Result.andThen_ok]
      exact .rep hs (by simp only [Rep, Gh.at, hk]; exact ⟨_, rfl⟩)
    · rename_i sz hk
      obtain ⟨bb, h2, h3, h4, h5, h6⟩ := h1
      rw [key _ _ h6]
      exact .rep hs (by simp only [Rep, Gh.at, hk]; exact ⟨bb, h2, h3, h4, h5, by rw [Nat.add_assoc]⟩)
  · rename_i e c hp
    simp only [Option.some.injEq, Prod.mk.injEq] at h
    obtain ⟨rfl, rfl⟩ := h
    have h1 := opd_rel hx he hg hp
    simp only [ResRel, Rep] at h1
    obtain ⟨b, xx, u, q1, q2, q3, q4, q5⟩ := h1
    rw [key _ _ q5]
    exact .rep hs (by simp only [Rep]; exact ⟨b, xx, u, q1, q2, q3, q4, by rw [Nat.add_assoc]⟩)
  · cases h
end
end Go.Ab

namespace Go.Ab
open Go
set_option linter.unusedSectionVars false
set_option linter.unusedSimpArgs false
set_option linter.unusedVariables false
variable [Vals]
variable {ρ : Gh} {w : World} {P : Program} {pn : Pins} {G : Gl} {X : Exts} {A : Adv} {s s' : St} {env : Env} {a : Act} {lo : Nat} {d : D} {C : Caller} {al : Option Nat}

theorem RepE.get {sz b : Nat} : ∀ {l : List D} {x i : Nat} {e : D}, RepE ρ w sz b x l → l[i]? = some e → ∃ v, Rep ρ w e v ∧ v.cells.size = sz ∧ 0 < sz ∧ CellsAt w b (x + i * sz) v ∧ e.st = true
  | [], _, i, e, _, h => by simp at h
  | d :: l, x, 0, e, h, hi => by
    simp only [RepE] at h
    simp at hi; subst hi
    simpa using h.1
  | d :: l, x, i + 1, e, h, hi => by
    simp only [RepE] at h
    simp at hi
    have := RepE.get h.2 hi
    rwa [show x + (i + 1) * sz = x + sz + i * sz by rw [Nat.add_mul]; omega]
theorem RepE.take {sz b : Nat} : ∀ {l : List D} {x : Nat} (n : Nat), RepE ρ w sz b x l → RepE ρ w sz b x (l.take n)
  | [], _, n, h => by simp [RepE]
  | d :: l, x, 0, h => by simp [RepE]
  | d :: l, x, n + 1, h => by
    simp only [RepE, List.take_succ_cons] at *
    exact ⟨h.1, RepE.take n h.2⟩
theorem RepE.drop {sz b : Nat} : ∀ {l : List D} {x : Nat} (n : Nat), RepE ρ w sz b x l → RepE ρ w sz b (x + n * sz) (l.drop n)
  | [], _, n, h => by simp [RepE]
  | d :: l, x, 0, h => by simpa using h
  | d :: l, x, n + 1, h => by
    simp only [RepE, List.drop_succ_cons] at *
    have := RepE.drop n h.2
    rwa [show x + (n + 1) * sz = x + sz + n * sz by rw [Nat.add_mul]; omega]

/-- An element of an array, by its number, as a block has it. -/
theorem BlockOk.get {sz ty b st i : Nat} {es : List D} {e : D} (h : BlockOk ρ w sz ty es st b) (hst : st ≤ ρ.ext b) (h1 : ρ.sh b ≤ i) (h2 : i < ρ.ext b) (hi : es[i]? = some e) :
    ∃ v, Rep ρ w e v ∧ v.cells.size = sz ∧ CellsAt w b ((i - ρ.sh b) * sz) v := h.elems hst i e h1 h2 hi
theorem allSz_get {sz : Nat} : ∀ {es : List D} {i : Nat} {e : D}, allSz sz es = true → es[i]? = some e → e.flat.length = sz ∧ e.st = true
  | [], i, e, _, h => by simp at h
  | d :: l, 0, e, h, hi => by
    simp at hi; subst hi
    simp only [allSz, Bool.and_eq_true] at h
    exact ⟨Nat.eq_of_beq_eq_true h.1.1, h.1.2⟩
  | d :: l, i + 1, e, h, hi => by
    simp at hi
    simp only [allSz, Bool.and_eq_true] at h
    exact allSz_get h.2 hi

/-- A pointer read. -/
theorem load_ok {t : TypeId} {sz : Option Nat} {p d : D} {v : Value} (hs : StRel ρ s w) (hsh : shapeB P t = some sz) (h : loadD s sz p = some d) (hv : Rep ρ w p v) :
    ∃ u, (Instr.loadAt t v).run P w = .ok u w ∧ Rep ρ w d u := by
  have fin : ∀ {b x c : Nat} {e : D} {q : Value}, Rep ρ w e q → e.st = true → w.rangeAt b x q.cells.toList → part e.flat c sz = some d → v = .pointer (some ⟨b, x + c, none⟩) → ∃ u, (Instr.loadAt t v).run P w = .ok u w ∧ Rep ρ w d u := by
    intro b x c e q he hst hr hp hveq
    subst hveq
    obtain ⟨hf, _⟩ := he.flat hst
    have h1 := part_rep hf (D.st_flat hst) hp
    have h2 := run_load (P := P) (c := c) hr hsh
    cases sz with
    | some n =>
      obtain ⟨h3, h4⟩ := h1
      exact ⟨_, h2 h3, h4⟩
    | none =>
      obtain ⟨u, h3, h4, _⟩ := h1
      exact ⟨u, h2 u h3, h4⟩
  cases p <;> simp only [loadD] at h <;> (try cases h)
  case ptr o c =>
    split at h
    · rename_i ty e hx
      obtain ⟨b, q, k1, one, h2, h3, _, h5⟩ := hs.ok _ _ hx
      simp only [Rep, Gh.at, k1] at hv
      obtain ⟨b', hb', rfl⟩ := hv
      obtain rfl := one.2 _ hb'
      exact fin h2 h5 (rangeAt_of_block h3) h (by simp)
    · cases h
  case eptr o i c e =>
    split at h
    · rename_i z ty es st hx
      split at h
      · rename_i hse
        split at h
        · rename_i el hel
          obtain ⟨hz, k1, _, _, hbl, hall⟩ := hs.ok _ _ hx
          simp only [Rep, Gh.at, k1] at hv
          obtain ⟨b, hb, q1, q2, q3, q4⟩ := hv
          have hst := Nat.le_of_ble_eq_true hse
          obtain ⟨q, r1, r2, r3⟩ := (hbl b hb).get (by omega) q1 (by omega) hel
          exact fin r1 (allSz_get hall hel).2 (rangeAt_of_cells r3) h q4
        · cases h
      · cases h
    · cases h
  case vptr e c =>
    simp only [Rep] at hv
    obtain ⟨b, x, q, q1, q2, q3, q4, q5⟩ := hv
    exact fin q2 q4.2 (rangeAt_of_cells q3) h q5

section
variable (he : EnvRel ρ w lo env a.tmps) (hg : GlOk pn G ρ w) (hs : StRel ρ s w)
include he hg hs

theorem ok_load {t : TypeId} {sz : Option Nat} {x' : Operand} {x : Opd} (hx : opd G x' = some x) (hsh : shapeB P t = some sz) (h : opF C env s al (.load sz x) = some (d, s')) {o : Oper} (ho : o.op = .load t x') :
    OpOk P ρ w env a.tmps d s' ((execOp a.eval o).run P w) := by
  simp only [opF] at h
  split at h
  · rename_i p hp
    obtain ⟨h1, rfl⟩ := ofO_some h
    obtain ⟨u, h2, h3⟩ := load_ok (P := P) hs hsh h1 (opd_rep hx he hg hp)
    have hr : (execOp a.eval o).run P w = .ok (.value u) w := by
      simp only [execOp, ho]; rw [Sem.run_bind, h2]; rfl
    rw [hr]; exact .rep hs h3
  · cases h

theorem ok_uptr {t u e : TypeId} {n : Nat} {x' : Operand} {x : Opd} (hx : opd G x' = some x) (ht : P.underlying t = some (.pointer e)) (hu : P.underlying u = some .unsafePointer) (hn : sizeB P e = some (n + 1)) (h : opF C env s al (.uptr x) = some (d, s')) {o : Oper} (ho : o.op = .convert t u x') :
    OpOk P ρ w env a.tmps d s' ((execOp a.eval o).run P w) := by
  simp only [opF] at h
  split at h
  · rename_i k c hp
    split at h
    · rename_i ty v hv
      split at h
      · rename_i hlt
        simp only [Option.some.injEq, Prod.mk.injEq] at h
        obtain ⟨rfl, rfl⟩ := h
        have h1 := opd_rep hx he hg hp
        have h2 := h1
        obtain ⟨b, q, g1, g2, g3, g4, g5, g6⟩ := hs.ok _ _ hv
        simp only [Rep, Gh.at, g1] at h1
        obtain ⟨b', h1, h3⟩ := h1
        obtain rfl := g2.2 b' h1
        have hc : c < q.cells.size := by rw [g3.size g6]; exact Nat.le_of_ble_eq_true hlt
        have hr : (execOp a.eval o).run P w = .ok (.value (a.eval x')) w := by
          simp only [execOp, ho, h3, convert]
          have hsh : ∀ {α : Type} (f : Option (TypeId × Nat) → Sem α), (Sem.shape b' f).run P w = (f (some (ty, q.cells.size))).run P w := fun f => by
            simp [Sem.run, World.shape?, g4]
          simp [run_underlying ht, run_underlying hu, Conv.unsafePointer, Conv.seenAt, viewAt, cellsIn, shape, getObj, hsh]
          have hsz : (sizeOf e).run P w = .ok (n + 1) w := by
            exact sizeOf_run hn
          rw [hsz]
          simp only [Result.andThen]
          rw [if_neg (by omega)]
        rw [hr]; exact .rep hs h2
      · cases h
    · cases h
  · cases h

theorem ok_lload {t : TypeId} {r : Nat} {sz : Option Nat} {x' : Operand} {x : Opd} (hx : opd G x' = some x) (hsh : shapeB P t = some sz) (h : opF C env s al (.lload r sz x) = some (d, s')) {o : Oper} (ho : o.op = .load t x') :
    OpOk P ρ w env a.tmps d s' ((execOp a.eval o).run P w) := by
  simp only [opF] at h
  split at h
  · rename_i r' c hp
    split at h
    · rename_i e hb hlv
      obtain rfl := Nat.eq_of_beq_eq_true hb
      obtain ⟨h1, rfl⟩ := ofO_some h
      obtain ⟨b, h2, h3⟩ := opd_rel hx he hg hp e hlv
      have hsl := he.slot _ _ hlv
      simp only [SlotRel] at hsl
      obtain ⟨b', q, el, q1, q2, q3, q4, q5, q6⟩ := hsl
      have hbb : b = b' := by
        have := h2.symm.trans q1
        simpa using this
      subst hbb
      obtain ⟨hf, _⟩ := q4.flat q6
      have g1 := part_rep hf (D.st_flat q6) h1
      have g2 := run_load (P := P) (c := c) (rangeAt_of_block q5) hsh
      simp only [Nat.zero_add] at g2
      have fin : ∀ u, (Instr.loadAt t (a.eval x')).run P w = .ok u w → (execOp a.eval o).run P w = .ok (.value u) w := by
        intro u hu
        simp only [execOp, ho]; rw [Sem.run_bind, hu]; rfl
      cases sz with
      | some n =>
        obtain ⟨g3, g4⟩ := g1
        rw [fin _ (by rw [h3]; exact g2 g3)]; exact .rep hs g4
      | none =>
        obtain ⟨u, g3, g4, _⟩ := g1
        rw [fin _ (by rw [h3]; exact g2 u g3)]; exact .rep hs g4
    · cases h
  · cases h

theorem ok_iaddr {t e : TypeId} {m : Nat} {x' i' : Operand} {x i : Opd} (hx : opd G x' = some x) (hi : opd G i' = some i) (hu : P.underlying t = some (.slice e)) (hsz : sizeB P e = some (m + 1))
    (h : opF C env s al (.iaddr (m + 1) x i) = some (d, s')) {o : Oper} (ho : o.op = .indexAddr t x' i') : OpOk P ρ w env a.tmps d s' ((execOp a.eval o).run P w) := by
  simp only [opF] at h
  split at h
  · rename_i p n hp hn
    split at h
    · rename_i k hk
      obtain ⟨h1, rfl⟩ := ofO_some h
      have hv := opd_rep hx he hg hp
      obtain ⟨kk, hnv⟩ := idx_int hk (opd_rep hi he hg hn)
      have run : ∀ b y len cap, a.eval x' = .slice (some ⟨b, y, none⟩) len cap → k < len → (execOp a.eval o).run P w = .ok (.value (.pointer (some ⟨b, y + k * (m + 1), none⟩))) w := by
        intro b y len cap hsl hlt
        have hh : (0 : Int) ≤ (k : Int) ∧ (k : Int) < (len : Int) := by omega
        simp only [execOp, ho, Instr.indexAt, hsl, hnv, asIntOf]
        simp [run_underlying hu, sizeOf_run hsz, Addr.add_mid, hlt]
      unfold iaddrD at h1
      split at h1
      · rename_i nl z l
        split at h1
        · rename_i hz
          obtain rfl := Nat.eq_of_beq_eq_true hz
          split at h1
          · rename_i el hel
            simp only [Option.some.injEq] at h1; subst h1
            simp only [Rep] at hv
            rcases hv with ⟨_, rfl, _⟩ | ⟨_, ad, cap, hv, hle, hl⟩
            · simp at hel
            · rcases hl with rfl | ⟨b, y, rfl, hb, hE⟩
              · simp at hel
              · obtain ⟨q, r1, r2, r3, r4, r5⟩ := hE.get hel
                have hlt : k < l.length := (List.getElem?_eq_some_iff.1 hel).1
                rw [run b y _ cap hv hlt]
                exact .rep hs (by simp only [Rep]; exact ⟨b, _, q, hb, r1, r4, ⟨by omega, r5⟩, rfl⟩)
          · cases h1
        · cases h1
      · rename_i ob off len cp
        split at h1
        · rename_i z ty es st hx2
          split at h1
          · rename_i z1 z2 z3 z4
            simp only [Option.some.injEq] at h1; subst h1
            obtain rfl := Nat.eq_of_beq_eq_true z1
            have y2 : k < len := by have := Nat.le_of_ble_eq_true z2; omega
            obtain ⟨hz, k1, _, _, hbl, hall⟩ := hs.ok _ _ hx2
            simp only [Rep, Gh.at, k1] at hv
            obtain ⟨b, hb, q1, q2, q3, xx, cap, q4, q5, q6, q7⟩ := hv
            rw [run b xx len cap q4 y2]
            refine .rep hs ?_
            simp only [Rep, Gh.at, k1]
            refine ⟨b, hb, by omega, by omega, by omega, ?_⟩
            have hxx : xx = (off - ρ.sh b) * (m + 1) := by rcases q6 with q6 | q6 <;> omega
            rw [hxx, show off + k - ρ.sh b = (off - ρ.sh b) + k by omega, Nat.add_mul]
            rfl
          · cases h1
        · cases h1
      · cases h1
    · cases h
  · cases h

omit he hg hs in
theorem run_builtin {b : Builtin} {args : Array Operand} {tys : Array TypeId} {o : Oper} (ho : o.op = .call { callee := .builtin b, args := args, argTypes := tys }) :
    (execOp a.eval o).run P w = (builtin b tys o.type (args.map fun | .const _ => true | _ => false) (args.map a.eval)).run P w := by
  simp only [execOp, ho, resolve]
  rfl

omit he hg hs in
theorem RepM.length : ∀ {l : List (Nat × D × D)} {es : List MapEntry}, RepM ρ w l es → l.length = es.length
  | [], _, h => by simp only [RepM] at h; subst h; rfl
  | (n, k, v) :: l, _, h => by
    simp only [RepM] at h
    obtain ⟨e, r, rfl, _, _, _, h2⟩ := h
    simp [RepM.length h2]

theorem ok_len {t : TypeId} {k : Nat} {x' : Operand} {x : Opd} (hx : opd G x' = some x) (hk : (k = 0 ∧ P.underlying t = some .string) ∨ (∃ q, k = 1 ∧ P.underlying t = some (.slice q)) ∨ (∃ q r, k = 2 ∧ P.underlying t = some (.map q r)))
    (h : opF C env s al (.len k x) = some (d, s')) {o : Oper}
    (ho : o.op = .call { callee := .builtin .len, args := #[x'], argTypes := #[t] }) : OpOk P ρ w env a.tmps d s' ((execOp a.eval o).run P w) := by
  simp only [opF] at h
  split at h
  · rename_i i ex lo hi hp
    split at h
    · simp only [Option.some.injEq, Prod.mk.injEq] at h
      obtain ⟨rfl, rfl⟩ := h
      have hv := opd_rep hx he hg hp
      rcases hk with ⟨_, hu⟩ | ⟨q, hk, _⟩ | ⟨q, r, hk, _⟩
      · simp only [Rep] at hv
        have hr : (Builtin.len_ #[t] o.type #[a.eval x']).run P w = .ok (goInt (Vals.vs i).length) w := by
          simp [Builtin.len_, run_underlying hu, hv.1, ByteArray.size_mk']
        rw [run_builtin ho]
        simp only [builtin, List.map_toArray, List.map_cons, List.map_nil]
        rw [Sem.run_bind, hr]
        refine .rep hs ?_
        simp only [Rep, Sym.val, goInt]
        exact ⟨trivial, by have := hv.2.2.1; omega, by have := hv.2.2.2; omega⟩
      · cases hk
      · cases hk
    · cases h
  · rename_i p hneg hp
    clear hneg
    split at h
    · rename_i n hn
      simp only [Option.some.injEq, Prod.mk.injEq] at h
      obtain ⟨rfl, rfl⟩ := h
      have hv := opd_rep hx he hg hp
      have fin : (Builtin.len_ #[t] o.type #[a.eval x']).run P w = .ok (goInt n) w → OpOk P ρ w env a.tmps (goI n) s ((execOp a.eval o).run P w) := by
        intro hr
        rw [run_builtin ho]
        simp only [builtin, List.map_toArray, List.map_cons, List.map_nil]
        rw [Sem.run_bind, hr]
        exact .rep hs (by simp [goI, goInt, Rep])
      apply fin
      rcases hk with ⟨rfl, hu⟩ | ⟨q, rfl, hu⟩ | ⟨q, r, rfl, hu⟩
      · simp only [lenD] at hn
        split at hn <;> (try cases hn)
        simp only [Rep] at hv
        simp [Builtin.len_, run_underlying hu, hv, ByteArray.size_mk']
      · simp only [lenD] at hn
        split at hn <;> (try cases hn)
        · rename_i nl z l
          simp only [Rep] at hv
          have : ∃ p c, a.eval x' = .slice p l.length c := by
            rcases hv with ⟨_, rfl, hv⟩ | ⟨_, ad, c, hv, _⟩
            · exact ⟨_, _, hv⟩
            · exact ⟨_, _, hv⟩
          obtain ⟨p, c, hv⟩ := this
          simp [Builtin.len_, run_underlying hu, hv]
        · simp only [Rep] at hv
          obtain ⟨p, c, hv⟩ := Gh.at_any hv fun _ _ ⟨_, _, _, _, _, q, _⟩ => ⟨_, _, q⟩
          simp [Builtin.len_, run_underlying hu, hv]
      · simp only [lenD] at hn
        split at hn <;> (try cases hn)
        · simp only [Rep] at hv
          simp [Builtin.len_, run_underlying hu, hv]
        · rename_i ob
          split at hn
          · rename_i es c hx2
            simp only [Option.some.injEq] at hn; subst hn
            obtain ⟨b, ces, k1, one, hb, hM⟩ := hs.ok _ _ hx2
            simp only [Rep, Gh.at, k1] at hv
            obtain ⟨b', hb', hv⟩ := hv
            obtain rfl := one.2 _ hb'
            have hl := hM.length
            simp [Builtin.len_, run_underlying hu, hv, getObj, Sem.run, hb, hl]
          · cases hn
    · cases h
  · cases h

omit he hg hs in
theorem RepE.of {sz b : Nat} (hz : 0 < sz) : ∀ (l : List D) (x : Nat), (∀ (i : Nat) (e : D), l[i]? = some e → ∃ v, Rep ρ w e v ∧ v.cells.size = sz ∧ CellsAt w b (x + i * sz) v ∧ e.st = true) → RepE ρ w sz b x l
  | [], _, _ => by simp [RepE]
  | d :: l, x, h => by
    simp only [RepE]
    obtain ⟨v, h1, h2, h3, h4⟩ := h 0 d (by simp)
    refine ⟨⟨v, h1, h2, hz, by simpa using h3, h4⟩, RepE.of hz l (x + sz) fun i e hi => ?_⟩
    obtain ⟨u, g1, g2, g3, g4⟩ := h (i + 1) e (by simpa using hi)
    exact ⟨u, g1, g2, by rwa [show x + (i + 1) * sz = x + sz + i * sz by rw [Nat.add_mul]; omega] at g3, g4⟩

omit he hg in
/-- What a slice holds, read. -/
theorem items_ok {x : D} {v : Value} {z : Nat} {l : List D} (h : items s x = some (z, l)) (hv : Rep ρ w x v) :
    (l = [] ∧ ∃ p c, v = .slice p 0 c) ∨ ∃ b y c, v = .slice (some ⟨b, y, none⟩) l.length c ∧ RepE ρ w z b y l := by
  cases x <;> simp only [items] at h <;> (try cases h)
  case vs nl =>
    simp only [Rep] at hv
    rcases hv with ⟨_, rfl, rfl⟩ | ⟨_, ad, c, rfl, _, hl⟩
    · exact .inl ⟨rfl, _, _, rfl⟩
    · rcases hl with rfl | ⟨b, y, rfl, _, hE⟩
      · exact .inl ⟨rfl, _, _, rfl⟩
      · exact .inr ⟨b, y, c, rfl, hE⟩
  case sl o off len cp =>
    split at h
    · rename_i sz ty es st hx
      split at h
      · rename_i h1 h2
        simp only [Option.some.injEq, Prod.mk.injEq] at h
        obtain ⟨rfl, rfl⟩ := h
        have g1 := Nat.le_of_ble_eq_true h1
        have g2 := Nat.le_of_ble_eq_true h2
        obtain ⟨hz, k1, _, _, hbl, hall⟩ := hs.ok _ _ hx
        simp only [Rep, Gh.at, k1] at hv
        obtain ⟨b, hb, q1, q2, q3, xx, cap, q4, q5, q6, q7⟩ := hv
        have hlen : ((es.drop off).take len).length = len := by simp; omega
        by_cases hl0 : len = 0
        · subst hl0
          exact .inl ⟨by simp, _, _, q4⟩
        · have hxx : xx = (off - ρ.sh b) * sz := by rcases q6 with q6 | q6 <;> omega
          refine .inr ⟨b, xx, cap, by rw [hlen]; exact q4, RepE.of hz _ _ fun i e hi => ?_⟩
          rw [List.getElem?_take] at hi
          split at hi
          · rw [List.getElem?_drop] at hi
            obtain ⟨u, r1, r2, r3⟩ := (hbl b hb).get (by omega) (by omega) (by omega) hi
            refine ⟨u, r1, r2, ?_, (allSz_get hall hi).2⟩
            rwa [show off + i - ρ.sh b = (off - ρ.sh b) + i by omega, Nat.add_mul, ← hxx] at r3
          · cases hi
      · cases h
    · cases h

theorem ok_iaddrA {t e : TypeId} {n m : Nat} {x' i' : Operand} {x i : Opd} (hx : opd G x' = some x) (hi : opd G i' = some i) (hu : P.underlying t = some (.array n e)) (hsz : sizeB P e = some (m + 1))
    (h : opF C env s al (.iaddrA n (m + 1) x i) = some (d, s')) {o : Oper} (ho : o.op = .indexAddr t x' i') : OpOk P ρ w env a.tmps d s' ((execOp a.eval o).run P w) := by
  have key : ∀ k kk (q : Addr), a.eval i' = .int kk (k : Nat) → k < n → a.eval x' = .pointer (some q) → (execOp a.eval o).run P w = .ok (.value (.pointer (some (q.add (k * (m + 1)))))) w := by
    intro k kk q hiv hlt hv
    simp only [execOp, ho, hv, hiv, Instr.indexAt, asIntOf, Instr.sureAddr]
    simp [run_underlying hu, sizeOf_run hsz, hlt]
  simp only [opF] at h
  split at h
  · rename_i b c k hp hn
    split at h
    · rename_i j hj
      obtain ⟨kk, hiv⟩ := idx_int hj (opd_rep hi he hg hn)
      split at h
      · rename_i hb hlv
        simp only [Option.some.injEq, Prod.mk.injEq] at h
        obtain ⟨rfl, rfl⟩ := h
        have hlt : j < n := by have := Nat.le_of_ble_eq_true hb; omega
        obtain ⟨y, hy⟩ := isLv_some hlv
        obtain ⟨bb, h2, h3⟩ := opd_rel hx he hg hp y hy
        rw [key j kk _ hiv hlt h3, Addr.add_mid]
        exact .pure hs (by simp only [ResRel]; exact fun _ _ => ⟨bb, h2, rfl⟩)
      · cases h
    · cases h
  · rename_i b c k hp hn
    split at h
    · rename_i j hj
      obtain ⟨kk, hiv⟩ := idx_int hj (opd_rep hi he hg hn)
      split at h
      · rename_i hb
        simp only [Option.some.injEq, Prod.mk.injEq] at h
        obtain ⟨rfl, rfl⟩ := h
        have hlt : j < n := by have := Nat.le_of_ble_eq_true hb; omega
        have h1 := opd_rel hx he hg hp
        simp only [ResRel, Rep] at h1
        unfold Gh.at at h1
        split at h1
        · exact h1.elim
        · rename_i hk
          obtain ⟨q, hq⟩ := h1
          rw [key j kk q hiv hlt hq]
          exact .rep hs (by simp only [Rep, Gh.at, hk]; exact ⟨_, rfl⟩)
        · rename_i sz hk
          obtain ⟨bb, h2, h3⟩ := h1
          rw [key j kk _ hiv hlt h3, Addr.add_mid]
          exact .rep hs (by simp only [Rep, Gh.at, hk]; exact ⟨bb, h2, rfl⟩)
      · cases h
    · cases h
  · rename_i b i2 c z k hp hn
    split at h
    · rename_i j hj
      obtain ⟨kk, hiv⟩ := idx_int hj (opd_rep hi he hg hn)
      split at h
      · rename_i hb
        simp only [Option.some.injEq, Prod.mk.injEq] at h
        obtain ⟨rfl, rfl⟩ := h
        have hlt : j < n := by have := Nat.le_of_ble_eq_true hb; omega
        have h1 := opd_rel hx he hg hp
        simp only [ResRel, Rep] at h1
        unfold Gh.at at h1
        split at h1
        · exact h1.elim
        · rename_i hk
          obtain ⟨q, hq⟩ := h1
          rw [key j kk q hiv hlt hq]
          exact .rep hs (by simp only [Rep, Gh.at, hk]; exact ⟨_, rfl⟩)
        · rename_i sz hk
          obtain ⟨bb, h2, h3, h4, h5, h6⟩ := h1
          rw [key j kk _ hiv hlt h6, Addr.add_mid]
          exact .rep hs (by simp only [Rep, Gh.at, hk]; exact ⟨bb, h2, h3, h4, h5, by rw [Nat.add_assoc]⟩)
      · cases h
    · cases h
  · rename_i e' c k hp hn
    split at h
    · rename_i j hj
      obtain ⟨kk, hiv⟩ := idx_int hj (opd_rep hi he hg hn)
      split at h
      · rename_i hb
        simp only [Option.some.injEq, Prod.mk.injEq] at h
        obtain ⟨rfl, rfl⟩ := h
        have hlt : j < n := by have := Nat.le_of_ble_eq_true hb; omega
        have h1 := opd_rel hx he hg hp
        simp only [ResRel, Rep] at h1
        obtain ⟨b, xx, u, q1, q2, q3, q4, q5⟩ := h1
        rw [key j kk _ hiv hlt q5, Addr.add_mid]
        exact .rep hs (by simp only [Rep]; exact ⟨b, xx, u, q1, q2, q3, q4, by rw [Nat.add_assoc]⟩)
      · cases h
    · cases h
  · cases h

theorem ok_aidx {t e : TypeId} {n : Nat} {sz : Option Nat} {x' i' : Operand} {x i : Opd} (hx : opd G x' = some x) (hi : opd G i' = some i) (hu : P.underlying t = some (.array n e)) (hsh : shapeB P e = some sz)
    (h : opF C env s al (.aidx n (sz.getD 1) sz.isSome x i) = some (d, s')) {o : Oper} (ho : o.op = .index t x' i') : OpOk P ρ w env a.tmps d s' ((execOp a.eval o).run P w) := by
  have hsz : sizeB P e = some (sz.getD 1) := by
    unfold shapeB at hsh
    split at hsh
    · rename_i s' h1 h2; simp only [Option.some.injEq] at hsh; subst hsh; simpa using h2
    · rename_i h1 h2; simp only [Option.some.injEq] at hsh; subst hsh; simpa using h2
    · cases hsh
  simp only [opF] at h
  split at h
  · rename_i l k hp hn
    split at h
    · rename_i j hj
      obtain ⟨kk, hiv⟩ := idx_int hj (opd_rep hi he hg hn)
      split at h
      · rename_i hb
        obtain ⟨h1, rfl⟩ := ofO_some h
        have hlt : j < n := by have := Nat.le_of_ble_eq_true hb; omega
        have hv := opd_rep hx he hg hp
        simp only [Rep] at hv
        obtain ⟨vs, hv, hl, hsc⟩ := hv
        have h1' : part l (j * sz.getD 1) sz = some d := by
          cases sz <;> simpa using h1
        obtain ⟨u, r1, r2⟩ := run_part (P := P) hl hsc hsh h1'
        have hr : (execOp a.eval o).run P w = .ok (.value u) w := by
          simp only [execOp, ho, hv, hiv, Instr.index, asIntOf]
          simp [run_underlying hu, sizeOf_run hsz, hlt, r1]
        rw [hr]; exact .rep hs r2
      · cases h
    · cases h
  · cases h
end
end Go.Ab
