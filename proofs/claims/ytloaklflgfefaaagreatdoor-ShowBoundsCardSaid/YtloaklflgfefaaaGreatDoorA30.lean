/- Calls with arguments that are not known, class by class. -/
import Derived.Test.YtloaklflgfefaaaGreatDoorA28
namespace Go.Ab
open Go
set_option linter.unusedSectionVars false
set_option linter.unusedSimpArgs false
set_option linter.unusedVariables false
variable [Vals]

def T.beq : T Obj → T Obj → Bool
  | .nil, .nil => true
  | .node o l r, .node o' l' r' => (match o, o' with
    | none, none => true
    | some x, some y => Obj.beq x y
    | _, _ => false) && (T.beq l l' && T.beq r r')
  | _, _ => false
theorem T.beq_eq : ∀ (a b : T Obj), T.beq a b = true → a = b
  | .nil, .nil, _ => rfl
  | .node o l r, .node o' l' r', h => by
    simp only [T.beq, Bool.and_eq_true] at h
    obtain ⟨h1, h2, h3⟩ := h
    rw [T.beq_eq _ _ h2, T.beq_eq _ _ h3]
    cases o <;> cases o' <;> simp only at h1 <;> first
      | rfl
      | (cases h1; done)
      | rw [Obj.beq_eq _ _ h1]
  | .nil, .node _ _ _, h => by simp [T.beq] at h
  | .node _ _ _, .nil, h => by simp [T.beq] at h
def St.beq (s s' : St) : Bool := Nat.beq s.n s'.n && (s.ro == s'.ro && (s.lk == s'.lk && T.beq s.h s'.h))
theorem St.beq_eq (s s' : St) (h : St.beq s s' = true) : s = s' := by
  cases s; cases s'
  simp only [St.beq, Bool.and_eq_true, Nat.beq_eq, beq_iff_eq] at h
  obtain ⟨rfl, rfl, rfl, h⟩ := h
  rw [T.beq_eq _ _ h]

/-! ### Data without objects -/
mutual
/-- No objects. -/
def D.im : D → Bool
  | .ptr _ _ => false
  | .eptr _ _ _ _ => false
  | .sl _ _ _ _ => false
  | .mp _ => false
  | .lv _ => false
  | .yl _ => false
  | .vptr e _ => e.im
  | .vs _ _ l => D.ims l
  | .fn _ a c => D.ims a && D.ims c
  | .ifc _ d => d.im
  | .agg l => D.ims l
  | .tup l => D.ims l
  | _ => true
def D.ims : List D → Bool
  | [] => true
  | d :: l => d.im && D.ims l
end
mutual
/-- No memory at all. -/
def D.pl : D → Bool
  | .ptr _ _ => false
  | .eptr _ _ _ _ => false
  | .sl _ _ _ _ => false
  | .mp _ => false
  | .yl _ => false
  | .vptr _ _ => false
  | .vs nl _ _ => nl
  | .fn _ a c => D.pls a && D.pls c
  | .ifc _ d => d.pl
  | .agg l => D.pls l
  | .tup l => D.pls l
  | _ => true
def D.pls : List D → Bool
  | [] => true
  | d :: l => d.pl && D.pls l
end
section
variable {ρ ρ' : Gh} {w w' : World} {P : Program} {pn : Pins} {G : Gl} {s : St} {C : Caller}
mutual
theorem Rep.pl : ∀ (d : D) (v : Value), d.pl = true → Rep ρ w d v → Rep ρ' w' d v
  | .bool _, _, _, r => by simpa only [Rep] using r
  | .int _ _, _, _, r => by simpa only [Rep] using r
  | .str _, _, _, r => by simpa only [Rep] using r
  | .nilp, _, _, r => by simpa only [Rep] using r
  | .ptr _ _, _, h, _ => by simp [D.pl] at h
  | .eptr _ _ _ _, _, h, _ => by simp [D.pl] at h
  | .vptr _ _, _, h, _ => by simp [D.pl] at h
  | .vs nl sz l, _, h, r => by
    simp only [D.pl] at h; subst h
    simp only [Rep] at *
    rcases r with r | ⟨r, _⟩
    · exact .inl r
    · cases r
  | .sl _ _ _ _, _, h, _ => by simp [D.pl] at h
  | .nilm, _, _, r => by simpa only [Rep] using r
  | .mp _, _, h, _ => by simp [D.pl] at h
  | .fn f a c, _, h, r => by
    simp only [D.pl, Bool.and_eq_true] at h
    simp only [Rep] at *
    obtain ⟨va, vc, h1, h2, h3⟩ := r
    exact ⟨va, vc, h1, RepL.pl a _ h.1 h2, RepL.pl c _ h.2 h3⟩
  | .nilf, _, _, r => by simpa only [Rep] using r
  | .ifc t d, _, h, r => by
    simp only [D.pl] at h
    simp only [Rep] at *
    obtain ⟨u, h1, h2⟩ := r
    exact ⟨u, h1, Rep.pl d u h h2⟩
  | .nili, _, _, r => by simpa only [Rep] using r
  | .agg l, _, h, r => by
    simp only [D.pl] at h
    simp only [Rep] at *
    obtain ⟨vs, h1, h2, h3⟩ := r
    exact ⟨vs, h1, RepL.pl l _ h h2, h3⟩
  | .tup l, _, h, r => by
    simp only [D.pl] at h
    simp only [Rep] at *
    obtain ⟨vs, h1, h2⟩ := r
    exact ⟨vs, h1, RepL.pl l _ h h2⟩
  | .lv _, _, _, r => by simp only [Rep] at r
  | .lptr _ _, _, _, r => by simp only [Rep] at r
  | .sint _ _ _ _, _, _, r => by simpa only [Rep] using r
  | .sstr _ _ _ _, _, _, r => by simpa only [Rep] using r
  | .sbool _, _, _, r => by simpa only [Rep] using r
  | .yl _, _, h, _ => by simp [D.pl] at h
theorem RepL.pl : ∀ (l : List D) (vs : List Value), D.pls l = true → RepL ρ w l vs → RepL ρ' w' l vs
  | [], _, _, r => by simpa only [RepL] using r
  | d :: l, _, h, r => by
    simp only [D.pls, Bool.and_eq_true] at h
    simp only [RepL] at *
    obtain ⟨v, t, h1, h2, h3⟩ := r
    exact ⟨v, t, h1, Rep.pl d v h.1 h2, RepL.pl l t h.2 h3⟩
end

/-- What is nobody's stays so. -/
def SameImm (ρ : Gh) (w : World) (ρ' : Gh) (w' : World) : Prop := ∀ b, b < w.heap.size → ρ.own b = .imm → ρ'.own b = .imm ∧ w'.heap[b]? = w.heap[b]?
mutual
theorem Rep.im (h : SameImm ρ w ρ' w') : ∀ (d : D) (v : Value), d.im = true → Rep ρ w d v → Rep ρ' w' d v
  | .bool _, _, _, r => by simpa only [Rep] using r
  | .int _ _, _, _, r => by simpa only [Rep] using r
  | .str _, _, _, r => by simpa only [Rep] using r
  | .nilp, _, _, r => by simpa only [Rep] using r
  | .ptr _ _, _, h, _ => by simp [D.im] at h
  | .eptr _ _ _ _, _, h, _ => by simp [D.im] at h
  | .vptr e c, _, hi, r => by
    simp only [D.im] at hi
    simp only [Rep] at *
    obtain ⟨b, x, u, h1, h2, h3, h4, h5⟩ := r
    obtain ⟨k1, k2⟩ := h b (h3.lt h4.1) h1
    exact ⟨b, x, u, k1, Rep.im h e u hi h2, h3.of_heap k2, h4, h5⟩
  | .vs nl sz l, _, hi, r => by
    simp only [D.im] at hi
    simp only [Rep] at *
    rcases r with r | ⟨r1, ad, cap, r2, r3, r4⟩
    · exact .inl r
    · refine .inr ⟨r1, ad, cap, r2, r3, ?_⟩
      rcases r4 with r4 | ⟨b, x, r0, r4, r5⟩
      · exact .inl r4
      · cases l with
        | nil => exact .inl rfl
        | cons d l =>
          have hb : b < w.heap.size := by
            simp only [RepE] at r5
            obtain ⟨⟨v, _, e1, e2, e3, _⟩, _⟩ := r5
            exact e3.lt (by omega)
          obtain ⟨k1, k2⟩ := h b hb r4
          exact .inr ⟨b, x, r0, k1, RepE.im h sz b k2 x (d :: l) hi r5⟩
  | .sl _ _ _ _, _, h, _ => by simp [D.im] at h
  | .nilm, _, _, r => by simpa only [Rep] using r
  | .mp _, _, h, _ => by simp [D.im] at h
  | .fn f a c, _, hi, r => by
    simp only [D.im, Bool.and_eq_true] at hi
    simp only [Rep] at *
    obtain ⟨va, vc, h1, h2, h3⟩ := r
    exact ⟨va, vc, h1, RepL.im h a _ hi.1 h2, RepL.im h c _ hi.2 h3⟩
  | .nilf, _, _, r => by simpa only [Rep] using r
  | .ifc t d, _, hi, r => by
    simp only [D.im] at hi
    simp only [Rep] at *
    obtain ⟨u, h1, h2⟩ := r
    exact ⟨u, h1, Rep.im h d u hi h2⟩
  | .nili, _, _, r => by simpa only [Rep] using r
  | .agg l, _, hi, r => by
    simp only [D.im] at hi
    simp only [Rep] at *
    obtain ⟨vs, h1, h2, h3⟩ := r
    exact ⟨vs, h1, RepL.im h l _ hi h2, h3⟩
  | .tup l, _, hi, r => by
    simp only [D.im] at hi
    simp only [Rep] at *
    obtain ⟨vs, h1, h2⟩ := r
    exact ⟨vs, h1, RepL.im h l _ hi h2⟩
  | .lv _, _, _, r => by simp only [Rep] at r
  | .lptr _ _, _, _, r => by simp only [Rep] at r
  | .sint _ _ _ _, _, _, r => by simpa only [Rep] using r
  | .sstr _ _ _ _, _, _, r => by simpa only [Rep] using r
  | .sbool _, _, _, r => by simpa only [Rep] using r
  | .yl _, _, h, _ => by simp [D.im] at h
theorem RepL.im (h : SameImm ρ w ρ' w') : ∀ (l : List D) (vs : List Value), D.ims l = true → RepL ρ w l vs → RepL ρ' w' l vs
  | [], _, _, r => by simpa only [RepL] using r
  | d :: l, _, hi, r => by
    simp only [D.ims, Bool.and_eq_true] at hi
    simp only [RepL] at *
    obtain ⟨v, t, h1, h2, h3⟩ := r
    exact ⟨v, t, h1, Rep.im h d v hi.1 h2, RepL.im h l t hi.2 h3⟩
theorem RepE.im (h : SameImm ρ w ρ' w') (sz b : Nat) (hb : w'.heap[b]? = w.heap[b]?) : ∀ (x : Nat) (l : List D), D.ims l = true → RepE ρ w sz b x l → RepE ρ' w' sz b x l
  | _, [], _, _ => by simp only [RepE]
  | x, d :: l, hi, r => by
    simp only [D.ims, Bool.and_eq_true] at hi
    simp only [RepE] at *
    obtain ⟨⟨v, h1, h2, h3, h4, h6⟩, h5⟩ := r
    exact ⟨⟨v, Rep.im h d v hi.1 h1, h2, h3, h4.of_heap hb, h6⟩, RepE.im h sz b hb (x + sz) l hi.2 h5⟩
end

def st0 : St := ⟨0, .nil, [], false⟩
/-- A call that is run by itself, from nothing. -/
def alone (C : Caller) : Caller := fun f l s => match D.ims l with
  | true => match C f l st0 with
    | some (d, _) => match d.pl with
      | true => some (d, s)
      | false => none
    | none => none
  | false => none

theorem alone_ok (hC : CallerOk .none P G C) (hG : ∀ g d, G g = some d → d.im = true) : CallerOk .none P G (alone C) := by
  refine ⟨fun f l s r h hy args w => ?_, fun f l s d s' ρ w vs h hs hg hr => ?_, fun f l s d s' _ h => ?_, fun y l s d s' ρ w u vs h => by simp [alone, D.ims, D.im] at h⟩
  · unfold alone at h
    split at h
    · split at h
      · rename_i h1; exact hC.enter f l st0 _ h1 hy args w
      · cases h
    · cases h
  · unfold alone at h
    split at h
    · rename_i him
      split at h
      · rename_i d1 s1 h1
        split at h
        · rename_i hpl
          simp only [Option.some.injEq, Prod.mk.injEq] at h
          obtain ⟨rfl, rfl⟩ := h
          let ρ0 : Gh := { ρ with own := fun b => match ρ.own b with | .obj _ => .priv | x => x, kd := fun _ => .fresh }
          have hno : ∀ b o, ρ0.own b ≠ .obj o := fun b o => by
            show (match ρ.own b with | .obj _ => Own.priv | x => x) ≠ .obj o
            split
            · simp
            · rename_i h; exact fun e => h o e
          have himm : ∀ b, ρ.own b = .imm → ρ0.own b = .imm := fun b hb => by
            show (match ρ.own b with | .obj _ => Own.priv | x => x) = .imm
            rw [hb]
          have hS : SameImm ρ w ρ0 w := fun b _ hb => ⟨himm b hb, rfl⟩
          have hs0 : StRel ρ0 st0 w := by
            refine ⟨fun o x hx => ?_, fun o x hx => ?_, fun o _ => rfl, fun b o hb => absurd hb (hno b o), fun b hb => himm b (hs.size b hb)⟩
            · simp [st0, St.get, T.get] at hx
            · simp [st0, St.get, T.get] at hx
          have hg0 : GlOk .none G ρ0 w := ⟨fun g d hd => Rep.im hS (.vptr d 0) _ (by simp only [D.im]; exact hG g d hd) (hg.1 g d hd), trivial⟩
          refine (hC.calls f l st0 d1 s1 ρ0 w vs h1 hs0 hg0 (RepL.im hS l vs him hr)).mono fun e w' he => ?_
          cases e with
          | panicked _ => exact he
          | outgrown => exact he
          | returned v =>
            obtain ⟨ρ1, k1, k2, k3⟩ := he
            have hsame : ∀ b, b < w.heap.size → w'.heap[b]? = w.heap[b]? := fun b hb => (k1.kept b hb (hno b)).1
            let ρ2 : Gh := { ρ with own := fun b => if b < w.heap.size then ρ.own b else .imm }
            have hown : ∀ b, b < w.heap.size → ρ2.own b = ρ.own b := fun b hb => if_pos hb
            have hown' : ∀ b, ¬ b < w.heap.size → ρ2.own b = .imm := fun b hb => if_neg hb
            have hK : Kp ρ w ρ2 w' := by
              refine ⟨k1.os, k1.tape, k1.output, k1.size, fun b hb _ => ⟨hsame b hb, hown b hb⟩, fun _ h => ⟨h, rfl⟩, fun o sz ho => .inr ⟨ho, fun b hb => ⟨?_, rfl, Nat.le_refl _, rfl⟩⟩⟩
              rw [hown b (hs.own_lt hb)]; exact hb
            refine ⟨ρ2, hK, hs.keep hK.r (fun b o => ?_) rfl (fun b o hb => ⟨hsame b (hs.own_lt hb), rfl, rfl, rfl⟩) (fun b hb => hown' b (by have := k1.size; omega)), Rep.pl _ _ hpl k3⟩
            by_cases hb : b < w.heap.size
            · rw [hown b hb]
            · rw [hown' b hb, hs.size b (by omega)]
        · cases h
      · cases h
    · cases h
  · unfold alone at h
    split at h
    · split at h
      · split at h
        · simp only [Option.some.injEq, Prod.mk.injEq] at h; exact h.2.symm
        · cases h
      · cases h
    · cases h
end
end Go.Ab

namespace Go.Ab
open Go
set_option linter.unusedSectionVars false
set_option linter.unusedSimpArgs false
set_option linter.unusedVariables false
variable [Vals]

inductive Pat where
  | any | tok (d : D) | obj
structure Ent where
  f : Nat
  pat : List Pat
  cls : List (List (Option D) × D)
  res : D
def Pat.fits : Pat → D → Bool
  | .any, _ => true
  | .tok t, d => D.beq t d
  | .obj, d => match d with
    | .ptr _ _ => true
    | _ => false
def fitsL : List Pat → List D → Bool
  | [], [] => true
  | p :: ps, d :: l => p.fits d && fitsL ps l
  | _, _ => false
def subst : List (Option D) → List D → List D
  | some d :: r, _ :: l => d :: subst r l
  | none :: r, x :: l => x :: subst r l
  | _, l => l
def allCls (C : Caller) (f : Nat) (l : List D) (s s1 : St) : List (List (Option D) × D) → Bool
  | [] => true
  | (c, r) :: rest => match C f (subst c l) s with
    | some (d, s2) => D.beq d r && (St.beq s2 s1 && allCls C f l s s1 rest)
    | none => false
def mergeD (C : Caller) (e : Ent) (l : List D) (s : St) : Option (D × St) :=
  match e.cls with
  | [] => none
  | (c, _) :: _ => match C e.f (subst c l) s with
    | some (_, s1) => match allCls C e.f l s s1 e.cls with
      | true => some (e.res, s1)
      | false => none
    | none => none
def findEnt : List Ent → Nat → List D → Option Ent
  | [], _, _ => none
  | e :: r, f, l => match Nat.beq e.f f && fitsL e.pat l with
    | true => some e
    | false => findEnt r f l
/-- Calls as they are, but for the entries' ones. -/
def hook (es : List Ent) (C : Caller) : Caller := fun f l s => match findEnt es f l with
  | some e => mergeD C e l s
  | none => C f l s

def Imp (t d : D) : Prop := ∀ ρ w v, Rep ρ w t v → Rep ρ w d v
def Sub : List Pat → List (Option D) → Prop
  | _ :: ps, none :: cs => Sub ps cs
  | .tok t :: ps, some d :: cs => Imp t d ∧ Sub ps cs
  | _, [] => True
  | _, _ => False
/-- One of the classes is that of what is not known. -/
def ClsOk (e : Ent) : Prop := ∃ c ∈ e.cls, Sub e.pat c.1 ∧ c.1.length = e.pat.length ∧ Imp c.2 e.res

theorem findEnt_spec {f : Nat} {l : List D} {e : Ent} : ∀ {es : List Ent}, findEnt es f l = some e → e ∈ es ∧ e.f = f ∧ fitsL e.pat l = true
  | [], h => by simp [findEnt] at h
  | x :: r, h => by
    simp only [findEnt] at h
    split at h
    · rename_i hc
      simp only [Option.some.injEq] at h; subst h
      simp only [Bool.and_eq_true] at hc
      exact ⟨by simp, Nat.eq_of_beq_eq_true hc.1, hc.2⟩
    · obtain ⟨h1, h2⟩ := findEnt_spec h
      exact ⟨List.mem_cons_of_mem _ h1, h2⟩

theorem allCls_spec {C : Caller} {f : Nat} {l : List D} {s s1 : St} : ∀ {cls : List (List (Option D) × D)}, allCls C f l s s1 cls = true → ∀ c ∈ cls, C f (subst c.1 l) s = some (c.2, s1)
  | [], _, c, hc => by cases hc
  | (c0, r0) :: rest, h, c, hc => by
    simp only [allCls] at h
    split at h
    · rename_i d s2 h1
      simp only [Bool.and_eq_true] at h
      rcases List.mem_cons.1 hc with rfl | hc
      · rw [h1, D.beq_eq _ _ h.1, St.beq_eq _ _ h.2.1]
      · exact allCls_spec h.2.2 c hc
    · cases h

theorem subst_rep {ρ : Gh} {w : World} : ∀ {ps : List Pat} {cs : List (Option D)} {l : List D} {vs : List Value}, fitsL ps l = true → Sub ps cs → RepL ρ w l vs → RepL ρ w (subst cs l) vs
  | [], [], l, vs, _, _, h => by simpa only [subst] using h
  | _ :: _, [], l, vs, _, _, h => by simpa only [subst] using h
  | [], none :: _, _, _, _, h, _ => by simp [Sub] at h
  | [], some _ :: _, _, _, _, h, _ => by simp [Sub] at h
  | p :: ps, none :: cs, [], vs, hf, _, _ => by simp [fitsL] at hf
  | p :: ps, some _ :: cs, [], vs, hf, _, _ => by simp [fitsL] at hf
  | p :: ps, none :: cs, d :: l, vs, hf, hs, h => by
    simp only [fitsL, Bool.and_eq_true] at hf
    have hs : Sub ps cs := by cases p <;> simpa only [Sub] using hs
    simp only [RepL, subst] at *
    obtain ⟨v, r, h1, h2, h3⟩ := h
    exact ⟨v, r, h1, h2, subst_rep hf.2 hs h3⟩
  | p :: ps, some t :: cs, d :: l, vs, hf, hs, h => by
    simp only [fitsL, Bool.and_eq_true] at hf
    cases p with
    | any => simp [Sub] at hs
    | obj => simp [Sub] at hs
    | tok u =>
      simp only [Sub] at hs
      simp only [Pat.fits] at hf
      obtain rfl := D.beq_eq _ _ hf.1
      simp only [RepL, subst] at *
      obtain ⟨v, r, h1, h2, h3⟩ := h
      exact ⟨v, r, h1, hs.1 _ _ _ h2, subst_rep hf.2 hs.2 h3⟩

theorem hook_ok {P : Program} {pn : Pins} {G : Gl} {C : Caller} {es : List Ent} (hC : CallerOk pn P G C) (he : ∀ e ∈ es, ClsOk e) (hz : ∀ e ∈ es, e.f ≠ 0) : CallerOk pn P G (hook es C) := by
  refine ⟨fun f l s r h hy args w => ?_, fun f l s d s' ρ w vs h hs hg hr => ?_, fun f l s d s' hro h => ?_, fun y l s d s' ρ w u vs h => ?_⟩
  · unfold hook at h
    split at h
    · rename_i e hf
      obtain ⟨_, rfl, _⟩ := findEnt_spec hf
      unfold mergeD at h
      split at h
      · cases h
      · split at h
        · rename_i h1; exact hC.enter _ _ _ _ h1 (.inl (hz e (findEnt_spec hf).1)) args w
        · cases h
    · exact hC.enter f l s r h hy args w
  · unfold hook at h
    split at h
    · rename_i e hf
      obtain ⟨hm, rfl, hfit⟩ := findEnt_spec hf
      unfold mergeD at h
      split at h
      · cases h
      · split at h
        · split at h
          · rename_i h2
            simp only [Option.some.injEq, Prod.mk.injEq] at h
            obtain ⟨rfl, rfl⟩ := h
            obtain ⟨c, hc, hsub, _, himp⟩ := he e hm
            have := allCls_spec h2 c hc
            refine (hC.calls _ _ _ _ _ ρ w vs this hs hg (subst_rep hfit hsub hr)).mono fun e' w' he' => ?_
            cases e' with
            | returned v =>
              obtain ⟨ρ', k1, k2, k3⟩ := he'
              exact ⟨ρ', k1, k2, himp _ _ _ k3⟩
            | panicked _ => exact he'
            | outgrown => exact he'
          · cases h
        · cases h
    · exact hC.calls f l s d s' ρ w vs h hs hg hr
  · unfold hook at h
    split at h
    · unfold mergeD at h
      split at h
      · cases h
      · split at h
        · rename_i h1
          split at h
          · simp only [Option.some.injEq, Prod.mk.injEq] at h
            obtain ⟨_, rfl⟩ := h
            exact hC.ro _ _ _ _ _ hro h1
          · cases h
        · cases h
    · exact hC.ro _ _ _ _ _ hro h
  · unfold hook at h
    split at h
    · rename_i e hf
      exact absurd (findEnt_spec hf).2.1 (hz e (findEnt_spec hf).1)
    · exact hC.yields y l s d s' ρ w u vs h

/-! ### Classes of integers -/
section
variable {α : Type}
def pickI (z : α) : List (Int × Int × α) → Int → α
  | [], _ => z
  | (_, hi, r) :: t, n => match decide (n ≤ hi) with
    | true => r
    | false => pickI z t n
def covI (mx : Int) : Int → List (Int × Int × α) → Bool
  | lo, [] => decide (mx < lo)
  | lo, (a, b, _) :: t => decide (a = lo) && (decide (a ≤ b) && covI mx (b + 1) t)
theorem pickI_mem {z : α} {mx n : Int} : ∀ {tab : List (Int × Int × α)} {lo : Int}, covI mx lo tab = true → lo ≤ n → n ≤ mx → ∃ c ∈ tab, c.1 ≤ n ∧ n ≤ c.2.1 ∧ pickI z tab n = c.2.2
  | [], lo, h, h1, h2 => by
    simp only [covI, decide_eq_true_eq] at h; omega
  | (a, b, r) :: t, lo, h, h1, h2 => by
    simp only [covI, Bool.and_eq_true, decide_eq_true_eq] at h
    obtain ⟨rfl, h3, h4⟩ := h
    simp only [pickI]
    by_cases hb : n ≤ b
    · rw [decide_eq_true hb]
      exact ⟨_, List.mem_cons_self, h1, hb, rfl⟩
    · rw [decide_eq_false hb]
      obtain ⟨c, hc, k1, k2, k3⟩ := pickI_mem (z := z) h4 (by omega) h2
      exact ⟨c, List.mem_cons_of_mem _ hc, k1, k2, k3⟩
/-- One class of integers as a datum. -/
def clsI (k : IntKind) (a : Sym) (lo hi : Int) : D := match decide (lo = hi) with
  | true => .int k lo
  | false => .sint k a lo hi
theorem imp_clsI {k : IntKind} {a : Sym} {lo hi L H : Int} (h1 : lo ≤ a.val) (h2 : a.val ≤ hi) : Imp (.sint k a L H) (clsI k a lo hi) := by
  intro ρ w v h
  simp only [Rep] at h
  unfold clsI
  split
  · rename_i he
    have := of_decide_eq_true he
    simp only [Rep]; rw [h.1, show a.val = lo by omega]
  · simp only [Rep]; exact ⟨h.1, h1, h2⟩

/-! ### Classes of strings -/
def pickS (z : α) : List (List UInt8 × α) → List UInt8 → α
  | [], _ => z
  | (k, r) :: t, n => match n == k with
    | true => r
    | false => pickS z t n
theorem pickS_mem {z : α} {n : List UInt8} : ∀ {tab : List (List UInt8 × α)}, (∃ c ∈ tab, n = c.1 ∧ pickS z tab n = c.2) ∨ (n ∉ tab.map (·.1) ∧ pickS z tab n = z)
  | [] => .inr ⟨by simp, rfl⟩
  | (k, r) :: t => by
    simp only [pickS]
    by_cases hk : n = k
    · subst hk
      simp only [beq_self_eq_true]
      exact .inl ⟨_, List.mem_cons_self, rfl, rfl⟩
    · have : (n == k) = false := by simpa using hk
      simp only [this]
      rcases pickS_mem (z := z) (n := n) (tab := t) with ⟨c, hc, k1, k2⟩ | ⟨k1, k2⟩
      · exact .inl ⟨c, List.mem_cons_of_mem _ hc, k1, k2⟩
      · exact .inr ⟨by simpa using ⟨hk, by simpa using k1⟩, k2⟩
end
theorem imp_str {i : Nat} {ex : List (List UInt8)} {lo hi : Nat} {l : List UInt8} (h : Vals.vs i = l) : Imp (.sstr i ex lo hi) (.str l) := by
  intro ρ w v hv
  simp only [Rep] at *
  rw [hv.1, h]
theorem imp_strx {i : Nat} {ex ex' : List (List UInt8)} {lo hi : Nat} (h : Vals.vs i ∉ ex') : Imp (.sstr i ex lo hi) (.sstr i ex' lo hi) := by
  intro ρ w v hv
  simp only [Rep] at *
  exact ⟨hv.1, h, hv.2.2⟩
/-! ### Results -/
theorem imp_rstr {j : Nat} {hi : Nat} {l : List UInt8} (h : Vals.vs j = l) (h2 : l.length ≤ hi) : Imp (.str l) (.sstr j [] 0 hi) := by
  intro ρ w v hv
  simp only [Rep] at *
  rw [h]
  exact ⟨hv, by simp, by omega, h2⟩
theorem imp_rint {k : IntKind} {a : Sym} {lo hi n : Int} (h : a.val = n) (h1 : lo ≤ n) (h2 : n ≤ hi) : Imp (.int k n) (.sint k a lo hi) := by
  intro ρ w v hv
  simp only [Rep] at *
  rw [h]
  exact ⟨hv, h1, h2⟩
theorem imp_rbool {j : Nat} {b : Bool} (h : Vals.vb j = b) : Imp (.bool b) (.sbool j) := by
  intro ρ w v hv
  simp only [Rep] at *
  rw [h]; exact hv
theorem imp_tup3 {a b c a' b' c' : D} (h1 : Imp a a') (h2 : Imp b b') (h3 : Imp c c') : Imp (.tup [a, b, c]) (.tup [a', b', c']) := by
  intro ρ w v hv
  simp only [Rep, RepL] at *
  obtain ⟨vs, e, v1, r1, e1, q1, v2, r2, e2, q2, v3, r3, e3, q3, e4⟩ := hv
  exact ⟨vs, e, v1, r1, e1, h1 _ _ _ q1, v2, r2, e2, h2 _ _ _ q2, v3, r3, e3, h3 _ _ _ q3, e4⟩
theorem imp_rfl {d : D} : Imp d d := fun _ _ _ h => h

/-- A table without some functions. -/
def without (T : Nat → Option AFn) (l : List Nat) (f : Nat) : Option AFn := match memN f l with
  | true => none
  | false => T f
theorem TabOk.without {P : Program} {G : Gl} {X : Exts} {T : Nat → Option AFn} {l : List Nat} (h : TabOk P G X T) : TabOk P G X (without T l) := ⟨fun f fn hf => by
  unfold Ab.without at hf
  split at hf
  · cases hf
  · exact h.ok f fn hf⟩
/-- Tables, node by node. -/
theorem TabOk.node {P : Program} {G : Gl} {X : Exts} {S T : Nat → Option AFn} {m : Nat} (hS : TabOk P G X S) (hT : TabOk P G X T) : TabOk P G X (fun n => bif Nat.blt n m then S n else T n) := ⟨fun f fn hf => by
  cases hb : Nat.blt f m <;> simp only [hb, cond] at hf
  · exact hT.ok f fn hf
  · exact hS.ok f fn hf⟩
theorem TabOk.leaf {P : Program} {G : Gl} {X : Exts} {i : Nat} {func : Func} {A : Adv} {af : Option AFn} (h : P.funcs[i]? = some func) (hn : (func.name == "runtime.NumGoroutine") = false) (ha : compileFn P G X func A = af) : TabOk P G X (fun n => bif Nat.beq n i then af else none) := ⟨fun f fn hf => by
  cases hb : Nat.beq f i <;> simp only [hb, cond] at hf
  · cases hf
  · obtain rfl := Nat.eq_of_beq_eq_true hb
    exact ⟨func, A, h, hn, ha.trans hf⟩⟩
theorem TabOk.no {P : Program} {G : Gl} {X : Exts} : TabOk P G X (fun _ => none) := ⟨fun f fn hf => by cases hf⟩

def noCall : Caller := fun _ _ _ => none
theorem noCall_ok {P : Program} {pn : Pins} {G : Gl} : CallerOk pn P G noCall := ⟨fun f l s r h => by simp [noCall] at h, fun f l s d s' ρ w vs h => by simp [noCall] at h, fun f l s d s' _ h => by simp [noCall] at h, fun y l s d s' ρ w u vs h => by simp [noCall] at h⟩
/-- The interpreter is right. -/
theorem callN_right {P : Program} {pn : Pins} {G : Gl} {X : Exts} {T : Nat → Option AFn} {H : Caller} (hm : P.follows .mixedOrders = true) (hT : TabOk P G X T) (hX : ∀ f k, X f = some k → ExtOk P f k) (hH : CallerOk pn P G H) (n : Nat) : CallerOk pn P G (callN T H n) :=
  (callN_ok hT hX (fun _ _ hC => drawn_ok hm hC hX) n hH).1

/-! ### Entries by tables -/
def minI64 : Int := -9223372036854775808
def maxI64 : Int := 9223372036854775807
section
variable {α : Type}
/-- An integer by its classes. -/
def entI (f : Nat) (pre : List Pat) (a : Sym) (tab : List (Int × Int × α)) (res : D) (r : α → D) : Ent :=
  ⟨f, pre ++ [.tok (.sint .i64 a minI64 maxI64)], tab.map fun c => (pre.map (fun _ => none) ++ [some (clsI .i64 a c.1 c.2.1)], r c.2.2), res⟩
theorem Sub_pre : ∀ {pre : List Pat} {ps : List Pat} {cs : List (Option D)}, Sub ps cs → Sub (pre ++ ps) (pre.map (fun _ => none) ++ cs)
  | [], _, _, h => h
  | p :: r, ps, cs, h => by
    have := Sub_pre (pre := r) h
    cases p <;> simpa only [List.cons_append, List.map_cons, Sub] using this
theorem entI_ok {f : Nat} {pre : List Pat} {a : Sym} {tab : List (Int × Int × α)} {res : D} {r : α → D} (z : α) (hc : covI maxI64 minI64 tab = true) (h1 : minI64 ≤ a.val) (h2 : a.val ≤ maxI64) (hr : ∀ c ∈ tab, pickI z tab a.val = c.2.2 → Imp (r c.2.2) res) : ClsOk (entI f pre a tab res r) := by
  obtain ⟨c, hm, k1, k2, k3⟩ := pickI_mem (z := z) hc h1 h2
  exact ⟨_, List.mem_map.2 ⟨c, hm, rfl⟩, Sub_pre ⟨imp_clsI k1 k2, trivial⟩, by simp [entI], hr c hm k3⟩
/-- A string by its classes. -/
def clsS (i : Nat) (hi : Nat) (tab : List (List UInt8 × α)) (z : α) (r : α → D) : List (D × D) := (.sstr i (tab.map (·.1)) 0 hi, r z) :: tab.map fun c => (.str c.1, r c.2)
theorem clsS_ok {i hi : Nat} {tab : List (List UInt8 × α)} {z : α} {r : α → D} : ∃ c ∈ clsS i hi tab z r, Imp (.sstr i [] 0 hi) c.1 ∧ c.2 = r (pickS z tab (Vals.vs i)) := by
  rcases pickS_mem (z := z) (n := Vals.vs i) (tab := tab) with ⟨c, hc, k1, k2⟩ | ⟨k1, k2⟩
  · exact ⟨_, List.mem_cons_of_mem _ (List.mem_map.2 ⟨c, hc, rfl⟩), imp_str k1, by rw [k2]⟩
  · exact ⟨_, List.mem_cons_self, imp_strx k1, by rw [k2]⟩
def entS (f : Nat) (pre : List Pat) (i : Nat) (hi : Nat) (tab : List (List UInt8 × α)) (z : α) (res : D) (r : α → D) : Ent :=
  ⟨f, pre ++ [.tok (.sstr i [] 0 hi)], (clsS i hi tab z r).map fun c => (pre.map (fun _ => none) ++ [some c.1], c.2), res⟩
theorem entS_ok {f : Nat} {pre : List Pat} {i hi : Nat} {tab : List (List UInt8 × α)} {z : α} {res : D} {r : α → D} (hr : Imp (r (pickS z tab (Vals.vs i))) res) : ClsOk (entS f pre i hi tab z res r) := by
  obtain ⟨c, hm, k1, k2⟩ := clsS_ok (i := i) (hi := hi) (tab := tab) (z := z) (r := r)
  exact ⟨_, List.mem_map.2 ⟨c, hm, rfl⟩, Sub_pre ⟨k1, trivial⟩, by simp [entS], by rw [k2]; exact hr⟩
/-- An integer and a string. -/
def entM (mn mx : Int) (f : Nat) (pre : List Pat) (a : Sym) (i : Nat) (hi : Nat) (tab : List (Int × Int × List (List UInt8 × α))) (z : α) (res : D) (r : α → D) : Ent :=
  ⟨f, pre ++ [.tok (.sint .i64 a mn mx), .tok (.sstr i [] 0 hi)], tab.flatMap fun c => (clsS i hi c.2.2 z r).map fun q => (pre.map (fun _ => none) ++ [some (clsI .i64 a c.1 c.2.1), some q.1], q.2), res⟩
theorem entM_ok {mn mx : Int} {f : Nat} {pre : List Pat} {a : Sym} {i hi : Nat} {tab : List (Int × Int × List (List UInt8 × α))} {z : α} {res : D} {r : α → D} (hc : covI mx mn tab = true) (h1 : mn ≤ a.val) (h2 : a.val ≤ mx)
    (hr : Imp (r (pickS z (pickI [] tab a.val) (Vals.vs i))) res) : ClsOk (entM mn mx f pre a i hi tab z res r) := by
  obtain ⟨c, hm, k1, k2, k3⟩ := pickI_mem (z := []) hc h1 h2
  obtain ⟨q, qm, g1, g2⟩ := clsS_ok (i := i) (hi := hi) (tab := c.2.2) (z := z) (r := r)
  rw [k3] at hr
  exact ⟨_, List.mem_flatMap.2 ⟨c, hm, List.mem_map.2 ⟨q, qm, rfl⟩⟩, Sub_pre ⟨imp_clsI k1 k2, g1, trivial⟩, by simp [entM], by rw [g2]; exact hr⟩
end

/-! ### Calls that are run by themselves, once and for all -/
def allSome : List (Option D) → Option (List D)
  | [] => some []
  | some d :: r => match allSome r with
    | some l => some (d :: l)
    | none => none
  | none :: _ => none
def pureCls (C : Caller) (f : Nat) : List (List (Option D) × D) → Bool
  | [] => true
  | (c, r) :: rest => match allSome c with
    | some l => match alone C f l st0 with
      | some (d, _) => D.beq d r && pureCls C f rest
      | none => false
    | none => false
def pureOk (C : Caller) (e : Ent) : Bool := pureCls C e.f e.cls
/-- Calls that are entries' ones as these say. -/
def purC (es : List Ent) (C : Caller) : Caller := fun f l s => match findEnt es f l with
  | some e => some (e.res, s)
  | none => C f l s
theorem pureCls_spec {C : Caller} {f : Nat} : ∀ {cls : List (List (Option D) × D)}, pureCls C f cls = true → ∀ c ∈ cls, ∃ l, allSome c.1 = some l ∧ ∃ s1, alone C f l st0 = some (c.2, s1)
  | [], _, c, hc => by cases hc
  | (c0, r0) :: rest, h, c, hc => by
    simp only [pureCls] at h
    split at h
    · rename_i l hl
      split at h
      · rename_i d s1 h1
        simp only [Bool.and_eq_true] at h
        rcases List.mem_cons.1 hc with rfl | hc
        · exact ⟨l, hl, s1, by rw [h1, D.beq_eq _ _ h.1]⟩
        · exact pureCls_spec h.2 c hc
      · cases h
    · cases h
theorem subst_all : ∀ {c : List (Option D)} {l l' : List D} {ps : List Pat}, fitsL ps l' = true → Sub ps c → allSome c = some l → c.length = ps.length → subst c l' = l
  | [], l, l', ps, hf, _, h, hl => by
    simp only [allSome, Option.some.injEq] at h; subst h
    cases ps with
    | nil => cases l' with
      | nil => rfl
      | cons _ _ => simp [fitsL] at hf
    | cons _ _ => simp at hl
  | none :: c, l, l', ps, _, _, h, _ => by simp [allSome] at h
  | some d :: c, l, l', [], _, hs, _, _ => by simp [Sub] at hs
  | some d :: c, l, [], p :: ps, hf, _, _, _ => by simp [fitsL] at hf
  | some d :: c, l, x :: l', p :: ps, hf, hs, h, hl => by
    simp only [fitsL, Bool.and_eq_true] at hf
    simp only [allSome] at h
    split at h
    · rename_i l1 h1
      simp only [Option.some.injEq] at h; subst h
      cases p with
      | any => simp [Sub] at hs
      | obj => simp [Sub] at hs
      | tok u =>
        simp only [Sub] at hs
        simp only [subst]
        rw [subst_all hf.2 hs.2 h1 (by simpa using hl)]
    · cases h
theorem alone_any {C : Caller} {f : Nat} {l : List D} {s s' s1 : St} {d : D} (h : alone C f l s1 = some (d, s')) : alone C f l s = some (d, s) := by
  unfold alone at *
  cases hi : D.ims l with
  | false => simp [hi] at h
  | true =>
    simp only [hi] at h ⊢
    cases hc : C f l st0 with
    | none => simp [hc] at h
    | some p =>
      obtain ⟨d1, s2⟩ := p
      simp only [hc] at h ⊢
      cases hp : d1.pl with
      | false => simp [hp] at h
      | true =>
        simp only [hp, Option.some.injEq, Prod.mk.injEq] at h ⊢
        exact ⟨h.1, trivial⟩
theorem pur_ok {P : Program} {pn : Pins} {G : Gl} {C0 C : Caller} {es : List Ent} (hC0 : CallerOk .none P G C0) (hG : ∀ g d, G g = some d → d.im = true) (hC : CallerOk .none P G C) (he : ∀ e ∈ es, pureOk C0 e = true ∧ ClsOk e) (hz : ∀ e ∈ es, e.f ≠ 0) : CallerOk .none P G (purC es C) := by
  have hA := alone_ok hC0 hG
  refine ⟨fun f l s r h hy args w => ?_, fun f l s d s' ρ w vs h hs hg hr => ?_, fun f l s d s' hro h => ?_, fun y l s d s' ρ w u vs h => ?_⟩
  · unfold purC at h
    split at h
    · rename_i e hf
      obtain ⟨hm, rfl, _⟩ := findEnt_spec hf
      obtain ⟨hp, c, hc, _⟩ := he e hm
      obtain ⟨l1, _, s1, h1⟩ := pureCls_spec hp c hc
      exact hA.enter _ _ _ _ h1 (.inl (hz e hm)) args w
    · exact hC.enter f l s r h hy args w
  · unfold purC at h
    split at h
    · rename_i e hf
      obtain ⟨hm, rfl, hfit⟩ := findEnt_spec hf
      obtain ⟨hp, c, hc, hsub, hlen, himp⟩ := he e hm
      obtain ⟨l1, hl1, s1, h1⟩ := pureCls_spec hp c hc
      simp only [Option.some.injEq, Prod.mk.injEq] at h
      obtain ⟨rfl, rfl⟩ := h
      have hrep := subst_rep hfit hsub hr
      rw [subst_all hfit hsub hl1 hlen] at hrep
      refine (hA.calls _ _ _ _ _ ρ w vs (alone_any (s := s) h1) hs hg hrep).mono fun e' w' he' => ?_
      cases e' with
      | returned v =>
        obtain ⟨ρ', k1, k2, k3⟩ := he'
        exact ⟨ρ', k1, k2, himp _ _ _ k3⟩
      | panicked _ => exact he'
      | outgrown => exact he'
    · exact hC.calls f l s d s' ρ w vs h hs hg hr
  · unfold purC at h
    split at h
    · simp only [Option.some.injEq, Prod.mk.injEq] at h; exact h.2.symm
    · exact hC.ro _ _ _ _ _ hro h
  · unfold purC at h
    split at h
    · rename_i e hf
      exact absurd (findEnt_spec hf).2.1 (hz e (findEnt_spec hf).1)
    · exact hC.yields y l s d s' ρ w u vs h

/-! ### From a run to what is asked -/
def isTrue : Option (D × St) → Bool
  | some (.bool true, _) => true
  | _ => false
def rho0 : Gh := ⟨fun _ => .imm, fun _ => 0, fun _ => 0, fun _ => 0, fun _ => .fresh, fun _ => (0, { state := .exhausted, pending := none, fn := 0, tmps := #[], params := #[], assign := .skip, body := .skip, defers := 0 })⟩
theorem top_ok {P : Program} {C : Caller} (hC : CallerOk .none P (fun _ => none) C) {f : Nat} {l : List D} {w : World} {vs : List Value} (h : isTrue (C f l st0) = true) (hr : RepL rho0 w l vs) :
    Calls P f vs.toArray w fun e w' => e = .returned (.bool true) ∧ (w'.os = w.os ∧ w'.tape = w.tape ∧ w'.output = w.output ∧ w.heap.size ≤ w'.heap.size ∧ ∀ b, b < w.heap.size → w'.heap[b]? = w.heap[b]?) := by
  unfold isTrue at h
  split at h
  · rename_i s' h1
    have hs0 : StRel rho0 st0 w := by
      refine ⟨fun o x hx => ?_, fun o x hx => ?_, fun o _ => rfl, fun b o hb => (by cases hb), fun b hb => rfl⟩
      · simp [st0, St.get, T.get] at hx
      · simp [st0, St.get, T.get] at hx
    refine (hC.calls f l st0 _ _ rho0 w vs h1 hs0 ⟨(fun g d hd => by cases hd), trivial⟩ hr).mono fun e w' he => ?_
    cases e with
    | returned v =>
      obtain ⟨ρ', k1, k2, k3⟩ := he
      simp only [Rep] at k3
      exact ⟨by rw [k3], k1.os, k1.tape, k1.output, k1.size, fun b hb => (k1.kept b hb (fun o h => by cases h)).1⟩
    | panicked _ => exact he.elim
    | outgrown => exact he.elim
  · cases h
end Go.Ab
