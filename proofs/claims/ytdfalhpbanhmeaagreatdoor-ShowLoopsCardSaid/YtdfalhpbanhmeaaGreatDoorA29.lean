/- Runs laid together: a call whose arguments are not known is run for each class of what they may be; the results are one datum, the states one state. -/
import Derived.Test.YtdfalhpbanhmeaaGreatDoorA28
namespace Go.Ab
open Go
set_option linter.unusedSectionVars false
set_option linter.unusedSimpArgs false
set_option linter.unusedVariables false
variable [Vals]

def T.beq : T Obj → T Obj → Bool
  | .nil, .nil => true
  | .node o l r, .node o' l' r' => (match o, o' with
    | none, none => true
    | some x, some y => Obj.beq x y
    | _, _ => false) && (T.beq l l' && T.beq r r')
  | _, _ => false
theorem T.beq_eq : ∀ (a b : T Obj), T.beq a b = true → a = b
  | .nil, .nil, _ => rfl
  | .node o l r, .node o' l' r', h => by
    simp only [T.beq, Bool.and_eq_true] at h
    obtain ⟨h1, h2, h3⟩ := h
    rw [T.beq_eq _ _ h2, T.beq_eq _ _ h3]
    cases o <;> cases o' <;> simp only at h1 <;> first
      | rfl
      | (cases h1; done)
      | rw [Obj.beq_eq _ _ h1]
  | .nil, .node _ _ _, h => by simp [T.beq] at h
  | .node _ _ _, .nil, h => by simp [T.beq] at h
def St.beq (s s' : St) : Bool := Nat.beq s.n s'.n && (s.ro == s'.ro && (s.lk == s'.lk && T.beq s.h s'.h))
theorem St.beq_eq (s s' : St) (h : St.beq s s' = true) : s = s' := by
  cases s; cases s'
  simp only [St.beq, Bool.and_eq_true, Nat.beq_eq, beq_iff_eq] at h
  obtain ⟨rfl, rfl, rfl, h⟩ := h
  rw [T.beq_eq _ _ h]

/-! ### Data without objects -/
mutual
/-- No objects. -/
def D.im : D → Bool
  | .ptr _ _ => false
  | .eptr _ _ _ _ => false
  | .sl _ _ _ _ => false
  | .mp _ => false
  | .lv _ => false
  | .yl _ => false
  | .vptr e _ => e.im
  | .vs _ _ l => D.ims l
  | .fn _ a c => D.ims a && D.ims c
  | .ifc _ d => d.im
  | .agg l => D.ims l
  | .tup l => D.ims l
  | _ => true
def D.ims : List D → Bool
  | [] => true
  | d :: l => d.im && D.ims l
end
mutual
/-- No memory at all. -/
def D.pl : D → Bool
  | .ptr _ _ => false
  | .eptr _ _ _ _ => false
  | .sl _ _ _ _ => false
  | .mp _ => false
  | .yl _ => false
  | .vptr _ _ => false
  | .vs nl _ _ => nl
  | .fn _ a c => D.pls a && D.pls c
  | .ifc _ d => d.pl
  | .agg l => D.pls l
  | .tup l => D.pls l
  | _ => true
def D.pls : List D → Bool
  | [] => true
  | d :: l => d.pl && D.pls l
end
section
variable {ρ ρ' : Gh} {w w' : World} {P : Program} {pn : Pins} {G : Gl} {s : St} {C : Caller}
mutual
theorem Rep.pl : ∀ (d : D) (v : Value), d.pl = true → Rep ρ w d v → Rep ρ' w' d v
  | .bool _, _, _, r => by simpa only [Rep] using r
  | .int _ _, _, _, r => by simpa only [Rep] using r
  | .str _, _, _, r => by simpa only [Rep] using r
  | .nilp, _, _, r => by simpa only [Rep] using r
  | .ptr _ _, _, h, _ => by simp [D.pl] at h
  | .eptr _ _ _ _, _, h, _ => by simp [D.pl] at h
  | .vptr _ _, _, h, _ => by simp [D.pl] at h
  | .vs nl sz l, _, h, r => by
    simp only [D.pl] at h; subst h
    simp only [Rep] at *
    rcases r with r | ⟨r, _⟩
    · exact .inl r
    · cases r
  | .sl _ _ _ _, _, h, _ => by simp [D.pl] at h
  | .nilm, _, _, r => by simpa only [Rep] using r
  | .mp _, _, h, _ => by simp [D.pl] at h
  | .fn f a c, _, h, r => by
    simp only [D.pl, Bool.and_eq_true] at h
    simp only [Rep] at *
    obtain ⟨va, vc, h1, h2, h3⟩ := r
    exact ⟨va, vc, h1, RepL.pl a _ h.1 h2, RepL.pl c _ h.2 h3⟩
  | .nilf, _, _, r => by simpa only [Rep] using r
  | .ifc t d, _, h, r => by
    simp only [D.pl] at h
    simp only [Rep] at *
    obtain ⟨u, h1, h2⟩ := r
    exact ⟨u, h1, Rep.pl d u h h2⟩
  | .nili, _, _, r => by simpa only [Rep] using r
  | .agg l, _, h, r => by
    simp only [D.pl] at h
    simp only [Rep] at *
    obtain ⟨vs, h1, h2, h3⟩ := r
    exact ⟨vs, h1, RepL.pl l _ h h2, h3⟩
  | .tup l, _, h, r => by
    simp only [D.pl] at h
    simp only [Rep] at *
    obtain ⟨vs, h1, h2⟩ := r
    exact ⟨vs, h1, RepL.pl l _ h h2⟩
  | .lv _, _, _, r => by simp only [Rep] at r
  | .lptr _ _, _, _, r => by simp only [Rep] at r
  | .sint _ _ _ _, _, _, r => by simpa only [Rep] using r
  | .sstr _ _ _ _, _, _, r => by simpa only [Rep] using r
  | .sbool _, _, _, r => by simpa only [Rep] using r
  | .yl _, _, h, _ => by simp [D.pl] at h
theorem RepL.pl : ∀ (l : List D) (vs : List Value), D.pls l = true → RepL ρ w l vs → RepL ρ' w' l vs
  | [], _, _, r => by simpa only [RepL] using r
  | d :: l, _, h, r => by
    simp only [D.pls, Bool.and_eq_true] at h
    simp only [RepL] at *
    obtain ⟨v, t, h1, h2, h3⟩ := r
    exact ⟨v, t, h1, Rep.pl d v h.1 h2, RepL.pl l t h.2 h3⟩
end

/-- What is nobody's stays so. -/
def SameImm (ρ : Gh) (w : World) (ρ' : Gh) (w' : World) : Prop := ∀ b, b < w.heap.size → ρ.own b = .imm → ρ'.own b = .imm ∧ w'.heap[b]? = w.heap[b]?
mutual
theorem Rep.im (h : SameImm ρ w ρ' w') : ∀ (d : D) (v : Value), d.im = true → Rep ρ w d v → Rep ρ' w' d v
  | .bool _, _, _, r => by simpa only [Rep] using r
  | .int _ _, _, _, r => by simpa only [Rep] using r
  | .str _, _, _, r => by simpa only [Rep] using r
  | .nilp, _, _, r => by simpa only [Rep] using r
  | .ptr _ _, _, h, _ => by simp [D.im] at h
  | .eptr _ _ _ _, _, h, _ => by simp [D.im] at h
  | .vptr e c, _, hi, r => by
    simp only [D.im] at hi
    simp only [Rep] at *
    obtain ⟨b, x, u, h1, h2, h3, h4, h5⟩ := r
    obtain ⟨k1, k2⟩ := h b (h3.lt h4.1) h1
    exact ⟨b, x, u, k1, Rep.im h e u hi h2, h3.of_heap k2, h4, h5⟩
  | .vs nl sz l, _, hi, r => by
    simp only [D.im] at hi
    simp only [Rep] at *
    rcases r with r | ⟨r1, ad, cap, r2, r3, r4⟩
    · exact .inl r
    · refine .inr ⟨r1, ad, cap, r2, r3, ?_⟩
      rcases r4 with r4 | ⟨b, x, r0, r4, r5⟩
      · exact .inl r4
      · cases l with
        | nil => exact .inl rfl
        | cons d l =>
          have hb : b < w.heap.size := by
            simp only [RepE] at r5
            obtain ⟨⟨v, _, e1, e2, e3, _⟩, _⟩ := r5
            exact e3.lt (by omega)
          obtain ⟨k1, k2⟩ := h b hb r4
          exact .inr ⟨b, x, r0, k1, RepE.im h sz b k2 x (d :: l) hi r5⟩
  | .sl _ _ _ _, _, h, _ => by simp [D.im] at h
  | .nilm, _, _, r => by simpa only [Rep] using r
  | .mp _, _, h, _ => by simp [D.im] at h
  | .fn f a c, _, hi, r => by
    simp only [D.im, Bool.and_eq_true] at hi
    simp only [Rep] at *
    obtain ⟨va, vc, h1, h2, h3⟩ := r
    exact ⟨va, vc, h1, RepL.im h a _ hi.1 h2, RepL.im h c _ hi.2 h3⟩
  | .nilf, _, _, r => by simpa only [Rep] using r
  | .ifc t d, _, hi, r => by
    simp only [D.im] at hi
    simp only [Rep] at *
    obtain ⟨u, h1, h2⟩ := r
    exact ⟨u, h1, Rep.im h d u hi h2⟩
  | .nili, _, _, r => by simpa only [Rep] using r
  | .agg l, _, hi, r => by
    simp only [D.im] at hi
    simp only [Rep] at *
    obtain ⟨vs, h1, h2, h3⟩ := r
    exact ⟨vs, h1, RepL.im h l _ hi h2, h3⟩
  | .tup l, _, hi, r => by
    simp only [D.im] at hi
    simp only [Rep] at *
    obtain ⟨vs, h1, h2⟩ := r
    exact ⟨vs, h1, RepL.im h l _ hi h2⟩
  | .lv _, _, _, r => by simp only [Rep] at r
  | .lptr _ _, _, _, r => by simp only [Rep] at r
  | .sint _ _ _ _, _, _, r => by simpa only [Rep] using r
  | .sstr _ _ _ _, _, _, r => by simpa only [Rep] using r
  | .sbool _, _, _, r => by simpa only [Rep] using r
  | .yl _, _, h, _ => by simp [D.im] at h
theorem RepL.im (h : SameImm ρ w ρ' w') : ∀ (l : List D) (vs : List Value), D.ims l = true → RepL ρ w l vs → RepL ρ' w' l vs
  | [], _, _, r => by simpa only [RepL] using r
  | d :: l, _, hi, r => by
    simp only [D.ims, Bool.and_eq_true] at hi
    simp only [RepL] at *
    obtain ⟨v, t, h1, h2, h3⟩ := r
    exact ⟨v, t, h1, Rep.im h d v hi.1 h2, RepL.im h l t hi.2 h3⟩
theorem RepE.im (h : SameImm ρ w ρ' w') (sz b : Nat) (hb : w'.heap[b]? = w.heap[b]?) : ∀ (x : Nat) (l : List D), D.ims l = true → RepE ρ w sz b x l → RepE ρ' w' sz b x l
  | _, [], _, _ => by simp only [RepE]
  | x, d :: l, hi, r => by
    simp only [D.ims, Bool.and_eq_true] at hi
    simp only [RepE] at *
    obtain ⟨⟨v, h1, h2, h3, h4, h6⟩, h5⟩ := r
    exact ⟨⟨v, Rep.im h d v hi.1 h1, h2, h3, h4.of_heap hb, h6⟩, RepE.im h sz b hb (x + sz) l hi.2 h5⟩
end

def st0 : St := ⟨0, .nil, [], false⟩
/-- A call that is run by itself, from nothing. -/
def alone (C : Caller) : Caller := fun f l s => match D.ims l with
  | true => match C f l st0 with
    | some (d, _) => match d.pl with
      | true => some (d, s)
      | false => none
    | none => none
  | false => none

theorem alone_ok (hC : CallerOk .none P G C) (hG : ∀ g d, G g = some d → d.im = true) : CallerOk .none P G (alone C) := by
  refine ⟨fun f l s r h hy args w => ?_, fun f l s d s' ρ w vs h hs hg hr => ?_, fun f l s d s' _ h => ?_, fun y l s d s' ρ w u vs h => by simp [alone, D.ims, D.im] at h⟩
  · unfold alone at h
    split at h
    · split at h
      · rename_i h1; exact hC.enter f l st0 _ h1 hy args w
      · cases h
    · cases h
  · unfold alone at h
    split at h
    · rename_i him
      split at h
      · rename_i d1 s1 h1
        split at h
        · rename_i hpl
          simp only [Option.some.injEq, Prod.mk.injEq] at h
          obtain ⟨rfl, rfl⟩ := h
          let ρ0 : Gh := { ρ with own := fun b => match ρ.own b with | .obj _ => .priv | x => x, kd := fun _ => .fresh }
          have hno : ∀ b o, ρ0.own b ≠ .obj o := fun b o => by
            show (match ρ.own b with | .obj _ => Own.priv | x => x) ≠ .obj o
            split
            · simp
            · rename_i h; exact fun e => h o e
          have himm : ∀ b, ρ.own b = .imm → ρ0.own b = .imm := fun b hb => by
            show (match ρ.own b with | .obj _ => Own.priv | x => x) = .imm
            rw [hb]
          have hS : SameImm ρ w ρ0 w := fun b _ hb => ⟨himm b hb, rfl⟩
          have hs0 : StRel ρ0 st0 w := by
            refine ⟨fun o x hx => ?_, fun o x hx => ?_, fun o _ => rfl, fun b o hb => absurd hb (hno b o), fun b hb => himm b (hs.size b hb)⟩
            · simp [st0, St.get, T.get] at hx
            · simp [st0, St.get, T.get] at hx
          have hg0 : GlOk .none G ρ0 w := ⟨fun g d hd => Rep.im hS (.vptr d 0) _ (by simp only [D.im]; exact hG g d hd) (hg.1 g d hd), trivial⟩
          refine (hC.calls f l st0 d1 s1 ρ0 w vs h1 hs0 hg0 (RepL.im hS l vs him hr)).mono fun e w' he => ?_
          cases e with
          | panicked _ => exact he
          | outgrown => exact he
          | returned v =>
            obtain ⟨ρ1, k1, k2, k3⟩ := he
            have hsame : ∀ b, b < w.heap.size → w'.heap[b]? = w.heap[b]? := fun b hb => (k1.kept b hb (hno b)).1
            let ρ2 : Gh := { ρ with own := fun b => if b < w.heap.size then ρ.own b else .imm }
            have hown : ∀ b, b < w.heap.size → ρ2.own b = ρ.own b := fun b hb => if_pos hb
            have hown' : ∀ b, ¬ b < w.heap.size → ρ2.own b = .imm := fun b hb => if_neg hb
            have hK : Kp ρ w ρ2 w' := by
              refine ⟨k1.os, k1.tape, k1.output, k1.size, fun b hb _ => ⟨hsame b hb, hown b hb⟩, fun _ h => ⟨h, rfl⟩, fun o sz ho => .inr ⟨ho, fun b hb => ⟨?_, rfl, Nat.le_refl _, rfl⟩⟩⟩
              rw [hown b (hs.own_lt hb)]; exact hb
            refine ⟨ρ2, hK, hs.keep hK.r (fun b o => ?_) rfl (fun b o hb => ⟨hsame b (hs.own_lt hb), rfl, rfl, rfl⟩) (fun b hb => hown' b (by have := k1.size; omega)), Rep.pl _ _ hpl k3⟩
            by_cases hb : b < w.heap.size
            · rw [hown b hb]
            · rw [hown' b hb, hs.size b (by omega)]
        · cases h
      · cases h
    · cases h
  · unfold alone at h
    split at h
    · split at h
      · split at h
        · simp only [Option.some.injEq, Prod.mk.injEq] at h; exact h.2.symm
        · cases h
      · cases h
    · cases h
end
end Go.Ab
