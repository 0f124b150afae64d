/- The entries of NativeRows are right. -/
import Derived.Test.YtmclonbopcnoeaaN1
namespace Go.Proofs.Ytmclonbopcnoeaa.Tab
open Go Go.Ab
set_option linter.unusedSectionVars false
set_option maxRecDepth 100000

theorem covR : covI maxI64 minI64 rowTab = true := by kernel_rfl
theorem covC : covI maxI64 minI64 classTab = true := by kernel_rfl
theorem covN : covI (-1) minI64 methodTabN = true := by kernel_rfl
theorem covP : covI maxI64 1 methodTabP = true := by kernel_rfl
theorem lenR : ∀ c ∈ rowTab, c.2.2.1.length ≤ 100 := by
  have : rowTab.all (fun c => Nat.ble c.2.2.1.length 100) = true := by kernel_rfl
  exact fun c hc => Nat.le_of_ble_eq_true (List.all_eq_true.1 this c hc)
theorem lenC : ∀ c ∈ classTab, c.2.2.length ≤ 100 := by
  have : classTab.all (fun c => Nat.ble c.2.2.length 100) = true := by kernel_rfl
  exact fun c hc => Nat.le_of_ble_eq_true (List.all_eq_true.1 this c hc)
theorem rngR : ∀ c ∈ rowTab, (0 ≤ c.2.2.2.1 ∧ c.2.2.2.1 ≤ 1000) ∧ (0 ≤ c.2.2.2.2.1 ∧ c.2.2.2.2.1 ≤ 1000) := by
  have : rowTab.all (fun c => (decide (0 ≤ c.2.2.2.1) && decide (c.2.2.2.1 ≤ 1000)) && (decide (0 ≤ c.2.2.2.2.1) && decide (c.2.2.2.2.1 ≤ 1000))) = true := by kernel_rfl
  intro c hc
  have := List.all_eq_true.1 this c hc
  simpa only [Bool.and_eq_true, decide_eq_true_eq] using this
def inR (t : List (List UInt8 × Int)) : Bool := t.all fun c => decide (0 ≤ c.2) && decide (c.2 ≤ 1000)
theorem pickS_rng {t : List (List UInt8 × Int)} (h : inR t = true) (k : List UInt8) : 0 ≤ pickS 0 t k ∧ pickS 0 t k ≤ 1000 := by
  haveI : Vals := ⟨fun _ => 0, fun _ => [], fun _ => false⟩
  rcases pickS_mem (z := (0 : Int)) (n := k) (tab := t) with ⟨c, hc, _, h2⟩ | ⟨_, h2⟩
  · have := List.all_eq_true.1 h c hc
    rw [h2]
    simpa only [Bool.and_eq_true, decide_eq_true_eq] using this
  · rw [h2]; omega
theorem pickM_rng {t : List (Int × Int × List (List UInt8 × Int))} (h : t.all (fun c => inR c.2.2) = true) (n : Int) (k : List UInt8) : 0 ≤ pickS 0 (pickI [] t n) k ∧ pickS 0 (pickI [] t n) k ≤ 1000 := by
  refine pickS_rng ?_ k
  induction t with
  | nil => rfl
  | cons c r ih =>
    obtain ⟨a, b, q⟩ := c
    simp only [List.all_cons, Bool.and_eq_true] at h
    simp only [pickI]
    split
    · exact h.1
    · exact ih h.2

section
variable (n kind : Int) (name : List UInt8) (mt : List (Int × Int × List (List UInt8 × Int)))

theorem okName (f : Nat) (pre : List Pat) (h1 : minI64 ≤ n) (h2 : n ≤ maxI64) : @ClsOk (V n kind name mt) (entI f pre (.i 0) rowTab (st1 1) nameR) :=
  @entI_ok (V n kind name mt) _ f pre (.i 0) rowTab (st1 1) nameR rowZ covR h1 h2 fun c hc hp => @imp_rstr (V n kind name mt) 1 100 _ (congrArg Prod.fst hp) (lenR c hc)
theorem okTakes (f : Nat) (pre : List Pat) (h1 : minI64 ≤ n) (h2 : n ≤ maxI64) : @ClsOk (V n kind name mt) (entI f pre (.i 0) rowTab (.tup [tk 2, tk 3, .sbool 0]) takesR) :=
  @entI_ok (V n kind name mt) _ f pre (.i 0) rowTab _ takesR rowZ covR h1 h2 fun c hc hp => @imp_tup3 (V n kind name mt) _ _ _ _ _ _
    (@imp_rint (V n kind name mt) _ (.i 2) _ _ _ (congrArg (fun q : RowT => q.2.1) hp) (rngR c hc).1.1 (rngR c hc).1.2)
    (@imp_rint (V n kind name mt) _ (.i 3) _ _ _ (congrArg (fun q : RowT => q.2.2.1) hp) (rngR c hc).2.1 (rngR c hc).2.2)
    (@imp_rbool (V n kind name mt) 0 _ (congrArg (fun q : RowT => q.2.2.2) hp))
theorem okClass (f : Nat) (pre : List Pat) (h1 : minI64 ≤ n) (h2 : n ≤ maxI64) : @ClsOk (V n kind name mt) (entI f pre (.i 0) classTab (st1 2) .str) :=
  @entI_ok (V n kind name mt) _ f pre (.i 0) classTab (st1 2) .str [] covC h1 h2 fun c hc hp => @imp_rstr (V n kind name mt) 2 100 _ hp (lenC c hc)
theorem okFind (f : Nat) (pre : List Pat) : @ClsOk (V n kind name mt) (entS f pre 0 3000 findTab 0 (tk 4) intR) :=
  @entS_ok (V n kind name mt) _ f pre 0 3000 findTab 0 (tk 4) intR (@imp_rint (V n kind name mt) _ (.i 4) _ _ _ rfl (pickS_rng (by kernel_rfl) _).1 (pickS_rng (by kernel_rfl) _).2)
theorem okWhy (f : Nat) (pre : List Pat) : @ClsOk (V n kind name mt) (entS f pre 0 3000 whyTab 0 (tk 6) intR) :=
  @entS_ok (V n kind name mt) _ f pre 0 3000 whyTab 0 (tk 6) intR (@imp_rint (V n kind name mt) _ (.i 6) _ _ _ rfl (pickS_rng (by kernel_rfl) _).1 (pickS_rng (by kernel_rfl) _).2)
theorem okMethod (mn mx : Int) (f : Nat) (pre : List Pat) (hc : covI mx mn mt = true) (h1 : mn ≤ kind) (h2 : kind ≤ mx) (hr : mt.all (fun c => inR c.2.2) = true) : @ClsOk (V n kind name mt) (entM mn mx f pre (.i 1) 0 3000 mt 0 (tk 5) intR) :=
  @entM_ok (V n kind name mt) _ mn mx f pre (.i 1) 0 3000 mt 0 (tk 5) intR hc h1 h2 (@imp_rint (V n kind name mt) _ (.i 5) _ _ _ rfl (pickM_rng hr _ _).1 (pickM_rng hr _ _).2)
theorem okAwake : @ClsOk (V n kind name mt) e5 := ⟨_, List.mem_singleton.2 rfl, trivial, rfl, @imp_rfl (V n kind name mt) _⟩
theorem okZ : @ClsOk (V n kind name mt) e14Z := ⟨_, List.mem_singleton.2 rfl, ⟨@imp_rfl (V n kind name mt) _, @imp_rfl (V n kind name mt) _, trivial⟩, rfl, @imp_rfl (V n kind name mt) _⟩

theorem glIm : ∀ g d, gl g = some d → d.im = true := fun _ _ h => by cases h
theorem C0_ok : @CallerOk (V n kind name mt) Try.prog gl C0 := @callX_right (V n kind name mt) _ _ _ _ _ (@mixed (V n kind name mt)) (@tab_ok (V n kind name mt)) (@exts_ok (V n kind name mt)) (@noCall_ok (V n kind name mt) _ _) _
theorem C1_ok (ps : List Ent) (h : ∀ e ∈ ps, pureOk C0 e = true ∧ @ClsOk (V n kind name mt) e) : @CallerOk (V n kind name mt) Try.prog gl (C1 ps) :=
  @callX_right (V n kind name mt) _ _ _ _ _ (@mixed (V n kind name mt)) (@TabOk.without (V n kind name mt) _ _ _ _ _ (@tab_ok (V n kind name mt))) (@exts_ok (V n kind name mt))
    (@pur_ok (V n kind name mt) _ _ _ _ _ (C0_ok n kind name mt) glIm (@noCall_ok (V n kind name mt) _ _) h) _
theorem C2_ok (ps es : List Ent) (h : ∀ e ∈ ps, pureOk C0 e = true ∧ @ClsOk (V n kind name mt) e) (he : ∀ e ∈ es, @ClsOk (V n kind name mt) e) : @CallerOk (V n kind name mt) Try.prog gl (C2 ps es) :=
  @callX_right (V n kind name mt) _ _ _ _ _ (@mixed (V n kind name mt)) (@TabOk.without (V n kind name mt) _ _ _ _ _ (@tab_ok (V n kind name mt))) (@exts_ok (V n kind name mt))
    (@hook_ok (V n kind name mt) _ _ _ _ (C1_ok n kind name mt ps h) he) _
end
end Go.Proofs.Ytmclonbopcnoeaa.Tab
