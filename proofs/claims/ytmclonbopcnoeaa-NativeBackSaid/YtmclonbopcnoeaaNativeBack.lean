/-
  NativeBack returns true for every number and kind. No conditions.
  The shell was written by the kit's proof-skeleton.mjs; the walk is our own.
-/
import Derived.Test.YtmclonbopcnoeaaRows
import Derived.WalkKit
import Derived.ProofKit
import Derived.OpenShut
import Derived.ShutString
import Derived.ChangeOld
import Derived.Below
import Derived.Test.YtmclonbopcnoeaaN3
import Derived.Test.YtmclonbopcnoeaaQe5
import Derived.Test.YtmclonbopcnoeaaR0
import Derived.Test.YtmclonbopcnoeaaR1
import Derived.Test.YtmclonbopcnoeaaR2
import Derived.Test.YtmclonbopcnoeaaR3
import Derived.Test.YtmclonbopcnoeaaR4
namespace Go.Proofs.Ytmclonbopcnoeaa.nativeBack
open Go.ChangeShapes Go.WideShapes Go.ChangeAt Go.RowKit
open Go.ChangeMaps (open_string shut_string)
set_option linter.unusedVariables false      -- a walk need not use every 'w<i>' (that an integer argument fits its kind)

theorem own : ownKnob Try.prog.godebug = none := by kernel_rfl

open Go.Ab Tab
theorem below_of {w w' : World} (h : w'.os = w.os ∧ w'.tape = w.tape ∧ w'.output = w.output ∧ w.heap.size ≤ w'.heap.size ∧ ∀ b, b < w.heap.size → w'.heap[b]? = w.heap[b]?) : Below w.heap.size w w' := ⟨h.1, h.2.1, h.2.2.1, h.2.2.2.1, h.2.2.2.2⟩
theorem wf_rng {a : Int} (h : (Lit.int .i64 a).wf = true) : minI64 ≤ a ∧ a ≤ maxI64 := by
  simp only [Lit.wf, Bool.and_eq_true, decide_eq_true_eq] at h
  exact h
theorem B1_ok (n kind : Int) : @CallerOk (V n kind [] []) Try.prog gl B1 :=
  @callX_right (V n kind [] []) _ _ _ _ _ (@mixed (V n kind [] [])) (@TabOk.without (V n kind [] []) _ _ _ _ _ (@tab_ok (V n kind [] []))) (@exts_ok (V n kind [] []))
    (@pur_ok (V n kind [] []) _ _ _ _ _ (C0_ok n kind [] []) glIm (@noCall_ok (V n kind [] []) _ _) (fun e he => by
      obtain rfl := List.mem_singleton.1 he
      exact ⟨p_e5, okAwake n kind [] []⟩)) _
/-- Whatever is run for data that both values have. -/
theorem of_run (n kind : Int) (x y : D) (w : World) (h : isTrue (B1 4 [x, y] st0) = true) (hx : @Rep (V n kind [] []) rho0 w x (.int .i64 n)) (hy : @Rep (V n kind [] []) rho0 w y (.int .i64 kind)) :
    Calls Try.prog 4 #[.int .i64 n, .int .i64 kind] w fun e w' => e = .returned (.bool true) ∧ Below w.heap.size w w' := by
  refine (@top_ok (V n kind [] []) _ _ (B1_ok n kind) 4 _ w [.int .i64 n, .int .i64 kind] h ?_).mono fun e w' he => ⟨he.1, below_of he.2⟩
  simp only [RepL]
  exact ⟨_, _, rfl, hx, _, _, rfl, hy, rfl⟩
theorem of_back (n kind : Int) (w : World) (h : back n = true) (k1 : minI64 ≤ kind) (k2 : kind ≤ maxI64) : Calls Try.prog 4 #[.int .i64 n, .int .i64 kind] w fun e w' => e = .returned (.bool true) ∧ Below w.heap.size w w' := by
  simp only [back, Bool.and_eq_true] at h
  by_cases h0 : kind < 0
  · exact of_run n kind _ _ w h.1 rfl ⟨rfl, k1, by show kind ≤ -1; omega⟩
  · by_cases h1 : kind ≤ 20
    · exact of_run n kind _ _ w h.2.1 rfl ⟨rfl, by show 0 ≤ kind; omega, h1⟩
    · exact of_run n kind _ _ w h.2.2 rfl ⟨rfl, by show 21 ≤ kind; omega, k2⟩
theorem of_list (n kind : Int) (w : World) {l : List Int} (h : backL l = true) (hm : n ∈ l) (k1 : minI64 ≤ kind) (k2 : kind ≤ maxI64) : Calls Try.prog 4 #[.int .i64 n, .int .i64 kind] w fun e w' => e = .returned (.bool true) ∧ Below w.heap.size w w' :=
  of_back n kind w (List.all_eq_true.1 h n hm) k1 k2
theorem of_gap (n kind : Int) (w : World) {lo hi : Int} (h : gap lo hi = true) (h1 : lo ≤ n) (h2 : n ≤ hi) (k1 : minI64 ≤ kind) (k2 : kind ≤ maxI64) : Calls Try.prog 4 #[.int .i64 n, .int .i64 kind] w fun e w' => e = .returned (.bool true) ∧ Below w.heap.size w w' :=
  of_run n kind _ _ w h ⟨rfl, h1, h2⟩ ⟨rfl, k1, k2⟩

theorem walk (a0 : Int) (a1 : Int) (w0 : (Lit.int .i64 a0).wf = true) (w1 : (Lit.int .i64 a1).wf = true) (w : World) :
    Calls Try.prog 4 #[.int .i64 a0, .int .i64 a1] w fun e w' => e = .returned (.bool true) ∧ Below w.heap.size w w' := by
  obtain ⟨n1, n2⟩ := wf_rng w0
  obtain ⟨k1, k2⟩ := wf_rng w1
  have hg := back_gap
  simp only [Bool.and_eq_true] at hg
  obtain ⟨g1, g2, g3, g4, g5, g6⟩ := hg
  by_cases h1 : a0 ≤ 0
  · exact of_gap a0 a1 w g1 n1 h1 k1 k2
  by_cases h2 : a0 ≤ 11
  · exact of_list a0 a1 w back_1 (by simp only [List.mem_cons, List.not_mem_nil, or_false]; omega) k1 k2
  by_cases h3 : a0 ≤ 22
  · exact of_list a0 a1 w back_2 (by simp only [List.mem_cons, List.not_mem_nil, or_false]; omega) k1 k2
  by_cases h4 : a0 ≤ 30
  · exact of_gap a0 a1 w g2 (by omega) h4 k1 k2
  by_cases h5 : a0 ≤ 40
  · exact of_list a0 a1 w back_3 (by simp only [List.mem_cons, List.not_mem_nil, or_false]; omega) k1 k2
  by_cases h6 : a0 ≤ 50
  · exact of_gap a0 a1 w g3 (by omega) h6 k1 k2
  by_cases h7 : a0 ≤ 57
  · exact of_list a0 a1 w back_4 (by simp only [List.mem_cons, List.not_mem_nil, or_false]; omega) k1 k2
  by_cases h8 : a0 ≤ 60
  · exact of_gap a0 a1 w g4 (by omega) h8 k1 k2
  by_cases h9 : a0 ≤ 61
  · exact of_list a0 a1 w back_4 (by simp only [List.mem_cons, List.not_mem_nil, or_false]; omega) k1 k2
  by_cases h10 : a0 ≤ 70
  · exact of_gap a0 a1 w g5 (by omega) h10 k1 k2
  by_cases h11 : a0 ≤ 75
  · exact of_list a0 a1 w back_4 (by simp only [List.mem_cons, List.not_mem_nil, or_false]; omega) k1 k2
  · exact of_gap a0 a1 w g6 (by omega) n2 k1 k2

/-! ### THE ROW's STEP: WRITTEN OUT: LEAVE IT -/
set_option maxRecDepth 100000 in
theorem lifted (os : Os) (started : os.Started) (H : Type) (enc : TypeId × Value → H) :
    ReturnsInHanded {} Try.checked os 4 .any (Rows.nativeBackSpec.pre6 enc Try.prog Try.f4 Rows.nativeBackRow.domain false) (Rows.nativeBackSpec.post enc Try.prog Try.f4 false true false false) := by
  refine returnsInHanded_of_change (C := Try.checked) own started (by kernel_rfl) Try.func4
    (ChangeSpec.witness6 (enc := enc) (C := Try.checked) false ⟨#[], #[.int .i64 0, .int .i64 0], []⟩ 8 (by kernel_rfl) (by kernel_rfl) (by kernel_rfl) (by kernel_rfl)) ?_
  intro W base args ds gs before hval0 hW hcnd _
  have hval : ∀ (j : Nat) t v, Try.f4.params[j]? = some t → args[j]? = some v → Value.okWide Try.prog W .any base t v := hval0
  have hW' := hW
  obtain ⟨p, q, hA0, hV, rfl, hfz, hnd⟩ := hW
  have hA : DataW.TrodAll enc Try.prog W 0 (fun _ => true) true Try.f4.params.toList args.toList ds p := hA0
  rw [Try.params4] at hA hval
  obtain ⟨v0, vs0, d0, ds0, p0, q0, hargs, rfl, rfl, h0, r0⟩ := trodAll_cons hA
  obtain ⟨v1, vs1, d1, ds1, p1, q1, rfl, rfl, rfl, h1, r1⟩ := trodAll_cons r0
  obtain ⟨rfl, rfl, rfl⟩ := trodAll_nil r1
  obtain rfl : args = #[v0, v1] := by cases args; simp_all
  obtain ⟨rfl, rfl⟩ := trodVars_none hV
  obtain ⟨a0, rfl, rfl, rfl, w0⟩ := open_int Try.underlying3 (hval 0 3 v0 rfl rfl) h0
  obtain ⟨a1, rfl, rfl, rfl, w1⟩ := open_int Try.underlying3 (hval 1 3 v1 rfl rfl) h1
  clear hA0 hval0
  refine (walk a0 a1 w0 w1 W).mono fun e W' ⟨he, bel⟩ => ?_
  subst he
  exact ⟨_, rfl, _, _, _, [], _, [], hW', trodAll_mk1 (shut_bool Try.underlying4 _), (trodAll_cons_mk (shut_int Try.underlying3 w0) (trodAll_cons_mk (shut_int Try.underlying3 w1) trodAll_mk0)), rfl, bel.frame _, fun h => by cases h⟩

theorem over : Rows.nativeBackRow.holds Try.pinned (OpenSpec.ofChange Rows.nativeBackSpec) :=
  OpenClaim.holds_of_wide 4 Try.f4 rfl rfl rfl rfl rfl rfl rfl ⟨rfl, rfl, rfl, rfl, rfl⟩ rfl rfl rfl rfl rfl (by kernel_rfl) Try.func4 (by kernel_rfl)
    (of_decide_eq_true (by kernel_rfl)) (by unfold Func.isWrapper; first | (rw [if_pos (by decide +kernel)]; kernel_rfl) | (rw [if_neg (by decide +kernel)]; exact ⟨rfl, rfl⟩))
    (fun os started H enc _ => lifted os started H enc)

/-- ████ THE STATEMENT ████ -/
theorem proved : Rows.NativeBackSaid :=
  over
#print axioms proved
end Go.Proofs.Ytmclonbopcnoeaa.nativeBack
