/-
  NativeRows returns true for every number, kind and name. No conditions.
  The shell was written by the kit's proof-skeleton.mjs; the walk is our own.
-/
import Derived.Test.YtmclonbopcnoeaaRows
import Derived.WalkKit
import Derived.ProofKit
import Derived.OpenShut
import Derived.ShutString
import Derived.ChangeOld
import Derived.Below
import Derived.Test.YtmclonbopcnoeaaN3
import Derived.Test.YtmclonbopcnoeaaQL
import Derived.Test.YtmclonbopcnoeaaQZ
import Derived.Test.YtmclonbopcnoeaaQN
import Derived.Test.YtmclonbopcnoeaaQP
import Derived.Test.YtmclonbopcnoeaaQe16
import Derived.Test.YtmclonbopcnoeaaQe18
import Derived.Test.YtmclonbopcnoeaaQe14N
import Derived.Test.YtmclonbopcnoeaaQe14Z
import Derived.Test.YtmclonbopcnoeaaQe5
import Derived.Test.YtmclonbopcnoeaaQe10
import Derived.Test.YtmclonbopcnoeaaQe8
import Derived.Test.YtmclonbopcnoeaaQe12
import Derived.Test.YtmclonbopcnoeaaQe14P
namespace Go.Proofs.Ytmclonbopcnoeaa.nativeRows
open Go.ChangeShapes Go.WideShapes Go.ChangeAt Go.RowKit
open Go.ChangeMaps (open_string shut_string)
set_option linter.unusedVariables false      -- a walk need not use every 'w<i>' (that an integer argument fits its kind)

theorem own : ownKnob Try.prog.godebug = none := by kernel_rfl

open Go.Ab Tab in
theorem below_of {w w' : World} (h : w'.os = w.os ∧ w'.tape = w.tape ∧ w'.output = w.output ∧ w.heap.size ≤ w'.heap.size ∧ ∀ b, b < w.heap.size → w'.heap[b]? = w.heap[b]?) : Below w.heap.size w w' := ⟨h.1, h.2.1, h.2.2.1, h.2.2.2.1, h.2.2.2.2⟩
open Go.Ab Tab in
theorem wf_rng {a : Int} (h : (Lit.int .i64 a).wf = true) : minI64 ≤ a ∧ a ≤ maxI64 := by
  simp only [Lit.wf, Bool.and_eq_true, decide_eq_true_eq] at h
  exact h

open Go.Ab Tab in
theorem memP : ∀ e ∈ pents0, pureOk C0 e = true := by
  intro e he
  simp only [pents0, List.mem_cons, List.not_mem_nil, or_false] at he
  rcases he with rfl | rfl | rfl | rfl | rfl | rfl
  · exact p_e5
  · exact p_e8
  · exact p_e10
  · exact p_e12
  · exact p_e16
  · exact p_e18
section
variable (n kind : Int) (name : List UInt8) (mt : List (Int × Int × List (List UInt8 × Int)))
open Go.Ab Tab
theorem clsP (h1 : minI64 ≤ n) (h2 : n ≤ maxI64) : ∀ e ∈ pents0, @ClsOk (V n kind name mt) e := by
  intro e he
  simp only [pents0, List.mem_cons, List.not_mem_nil, or_false] at he
  rcases he with rfl | rfl | rfl | rfl | rfl | rfl
  · exact okAwake n kind name mt
  · exact okTakes n kind name mt 8 [] h1 h2
  · exact okName n kind name mt 10 [] h1 h2
  · exact okFind n kind name mt 12 []
  · exact okClass n kind name mt 16 [] h1 h2
  · exact okWhy n kind name mt 18 []
theorem clsE (h1 : minI64 ≤ n) (h2 : n ≤ maxI64) : ∀ e ∈ ents0, @ClsOk (V n kind name mt) e := by
  intro e he
  simp only [ents0, List.mem_cons, List.not_mem_nil, or_false] at he
  rcases he with rfl | rfl | rfl | rfl | rfl
  · exact okName n kind name mt 9 [.obj] h1 h2
  · exact okTakes n kind name mt 7 [.obj] h1 h2
  · exact okClass n kind name mt 15 [.obj] h1 h2
  · exact okFind n kind name mt 11 [.obj]
  · exact okWhy n kind name mt 17 [.obj]
theorem both {ps : List Ent} {p : Ent} (hp : pureOk C0 p = true) (hc : @ClsOk (V n kind name mt) p) (h1 : minI64 ≤ n) (h2 : n ≤ maxI64) (hps : ps = p :: pents0) : ∀ e ∈ ps, pureOk C0 e = true ∧ @ClsOk (V n kind name mt) e := by
  subst hps
  intro e he
  rcases List.mem_cons.1 he with rfl | he
  · exact ⟨hp, hc⟩
  · exact ⟨memP e he, clsP n kind name mt h1 h2 e he⟩
theorem cons_e {es : List Ent} {p : Ent} (hc : @ClsOk (V n kind name mt) p) (h1 : minI64 ≤ n) (h2 : n ≤ maxI64) (hes : es = p :: ents0) : ∀ e ∈ es, @ClsOk (V n kind name mt) e := by
  subst hes
  intro e he
  rcases List.mem_cons.1 he with rfl | he
  · exact hc
  · exact clsE n kind name mt h1 h2 e he
theorem args3 {k : D} {v2 : List UInt8} {s : D} {w : World} (h1 : minI64 ≤ n) (h2 : n ≤ maxI64) (hk : @Rep (V n kind name mt) rho0 w k (.int .i64 kind)) (hs : @Rep (V n kind name mt) rho0 w s (.string ⟨⟨v2⟩⟩)) :
    @RepL (V n kind name mt) rho0 w [nT, k, s] [.int .i64 n, .int .i64 kind, .string ⟨⟨v2⟩⟩] := by
  simp only [RepL]
  exact ⟨_, _, rfl, ⟨rfl, h1, h2⟩, _, _, rfl, hk, _, _, rfl, hs, rfl⟩
end

open Go.Ab Tab in
theorem walk (a0 : Int) (a1 : Int) (a2 : ByteArray) (w0 : (Lit.int .i64 a0).wf = true) (w1 : (Lit.int .i64 a1).wf = true) (w2 : a2.size ≤ maxLen) (w : World) :
    Calls Try.prog 3 #[.int .i64 a0, .int .i64 a1, .string a2] w fun e w' => e = .returned (.bool true) ∧ Below w.heap.size w w' := by
  obtain ⟨n1, n2⟩ := wf_rng w0
  obtain ⟨k1, k2⟩ := wf_rng w1
  have hl : a2.data.toList.length = a2.size := rfl
  by_cases h : a2.size ≤ 3000
  · have hs : ∀ mt, @Rep (V a0 a1 a2.data.toList mt) rho0 w sT (.string ⟨⟨a2.data.toList⟩⟩) := fun mt => ⟨rfl, List.not_mem_nil, Nat.zero_le _, h⟩
    rcases Int.lt_trichotomy a1 0 with hk | hk | hk
    · refine (@top_ok (V a0 a1 a2.data.toList methodTabN) _ _ (C2_ok a0 a1 a2.data.toList methodTabN pentsN entsN ?_ ?_) 3 _ w _ run_N (args3 a0 a1 a2.data.toList methodTabN n1 n2 ⟨rfl, k1, by show a1 ≤ -1; omega⟩ (hs _))).mono fun e w' he => ⟨he.1, below_of he.2⟩
      · exact both a0 a1 _ _ p_e14N (okMethod a0 a1 _ _ minI64 (-1) 14 [] covN k1 (by omega) rfl) n1 n2 rfl
      · exact cons_e a0 a1 _ _ (okMethod a0 a1 _ _ minI64 (-1) 13 [.obj] covN k1 (by omega) rfl) n1 n2 rfl
    · subst hk
      refine (@top_ok (V a0 0 a2.data.toList []) _ _ (C2_ok a0 0 a2.data.toList [] pentsZ ents0 ?_ ?_) 3 _ w _ run_Z (args3 a0 0 a2.data.toList [] n1 n2 rfl (hs _))).mono fun e w' he => ⟨he.1, below_of he.2⟩
      · exact both a0 0 _ _ p_e14Z (okZ a0 0 _ _) n1 n2 rfl
      · exact clsE a0 0 _ _ n1 n2
    · refine (@top_ok (V a0 a1 a2.data.toList methodTabP) _ _ (C2_ok a0 a1 a2.data.toList methodTabP pentsP entsP ?_ ?_) 3 _ w _ run_P (args3 a0 a1 a2.data.toList methodTabP n1 n2 ⟨rfl, by show 1 ≤ a1; omega, k2⟩ (hs _))).mono fun e w' he => ⟨he.1, below_of he.2⟩
      · exact both a0 a1 _ _ p_e14P (okMethod a0 a1 _ _ 1 maxI64 14 [] covP (by omega) k2 (by kernel_rfl)) n1 n2 rfl
      · exact cons_e a0 a1 _ _ (okMethod a0 a1 _ _ 1 maxI64 13 [.obj] covP (by omega) k2 (by kernel_rfl)) n1 n2 rfl
  · have hs : @Rep (V a0 a1 a2.data.toList []) rho0 w sL (.string ⟨⟨a2.data.toList⟩⟩) := ⟨rfl, List.not_mem_nil, by show 3001 ≤ a2.size; omega, w2⟩
    refine (@top_ok (V a0 a1 a2.data.toList []) _ _ (C2_ok a0 a1 a2.data.toList [] [e5] [] ?_ ?_) 3 _ w _ run_L (args3 a0 a1 a2.data.toList [] n1 n2 ⟨rfl, k1, k2⟩ hs)).mono fun e w' he => ⟨he.1, below_of he.2⟩
    · intro e he
      obtain rfl := List.mem_singleton.1 he
      exact ⟨p_e5, okAwake a0 a1 _ _⟩
    · intro e he; cases he

/-! ### THE ROW's STEP: WRITTEN OUT: LEAVE IT -/
set_option maxRecDepth 100000 in
theorem lifted (os : Os) (started : os.Started) (H : Type) (enc : TypeId × Value → H) :
    ReturnsInHanded {} Try.checked os 3 .any (Rows.nativeRowsSpec.pre6 enc Try.prog Try.f3 Rows.nativeRowsRow.domain false) (Rows.nativeRowsSpec.post enc Try.prog Try.f3 false true false false) := by
  refine returnsInHanded_of_change (C := Try.checked) own started (by kernel_rfl) Try.func3
    (ChangeSpec.witness6 (enc := enc) (C := Try.checked) false ⟨#[], #[.int .i64 0, .int .i64 0, .string ByteArray.empty], []⟩ 8 (by kernel_rfl) (by kernel_rfl) (by kernel_rfl) (by kernel_rfl)) ?_
  intro W base args ds gs before hval0 hW hcnd _
  have hval : ∀ (j : Nat) t v, Try.f3.params[j]? = some t → args[j]? = some v → Value.okWide Try.prog W .any base t v := hval0
  have hW' := hW
  obtain ⟨p, q, hA0, hV, rfl, hfz, hnd⟩ := hW
  have hA : DataW.TrodAll enc Try.prog W 0 (fun _ => true) true Try.f3.params.toList args.toList ds p := hA0
  rw [Try.params3] at hA hval
  obtain ⟨v0, vs0, d0, ds0, p0, q0, hargs, rfl, rfl, h0, r0⟩ := trodAll_cons hA
  obtain ⟨v1, vs1, d1, ds1, p1, q1, rfl, rfl, rfl, h1, r1⟩ := trodAll_cons r0
  obtain ⟨v2, vs2, d2, ds2, p2, q2, rfl, rfl, rfl, h2, r2⟩ := trodAll_cons r1
  obtain ⟨rfl, rfl, rfl⟩ := trodAll_nil r2
  obtain rfl : args = #[v0, v1, v2] := by cases args; simp_all
  obtain ⟨rfl, rfl⟩ := trodVars_none hV
  obtain ⟨a0, rfl, rfl, rfl, w0⟩ := open_int Try.underlying3 (hval 0 3 v0 rfl rfl) h0
  obtain ⟨a1, rfl, rfl, rfl, w1⟩ := open_int Try.underlying3 (hval 1 3 v1 rfl rfl) h1
  obtain ⟨a2, rfl, rfl, rfl, w2⟩ := open_string Try.underlying9 (hval 2 9 v2 rfl rfl) h2
  clear hA0 hval0
  refine (walk a0 a1 a2 w0 w1 w2 W).mono fun e W' ⟨he, bel⟩ => ?_
  subst he
  exact ⟨_, rfl, _, _, _, [], _, [], hW', trodAll_mk1 (shut_bool Try.underlying4 _), (trodAll_cons_mk (shut_int Try.underlying3 w0) (trodAll_cons_mk (shut_int Try.underlying3 w1) (trodAll_cons_mk (shut_string Try.underlying9 w2) trodAll_mk0))), rfl, bel.frame _, fun h => by cases h⟩

theorem over : Rows.nativeRowsRow.holds Try.pinned (OpenSpec.ofChange Rows.nativeRowsSpec) :=
  OpenClaim.holds_of_wide 3 Try.f3 rfl rfl rfl rfl rfl rfl rfl ⟨rfl, rfl, rfl, rfl, rfl⟩ rfl rfl rfl rfl rfl (by kernel_rfl) Try.func3 (by kernel_rfl)
    (of_decide_eq_true (by kernel_rfl)) (by unfold Func.isWrapper; first | (rw [if_pos (by decide +kernel)]; kernel_rfl) | (rw [if_neg (by decide +kernel)]; exact ⟨rfl, rfl⟩))
    (fun os started H enc _ => lifted os started H enc)

/-- ████ THE STATEMENT ████ -/
theorem proved : Rows.NativeRowsSaid :=
  over
#print axioms proved
end Go.Proofs.Ytmclonbopcnoeaa.nativeRows
