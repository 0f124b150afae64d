/-
  The row (without its tie): ShowLoops returns true for every number; the argument reads as it did. No conditions (the card ties what is listed to the text).
  The shell is turned from the kit's worked proofs; the walk is our own.
-/
import Derived.Test.YtdfalhpbanhmeaaGreatDoorRows
import Derived.WalkKit
import Derived.ProofKit
import Derived.JoinedOf
import Derived.RowKit
import Derived.LaidLaws
import Derived.LaidHandle
import Derived.Stop.Joined
import Derived.Test.YtdfalhpbanhmeaaGreatDoorCards
import Derived.Test.YtdfalhpbanhmeaaGreatDoorTie
import Derived.OpenShut
import Derived.ChangeOld
import Derived.ChangeSame
import Derived.Below
import Derived.Carry
import Derived.Test.YtdfalhpbanhmeaaGreatDoorR1
import Derived.Test.YtdfalhpbanhmeaaGreatDoorR2
import Derived.Test.YtdfalhpbanhmeaaGreatDoorR3
import Derived.Test.YtdfalhpbanhmeaaGreatDoorR4
import Derived.Test.YtdfalhpbanhmeaaGreatDoorR5
namespace Go.Proofs.YtdfalhpbanhmeaaGreatDoor.showLoops
open Go.ChangeShapes Go.WideShapes Go.ChangeAt Go.RowKit
set_option linter.unusedVariables false

/-! ### A world that meets the condition -/
def tab1 : List Int := [0, 1, 28, 2, 29, 14, 24, 3, 30, 22, 20, 15, 25, 17, 4, 8, 31, 27, 13, 23, 21, 19, 16, 7, 26, 12, 18, 6, 11, 5, 10, 9]
def tab2 : List Int := [0, 1, 56, 2, 57, 49, 28, 3, 61, 58, 42, 50, 38, 29, 17, 4, 62, 47, 59, 36, 45, 43, 51, 22, 53, 39, 33, 30, 24, 18, 12, 5, 63, 55, 48, 27, 60, 41, 37, 16, 46, 35, 44, 21, 52, 32, 23, 11, 54, 26, 40, 15, 34, 20, 31, 10, 25, 14, 19, 9, 13, 8, 7, 6]
def tab3 : List Int := [1, 10, 100, 1000, 10000, 100000, 1000000, 10000000, 100000000, 1000000000, 10000000000, 100000000000, 1000000000000, 10000000000000, 100000000000000, 1000000000000000, 10000000000000000, 100000000000000000, 1000000000000000000, 10000000000000000000]
def tab4 : List Int := [128, 191, 160, 191, 128, 159, 144, 191, 128, 143, 0, 0, 0, 0, 0, 0, 0, 0, 0, 0, 0, 0, 0, 0, 0, 0, 0, 0, 0, 0, 0, 0]
def first1 : List Int := Go.Pinned.utf8FirstZ.map Int.ofNat
def lay (k : IntKind) (l : List Int) : _root_.Go.Obj → _root_.Go.Obj
  | .cells _ t frozen => .cells (l.map fun z => Value.int k z).toArray t frozen
  | o => o
noncomputable def laidWorld (os : Os) : World :=
  { World.holding Tryz.prog os ⟨#[], #[], []⟩ with heap := (((((World.holding Tryz.prog os ⟨#[], #[], []⟩).heap.modify 6 (lay .u8 tab1)).modify 7 (lay .u8 tab2)).modify 3 (lay .u64 tab3)).modify 1 (lay .u8 tab4)).modify 0 (lay .u8 first1) }
theorem laid_met (os : Os) (args : Array Value) : laidMetH Tryz.prog Rows.showLoopsRow.laid ((laidWorld os).forCall (fun _ _ => 0) ⟨#[], args, []⟩).memory :=
  laidMetH_of_parts (laidMet_of_run' 8 (by kernel_rfl) (by kernel_rfl)) (by kernel_rfl)

set_option maxRecDepth 100000
theorem wit1 (os : Os) : ((laidWorld os).forCall (fun _ _ => 0) ⟨#[], #[.int .i64 0], []⟩).variablesB Tryz.checked.prog = true := by kernel_rfl
theorem wit2 (os : Os) : (((laidWorld os).forCall (fun _ _ => 0) ⟨#[], #[.int .i64 0], []⟩).heap.toList.drop Tryz.checked.prog.globals.size).take ((begin Tryz.checked.prog (fun _ _ => 0) default).world.heap.size - Tryz.checked.prog.globals.size) =
      (begin Tryz.checked.prog (fun _ _ => 0) default).world.heap.toList.drop Tryz.checked.prog.globals.size := by kernel_rfl
theorem wit3 (os : Os) : Input.okWideB Tryz.checked.prog ((laidWorld os).forCall (fun _ _ => 0) ⟨#[], #[.int .i64 0], []⟩) 3 ⟨#[], #[.int .i64 0], []⟩ = true := by kernel_rfl
theorem wit4 {H : Type} (enc : TypeId × Value → H) (os : Os) : Rows.showLoopsSpec.preB enc Tryz.checked.prog Tryz.f3 [] false ((laidWorld os).forCall (fun _ _ => 0) ⟨#[], #[.int .i64 0], []⟩).memory #[.int .i64 0] 8 = true := by kernel_rfl
theorem wit5 {H : Type} (enc : TypeId × Value → H) (os : Os) : Rows.showLoopsSpec.sizedB enc Tryz.checked.prog Tryz.f3 false ((laidWorld os).forCall (fun _ _ => 0) ⟨#[], #[.int .i64 0], []⟩).memory #[.int .i64 0] 8 = true := by kernel_rfl
end Go.Proofs.YtdfalhpbanhmeaaGreatDoor.showLoops

namespace Go.Proofs.YtdfalhpbanhmeaaGreatDoor.showLoops
open Go.ChangeShapes Go.WideShapes Go.ChangeAt Go.RowKit
set_option linter.unusedVariables false

theorem own : ownKnob Tryz.prog.godebug = none := by kernel_rfl
section
open Go.Ab Tab
abbrev V (a : Int) : Vals := ⟨fun _ => a, fun _ => [], fun _ => false⟩
theorem wf_rng {a : Int} (h : (Lit.int .i64 a).wf = true) : minI64 ≤ a ∧ a ≤ maxI64 := by
  simp only [Lit.wf, Bool.and_eq_true, decide_eq_true_eq] at h
  exact h
theorem below_of {w w' : World} (h : w'.os = w.os ∧ w'.tape = w.tape ∧ w'.output = w.output ∧ w.heap.size ≤ w'.heap.size ∧ ∀ b, b < w.heap.size → w'.heap[b]? = w.heap[b]?) : Below w.heap.size w w' := ⟨h.1, h.2.1, h.2.2.1, h.2.2.2.1, h.2.2.2.2⟩
/-- THE WALK. -/
theorem walk {a : Int} {w : World} (wa : (Lit.int .i64 a).wf = true) :
    Calls Tryz.prog 3 #[.int .i64 a] w fun e w' => e = .returned (.bool true) ∧ Below w.heap.size w w' := by
  obtain ⟨a1, a2⟩ := wf_rng wa
  have key : ∀ v : D, Ab.isTrue (CT 3 [v] st0) = true → @Rep (V a) rho0 w v (.int .i64 a) → Calls Tryz.prog 3 #[.int .i64 a] w fun e w' => e = .returned (.bool true) ∧ Below w.heap.size w w' := fun v hn hr => by
    refine (@top_ok (V a) _ _ (@CT_ok (V a)) 3 _ w [.int .i64 a] hn ?_).mono fun e w' he => ⟨he.1, below_of he.2⟩
    simp only [RepL]
    exact ⟨_, _, rfl, hr, rfl⟩
  rcases Int.lt_or_le a 1 with h | h
  · exact key _ run_lo ⟨rfl, a1, by show a ≤ 0; omega⟩
  rcases Int.lt_or_le a 20 with h' | h'
  · have hc : a = 1 ∨ a = 2 ∨ a = 3 ∨ a = 4 ∨ a = 5 ∨ a = 6 ∨ a = 7 ∨ a = 8 ∨ a = 9 ∨ a = 10 ∨ a = 11 ∨ a = 12 ∨ a = 13 ∨ a = 14 ∨ a = 15 ∨ a = 16 ∨ a = 17 ∨ a = 18 ∨ a = 19 := by omega
    rcases hc with rfl | rfl | rfl | rfl | rfl | rfl | rfl | rfl | rfl | rfl | rfl | rfl | rfl | rfl | rfl | rfl | rfl | rfl | rfl
    · exact key _ run1 rfl
    · exact key _ run2 rfl
    · exact key _ run3 rfl
    · exact key _ run4 rfl
    · exact key _ run5 rfl
    · exact key _ run6 rfl
    · exact key _ run7 rfl
    · exact key _ run8 rfl
    · exact key _ run9 rfl
    · exact key _ run10 rfl
    · exact key _ run11 rfl
    · exact key _ run12 rfl
    · exact key _ run13 rfl
    · exact key _ run14 rfl
    · exact key _ run15 rfl
    · exact key _ run16 rfl
    · exact key _ run17 rfl
    · exact key _ run18 rfl
    · exact key _ run19 rfl
  · exact key _ run_hi ⟨rfl, h', a2⟩
end

set_option maxRecDepth 100000 in
theorem lifted (os : Os) (started : os.Started) (H : Type) (enc : TypeId × Value → H) :
    ReturnsInHanded {} Tryz.checked os 3 .any (fun w args => (Rows.showLoopsSpec.pre enc Tryz.prog Tryz.f3 [] false w args ∧ laidMetH Tryz.prog Rows.showLoopsRow.laid w) ∧ sizedMet enc Tryz.prog Tryz.f3 (OpenSpec.ofChange Rows.showLoopsSpec) false w args)
      (Rows.showLoopsSpec.post enc Tryz.prog Tryz.f3 false true false false) := by
  refine returnsInHanded_of_change_and (C := Tryz.checked) (X := fun w _ => laidMetH Tryz.prog Rows.showLoopsRow.laid w) (fun _ _ _ hh h => h.of_heap hh) own started (by kernel_rfl) Tryz.func3
    (ChangeSpec.witness_at (enc := enc) (C := Tryz.checked) (os := os) (X := fun w _ => laidMetH Tryz.prog Rows.showLoopsRow.laid w) false (laidWorld os) #[.int .i64 0] 8 rfl (wit1 os) (wit2 os) (wit3 os) (wit4 enc os) (wit5 enc os) (laid_met os _)) ?_
  intro W base args ds gs before hval0 hW _ _ _ _
  have hval : ∀ (j : Nat) t v, Tryz.f3.params[j]? = some t → args[j]? = some v → Value.okWide Tryz.prog W .any base t v := hval0
  have hW' := hW
  obtain ⟨p, q, hA0, hV, rfl, hfz, hnd⟩ := hW
  have hA : DataW.TrodAll enc Tryz.prog W 0 (fun _ => true) true Tryz.f3.params.toList args.toList ds p := hA0
  rw [Tryz.params3] at hA hval
  obtain ⟨v0, d0, rfl, rfl, h0⟩ := trodAll_one hA
  obtain ⟨rfl, rfl⟩ := trodVars_none hV
  obtain ⟨a, rfl, rfl, rfl, wa⟩ := open_int Tryz.underlying3 (hval 0 3 v0 rfl rfl) h0
  clear hA0 hval0
  refine (walk wa).mono fun e W' ⟨he, bel⟩ => ?_
  subst he
  exact ⟨_, rfl, _, _, _, [], _, [], hW', trodAll_mk1 (shut_bool Tryz.underlying4 _), (trodAll_cons_mk (shut_int Tryz.underlying3 wa) trodAll_mk0), rfl, bel.frame _, fun h => by cases h⟩

end Go.Proofs.YtdfalhpbanhmeaaGreatDoor.showLoops
