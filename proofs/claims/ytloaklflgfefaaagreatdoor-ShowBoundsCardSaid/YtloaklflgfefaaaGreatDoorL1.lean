/-
  The row (without its tie): ShowBounds returns true for every two numbers; the arguments read as they did. No conditions (the card ties what is listed to the text).
  The shell is turned from the kit's worked proofs; the walk is our own.
-/
import Derived.Test.YtloaklflgfefaaaGreatDoorW3
import Derived.Test.YtloaklflgfefaaaGreatDoorTP
import Derived.Test.YtloaklflgfefaaaGreatDoorA31
import Derived.Test.YtloaklflgfefaaaGreatDoorRows
import Derived.Test.YtloaklflgfefaaaGreatDoorCards
import Derived.Test.YtloaklflgfefaaaGreatDoorTie
import Derived.WalkKit
import Derived.ProofKit
import Derived.OpenShut
import Derived.ChangeOld
import Derived.ChangeSame
import Derived.JoinedOf
import Derived.RowKit
import Derived.LaidLaws
import Derived.LaidHandle
import Derived.Below
import Derived.Carry
import Derived.Stop.Joined
import Derived.Test.YtloaklflgfefaaaGreatDoorG1
namespace Go.Proofs.YtloaklflgfefaaaGreatDoor.Tab
open Go Go.Ab Go.Ab.Sm
set_option linter.unusedVariables false
set_option maxRecDepth 1000000
theorem c3 : without tab0 [4] 3 = some code3 := by kernel_rfl
theorem c5 : without tab0 [4] 5 = some code5 := by kernel_rfl
theorem c6 : without tab0 [4] 6 = some code6 := by kernel_rfl
theorem c7 : without tab0 [4] 7 = some code7 := by kernel_rfl
theorem c8 : without tab0 [4] 8 = some code8 := by kernel_rfl
theorem c9 : without tab0 [4] 9 = some code9 := by kernel_rfl
theorem c10 : without tab0 [4] 10 = some code10 := by kernel_rfl
theorem c11 : without tab0 [4] 11 = some code11 := by kernel_rfl
theorem c12 : without tab0 [4] 12 = some code12 := by kernel_rfl
theorem c13 : without tab0 [4] 13 = some code13 := by kernel_rfl
theorem c14 : without tab0 [4] 14 = some code14 := by kernel_rfl
theorem c15 : without tab0 [4] 15 = some code15 := by kernel_rfl
theorem c16 : without tab0 [4] 16 = some code16 := by kernel_rfl
theorem c17 : without tab0 [4] 17 = some code17 := by kernel_rfl
theorem c18 : without tab0 [4] 18 = some code18 := by kernel_rfl
theorem c19 : without tab0 [4] 19 = some code19 := by kernel_rfl
theorem c20 : without tab0 [4] 20 = some code20 := by kernel_rfl
theorem c21 : without tab0 [4] 21 = some code21 := by kernel_rfl
theorem c22 : without tab0 [4] 22 = some code22 := by kernel_rfl
theorem c23 : without tab0 [4] 23 = some code23 := by kernel_rfl
theorem c24 : without tab0 [4] 24 = some code24 := by kernel_rfl
theorem c25 : without tab0 [4] 25 = some code25 := by kernel_rfl
theorem c26 : without tab0 [4] 26 = some code26 := by kernel_rfl
theorem c28 : without tab0 [4] 28 = some code28 := by kernel_rfl
theorem c29 : without tab0 [4] 29 = some code29 := by kernel_rfl
theorem c31 : without tab0 [4] 31 = some code31 := by kernel_rfl
theorem c36 : without tab0 [4] 36 = some code36 := by kernel_rfl
theorem c41 : without tab0 [4] 41 = some code41 := by kernel_rfl
theorem c49 : without tab0 [4] 49 = some code49 := by kernel_rfl
theorem c55 : without tab0 [4] 55 = some code55 := by kernel_rfl
theorem c56 : without tab0 [4] 56 = some code56 := by kernel_rfl
theorem c57 : without tab0 [4] 57 = some code57 := by kernel_rfl
theorem c58 : without tab0 [4] 58 = some code58 := by kernel_rfl
theorem c64 : without tab0 [4] 64 = some code64 := by kernel_rfl
theorem c65 : without tab0 [4] 65 = some code65 := by kernel_rfl
theorem c69 : without tab0 [4] 69 = some code69 := by kernel_rfl
theorem c74 : without tab0 [4] 74 = some code74 := by kernel_rfl
theorem c76 : without tab0 [4] 76 = some code76 := by kernel_rfl
theorem c82 : without tab0 [4] 82 = some code82 := by kernel_rfl
theorem c86 : without tab0 [4] 86 = some code86 := by kernel_rfl
theorem c99 : without tab0 [4] 99 = some code99 := by kernel_rfl
theorem c100 : without tab0 [4] 100 = some code100 := by kernel_rfl
theorem c101 : without tab0 [4] 101 = some code101 := by kernel_rfl
theorem c120 : without tab0 [4] 120 = some code120 := by kernel_rfl
theorem c143 : without tab0 [4] 143 = some code143 := by kernel_rfl
theorem c294 : without tab0 [4] 294 = some code294 := by kernel_rfl
theorem c295 : without tab0 [4] 295 = some code295 := by kernel_rfl
theorem c301 : without tab0 [4] 301 = some code301 := by kernel_rfl
theorem tb : Tb (without tab0 [4]) := ⟨c3, c5, c6, c7, c8, c9, c10, c11, c12, c13, c14, c15, c16, c17, c18, c19, c20, c21, c22, c23, c24, c25, c26, c28, c29, c31, c36, c41, c49, c55, c56, c57, c58, c64, c65, c69, c74, c76, c82, c86, c99, c100, c101, c120, c143, c294, c295, c301⟩
theorem awake_run : Ab.isTrue (callX tab0 noCall 200 4 [] st0) = true := by kernel_rfl
noncomputable def HA : Caller := alone (callN tab0 noCall 200)
theorem ha (s : St) : HA 4 [] s = some (.bool true, s) := by
  have h := awake_run
  rw [callX_eq] at h
  unfold Ab.isTrue at h
  split at h
  · rename_i s' h1
    unfold HA alone
    rw [h1]
    rfl
  · cases h
theorem run3 (a b : Int) : ∃ n, Ab.isTrue (callN (without tab0 [4]) HA n 3 [.int .i64 a, .int .i64 b] st0) = true := by
  have hs : St.Ok st0 := ⟨rfl, rfl, fun o _ => by simp [st0, St.get, T.get]⟩
  obtain ⟨d, s1, ⟨n, hn⟩, rfl⟩ := top_ev tb rfl ha hs a b
  exact ⟨n, by rw [hn]; rfl⟩
end Go.Proofs.YtloaklflgfefaaaGreatDoor.Tab

namespace Go.Proofs.YtloaklflgfefaaaGreatDoor.showBounds
open Go.ChangeShapes Go.WideShapes Go.ChangeAt Go.RowKit
set_option linter.unusedVariables false

theorem own : ownKnob Tryz.prog.godebug = none := by kernel_rfl
section
open Go.Ab Tab
abbrev V (a : Int) : Vals := ⟨fun _ => a, fun _ => [], fun _ => false⟩
theorem wf_rng {a : Int} (h : (Lit.int .i64 a).wf = true) : minI64 ≤ a ∧ a ≤ maxI64 := by
  simp only [Lit.wf, Bool.and_eq_true, decide_eq_true_eq] at h
  exact h
theorem below_of {w w' : World} (h : w'.os = w.os ∧ w'.tape = w.tape ∧ w'.output = w.output ∧ w.heap.size ≤ w'.heap.size ∧ ∀ b, b < w.heap.size → w'.heap[b]? = w.heap[b]?) : Below w.heap.size w w' := ⟨h.1, h.2.1, h.2.2.1, h.2.2.2.1, h.2.2.2.2⟩
/-- THE WALK. -/
theorem walk {a c : Int} {w : World} (wa : (Lit.int .i64 a).wf = true) (wc : (Lit.int .i64 c).wf = true) :
    Calls Tryz.prog 3 #[.int .i64 a, .int .i64 c] w fun e w' => e = .returned (.bool true) ∧ Below w.heap.size w w' := by
  letI : Vals := V a
  obtain ⟨n, hn⟩ := run3 a c
  have h0 := callN_right (pn := .none) (T := tab0) mixed tab_ok exts_ok (noCall_ok (P := Tryz.prog) (G := gl)) 200
  have h1 : CallerOk .none Tryz.prog gl HA := alone_ok h0 (fun g d h => by cases h)
  have h2 := callN_right (pn := .none) mixed (TabOk.without (l := [4]) tab_ok) exts_ok h1 n
  refine (top_ok h2 (w := w) (vs := [.int .i64 a, .int .i64 c]) hn ?_).mono fun e w' he => ⟨he.1, below_of he.2⟩
  simp only [RepL]
  exact ⟨_, _, rfl, rfl, _, _, rfl, rfl, rfl⟩
end

set_option maxRecDepth 100000 in
theorem lifted (os : Os) (started : os.Started) (H : Type) (enc : TypeId × Value → H) :
    ReturnsInHanded {} Tryz.checked os 3 .any (fun w args => (Rows.showBoundsSpec.pre enc Tryz.prog Tryz.f3 [] false w args ∧ laidMetH Tryz.prog Rows.showBoundsRow.laid w) ∧ sizedMet enc Tryz.prog Tryz.f3 (OpenSpec.ofChange Rows.showBoundsSpec) false w args)
      (Rows.showBoundsSpec.post enc Tryz.prog Tryz.f3 false true false false) := by
  refine returnsInHanded_of_change_and (C := Tryz.checked) (X := fun w _ => laidMetH Tryz.prog Rows.showBoundsRow.laid w) (fun _ _ _ hh h => h.of_heap hh) own started (by kernel_rfl) Tryz.func3
    (ChangeSpec.witness_at (enc := enc) (C := Tryz.checked) (os := os) (X := fun w _ => laidMetH Tryz.prog Rows.showBoundsRow.laid w) false (laidWorld os) #[.int .i64 0, .int .i64 0] 8 rfl (wit1 os) (wit2 os) (wit3 os) (wit4 enc os) (wit5 enc os) (laid_met os _)) ?_
  intro W base args ds gs before hval0 hW _ _ _ _
  have hval : ∀ (j : Nat) t v, Tryz.f3.params[j]? = some t → args[j]? = some v → Value.okWide Tryz.prog W .any base t v := hval0
  have hW' := hW
  obtain ⟨p, q, hA0, hV, rfl, hfz, hnd⟩ := hW
  have hA : DataW.TrodAll enc Tryz.prog W 0 (fun _ => true) true Tryz.f3.params.toList args.toList ds p := hA0
  rw [Tryz.params3] at hA hval
  obtain ⟨v0, vs0, d0, ds0, p0, q0, hargs, rfl, rfl, h0, r0⟩ := trodAll_cons hA
  obtain ⟨v1, vs1, d1, ds1, p1, q1, rfl, rfl, rfl, h1, r1⟩ := trodAll_cons r0
  obtain ⟨rfl, rfl, rfl⟩ := trodAll_nil r1
  obtain rfl : args = #[v0, v1] := by cases args; simp_all
  obtain ⟨rfl, rfl⟩ := trodVars_none hV
  obtain ⟨a, rfl, rfl, rfl, wa⟩ := open_int Tryz.underlying3 (hval 0 3 v0 rfl rfl) h0
  obtain ⟨c, rfl, rfl, rfl, wc⟩ := open_int Tryz.underlying3 (hval 1 3 v1 rfl rfl) h1
  clear hA0 hval0
  refine (walk wa wc).mono fun e W' ⟨he, bel⟩ => ?_
  subst he
  exact ⟨_, rfl, _, _, _, [], _, [], hW', trodAll_mk1 (shut_bool Tryz.underlying4 _), (trodAll_cons_mk (shut_int Tryz.underlying3 wa) (trodAll_cons_mk (shut_int Tryz.underlying3 wc) trodAll_mk0)), rfl, bel.frame _, fun h => by cases h⟩

end Go.Proofs.YtloaklflgfefaaaGreatDoor.showBounds
