/-
  StoreNothing returns true for whatever terms, number and list of numbers; the arguments read as they did.
  The shell is turned from the kit's worked proofs; the walk is our own.
-/
import Derived.Test.YtdefmnljihnfoaaGreatDoorRows
import Derived.Test.YtdefmnljihnfoaaGreatDoorCards
import Derived.Test.YtdefmnljihnfoaaGreatDoorTie
import Derived.WalkKit
import Derived.ProofKit
import Derived.OpenShut
import Derived.ChangeOld
import Derived.ChangeSame
import Derived.JoinedOf
import Derived.RowKit
import Derived.LaidLaws
import Derived.LaidHandle
import Derived.Below
import Derived.Carry
import Derived.Stop.Joined
import Derived.Test.YtdefmnljihnfoaaGreatDoorL4
namespace Go.Proofs.YtdefmnljihnfoaaGreatDoor.storeNothing
open Go.ChangeShapes Go.WideShapes Go.ChangeAt Go.RowKit
set_option linter.unusedVariables false

theorem own : ownKnob Tryz.prog.godebug = none := by kernel_rfl
theorem laidOut : laidOutB Tryz.prog = true := by kernel_rfl
theorem mixed : Tryz.prog.follows .mixedOrders = true := by kernel_rfl
theorem cells59 : Tryz.prog.cellsOf 59 = 8 := by kernel_rfl

open Go.Ab Tab in
theorem shTerms : ShOk Tryz.prog (.slice 8 false termSh) 22 := by
  unfold termSh
  simp only [ShOk]
  refine ⟨59, Tryz.underlying22, cells59, by decide, (fun h => by cases h), _, Tryz.underlying59, ?_⟩
  rw [cells59]
  simp only [ShOks, ShOk, true_and]
  refine ⟨Tryz.underlying3, by kernel_rfl, Tryz.underlying4, by kernel_rfl, ⟨_, Tryz.underlying57, ?_⟩, by kernel_rfl, Tryz.underlying9, by kernel_rfl, ⟨3, Tryz.underlying23, by kernel_rfl, by simp, by simp, Tryz.underlying3⟩, by kernel_rfl, Tryz.underlying4, by kernel_rfl, Tryz.underlying4, by kernel_rfl⟩
  simp only [ShOks, ShOk, true_and]
  exact ⟨Tryz.underlying4, by kernel_rfl, ⟨147, Tryz.underlying55, by kernel_rfl, by simp, by simp, Tryz.underlying147⟩, by kernel_rfl⟩
open Go.Ab Tab in
theorem shNums : ShOk Tryz.prog (.slice 1 true (.int .i64)) 23 := by
  simp only [ShOk]
  exact ⟨3, Tryz.underlying23, by kernel_rfl, by simp, by simp, Tryz.underlying3⟩
section
open Go.Ab Tab
abbrev V (a : Int) : Vals := ⟨fun _ => a, fun _ => [], fun _ => false⟩
theorem wf_rng {a : Int} (h : (Lit.int .i64 a).wf = true) : minI64 ≤ a ∧ a ≤ maxI64 := by
  simp only [Lit.wf, Bool.and_eq_true, decide_eq_true_eq] at h
  exact h
theorem below_of {w w' : World} (h : w'.os = w.os ∧ w'.tape = w.tape ∧ w'.output = w.output ∧ w.heap.size ≤ w'.heap.size ∧ ∀ b, b < w.heap.size → w'.heap[b]? = w.heap[b]?) : Below w.heap.size w w' := ⟨h.1, h.2.1, h.2.2.1, h.2.2.2.1, h.2.2.2.2⟩
set_option maxRecDepth 100000 in
/-- THE WALK. -/
theorem walk {H : Type} {enc : TypeId × Value → H} {v0 v2 : Value} {d0 d2 : DataW H} {p0 p2 : List MemPlace} {base : Nat} {a : Int} {w : World} (k0 : Value.okWide Tryz.prog w .any base 22 v0) (k2 : Value.okWide Tryz.prog w .any base 23 v2)
    (h0 : DataW.Trod enc Tryz.prog w 0 (fun _ => true) true 22 v0 d0 p0) (h2 : DataW.Trod enc Tryz.prog w 0 (fun _ => true) true 23 v2 d2 p2) (wa : (Lit.int .i64 a).wf = true) :
    Calls Tryz.prog 3 #[v0, .int .i64 a, v2] w fun e w' => e = .returned (.bool true) ∧ Below w.heap.size w w' := by
  obtain ⟨a1, a2⟩ := wf_rng wa
  obtain ⟨nl, L, g0, q0⟩ := @arg_slice (V a) _ _ _ _ _ _ _ _ _ _ _ _ _ shTerms Tryz.underlying22 k0 h0
  obtain ⟨nl2, R, g2, q2⟩ := @arg_slice (V a) _ _ _ _ _ _ _ _ _ _ _ _ _ shNums Tryz.underlying23 k2 h2
  have hT : TermL L ∧ L.length ≤ maxLen := by
    simp only [IsSh] at q0
    obtain ⟨nl', L', he, hl, hx⟩ := q0
    simp only [List.cons.injEq, D.vs.injEq, and_true, true_and] at he
    obtain ⟨rfl, rfl⟩ := he
    exact ⟨hx, hl⟩
  have key : ∀ v : D, (v = vN ∨ v = vP) → @Rep (V a) rho0 w v (.int .i64 a) → Calls Tryz.prog 3 #[v0, .int .i64 a, v2] w fun e w' => e = .returned (.bool true) ∧ Below w.heap.size w w' := fun v hv hr => by
    obtain ⟨n, hn⟩ := run3 v hv nl nl2 L R hT.1 hT.2
    refine (@top_ok (V a) _ _ (@callN_right (V a) _ _ _ _ _ mixed (@tab_ok (V a)) (@exts_ok (V a)) (@noCall_ok (V a) _ _) n) 3 _ w [v0, .int .i64 a, v2] hn ?_).mono fun e w' he => ⟨he.1, below_of he.2⟩
    simp only [RepL]
    exact ⟨_, _, rfl, g0, _, _, rfl, hr, _, _, rfl, g2, rfl⟩
  rcases Int.lt_or_le a 0 with h | h
  · exact key vN (.inl rfl) ⟨rfl, a1, by show a ≤ -1; omega⟩
  · exact key vP (.inr rfl) ⟨rfl, h, a2⟩
end

/-! ### A world that meets the condition -/
def tab1 : List Int := [0, 1, 28, 2, 29, 14, 24, 3, 30, 22, 20, 15, 25, 17, 4, 8, 31, 27, 13, 23, 21, 19, 16, 7, 26, 12, 18, 6, 11, 5, 10, 9]
def tab2 : List Int := [0, 1, 56, 2, 57, 49, 28, 3, 61, 58, 42, 50, 38, 29, 17, 4, 62, 47, 59, 36, 45, 43, 51, 22, 53, 39, 33, 30, 24, 18, 12, 5, 63, 55, 48, 27, 60, 41, 37, 16, 46, 35, 44, 21, 52, 32, 23, 11, 54, 26, 40, 15, 34, 20, 31, 10, 25, 14, 19, 9, 13, 8, 7, 6]
def tab3 : List Int := [1, 10, 100, 1000, 10000, 100000, 1000000, 10000000, 100000000, 1000000000, 10000000000, 100000000000, 1000000000000, 10000000000000, 100000000000000, 1000000000000000, 10000000000000000, 100000000000000000, 1000000000000000000, 10000000000000000000]
def tab4 : List Int := [128, 191, 160, 191, 128, 159, 144, 191, 128, 143, 0, 0, 0, 0, 0, 0, 0, 0, 0, 0, 0, 0, 0, 0, 0, 0, 0, 0, 0, 0, 0, 0]
def first1 : List Int := Go.Pinned.utf8FirstZ.map Int.ofNat
def lay (k : IntKind) (l : List Int) : _root_.Go.Obj → _root_.Go.Obj
  | .cells _ t frozen => .cells (l.map fun z => Value.int k z).toArray t frozen
  | o => o
noncomputable def laidWorld (os : Os) : World :=
  { World.holding Tryz.prog os ⟨#[], #[], []⟩ with heap := (((((World.holding Tryz.prog os ⟨#[], #[], []⟩).heap.modify 5 (lay .u8 tab1)).modify 6 (lay .u8 tab2)).modify 3 (lay .u64 tab3)).modify 2 (lay .u8 tab4)).modify 1 (lay .u8 first1) }
theorem laid_met (os : Os) (args : Array Value) : laidMetH Tryz.prog Rows.storeNothingRow.laid ((laidWorld os).forCall (fun _ _ => 0) ⟨#[], args, []⟩).memory :=
  laidMetH_of_parts (laidMet_of_run' 8 (by kernel_rfl) (by kernel_rfl)) (by kernel_rfl)

set_option maxRecDepth 100000 in
theorem lifted (os : Os) (started : os.Started) (H : Type) (enc : TypeId × Value → H) :
    ReturnsInHanded {} Tryz.checked os 3 .any (fun w args => (Rows.storeNothingSpec.pre enc Tryz.prog Tryz.f3 [] false w args ∧ laidMetH Tryz.prog Rows.storeNothingRow.laid w) ∧ sizedMet enc Tryz.prog Tryz.f3 (OpenSpec.ofChange Rows.storeNothingSpec) false w args)
      (Rows.storeNothingSpec.post enc Tryz.prog Tryz.f3 false true false false) := by
  refine returnsInHanded_of_change_and (C := Tryz.checked) (X := fun w _ => laidMetH Tryz.prog Rows.storeNothingRow.laid w) (fun _ _ _ hh h => h.of_heap hh) own started (by kernel_rfl) Tryz.func3
    (ChangeSpec.witness_at (enc := enc) (C := Tryz.checked) (os := os) (X := fun w _ => laidMetH Tryz.prog Rows.storeNothingRow.laid w) false (laidWorld os) #[.slice none 0 0, .int .i64 0, .slice none 0 0] 8 rfl (by kernel_rfl) (by kernel_rfl) (by kernel_rfl) (by kernel_rfl) (by kernel_rfl) (laid_met os _)) ?_
  intro W base args ds gs before hval0 hW _ _ _ _
  have hval : ∀ (j : Nat) t v, Tryz.f3.params[j]? = some t → args[j]? = some v → Value.okWide Tryz.prog W .any base t v := hval0
  have hW' := hW
  obtain ⟨p, q, hA0, hV, rfl, hfz, hnd⟩ := hW
  have hA : DataW.TrodAll enc Tryz.prog W 0 (fun _ => true) true Tryz.f3.params.toList args.toList ds p := hA0
  have hlt := DataW.TrodAll.lt hA
  rw [Tryz.params3] at hA hval
  obtain ⟨v0, vs0, d0, ds0, p0, q0, hargs, rfl, rfl, h0, r0⟩ := trodAll_cons hA
  obtain ⟨v1, vs1, d1, ds1, p1, q1, rfl, rfl, rfl, h1, r1⟩ := trodAll_cons r0
  obtain ⟨v2, vs2, d2, ds2, p2, q2, rfl, rfl, rfl, h2, r2⟩ := trodAll_cons r1
  obtain ⟨rfl, rfl, rfl⟩ := trodAll_nil r2
  obtain rfl : args = #[v0, v1, v2] := by cases args; simp_all
  obtain ⟨rfl, rfl⟩ := trodVars_none hV
  obtain ⟨a, rfl, rfl, rfl, wa⟩ := open_int Tryz.underlying3 (hval 1 3 v1 rfl rfl) h1
  clear hA0 hval0
  refine (walk (hval 0 22 v0 rfl rfl) (hval 2 23 v2 rfl rfl) h0 h2 wa).mono fun e W' ⟨he, bel⟩ => ?_
  subst he
  have t0 := Below.trod laidOut (by kernel_rfl) (of_decide_eq_true (by kernel_rfl)) h0 bel (fun x hx => hlt x (by simp [hx]))
  have t2 := Below.trod laidOut (by kernel_rfl) (of_decide_eq_true (by kernel_rfl)) h2 bel (fun x hx => hlt x (by simp [hx]))
  exact ⟨_, rfl, _, _, _, [], _, [], hW', trodAll_mk1 (shut_bool Tryz.underlying4 _), (trodAll_cons_mk t0 (trodAll_cons_mk (shut_int Tryz.underlying3 wa) (trodAll_cons_mk t2 trodAll_mk0))), rfl, bel.frame _, fun h => by cases h⟩

theorem over : Rows.storeNothingRow.holds Tryz.pinned (OpenSpec.ofChange Rows.storeNothingSpec) :=
  OpenClaim.holds_of_wide 3 Tryz.f3 rfl rfl rfl rfl rfl rfl rfl ⟨rfl, rfl, rfl, rfl, rfl⟩ rfl rfl rfl rfl rfl (by kernel_rfl) Tryz.func3 (by kernel_rfl)
    (of_decide_eq_true (by kernel_rfl)) (by unfold Func.isWrapper; first | (rw [if_pos (by decide +kernel)]; kernel_rfl) | (rw [if_neg (by decide +kernel)]; exact ⟨rfl, rfl⟩))
    (fun os started H enc _ => lifted os started H enc)

/-- ████ THE STATEMENT ████ -/
theorem proved : Rows.StoreNothingCardSaid :=
  Claim7.holds_tied_plain_at .later [] [.data, .data, .data, .data, .pinned] true (true, "1cdbb24caa8da0a7ea7f1c9803f3375e0c797d9ea844f279d218dd27a8d8a99e") true
    over (fun _ h => by cases h) (by kernel_rfl) (fun _ h => by cases h) storeNothing_row_tie rfl ⟨rfl, rfl⟩ (by kernel_rfl) rfl
    (fun f fn hf hfn => by
      obtain rfl : f = 3 := Option.some.inj ((show Tryz.prog.funcNamed "lexicon/lexiconlaw19.StoreNothing" = some 3 by kernel_rfl).symm.trans hf) |>.symm
      obtain rfl : fn = Tryz.f3 := (Option.some.inj (Tryz.func3.symm.trans hfn)).symm
      exact ⟨by kernel_rfl, fun j t ht => by
        rw [Tryz.params3] at ht
        rcases j with _ | _ | _ | j
        · obtain rfl : t = 22 := by simpa using ht.symm
          exact (show Tryz.prog.wantsStandIn 22 = false by kernel_rfl)
        · obtain rfl : t = 3 := by simpa using ht.symm
          exact (show Tryz.prog.wantsStandIn 3 = false by kernel_rfl)
        · obtain rfl : t = 23 := by simpa using ht.symm
          exact (show Tryz.prog.wantsStandIn 23 = false by kernel_rfl)
        · simp at ht⟩)
    (by kernel_rfl)
end Go.Proofs.YtdefmnljihnfoaaGreatDoor.storeNothing
