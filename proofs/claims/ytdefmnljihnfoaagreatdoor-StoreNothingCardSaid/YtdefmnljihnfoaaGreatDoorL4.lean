/- StoreNothing: whatever is asked, true is answered. -/
import Derived.Test.YtdefmnljihnfoaaGreatDoorL3
namespace Go.Proofs.YtdefmnljihnfoaaGreatDoor.Tab
open Go Go.Ab
set_option linter.unusedSectionVars false
set_option linter.unusedSimpArgs false
set_option linter.unusedVariables false
set_option maxRecDepth 1000000

theorem tab3 : tab0 3 = some code3 := Eq.trans (show tab0 3 = af3 by kernel_rfl) af3_eq
theorem tab4 : tab0 4 = some code4 := Eq.trans (show tab0 4 = af4 by kernel_rfl) af4_eq
theorem awake_ev : ∃ s', Ev tab0 noCall 5 [] st0 (.bool true, s') := by
  have h := awake_run
  rw [callX_eq] at h
  unfold Ab.isTrue at h
  split at h
  · rename_i s' h1; exact ⟨s', _, h1⟩
  · cases h
theorem tail_wp {fr : Fr} (h : tailX (pairX tab0 noCall 200).1 (pairX tab0 noCall 200).2 tail3 fr st0 = true) : Wp tab0 noCall tail3 fr st0 fun e f1 s1 => (∀ i, e ≠ .exit i) ∧ f1.defers = [] ∧ ∃ rs, resD f1.env s1 [.tmp 6] = some rs ∧ single rs = .bool true := by
  rw [pairX_eq] at h
  unfold tailX at h
  rw [execX_eq] at h
  split at h
  · rename_i fr' s' h1
    split at h
    · rename_i h2 h3
      exact ⟨_, _, _, ⟨200, h1⟩, fun i => by simp, h2, _, h3, rfl⟩
    · cases h
  · cases h

theorem awake_wp {env : Env} : Wp tab0 noCall (AC.seq (AC.reg [{ dst := some 22, op := AOp.call false 5 [], guard := none, al := none }, { dst := some 6, op := AOp.mv (Opd.t 22), guard := none, al := none }]) (AC.ret)) ⟨env, []⟩ st0 fun e f1 s1 => e = .ret ∧ f1.defers = [] ∧ ∃ rs, resD f1.env s1 [.tmp 6] = some rs ∧ single rs = .bool true := by
  obtain ⟨s', he⟩ := awake_ev
  refine Ab.wp_seq (Ab.wp_reg (Ab.wpo_call (fr1 := ⟨(22, .bool true) :: env, []⟩) (s1 := s') he (fun C hC => ?_) (Ab.wpo_sound ?_)))
  · simp only [oper, wantedD, evs, hC, putD, opF]
    try rfl
  · simp only [wpo, oper, wantedD, opF, Opd.ev, Opd.evp, Env.get, Nat.beq, ofO, putD]
    refine Ab.wp_ret ?_
    exact ⟨rfl, rfl, _, rfl, rfl⟩

theorem run3 (v : D) (hv : v = vN ∨ v = vP) (nl nl2 : Bool) (L R : List D) (hL : TermL L) (hlen : L.length ≤ maxLen) : ∃ n, Ab.isTrue (callN tab0 noCall n 3 [.vs nl 8 L, v, .vs nl2 1 R] st0) = true := by
  suffices h : ∃ d s1, Ev tab0 noCall 3 [.vs nl 8 L, v, .vs nl2 1 R] st0 (d, s1) ∧ d = .bool true by
    obtain ⟨d, s1, ⟨n, hn⟩, rfl⟩ := h
    exact ⟨n, by rw [hn]; rfl⟩
  refine Ab.ev_of_wp (R := fun d _ => d = .bool true) tab3 ?_
  simp only [code3, env0]
  refine Ab.wp_seq (Ab.wp_regp ?_)
  simp only [wpo, oper, wantedD, opF, Opd.ev, Opd.evp, Env.get, Nat.beq, ofO, putD]
  obtain ⟨d, s1, hev, b, rfl, rfl⟩ := large_ev (H := noCall) (nl := nl) (s := st0) tab4 hL hlen
  have hvv : Opd.ev [(6, D.bool false), (0, D.vs nl 8 L), (1, v), (2, D.vs nl2 1 R)] (.t 0) = some (.vs nl 8 L) := rfl
  refine Ab.wp_seq (Ab.wp_seq (Ab.wp_reg (Ab.wpo_step (fr1 := ⟨[(15, D.vs nl 8 L), (6, D.bool false), (0, D.vs nl 8 L), (1, v), (2, D.vs nl2 1 R)], []⟩) (s1 := st0) rfl
    (Ab.wpo_call (fr1 := ⟨[(16, .bool b), (15, D.vs nl 8 L), (6, D.bool false), (0, D.vs nl 8 L), (1, v), (2, D.vs nl2 1 R)], []⟩) (s1 := st0) hev (fun C hC => ?_) (Ab.wpo_sound ?_)))))
  · simp only [oper, wantedD, evs, Opd.ev, Env.get, Nat.beq, hC, putD, opF]
    try rfl
  · cases b with
    | true =>
      simp only [wpo, oper, wantedD, opF, Opd.ev, Opd.evp, Env.get, Nat.beq, ofO, putD, lenD, goI, binD, binInt, decide_true]
      refine Ab.wp_cond (v := true) rfl ?_
      simp only [if_true]
      refine awake_wp.mono ?_
      rintro e f1 s1 ⟨rfl, h1, h2⟩
      exact ⟨fun i => by simp, h1, h2⟩
    | false =>
      simp only [wpo, oper, wantedD, opF, Opd.ev, Opd.evp, Env.get, Nat.beq, ofO, putD, lenD, goI, binD, binInt, decide_true, beq_self_eq_true]
      by_cases hR : (120 : Int) < (R.length : Int)
      · refine Ab.wp_cond (v := true) (by simp [Opd.ev, Env.get, hR]) ?_
        simp only [if_true]
        refine awake_wp.mono ?_
        rintro e f1 s1 ⟨rfl, h1, h2⟩
        exact ⟨fun i => by simp, h1, h2⟩
      · have hRf : decide ((120 : Int) < (R.length : Int)) = false := by simpa using hR
        simp only [hRf]
        refine Ab.wp_cond (v := false) (by simp [Opd.ev, Env.get]) ?_
        simp only [Bool.false_eq_true, if_false]
        refine Ab.wp_skip ?_
        dsimp only
        rcases hv with rfl | rfl
        · exact tail_wp (tail_N nl nl2 L R)
        · exact tail_wp (tail_P nl nl2 L R)
end Go.Proofs.YtdefmnljihnfoaaGreatDoor.Tab
