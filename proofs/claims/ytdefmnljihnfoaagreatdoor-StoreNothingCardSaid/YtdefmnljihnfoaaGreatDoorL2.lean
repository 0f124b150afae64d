/- 'large' answers, whatever the terms are. -/
import Derived.Test.YtdefmnljihnfoaaGreatDoorL1
namespace Go.Proofs.YtdefmnljihnfoaaGreatDoor.Tab
open Go Go.Ab
set_option linter.unusedSectionVars false
set_option linter.unusedSimpArgs false
set_option linter.unusedVariables false
set_option maxRecDepth 100000

def TermL (L : List D) : Prop := ∀ d, d ∈ L → ∃ l, d = mkE false l ∧ IsSh termSh l

def drops : List AOper := [
  { dst := some 18, op := AOp.mv (Opd.t 3), guard := none, al := none },
  { dst := some 19, op := AOp.mv (Opd.t 0), guard := none, al := none },
  { dst := some 20, op := AOp.mv (Opd.t 4), guard := none, al := none },
  { dst := some 21, op := AOp.iaddr 8 (Opd.t 19) (Opd.t 20), guard := none, al := none },
  { dst := some 22, op := AOp.faddr 5 (Opd.t 21), guard := none, al := none },
  { dst := some 23, op := AOp.load none (Opd.t 22), guard := none, al := none },
  { dst := some 24, op := AOp.len 1 (Opd.t 23), guard := none, al := none },
  { dst := some 25, op := AOp.bin (BinOp.add) (Opd.t 18) (Opd.t 24), guard := none, al := none },
  { dst := some 26, op := AOp.mv (Opd.t 0), guard := none, al := none },
  { dst := some 27, op := AOp.mv (Opd.t 4), guard := none, al := none },
  { dst := some 28, op := AOp.iaddr 8 (Opd.t 26) (Opd.t 27), guard := none, al := none },
  { dst := some 29, op := AOp.faddr 4 (Opd.t 28), guard := none, al := none },
  { dst := some 30, op := AOp.load none (Opd.t 29), guard := none, al := none },
  { dst := some 31, op := AOp.len 0 (Opd.t 30), guard := none, al := none },
  { dst := some 32, op := AOp.bin (BinOp.add) (Opd.t 25) (Opd.t 31), guard := none, al := none },
  { dst := some 33, op := AOp.mv (Opd.t 0), guard := none, al := none },
  { dst := some 34, op := AOp.mv (Opd.t 4), guard := none, al := none },
  { dst := some 35, op := AOp.iaddr 8 (Opd.t 33) (Opd.t 34), guard := none, al := none },
  { dst := some 36, op := AOp.faddr 2 (Opd.t 35), guard := none, al := none },
  { dst := some 37, op := AOp.faddr 1 (Opd.t 36), guard := none, al := none },
  { dst := some 38, op := AOp.load none (Opd.t 37), guard := none, al := none },
  { dst := some 39, op := AOp.len 1 (Opd.t 38), guard := none, al := none },
  { dst := some 40, op := AOp.bin (BinOp.add) (Opd.t 32) (Opd.t 39), guard := none, al := none },
  { dst := some 3, op := AOp.mv (Opd.t 40), guard := none, al := none }]
section
variable {H : Caller} {T : Nat → Option AFn}
theorem wrap_small {n : Int} (h1 : 0 ≤ n) (h2 : n < 9223372036854775808) : IntKind.wrap .i64 n = n := by
  simp only [IntKind.wrap, IntKind.signed, IntKind.bits, Bool.true_and, decide_eq_true_eq, ge_iff_le]
  rw [show ((2 : Int) ^ (64 - 1)) = 9223372036854775808 from rfl, show ((2 : Int) ^ 64) = 18446744073709551616 from rfl]
  split <;> omega

theorem large_ev {nl : Bool} {L : List D} {s : St} (hT : T 4 = some code4) (hL : TermL L) (hlen : L.length ≤ maxLen) : ∃ d s1, Ev T H 4 [.vs nl 8 L] s (d, s1) ∧ ∃ b, d = .bool b ∧ s1 = s := by
  have hmax : maxLen = 9223372036854775807 := by decide
  refine Ab.ev_of_wp (R := fun d s1 => ∃ b, d = .bool b ∧ s1 = s) hT ?_
  simp only [code4, env0]
  refine Ab.wp_seq (Ab.wp_regp ?_)
  simp only [wpo, oper, wantedD, opF, Opd.ev, Opd.evp, Env.get, Nat.beq, ofO, putD]
  refine Ab.wp_seq (Ab.wp_seq (Ab.wp_regp ?_))
  simp only [wpo, oper, wantedD, opF, Opd.ev, Opd.evp, Env.get, Nat.beq, ofO, putD, lenD, goI, binD, binInt, decide_true]
  by_cases hbig : (120 : Int) < (L.length : Int)
  · refine Ab.wp_cond (v := true) (by simp [Opd.ev, Env.get, hbig]) ?_
    simp only [if_true]
    refine Ab.wp_seq (Ab.wp_regp ?_)
    simp only [wpo, oper, wantedD, opF, Opd.ev, Opd.evp, Env.get, Nat.beq, ofO, putD]
    refine Ab.wp_ret ?_
    refine ⟨fun i => by simp, rfl, _, rfl, true, rfl, rfl⟩
  · refine Ab.wp_cond (v := false) (by simp [Opd.ev, Env.get]; omega) ?_
    simp only [Bool.false_eq_true, if_false]
    refine Ab.wp_skip ?_
    dsimp only
    refine Ab.wp_seq (Ab.wp_regp ?_)
    simp only [wpo, oper, wantedD, opF, Opd.ev, Opd.evp, Env.get, Nat.beq, ofO, putD, lenD, goI, binD, binInt, decide_true]
    refine Ab.wp_seq (Ab.wp_seq (Ab.wp_regp ?_))
    simp only [wpo, oper, wantedD, opF, Opd.ev, Opd.evp, Env.get, Nat.beq, ofO, putD, lenD, goI, binD, binInt, decide_true]
    refine Wp.mono (Q := fun e f1 s1 => e = .normal ∧ s1 = s ∧ f1.defers = [] ∧ ∃ n, f1.env.get 3 = some (.int .i64 n)) (Ab.wp_block (Ab.wp_loop (I := fun m fr s' => s' = s ∧ fr.defers = [] ∧ ∃ (i : Nat) (n : Int), m = L.length - i ∧ i ≤ L.length ∧ fr.env.get 0 = some (.vs nl 8 L) ∧ fr.env.get 2 = some (.bool false) ∧ fr.env.get 3 = some (.int .i64 n) ∧ fr.env.get 4 = some (.int .i64 i)) ?_ L.length _ _ ?_)) ?_
    · -- a round
      rintro m fr s' ⟨rfl, hd, i, n, rfl, hi, e0, e2, e3, e4⟩
      obtain ⟨env, defers⟩ := fr
      simp only at hd e0 e2 e3 e4
      subst hd
      simp only [Env.keep, e0, e2, e3, e4]
      refine Ab.wp_seq (Ab.wp_seq (Ab.wp_regp ?_))
      by_cases hlt : (i : Int) < (L.length : Int)
      · simp only [wpo, oper, wantedD, opF, Opd.ev, Opd.evp, Env.get, Nat.beq, ofO, putD, lenD, goI, binD, binInt, decide_true, hlt]
        by_cases hn : n ≤ 3000
        · refine Ab.wp_cond (v := true) (by simp [Opd.ev, Env.get, hn]) ?_
          simp only [if_true]
          refine Ab.wp_skip ?_
          dsimp only
          have hli : i < L.length := by omega
          obtain ⟨k, b, ng, n1, mm, tx, n2, ks, hs, sm, hel⟩ := term_form (hL _ (List.getElem_mem hli))
          refine Ab.wp_seq (Ab.wp_block (Ab.wp_dreg (l := drops) rfl ?_))
          have hget : L[i]? = some (.agg [.int .i64 k, .bool b, .bool ng, .vs n1 1 mm, .str tx, .vs n2 1 ks, .bool hs, .bool sm]) := by rw [List.getElem?_eq_getElem hli, hel]
          have hidx : idx (.int .i64 (i : Int)) = some i := by simp [idx]
          simp only [drops, wpd, oper, wantedD, opF, Opd.ev, Opd.evp, Env.get, Nat.beq, ofO, putD, lenD, goI, binD, binInt, decide_true, Env.isLvo, Env.isLv, hidx, iaddrD, hget, loadD, Ab.part, D.flat, Nat.reduceAdd, List.getElem?_cons_succ, List.getElem?_cons_zero, true_and]
          refine Ab.wp_regp ?_
          simp only [wpo, oper, wantedD, opF, Opd.ev, Opd.evp, Env.get, Nat.beq, ofO, putD, binD, binInt, decide_true]
          refine ⟨L.length - (i + 1), by omega, trivial, trivial, i + 1, _, rfl, by omega, trivial, trivial, rfl, ?_⟩
          try simp only [Option.some.injEq, D.int.injEq, true_and]
          rw [wrap_small (by omega) (by omega)]
          simp
        · refine Ab.wp_cond (v := false) (by simp [Opd.ev, Env.get, hn]) ?_
          simp only [Bool.false_eq_true, if_false]
          refine Ab.wp_exit ?_
          simp [Env.get]
      · have hlt' : decide ((i : Int) < (L.length : Int)) = false := by simpa using hlt
        simp only [wpo, oper, wantedD, opF, Opd.ev, Opd.evp, Env.get, Nat.beq, ofO, putD, lenD, goI, binD, binInt, decide_true, hlt']
        refine Ab.wp_cond (v := false) (by simp [Opd.ev, Env.get]) ?_
        simp only [Bool.false_eq_true, if_false]
        refine Ab.wp_exit ?_
        simp [Env.get]
    · exact ⟨rfl, rfl, 0, 0, by simp, by omega, rfl, rfl, rfl, rfl⟩
    · rintro e ⟨env, defers⟩ s1 ⟨rfl, rfl, hd, n, hn⟩
      simp only at hd hn
      subst hd
      dsimp only
      refine Ab.wp_seq (Ab.wp_regp ?_)
      simp only [wpo, oper, wantedD, opF, Opd.ev, Opd.evp, Env.get, Nat.beq, ofO, putD, lenD, goI, binD, binInt, decide_true, hn]
      refine Ab.wp_ret ?_
      exact ⟨fun i => by simp, rfl, _, rfl, _, rfl, rfl⟩
end
end Go.Proofs.YtdefmnljihnfoaaGreatDoor.Tab
