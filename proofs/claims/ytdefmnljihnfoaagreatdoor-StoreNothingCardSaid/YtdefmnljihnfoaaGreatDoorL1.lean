/- 'large' answers, whatever the terms are. -/
import Derived.Test.YtdefmnljihnfoaaGreatDoorTP
import Derived.Test.YtdefmnljihnfoaaGreatDoorA34
namespace Go.Proofs.YtdefmnljihnfoaaGreatDoor.Tab
open Go Go.Ab
set_option linter.unusedSectionVars false
set_option linter.unusedSimpArgs false
set_option linter.unusedVariables false
set_option maxRecDepth 100000

/-- A term: kind, truth, number, text, kids, hash, same. -/
def termSh : Sh := .st [.int .i64, .bool, .st [.bool, .slice 1 true (.int .u32)], .str, .slice 1 true (.int .i64), .bool, .bool]
theorem term_form {d : D} (h : ∃ l, d = mkE false l ∧ IsSh termSh l) : ∃ k b ng n1 m tx n2 ks hs sm, d = .agg [.int .i64 k, .bool b, .bool ng, .vs n1 1 m, .str tx, .vs n2 1 ks, .bool hs, .bool sm] := by
  obtain ⟨l, rfl, h⟩ := h
  simp only [termSh, IsSh, IsShs] at h
  obtain ⟨a1, r1, rfl, ⟨k, rfl, _⟩, a2, r2, rfl, ⟨b, rfl⟩, a3, r3, rfl, ⟨c1, q1, rfl, ⟨ng, rfl⟩, c2, q2, rfl, ⟨n1, m, rfl, _⟩, rfl⟩, a4, r4, rfl, ⟨tx, rfl, _⟩, a5, r5, rfl, ⟨n2, ks, rfl, _⟩, a6, r6, rfl, ⟨hs, rfl⟩, a7, r7, rfl, ⟨sm, rfl⟩, rfl⟩ := h
  exact ⟨k, b, ng, n1, m, tx, n2, ks, hs, sm, rfl⟩

def code4 : AFn := ⟨ [ARes.tmp 2],  AC.seq
            (AC.reg [{ dst := some 2, op := AOp.mv (Opd.c (D.bool false)), guard := none, al := none }])
            (AC.seq
              (AC.seq
                (AC.reg [{ dst := some 5, op := AOp.mv (Opd.t 0), guard := none, al := none }, { dst := some 6, op := AOp.len 1 (Opd.t 5), guard := none, al := none }, { dst := some 7, op := AOp.bin (BinOp.gtr) (Opd.t 6) (Opd.c (D.int (IntKind.i64) 120)), guard := none, al := none }])
                (AC.cond (Opd.t 7) (AC.seq (AC.reg [{ dst := some 2, op := AOp.mv (Opd.c (D.bool true)), guard := none, al := none }]) (AC.ret)) (AC.skip)))
              (AC.seq
                (AC.reg [{ dst := some 3, op := AOp.mv (Opd.c (D.int (IntKind.i64) 0)), guard := none, al := none }])
                (AC.seq
                  (AC.seq
                    (AC.reg [{ dst := some 4, op := AOp.mv (Opd.c (D.int (IntKind.i64) 0)), guard := none, al := none }])
                    (AC.block
                      0
                      (AC.loop
                        [0, 2, 3, 4]
                        (AC.seq
                          (AC.seq
                            (AC.reg
                              [{ dst := some 8, op := AOp.mv (Opd.t 4), guard := none, al := none },
                               { dst := some 9, op := AOp.mv (Opd.t 0), guard := none, al := none },
                               { dst := some 10, op := AOp.len 1 (Opd.t 9), guard := none, al := none },
                               { dst := some 11, op := AOp.bin (BinOp.lss) (Opd.t 8) (Opd.t 10), guard := none, al := none },
                               { dst := some 12, op := AOp.mv (Opd.t 11), guard := none, al := none },
                               { dst := some 13, op := AOp.mv (Opd.t 3), guard := some (12, true), al := none },
                               { dst := some 14, op := AOp.bin (BinOp.leq) (Opd.t 13) (Opd.c (D.int (IntKind.i64) 3000)), guard := some (12, true), al := none },
                               { dst := some 15, op := AOp.pick (Opd.t 12) (Opd.t 14) (Opd.c (D.bool false)), guard := none, al := none }])
                            (AC.cond (Opd.t 15) (AC.skip) (AC.exit 0)))
                          (AC.seq
                            (AC.block
                              1
                              (AC.dreg
                                0
                                [({ dst := some 18, op := AOp.mv (Opd.t 3), guard := none, al := none }, []),
                                 ({ dst := some 19, op := AOp.mv (Opd.t 0), guard := none, al := none }, []),
                                 ({ dst := some 20, op := AOp.mv (Opd.t 4), guard := none, al := none }, []),
                                 ({ dst := some 21, op := AOp.iaddr 8 (Opd.t 19) (Opd.t 20), guard := none, al := none }, []),
                                 ({ dst := some 22, op := AOp.faddr 5 (Opd.t 21), guard := none, al := none }, []),
                                 ({ dst := some 23, op := AOp.load none (Opd.t 22), guard := none, al := none }, []),
                                 ({ dst := some 24, op := AOp.len 1 (Opd.t 23), guard := none, al := none }, []),
                                 ({ dst := some 25, op := AOp.bin (BinOp.add) (Opd.t 18) (Opd.t 24), guard := none, al := none }, []),
                                 ({ dst := some 26, op := AOp.mv (Opd.t 0), guard := none, al := none }, []),
                                 ({ dst := some 27, op := AOp.mv (Opd.t 4), guard := none, al := none }, []),
                                 ({ dst := some 28, op := AOp.iaddr 8 (Opd.t 26) (Opd.t 27), guard := none, al := none }, []),
                                 ({ dst := some 29, op := AOp.faddr 4 (Opd.t 28), guard := none, al := none }, []),
                                 ({ dst := some 30, op := AOp.load none (Opd.t 29), guard := none, al := none }, []),
                                 ({ dst := some 31, op := AOp.len 0 (Opd.t 30), guard := none, al := none }, []),
                                 ({ dst := some 32, op := AOp.bin (BinOp.add) (Opd.t 25) (Opd.t 31), guard := none, al := none }, []),
                                 ({ dst := some 33, op := AOp.mv (Opd.t 0), guard := none, al := none }, []),
                                 ({ dst := some 34, op := AOp.mv (Opd.t 4), guard := none, al := none }, []),
                                 ({ dst := some 35, op := AOp.iaddr 8 (Opd.t 33) (Opd.t 34), guard := none, al := none }, []),
                                 ({ dst := some 36, op := AOp.faddr 2 (Opd.t 35), guard := none, al := none }, []),
                                 ({ dst := some 37, op := AOp.faddr 1 (Opd.t 36), guard := none, al := none }, []),
                                 ({ dst := some 38, op := AOp.load none (Opd.t 37), guard := none, al := none }, []),
                                 ({ dst := some 39, op := AOp.len 1 (Opd.t 38), guard := none, al := none }, []),
                                 ({ dst := some 40, op := AOp.bin (BinOp.add) (Opd.t 32) (Opd.t 39), guard := none, al := none }, []),
                                 ({ dst := some 3, op := AOp.mv (Opd.t 40), guard := none, al := none }, [])]))
                            (AC.reg [{ dst := some 16, op := AOp.mv (Opd.t 4), guard := none, al := none }, { dst := some 17, op := AOp.bin (BinOp.add) (Opd.t 16) (Opd.c (D.int (IntKind.i64) 1)), guard := none, al := none }, { dst := some 4, op := AOp.mv (Opd.t 17), guard := none, al := none }]))))))
                  (AC.seq (AC.reg [{ dst := some 41, op := AOp.mv (Opd.t 3), guard := none, al := none }, { dst := some 42, op := AOp.bin (BinOp.gtr) (Opd.t 41) (Opd.c (D.int (IntKind.i64) 3000)), guard := none, al := none }, { dst := some 2, op := AOp.mv (Opd.t 42), guard := none, al := none }]) (AC.ret))))) ⟩

theorem af4_eq : af4 = some code4 := by kernel_rfl
end Go.Proofs.YtdefmnljihnfoaaGreatDoor.Tab
