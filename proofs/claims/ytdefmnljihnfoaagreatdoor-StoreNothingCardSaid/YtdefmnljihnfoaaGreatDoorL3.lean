/- StoreNothing: the runs. -/
import Derived.Test.YtdefmnljihnfoaaGreatDoorL2
namespace Go.Proofs.YtdefmnljihnfoaaGreatDoor.Tab
open Go Go.Ab
set_option linter.unusedSectionVars false
set_option linter.unusedSimpArgs false
set_option linter.unusedVariables false
set_option maxRecDepth 1000000

def tail3 : AC := (AC.seq
                (AC.reg [{ dst := some 7, op := AOp.mv (Opd.c (D.nilp)), guard := none, al := none }])
                (AC.seq
                  (AC.reg
                    [{ dst := some 24, op := AOp.mv (Opd.t 7), guard := none, al := none },
                     { dst := some 25, op := AOp.mv (Opd.t 0), guard := none, al := none },
                     { dst := some 26, op := AOp.call false 6 [Opd.t 24, Opd.t 25], guard := none, al := none },
                     { dst := some 23, op := AOp.mv (Opd.t 26), guard := none, al := none },
                     { dst := some 27, op := AOp.extract 0 (Opd.t 23), guard := none, al := none },
                     { dst := some 28, op := AOp.extract 1 (Opd.t 23), guard := none, al := none },
                     { dst := some 8, op := AOp.mv (Opd.t 27), guard := none, al := none },
                     { dst := some 9, op := AOp.mv (Opd.t 28), guard := none, al := none }])
                  (AC.seq
                    (AC.reg
                      [{ dst := some 30, op := AOp.mv (Opd.t 7), guard := none, al := none },
                       { dst := some 31, op := AOp.mv (Opd.t 1), guard := none, al := none },
                       { dst := some 32, op := AOp.call false 7 [Opd.t 30, Opd.t 31], guard := none, al := none },
                       { dst := some 29, op := AOp.mv (Opd.t 32), guard := none, al := none },
                       { dst := some 33, op := AOp.extract 0 (Opd.t 29), guard := none, al := none },
                       { dst := some 34, op := AOp.extract 1 (Opd.t 29), guard := none, al := none },
                       { dst := some 10, op := AOp.mv (Opd.t 33), guard := none, al := none },
                       { dst := some 11, op := AOp.mv (Opd.t 34), guard := none, al := none }])
                    (AC.seq
                      (AC.seq
                        (AC.reg
                          [{ dst := some 35, op := AOp.mv (Opd.t 8), guard := none, al := none },
                           { dst := some 36, op := AOp.len 1 (Opd.t 35), guard := none, al := none },
                           { dst := some 37, op := AOp.bin (BinOp.neq) (Opd.t 36) (Opd.c (D.int (IntKind.i64) 0)), guard := none, al := none },
                           { dst := some 38, op := AOp.mv (Opd.t 37), guard := none, al := none },
                           { dst := some 39, op := AOp.mv (Opd.t 9), guard := some (38, false), al := none },
                           { dst := some 40, op := AOp.bin (BinOp.neq) (Opd.t 39) (Opd.c (D.int (IntKind.i64) 1)), guard := some (38, false), al := none },
                           { dst := some 41, op := AOp.pick (Opd.t 38) (Opd.c (D.bool true)) (Opd.t 40), guard := none, al := none },
                           { dst := some 42, op := AOp.mv (Opd.t 41), guard := none, al := none },
                           { dst := some 43, op := AOp.mv (Opd.t 10), guard := some (42, false), al := none },
                           { dst := some 44, op := AOp.bin (BinOp.neq) (Opd.t 43) (Opd.c (D.int (IntKind.i64) 0)), guard := some (42, false), al := none },
                           { dst := some 45, op := AOp.pick (Opd.t 42) (Opd.c (D.bool true)) (Opd.t 44), guard := none, al := none },
                           { dst := some 46, op := AOp.mv (Opd.t 45), guard := none, al := none },
                           { dst := some 47, op := AOp.mv (Opd.t 7), guard := some (46, false), al := none },
                           { dst := some 48, op := AOp.mv (Opd.t 1), guard := some (46, false), al := none },
                           { dst := some 49, op := AOp.call false 8 [Opd.t 47, Opd.t 48], guard := some (46, false), al := none },
                           { dst := some 50, op := AOp.bin (BinOp.neq) (Opd.t 49) (Opd.c (D.int (IntKind.i64) 0)), guard := some (46, false), al := none },
                           { dst := some 51, op := AOp.pick (Opd.t 46) (Opd.c (D.bool true)) (Opd.t 50), guard := none, al := none },
                           { dst := some 52, op := AOp.mv (Opd.t 51), guard := none, al := none },
                           { dst := some 53, op := AOp.mv (Opd.t 7), guard := some (52, false), al := none },
                           { dst := some 54, op := AOp.mv (Opd.t 1), guard := some (52, false), al := none },
                           { dst := some 55, op := AOp.call false 9 [Opd.t 53, Opd.t 54], guard := some (52, false), al := none },
                           { dst := some 56, op := AOp.bin (BinOp.neq) (Opd.t 55) (Opd.c (D.int (IntKind.i64) 0)), guard := some (52, false), al := none },
                           { dst := some 57, op := AOp.pick (Opd.t 52) (Opd.c (D.bool true)) (Opd.t 56), guard := none, al := none },
                           { dst := some 58, op := AOp.mv (Opd.t 57), guard := none, al := none },
                           { dst := some 59, op := AOp.mv (Opd.t 7), guard := some (58, false), al := none },
                           { dst := some 60, op := AOp.mv (Opd.t 1), guard := some (58, false), al := none },
                           { dst := some 61, op := AOp.call false 10 [Opd.t 59, Opd.t 60], guard := some (58, false), al := none },
                           { dst := some 62, op := AOp.bin (BinOp.neq) (Opd.t 61) (Opd.c (D.str [])), guard := some (58, false), al := none },
                           { dst := some 63, op := AOp.pick (Opd.t 58) (Opd.c (D.bool true)) (Opd.t 62), guard := none, al := none },
                           { dst := some 64, op := AOp.mv (Opd.t 63), guard := none, al := none },
                           { dst := some 65, op := AOp.mv (Opd.t 7), guard := some (64, false), al := none },
                           { dst := some 66, op := AOp.mv (Opd.t 1), guard := some (64, false), al := none },
                           { dst := some 67, op := AOp.call false 11 [Opd.t 65, Opd.t 66], guard := some (64, false), al := none },
                           { dst := some 68, op := AOp.pick (Opd.t 64) (Opd.c (D.bool true)) (Opd.t 67), guard := none, al := none },
                           { dst := some 69, op := AOp.mv (Opd.t 68), guard := none, al := none },
                           { dst := some 70, op := AOp.mv (Opd.t 7), guard := some (69, false), al := none },
                           { dst := some 71, op := AOp.mv (Opd.t 1), guard := some (69, false), al := none },
                           { dst := some 72, op := AOp.mv (Opd.t 1), guard := some (69, false), al := none },
                           { dst := some 73, op := AOp.call false 12 [Opd.t 70, Opd.t 71, Opd.t 72], guard := some (69, false), al := none },
                           { dst := some 74, op := AOp.pick (Opd.t 69) (Opd.c (D.bool true)) (Opd.t 73), guard := none, al := none },
                           { dst := some 75, op := AOp.mv (Opd.t 74), guard := none, al := none },
                           { dst := some 76, op := AOp.mv (Opd.t 7), guard := some (75, false), al := none },
                           { dst := some 77, op := AOp.mv (Opd.t 1), guard := some (75, false), al := none },
                           { dst := some 78, op := AOp.mv (Opd.t 1), guard := some (75, false), al := none },
                           { dst := some 79, op := AOp.call false 13 [Opd.t 76, Opd.t 77, Opd.t 78], guard := some (75, false), al := none },
                           { dst := some 80, op := AOp.pick (Opd.t 75) (Opd.c (D.bool true)) (Opd.t 79), guard := none, al := none },
                           { dst := some 81, op := AOp.mv (Opd.t 80), guard := none, al := none },
                           { dst := some 82, op := AOp.mv (Opd.t 7), guard := some (81, false), al := none },
                           { dst := some 83, op := AOp.mv (Opd.t 1), guard := some (81, false), al := none },
                           { dst := some 84, op := AOp.call false 14 [Opd.t 82, Opd.t 83], guard := some (81, false), al := none },
                           { dst := some 85, op := AOp.len 1 (Opd.t 84), guard := some (81, false), al := none },
                           { dst := some 86, op := AOp.bin (BinOp.neq) (Opd.t 85) (Opd.c (D.int (IntKind.i64) 0)), guard := some (81, false), al := none },
                           { dst := some 87, op := AOp.pick (Opd.t 81) (Opd.c (D.bool true)) (Opd.t 86), guard := none, al := none },
                           { dst := some 88, op := AOp.mv (Opd.t 87), guard := none, al := none },
                           { dst := some 89, op := AOp.mv (Opd.t 7), guard := some (88, false), al := none },
                           { dst := some 90, op := AOp.call false 15 [Opd.t 89], guard := some (88, false), al := none },
                           { dst := some 91, op := AOp.bin (BinOp.neq) (Opd.t 90) (Opd.c (D.int (IntKind.i64) 0)), guard := some (88, false), al := none },
                           { dst := some 92, op := AOp.pick (Opd.t 88) (Opd.c (D.bool true)) (Opd.t 91), guard := none, al := none },
                           { dst := some 93, op := AOp.mv (Opd.t 92), guard := none, al := none },
                           { dst := some 94, op := AOp.mv (Opd.t 7), guard := some (93, false), al := none },
                           { dst := some 95, op := AOp.mv (Opd.t 2), guard := some (93, false), al := none },
                           { dst := some 96, op := AOp.call false 16 [Opd.t 94, Opd.t 95], guard := some (93, false), al := none },
                           { dst := some 97, op := AOp.bin (BinOp.neq) (Opd.t 96) (Opd.c (D.int (IntKind.i64) 0)), guard := some (93, false), al := none },
                           { dst := some 98, op := AOp.pick (Opd.t 93) (Opd.c (D.bool true)) (Opd.t 97), guard := none, al := none },
                           { dst := some 99, op := AOp.mv (Opd.t 98), guard := none, al := none },
                           { dst := some 100, op := AOp.mv (Opd.t 11), guard := some (99, false), al := none },
                           { dst := some 101, op := AOp.bin (BinOp.eql) (Opd.t 100) (Opd.c (D.int (IntKind.i64) 0)), guard := some (99, false), al := none },
                           { dst := some 102, op := AOp.mv (Opd.t 101), guard := some (99, false), al := none },
                           { dst := some 103, op := AOp.mv (Opd.t 10), guard := some (102, true), al := none },
                           { dst := some 104, op := AOp.bin (BinOp.neq) (Opd.t 103) (Opd.c (D.int (IntKind.i64) 0)), guard := some (102, true), al := none },
                           { dst := some 105, op := AOp.pick (Opd.t 102) (Opd.t 104) (Opd.c (D.bool false)), guard := some (99, false), al := none },
                           { dst := some 106, op := AOp.pick (Opd.t 99) (Opd.c (D.bool true)) (Opd.t 105), guard := none, al := none }])
                        (AC.cond (Opd.t 106) (AC.seq (AC.reg [{ dst := some 6, op := AOp.mv (Opd.c (D.bool false)), guard := none, al := none }]) (AC.ret)) (AC.skip)))
                      (AC.seq
                        (AC.reg
                          [{ dst := some 108, op := AOp.call false 18 [Opd.c (D.int (IntKind.i64) 1000), Opd.c (D.int (IntKind.i64) 5)], guard := none, al := none },
                           { dst := some 109, op := AOp.build [D.int (IntKind.i64) 0, D.int (IntKind.i64) 0, D.int (IntKind.i64) 0, D.int (IntKind.i64) 0] [], guard := none, al := none },
                           { dst := some 110, op := AOp.box 53 (Opd.t 109), guard := none, al := none },
                           { dst := some 111, op := AOp.call false 17 [Opd.t 108, Opd.t 110], guard := none, al := none },
                           { dst := some 107, op := AOp.mv (Opd.t 111), guard := none, al := none },
                           { dst := some 112, op := AOp.extract 0 (Opd.t 107), guard := none, al := none },
                           { dst := some 113, op := AOp.extract 1 (Opd.t 107), guard := none, al := none },
                           { dst := some 12, op := AOp.mv (Opd.t 112), guard := none, al := none },
                           { dst := some 9, op := AOp.mv (Opd.t 113), guard := none, al := none }])
                        (AC.seq
                          (AC.seq
                            (AC.reg
                              [{ dst := some 114, op := AOp.mv (Opd.t 9), guard := none, al := none },
                               { dst := some 115, op := AOp.bin (BinOp.neq) (Opd.t 114) (Opd.c (D.int (IntKind.i64) 0)), guard := none, al := none },
                               { dst := some 116, op := AOp.mv (Opd.t 115), guard := none, al := none },
                               { dst := some 117, op := AOp.mv (Opd.t 12), guard := some (116, false), al := none },
                               { dst := some 118, op := AOp.eq (ET.ptr) false true (Opd.t 117) (Opd.c (D.nilp)), guard := some (116, false), al := none },
                               { dst := some 119, op := AOp.pick (Opd.t 116) (Opd.c (D.bool true)) (Opd.t 118), guard := none, al := none }])
                            (AC.cond (Opd.t 119) (AC.seq (AC.reg [{ dst := some 6, op := AOp.mv (Opd.c (D.bool false)), guard := none, al := none }]) (AC.ret)) (AC.skip)))
                          (AC.seq
                            (AC.reg [{ dst := some 120, op := AOp.mv (Opd.t 1), guard := none, al := none }, { dst := some 121, op := AOp.bin (BinOp.sub) (Opd.c (D.int (IntKind.i64) (-1))) (Opd.t 120), guard := none, al := none }, { dst := some 13, op := AOp.mv (Opd.t 121), guard := none, al := none }])
                            (AC.seq
                              (AC.seq
                                (AC.reg [{ dst := some 122, op := AOp.mv (Opd.t 1), guard := none, al := none }, { dst := some 123, op := AOp.bin (BinOp.lss) (Opd.t 122) (Opd.c (D.int (IntKind.i64) 0)), guard := none, al := none }])
                                (AC.cond (Opd.t 123) (AC.reg [{ dst := some 124, op := AOp.mv (Opd.t 1), guard := none, al := none }, { dst := some 13, op := AOp.mv (Opd.t 124), guard := none, al := none }]) (AC.skip)))
                              (AC.seq
                                (AC.reg
                                  [{ dst := some 126, op := AOp.mv (Opd.t 12), guard := none, al := none },
                                   { dst := some 127, op := AOp.mv (Opd.t 13), guard := none, al := none },
                                   { dst := some 128, op := AOp.call false 7 [Opd.t 126, Opd.t 127], guard := none, al := none },
                                   { dst := some 125, op := AOp.mv (Opd.t 128), guard := none, al := none },
                                   { dst := some 129, op := AOp.extract 0 (Opd.t 125), guard := none, al := none },
                                   { dst := some 130, op := AOp.extract 1 (Opd.t 125), guard := none, al := none },
                                   { dst := some 14, op := AOp.mv (Opd.t 129), guard := none, al := none },
                                   { dst := some 11, op := AOp.mv (Opd.t 130), guard := none, al := none }])
                                (AC.seq
                                  (AC.reg
                                    [{ dst := some 131, op := AOp.mv (Opd.t 12), guard := none, al := none },
                                     { dst := some 132, op := AOp.mv (Opd.t 13), guard := none, al := none },
                                     { dst := some 133, op := AOp.call false 8 [Opd.t 131, Opd.t 132], guard := none, al := none },
                                     { dst := some 134, op := AOp.bin (BinOp.eql) (Opd.t 133) (Opd.c (D.int (IntKind.i64) 0)), guard := none, al := none },
                                     { dst := some 135, op := AOp.mv (Opd.t 134), guard := none, al := none },
                                     { dst := some 136, op := AOp.mv (Opd.t 12), guard := some (135, true), al := none },
                                     { dst := some 137, op := AOp.mv (Opd.t 13), guard := some (135, true), al := none },
                                     { dst := some 138, op := AOp.call false 9 [Opd.t 136, Opd.t 137], guard := some (135, true), al := none },
                                     { dst := some 139, op := AOp.bin (BinOp.eql) (Opd.t 138) (Opd.c (D.int (IntKind.i64) 0)), guard := some (135, true), al := none },
                                     { dst := some 140, op := AOp.pick (Opd.t 135) (Opd.t 139) (Opd.c (D.bool false)), guard := none, al := none },
                                     { dst := some 141, op := AOp.mv (Opd.t 140), guard := none, al := none },
                                     { dst := some 142, op := AOp.mv (Opd.t 12), guard := some (141, true), al := none },
                                     { dst := some 143, op := AOp.mv (Opd.t 13), guard := some (141, true), al := none },
                                     { dst := some 144, op := AOp.call false 10 [Opd.t 142, Opd.t 143], guard := some (141, true), al := none },
                                     { dst := some 145, op := AOp.bin (BinOp.eql) (Opd.t 144) (Opd.c (D.str [])), guard := some (141, true), al := none },
                                     { dst := some 146, op := AOp.pick (Opd.t 141) (Opd.t 145) (Opd.c (D.bool false)), guard := none, al := none },
                                     { dst := some 147, op := AOp.mv (Opd.t 146), guard := none, al := none },
                                     { dst := some 148, op := AOp.mv (Opd.t 12), guard := some (147, true), al := none },
                                     { dst := some 149, op := AOp.mv (Opd.t 13), guard := some (147, true), al := none },
                                     { dst := some 150, op := AOp.call false 11 [Opd.t 148, Opd.t 149], guard := some (147, true), al := none },
                                     { dst := some 151, op := AOp.un (Go.UnOp.not) (Opd.t 150), guard := some (147, true), al := none },
                                     { dst := some 152, op := AOp.pick (Opd.t 147) (Opd.t 151) (Opd.c (D.bool false)), guard := none, al := none },
                                     { dst := some 153, op := AOp.mv (Opd.t 152), guard := none, al := none },
                                     { dst := some 154, op := AOp.mv (Opd.t 14), guard := some (153, true), al := none },
                                     { dst := some 155, op := AOp.bin (BinOp.eql) (Opd.t 154) (Opd.c (D.int (IntKind.i64) 0)), guard := some (153, true), al := none },
                                     { dst := some 156, op := AOp.pick (Opd.t 153) (Opd.t 155) (Opd.c (D.bool false)), guard := none, al := none },
                                     { dst := some 157, op := AOp.mv (Opd.t 156), guard := none, al := none },
                                     { dst := some 158, op := AOp.mv (Opd.t 11), guard := some (157, true), al := none },
                                     { dst := some 159, op := AOp.bin (BinOp.eql) (Opd.t 158) (Opd.c (D.int (IntKind.i64) 12)), guard := some (157, true), al := none },
                                     { dst := some 160, op := AOp.pick (Opd.t 157) (Opd.t 159) (Opd.c (D.bool false)), guard := none, al := none },
                                     { dst := some 161, op := AOp.mv (Opd.t 160), guard := none, al := none },
                                     { dst := some 162, op := AOp.mv (Opd.t 12), guard := some (161, true), al := none },
                                     { dst := some 163, op := AOp.mv (Opd.t 13), guard := some (161, true), al := none },
                                     { dst := some 164, op := AOp.mv (Opd.t 13), guard := some (161, true), al := none },
                                     { dst := some 165, op := AOp.call false 12 [Opd.t 162, Opd.t 163, Opd.t 164], guard := some (161, true), al := none },
                                     { dst := some 166, op := AOp.un (Go.UnOp.not) (Opd.t 165), guard := some (161, true), al := none },
                                     { dst := some 167, op := AOp.pick (Opd.t 161) (Opd.t 166) (Opd.c (D.bool false)), guard := none, al := none },
                                     { dst := some 168, op := AOp.mv (Opd.t 167), guard := none, al := none },
                                     { dst := some 169, op := AOp.mv (Opd.t 12), guard := some (168, true), al := none },
                                     { dst := some 170, op := AOp.mv (Opd.t 13), guard := some (168, true), al := none },
                                     { dst := some 171, op := AOp.mv (Opd.t 13), guard := some (168, true), al := none },
                                     { dst := some 172, op := AOp.call false 13 [Opd.t 169, Opd.t 170, Opd.t 171], guard := some (168, true), al := none },
                                     { dst := some 173, op := AOp.un (Go.UnOp.not) (Opd.t 172), guard := some (168, true), al := none },
                                     { dst := some 174, op := AOp.pick (Opd.t 168) (Opd.t 173) (Opd.c (D.bool false)), guard := none, al := none },
                                     { dst := some 175, op := AOp.mv (Opd.t 174), guard := none, al := none },
                                     { dst := some 176, op := AOp.mv (Opd.t 12), guard := some (175, true), al := none },
                                     { dst := some 177, op := AOp.mv (Opd.t 13), guard := some (175, true), al := none },
                                     { dst := some 178, op := AOp.call false 14 [Opd.t 176, Opd.t 177], guard := some (175, true), al := none },
                                     { dst := some 179, op := AOp.len 1 (Opd.t 178), guard := some (175, true), al := none },
                                     { dst := some 180, op := AOp.bin (BinOp.eql) (Opd.t 179) (Opd.c (D.int (IntKind.i64) 0)), guard := some (175, true), al := none },
                                     { dst := some 181, op := AOp.pick (Opd.t 175) (Opd.t 180) (Opd.c (D.bool false)), guard := none, al := none },
                                     { dst := some 182, op := AOp.mv (Opd.t 181), guard := none, al := none },
                                     { dst := some 183, op := AOp.call false 5 [], guard := some (182, true), al := none },
                                     { dst := some 184, op := AOp.pick (Opd.t 182) (Opd.t 183) (Opd.c (D.bool false)), guard := none, al := none },
                                     { dst := some 6, op := AOp.mv (Opd.t 184), guard := none, al := none }])
                                  (AC.ret)))))))))))
def code3 : AFn := ⟨[ARes.tmp 6], AC.seq (AC.reg [{ dst := some 6, op := AOp.mv (Opd.c (D.bool false)), guard := none, al := none }]) (AC.seq (AC.seq
                (AC.reg
                  [{ dst := some 15, op := AOp.mv (Opd.t 0), guard := none, al := none },
                   { dst := some 16, op := AOp.call false 4 [Opd.t 15], guard := none, al := none },
                   { dst := some 17, op := AOp.mv (Opd.t 16), guard := none, al := none },
                   { dst := some 18, op := AOp.mv (Opd.t 2), guard := some (17, false), al := none },
                   { dst := some 19, op := AOp.len 1 (Opd.t 18), guard := some (17, false), al := none },
                   { dst := some 20, op := AOp.bin (BinOp.gtr) (Opd.t 19) (Opd.c (D.int (IntKind.i64) 120)), guard := some (17, false), al := none },
                   { dst := some 21, op := AOp.pick (Opd.t 17) (Opd.c (D.bool true)) (Opd.t 20), guard := none, al := none }])
                (AC.cond (Opd.t 21) (AC.seq (AC.reg [{ dst := some 22, op := AOp.call false 5 [], guard := none, al := none }, { dst := some 6, op := AOp.mv (Opd.t 22), guard := none, al := none }]) (AC.ret)) (AC.skip))) tail3)⟩
theorem af3_eq : af3 = some code3 := by kernel_rfl

noncomputable def tailX (C : Caller) (L : Looper) (a : AC) (fr : Fr) (s : St) : Bool := match execX C L a fr s with
  | some (.ret, fr', s') => match fr'.defers, resD fr'.env s' [.tmp 6] with
    | [], some [.bool true] => true
    | _, _ => false
  | _ => false
def envT (nl nl2 : Bool) (L R : List D) (v : D) : Env := [(21, .bool false), (20, .bool false), (19, .int .i64 (R.length : Int)), (18, .vs nl2 1 R), (17, .bool false), (16, .bool false), (15, .vs nl 8 L), (6, .bool false), (0, .vs nl 8 L), (1, v), (2, .vs nl2 1 R)]
def vN : D := .sint .i64 (.i 0) minI64 (-1)
def vP : D := .sint .i64 (.i 0) 0 maxI64
theorem tail_N (nl nl2 : Bool) (L R : List D) : tailX (pairX tab0 noCall 200).1 (pairX tab0 noCall 200).2 tail3 ⟨envT nl nl2 L R vN, []⟩ st0 = true := by kernel_rfl
theorem tail_P (nl nl2 : Bool) (L R : List D) : tailX (pairX tab0 noCall 200).1 (pairX tab0 noCall 200).2 tail3 ⟨envT nl nl2 L R vP, []⟩ st0 = true := by kernel_rfl
theorem awake_run : isTrue (callX tab0 noCall 200 5 [] st0) = true := by kernel_rfl
end Go.Proofs.YtdefmnljihnfoaaGreatDoor.Tab
