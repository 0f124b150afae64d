/- The abstract code of functions: printed by a program of ours (wip/tools/mkC.py). -/
import Derived.Test.YtloaklflgfefaaaGreatDoorA40
namespace Go.Proofs.YtloaklflgfefaaaGreatDoor.Tab
open Go Go.Ab
set_option maxRecDepth 100000
/-- lexicon/lexiconlaw22.ShowBounds -/
def code3 : AFn := ⟨ [ARes.tmp 4],  AC.seq
 
 (AC.reg [⟨some 4, AOp.mv (Opd.c (D.bool false)), none, none⟩]) 
 (AC.seq
 
 (AC.seq
 
 (AC.reg [⟨some 20, AOp.mv (Opd.t 0), none, none⟩,
 ⟨some 21, AOp.bin .lss (Opd.t 20) (Opd.c (D.int .i64 0)), none, none⟩,
 ⟨some 22, AOp.mv (Opd.t 21), none, none⟩,
 ⟨some 23, AOp.mv (Opd.t 0), some (22, false), none⟩,
 ⟨some 24, AOp.bin .gtr (Opd.t 23) (Opd.c (D.int .i64 3000)), some (22, false), none⟩,
 ⟨some 25, AOp.pick (Opd.t 22) (Opd.c (D.bool true)) (Opd.t 24), none, none⟩,
 ⟨some 26, AOp.mv (Opd.t 25), none, none⟩,
 ⟨some 27, AOp.mv (Opd.t 1), some (26, false), none⟩,
 ⟨some 28, AOp.bin .lss (Opd.t 27) (Opd.c (D.int .i64 0)), some (26, false), none⟩,
 ⟨some 29, AOp.pick (Opd.t 26) (Opd.c (D.bool true)) (Opd.t 28), none, none⟩,
 ⟨some 30, AOp.mv (Opd.t 29), none, none⟩,
 ⟨some 31, AOp.mv (Opd.t 1), some (30, false), none⟩,
 ⟨some 32, AOp.bin .gtr (Opd.t 31) (Opd.c (D.int .i64 40)), some (30, false), none⟩,
 ⟨some 33, AOp.pick (Opd.t 30) (Opd.c (D.bool true)) (Opd.t 32), none, none⟩]) 
 (AC.cond (Opd.t 33) 
 (AC.seq
 
 (AC.reg [⟨some 34, AOp.call false 4 [], none, none⟩,
 ⟨some 4, AOp.mv (Opd.t 34), none, none⟩]) 
 (AC.ret)) 
 (AC.skip))) 
 (AC.seq
 
 (AC.reg [⟨some 35, AOp.build [D.int .i64 0, D.bool false, D.bool false, D.vs true 0 [], D.str [], D.vs true 0 [], D.bool false, D.bool false] [(0, 1, Opd.c (D.int .i64 1))], none, none⟩,
 ⟨some 36, AOp.bslice 8 28 (D.agg [D.int .i64 0, D.bool false, D.bool false, D.vs true 0 [], D.str [], D.vs true 0 [], D.bool false, D.bool false]) 1 [(0, Opd.t 35)], none, none⟩,
 ⟨some 5, AOp.mv (Opd.t 36), none, none⟩]) 
 (AC.seq
 
 (AC.reg [⟨some 6, AOp.mv (Opd.c (D.vs true 0 [])), none, none⟩]) 
 (AC.seq
 
 (AC.seq
 
 (AC.reg [⟨some 7, AOp.mv (Opd.c (D.int .i64 0)), none, none⟩]) 
 (AC.block 0 
 (AC.loop [0, 1, 2, 3, 4, 5, 6, 7] 
 (AC.seq
 
 (AC.seq
 
 (AC.reg [⟨some 37, AOp.mv (Opd.t 7), none, none⟩,
 ⟨some 38, AOp.mv (Opd.t 0), none, none⟩,
 ⟨some 39, AOp.bin .lss (Opd.t 37) (Opd.t 38), none, none⟩]) 
 (AC.cond (Opd.t 39) 
 (AC.skip) 
 (AC.exit 0))) 
 (AC.seq
 
 (AC.block 1 
 (AC.reg [⟨some 42, AOp.mv (Opd.t 6), none, none⟩,
 ⟨some 43, AOp.vslice 1 (D.int .i64 0) 1 [(0, Opd.c (D.int .i64 0))], none, none⟩,
 ⟨some 44, AOp.append 1 8 3 (Opd.t 42) (Opd.t 43), none, none⟩,
 ⟨some 6, AOp.mv (Opd.t 44), none, none⟩])) 
 (AC.reg [⟨some 40, AOp.mv (Opd.t 7), none, none⟩,
 ⟨some 41, AOp.bin .add (Opd.t 40) (Opd.c (D.int .i64 1)), none, none⟩,
 ⟨some 7, AOp.mv (Opd.t 41), none, none⟩])))))) 
 (AC.seq
 
 (AC.reg [⟨some 45, AOp.mv (Opd.t 5), none, none⟩,
 ⟨some 46, AOp.mv (Opd.t 6), none, none⟩,
 ⟨some 47, AOp.build [D.int .i64 0, D.bool false, D.bool false, D.vs true 0 [], D.str [], D.vs true 0 [], D.bool false, D.bool false] [(0, 1, Opd.c (D.int .i64 5)), (5, 1, Opd.t 46)], none, none⟩,
 ⟨some 48, AOp.vslice 8 (D.agg [D.int .i64 0, D.bool false, D.bool false, D.vs true 0 [], D.str [], D.vs true 0 [], D.bool false, D.bool false]) 1 [(0, Opd.t 47)], none, none⟩,
 ⟨some 49, AOp.append 8 96 28 (Opd.t 45) (Opd.t 48), none, none⟩,
 ⟨some 5, AOp.mv (Opd.t 49), none, none⟩]) 
 (AC.seq
 
 (AC.seq
 
 (AC.reg [⟨some 8, AOp.mv (Opd.c (D.int .i64 0)), none, none⟩]) 
 (AC.block 2 
 (AC.loop [0, 1, 2, 3, 4, 5, 6, 8] 
 (AC.seq
 
 (AC.seq
 
 (AC.reg [⟨some 50, AOp.mv (Opd.t 8), none, none⟩,
 ⟨some 51, AOp.mv (Opd.t 1), none, none⟩,
 ⟨some 52, AOp.bin .lss (Opd.t 50) (Opd.t 51), none, none⟩]) 
 (AC.cond (Opd.t 52) 
 (AC.skip) 
 (AC.exit 2))) 
 (AC.seq
 
 (AC.block 3 
 (AC.reg [⟨some 55, AOp.mv (Opd.t 5), none, none⟩,
 ⟨some 56, AOp.mv (Opd.t 5), none, none⟩,
 ⟨some 57, AOp.len 1 (Opd.t 56), none, none⟩,
 ⟨some 58, AOp.bin .sub (Opd.t 57) (Opd.c (D.int .i64 1)), none, none⟩,
 ⟨some 59, AOp.bslice 1 3 (D.int .i64 0) 1 [(0, Opd.t 58)], none, none⟩,
 ⟨some 60, AOp.build [D.int .i64 0, D.bool false, D.bool false, D.vs true 0 [], D.str [], D.vs true 0 [], D.bool false, D.bool false] [(0, 1, Opd.c (D.int .i64 6)), (5, 1, Opd.t 59)], none, none⟩,
 ⟨some 61, AOp.vslice 8 (D.agg [D.int .i64 0, D.bool false, D.bool false, D.vs true 0 [], D.str [], D.vs true 0 [], D.bool false, D.bool false]) 1 [(0, Opd.t 60)], none, none⟩,
 ⟨some 62, AOp.append 8 96 28 (Opd.t 55) (Opd.t 61), none, none⟩,
 ⟨some 5, AOp.mv (Opd.t 62), none, none⟩])) 
 (AC.reg [⟨some 53, AOp.mv (Opd.t 8), none, none⟩,
 ⟨some 54, AOp.bin .add (Opd.t 53) (Opd.c (D.int .i64 1)), none, none⟩,
 ⟨some 8, AOp.mv (Opd.t 54), none, none⟩])))))) 
 (AC.seq
 
 (AC.reg [⟨some 64, AOp.mv (Opd.t 5), none, none⟩,
 ⟨some 65, AOp.call false 5 [Opd.t 64], none, none⟩,
 ⟨some 63, AOp.mv (Opd.t 65), none, none⟩,
 ⟨some 66, AOp.extract 0 (Opd.t 63), none, none⟩,
 ⟨some 67, AOp.extract 1 (Opd.t 63), none, none⟩,
 ⟨some 68, AOp.extract 2 (Opd.t 63), none, none⟩,
 ⟨some 69, AOp.extract 3 (Opd.t 63), none, none⟩,
 ⟨some 70, AOp.extract 4 (Opd.t 63), none, none⟩,
 ⟨some 9, AOp.mv (Opd.t 66), none, none⟩,
 ⟨some 10, AOp.mv (Opd.t 67), none, none⟩,
 ⟨some 11, AOp.mv (Opd.t 68), none, none⟩,
 ⟨some 12, AOp.mv (Opd.t 69), none, none⟩,
 ⟨some 13, AOp.mv (Opd.t 70), none, none⟩]) 
 (AC.seq
 
 (AC.seq
 
 (AC.reg [⟨some 71, AOp.mv (Opd.t 13), none, none⟩,
 ⟨some 72, AOp.un .not (Opd.t 71), none, none⟩,
 ⟨some 73, AOp.mv (Opd.t 72), none, none⟩,
 ⟨some 74, AOp.mv (Opd.t 10), some (73, false), none⟩,
 ⟨some 75, AOp.len 1 (Opd.t 74), some (73, false), none⟩,
 ⟨some 76, AOp.mv (Opd.t 5), some (73, false), none⟩,
 ⟨some 77, AOp.len 1 (Opd.t 76), some (73, false), none⟩,
 ⟨some 78, AOp.bin .neq (Opd.t 75) (Opd.t 77), some (73, false), none⟩,
 ⟨some 79, AOp.pick (Opd.t 73) (Opd.c (D.bool true)) (Opd.t 78), none, none⟩]) 
 (AC.cond (Opd.t 79) 
 (AC.seq
 
 (AC.reg [⟨some 4, AOp.mv (Opd.c (D.bool false)), none, none⟩]) 
 (AC.ret)) 
 (AC.skip))) 
 (AC.seq
 
 (AC.reg [⟨some 80, AOp.mv (Opd.t 9), none, none⟩,
 ⟨some 81, AOp.mv (Opd.t 10), none, none⟩,
 ⟨some 82, AOp.mv (Opd.t 10), none, none⟩,
 ⟨some 83, AOp.len 1 (Opd.t 82), none, none⟩,
 ⟨some 84, AOp.bin .sub (Opd.t 83) (Opd.c (D.int .i64 1)), none, none⟩,
 ⟨some 85, AOp.iaddr 1 (Opd.t 81) (Opd.t 84), none, none⟩,
 ⟨some 86, AOp.load none (Opd.t 85), none, none⟩,
 ⟨some 87, AOp.call false 6 [Opd.t 80, Opd.t 86, Opd.c (D.bool false)], none, none⟩,
 ⟨some 14, AOp.mv (Opd.t 87), none, none⟩]) 
 (AC.seq
 
 (AC.seq
 
 (AC.reg [⟨some 88, AOp.mv (Opd.t 1), none, none⟩,
 ⟨some 89, AOp.bin .geq (Opd.t 88) (Opd.c (D.int .i64 20)), none, none⟩]) 
 (AC.cond (Opd.t 89) 
 (AC.seq
 
 (AC.reg [⟨some 15, AOp.mv (Opd.c (D.str [])), none, none⟩]) 
 (AC.seq
 
 (AC.seq
 
 (AC.reg [⟨some 16, AOp.mv (Opd.c (D.int .i64 0)), none, none⟩]) 
 (AC.block 4 
 (AC.loop [3, 14, 15, 16] 
 (AC.seq
 
 (AC.seq
 
 (AC.reg [⟨some 90, AOp.mv (Opd.t 16), none, none⟩,
 ⟨some 91, AOp.bin .lss (Opd.t 90) (Opd.c (D.int .i64 20)), none, none⟩]) 
 (AC.cond (Opd.t 91) 
 (AC.skip) 
 (AC.exit 4))) 
 (AC.seq
 
 (AC.block 5 
 (AC.reg [⟨some 94, AOp.mv (Opd.t 15), none, none⟩,
 ⟨some 95, AOp.bin .add (Opd.t 94) (Opd.c (D.str [91])), none, none⟩,
 ⟨some 15, AOp.mv (Opd.t 95), none, none⟩])) 
 (AC.reg [⟨some 92, AOp.mv (Opd.t 16), none, none⟩,
 ⟨some 93, AOp.bin .add (Opd.t 92) (Opd.c (D.int .i64 1)), none, none⟩,
 ⟨some 16, AOp.mv (Opd.t 93), none, none⟩])))))) 
 (AC.seq
 
 (AC.reg [⟨some 96, AOp.mv (Opd.t 15), none, none⟩,
 ⟨some 97, AOp.bin .add (Opd.t 96) (Opd.c (D.str [46, 46, 46])), none, none⟩,
 ⟨some 15, AOp.mv (Opd.t 97), none, none⟩]) 
 (AC.seq
 
 (AC.seq
 
 (AC.reg [⟨some 17, AOp.mv (Opd.c (D.int .i64 0)), none, none⟩]) 
 (AC.block 6 
 (AC.loop [3, 14, 15, 17] 
 (AC.seq
 
 (AC.seq
 
 (AC.reg [⟨some 98, AOp.mv (Opd.t 17), none, none⟩,
 ⟨some 99, AOp.bin .lss (Opd.t 98) (Opd.c (D.int .i64 20)), none, none⟩]) 
 (AC.cond (Opd.t 99) 
 (AC.skip) 
 (AC.exit 6))) 
 (AC.seq
 
 (AC.block 7 
 (AC.reg [⟨some 102, AOp.mv (Opd.t 15), none, none⟩,
 ⟨some 103, AOp.bin .add (Opd.t 102) (Opd.c (D.str [93])), none, none⟩,
 ⟨some 15, AOp.mv (Opd.t 103), none, none⟩])) 
 (AC.reg [⟨some 100, AOp.mv (Opd.t 17), none, none⟩,
 ⟨some 101, AOp.bin .add (Opd.t 100) (Opd.c (D.int .i64 1)), none, none⟩,
 ⟨some 17, AOp.mv (Opd.t 101), none, none⟩])))))) 
 (AC.seq
 
 (AC.reg [⟨some 104, AOp.mv (Opd.t 14), none, none⟩,
 ⟨some 105, AOp.mv (Opd.t 15), none, none⟩,
 ⟨some 106, AOp.bin .eql (Opd.t 104) (Opd.t 105), none, none⟩,
 ⟨some 107, AOp.mv (Opd.t 106), none, none⟩,
 ⟨some 108, AOp.call false 4 [], some (107, true), none⟩,
 ⟨some 109, AOp.pick (Opd.t 107) (Opd.t 108) (Opd.c (D.bool false)), none, none⟩,
 ⟨some 4, AOp.mv (Opd.t 109), none, none⟩]) 
 (AC.ret)))))) 
 (AC.skip))) 
 (AC.seq
 
 (AC.reg [⟨some 110, AOp.mv (Opd.t 1), none, none⟩,
 ⟨some 111, AOp.bin .mul (Opd.c (D.int .i64 2)) (Opd.t 110), none, none⟩,
 ⟨some 112, AOp.bin .add (Opd.t 111) (Opd.c (D.int .i64 2)), none, none⟩,
 ⟨some 113, AOp.mv (Opd.t 0), none, none⟩,
 ⟨some 114, AOp.bin .mul (Opd.c (D.int .i64 6)) (Opd.t 113), none, none⟩,
 ⟨some 115, AOp.bin .add (Opd.t 112) (Opd.t 114), none, none⟩,
 ⟨some 116, AOp.bin .sub (Opd.t 115) (Opd.c (D.int .i64 2)), none, none⟩,
 ⟨some 18, AOp.mv (Opd.t 116), none, none⟩]) 
 (AC.seq
 
 (AC.seq
 
 (AC.reg [⟨some 117, AOp.mv (Opd.t 0), none, none⟩,
 ⟨some 118, AOp.bin .lss (Opd.t 117) (Opd.c (D.int .i64 2)), none, none⟩]) 
 (AC.cond (Opd.t 118) 
 (AC.reg [⟨some 119, AOp.mv (Opd.t 1), none, none⟩,
 ⟨some 120, AOp.bin .mul (Opd.c (D.int .i64 2)) (Opd.t 119), none, none⟩,
 ⟨some 121, AOp.bin .add (Opd.t 120) (Opd.c (D.int .i64 2)), none, none⟩,
 ⟨some 122, AOp.mv (Opd.t 0), none, none⟩,
 ⟨some 123, AOp.bin .mul (Opd.c (D.int .i64 5)) (Opd.t 122), none, none⟩,
 ⟨some 124, AOp.bin .add (Opd.t 121) (Opd.t 123), none, none⟩,
 ⟨some 18, AOp.mv (Opd.t 124), none, none⟩]) 
 (AC.skip))) 
 (AC.seq
 
 (AC.reg [⟨some 125, AOp.mv (Opd.t 14), none, none⟩,
 ⟨some 126, AOp.len 0 (Opd.t 125), none, none⟩,
 ⟨some 127, AOp.bin .gtr (Opd.t 126) (Opd.c (D.int .i64 3)), none, none⟩,
 ⟨some 128, AOp.mv (Opd.t 127), none, none⟩,
 ⟨some 129, AOp.mv (Opd.t 14), some (128, true), none⟩,
 ⟨some 130, AOp.mv (Opd.t 14), some (128, true), none⟩,
 ⟨some 131, AOp.len 0 (Opd.t 130), some (128, true), none⟩,
 ⟨some 132, AOp.bin .sub (Opd.t 131) (Opd.c (D.int .i64 3)), some (128, true), none⟩,
 ⟨some 133, AOp.sstr (Opd.t 129) (some (Opd.t 132)) none, some (128, true), none⟩,
 ⟨some 134, AOp.bin .eql (Opd.t 133) (Opd.c (D.str [46, 46, 46])), some (128, true), none⟩,
 ⟨some 135, AOp.pick (Opd.t 128) (Opd.t 134) (Opd.c (D.bool false)), none, none⟩,
 ⟨some 19, AOp.mv (Opd.t 135), none, none⟩]) 
 (AC.seq
 
 (AC.seq
 
 (AC.reg [⟨some 136, AOp.mv (Opd.t 18), none, none⟩,
 ⟨some 137, AOp.bin .leq (Opd.t 136) (Opd.c (D.int .i64 4096)), none, none⟩]) 
 (AC.cond (Opd.t 137) 
 (AC.seq
 
 (AC.reg [⟨some 138, AOp.mv (Opd.t 14), none, none⟩,
 ⟨some 139, AOp.len 0 (Opd.t 138), none, none⟩,
 ⟨some 140, AOp.mv (Opd.t 18), none, none⟩,
 ⟨some 141, AOp.bin .eql (Opd.t 139) (Opd.t 140), none, none⟩,
 ⟨some 142, AOp.mv (Opd.t 141), none, none⟩,
 ⟨some 143, AOp.mv (Opd.t 19), some (142, true), none⟩,
 ⟨some 144, AOp.un .not (Opd.t 143), some (142, true), none⟩,
 ⟨some 145, AOp.pick (Opd.t 142) (Opd.t 144) (Opd.c (D.bool false)), none, none⟩,
 ⟨some 146, AOp.mv (Opd.t 145), none, none⟩,
 ⟨some 147, AOp.call false 4 [], some (146, true), none⟩,
 ⟨some 148, AOp.pick (Opd.t 146) (Opd.t 147) (Opd.c (D.bool false)), none, none⟩,
 ⟨some 4, AOp.mv (Opd.t 148), none, none⟩]) 
 (AC.ret)) 
 (AC.skip))) 
 (AC.seq
 
 (AC.reg [⟨some 149, AOp.mv (Opd.t 14), none, none⟩,
 ⟨some 150, AOp.len 0 (Opd.t 149), none, none⟩,
 ⟨some 151, AOp.bin .leq (Opd.t 150) (Opd.c (D.int .i64 4102)), none, none⟩,
 ⟨some 152, AOp.mv (Opd.t 151), none, none⟩,
 ⟨some 153, AOp.mv (Opd.t 19), some (152, true), none⟩,
 ⟨some 154, AOp.pick (Opd.t 152) (Opd.t 153) (Opd.c (D.bool false)), none, none⟩,
 ⟨some 155, AOp.mv (Opd.t 154), none, none⟩,
 ⟨some 156, AOp.call false 4 [], some (155, true), none⟩,
 ⟨some 157, AOp.pick (Opd.t 155) (Opd.t 156) (Opd.c (D.bool false)), none, none⟩,
 ⟨some 4, AOp.mv (Opd.t 157), none, none⟩]) 
 (AC.ret)))))))))))))))) ⟩
/-- lexicon/lexiconlaw22.both -/
def code5 : AFn := ⟨ [ARes.tmp 2, ARes.tmp 3, ARes.tmp 4, ARes.tmp 5, ARes.tmp 6],  AC.seq
 
 (AC.reg [⟨some 2, AOp.mv (Opd.c (D.nilp)), none, none⟩,
 ⟨some 3, AOp.mv (Opd.c (D.vs true 0 [])), none, none⟩,
 ⟨some 4, AOp.mv (Opd.c (D.nilp)), none, none⟩,
 ⟨some 5, AOp.mv (Opd.c (D.vs true 0 [])), none, none⟩,
 ⟨some 6, AOp.mv (Opd.c (D.bool false)), none, none⟩]) 
 (AC.seq
 
 (AC.reg [⟨some 15, AOp.build [D.int .i64 0, D.int .i64 0, D.int .i64 0, D.vs true 0 [], D.vs true 0 []] [(1, 1, Opd.c (D.int .i64 60000)), (2, 1, Opd.c (D.int .i64 4))], none, none⟩,
 ⟨some 7, AOp.lbox (Opd.c (D.agg [D.int .i64 0, D.int .i64 0, D.int .i64 0, D.vs true 0 [], D.vs true 0 []])), none, none⟩,
 ⟨none, AOp.lstore 7 5 (Opd.t 7) (Opd.t 15), none, none⟩]) 
 (AC.seq
 
 (AC.reg [⟨some 17, AOp.lload 7 (some 5) (Opd.t 7), none, none⟩,
 ⟨some 18, AOp.call false 7 [Opd.t 17, Opd.c (D.nilp)], none, none⟩,
 ⟨some 16, AOp.mv (Opd.t 18), none, none⟩,
 ⟨some 19, AOp.extract 0 (Opd.t 16), none, none⟩,
 ⟨some 20, AOp.extract 1 (Opd.t 16), none, none⟩,
 ⟨some 8, AOp.mv (Opd.t 19), none, none⟩,
 ⟨some 9, AOp.mv (Opd.t 20), none, none⟩]) 
 (AC.seq
 
 (AC.reg [⟨some 22, AOp.lload 7 (some 5) (Opd.t 7), none, none⟩,
 ⟨some 23, AOp.call false 8 [Opd.t 22], none, none⟩,
 ⟨some 21, AOp.mv (Opd.t 23), none, none⟩,
 ⟨some 24, AOp.extract 0 (Opd.t 21), none, none⟩,
 ⟨some 25, AOp.extract 1 (Opd.t 21), none, none⟩,
 ⟨some 10, AOp.mv (Opd.t 24), none, none⟩,
 ⟨some 11, AOp.mv (Opd.t 25), none, none⟩]) 
 (AC.seq
 
 (AC.seq
 
 (AC.reg [⟨some 26, AOp.mv (Opd.t 9), none, none⟩,
 ⟨some 27, AOp.bin .neq (Opd.t 26) (Opd.c (D.int .i64 0)), none, none⟩,
 ⟨some 28, AOp.mv (Opd.t 27), none, none⟩,
 ⟨some 29, AOp.mv (Opd.t 8), some (28, false), none⟩,
 ⟨some 30, AOp.eq (ET.ptr) false true (Opd.t 29) (Opd.c (D.nilp)), some (28, false), none⟩,
 ⟨some 31, AOp.pick (Opd.t 28) (Opd.c (D.bool true)) (Opd.t 30), none, none⟩]) 
 (AC.cond (Opd.t 31) 
 (AC.seq
 
 (AC.reg [⟨some 2, AOp.mv (Opd.c (D.nilp)), none, none⟩,
 ⟨some 3, AOp.mv (Opd.c (D.vs true 0 [])), none, none⟩,
 ⟨some 4, AOp.mv (Opd.c (D.nilp)), none, none⟩,
 ⟨some 5, AOp.mv (Opd.c (D.vs true 0 [])), none, none⟩,
 ⟨some 6, AOp.mv (Opd.c (D.bool false)), none, none⟩]) 
 (AC.ret)) 
 (AC.skip))) 
 (AC.seq
 
 (AC.reg [⟨some 33, AOp.mv (Opd.t 8), none, none⟩,
 ⟨some 34, AOp.mv (Opd.t 0), none, none⟩,
 ⟨some 35, AOp.call false 9 [Opd.t 33, Opd.t 34], none, none⟩,
 ⟨some 32, AOp.mv (Opd.t 35), none, none⟩,
 ⟨some 36, AOp.extract 0 (Opd.t 32), none, none⟩,
 ⟨some 37, AOp.extract 1 (Opd.t 32), none, none⟩,
 ⟨some 12, AOp.mv (Opd.t 36), none, none⟩,
 ⟨some 9, AOp.mv (Opd.t 37), none, none⟩]) 
 (AC.seq
 
 (AC.reg [⟨some 39, AOp.mv (Opd.t 10), none, none⟩,
 ⟨some 40, AOp.mv (Opd.t 0), none, none⟩,
 ⟨some 41, AOp.call false 10 [Opd.t 39, Opd.t 40], none, none⟩,
 ⟨some 38, AOp.mv (Opd.t 41), none, none⟩,
 ⟨some 42, AOp.extract 0 (Opd.t 38), none, none⟩,
 ⟨some 43, AOp.extract 1 (Opd.t 38), none, none⟩,
 ⟨some 13, AOp.mv (Opd.t 42), none, none⟩,
 ⟨some 14, AOp.mv (Opd.t 43), none, none⟩]) 
 (AC.seq
 
 (AC.reg [⟨some 44, AOp.mv (Opd.t 8), none, none⟩,
 ⟨some 45, AOp.mv (Opd.t 12), none, none⟩,
 ⟨some 46, AOp.mv (Opd.t 10), none, none⟩,
 ⟨some 47, AOp.mv (Opd.t 13), none, none⟩,
 ⟨some 48, AOp.mv (Opd.t 9), none, none⟩,
 ⟨some 49, AOp.mv (Opd.t 14), none, none⟩,
 ⟨some 50, AOp.bin .eql (Opd.t 48) (Opd.t 49), none, none⟩,
 ⟨some 51, AOp.mv (Opd.t 50), none, none⟩,
 ⟨some 52, AOp.mv (Opd.t 12), some (51, true), none⟩,
 ⟨some 53, AOp.len 1 (Opd.t 52), some (51, true), none⟩,
 ⟨some 54, AOp.mv (Opd.t 13), some (51, true), none⟩,
 ⟨some 55, AOp.len 1 (Opd.t 54), some (51, true), none⟩,
 ⟨some 56, AOp.bin .eql (Opd.t 53) (Opd.t 55), some (51, true), none⟩,
 ⟨some 57, AOp.pick (Opd.t 51) (Opd.t 56) (Opd.c (D.bool false)), none, none⟩,
 ⟨some 2, AOp.mv (Opd.t 44), none, none⟩,
 ⟨some 3, AOp.mv (Opd.t 45), none, none⟩,
 ⟨some 4, AOp.mv (Opd.t 46), none, none⟩,
 ⟨some 5, AOp.mv (Opd.t 47), none, none⟩,
 ⟨some 6, AOp.mv (Opd.t 57), none, none⟩]) 
 (AC.ret)))))))) ⟩
/-- lexicon/show.Text -/
def code6 : AFn := ⟨ [ARes.tmp 6],  AC.seq
 
 (AC.reg [⟨some 6, AOp.mv (Opd.c (D.str [])), none, none⟩]) 
 (AC.seq
 
 (AC.seq
 
 (AC.reg [⟨some 12, AOp.mv (Opd.t 0), none, none⟩,
 ⟨some 13, AOp.mv (Opd.t 1), none, none⟩,
 ⟨some 14, AOp.call false 11 [Opd.t 12, Opd.t 13], none, none⟩,
 ⟨some 11, AOp.mv (Opd.t 14), none, none⟩,
 ⟨some 15, AOp.extract 0 (Opd.t 11), none, none⟩,
 ⟨some 16, AOp.extract 1 (Opd.t 11), none, none⟩,
 ⟨some 7, AOp.mv (Opd.t 15), none, none⟩,
 ⟨some 8, AOp.mv (Opd.t 16), none, none⟩]) 
 (AC.seq
 
 (AC.reg [⟨some 17, AOp.mv (Opd.t 8), none, none⟩,
 ⟨some 18, AOp.mv (Opd.t 17), none, none⟩,
 ⟨some 19, AOp.mv (Opd.t 2), some (18, true), none⟩,
 ⟨some 20, AOp.pick (Opd.t 18) (Opd.t 19) (Opd.c (D.bool false)), none, none⟩]) 
 (AC.cond (Opd.t 20) 
 (AC.seq
 
 (AC.reg [⟨some 21, AOp.mv (Opd.t 7), none, none⟩,
 ⟨some 6, AOp.mv (Opd.t 21), none, none⟩]) 
 (AC.ret)) 
 (AC.skip)))) 
 (AC.seq
 
 (AC.reg [⟨some 9, AOp.box 53 (Opd.c (D.agg [D.nilp, D.vs true 0 []])), none, none⟩]) 
 (AC.seq
 
 (AC.seq
 
 (AC.reg [⟨some 22, AOp.mv (Opd.t 0), none, none⟩,
 ⟨some 23, AOp.mv (Opd.t 1), none, none⟩,
 ⟨some 24, AOp.call false 12 [Opd.t 22, Opd.t 23], none, none⟩]) 
 (AC.block 0 
 (AC.rangef [9, 10] (Opd.t 24) [25] 
 (AC.reg [⟨some 10, AOp.mv (Opd.t 25), none, none⟩]) 
 (AC.block 1 
 (AC.seq
 
 (AC.seq
 
 (AC.reg [⟨some 26, AOp.call false 13 [Opd.t 9], none, none⟩,
 ⟨some 27, AOp.bin .geq (Opd.t 26) (Opd.c (D.int .i64 4096)), none, none⟩]) 
 (AC.cond (Opd.t 27) 
 (AC.seq
 
 (AC.reg [⟨some 28, AOp.call false 14 [Opd.t 9, Opd.c (D.str [46, 46, 46])], none, none⟩]) 
 (AC.exit 0)) 
 (AC.skip))) 
 (AC.reg [⟨some 29, AOp.mv (Opd.t 10), none, none⟩,
 ⟨some 30, AOp.call false 14 [Opd.t 9, Opd.t 29], none, none⟩])))))) 
 (AC.seq
 
 (AC.reg [⟨some 31, AOp.call false 15 [Opd.t 9], none, none⟩,
 ⟨some 6, AOp.mv (Opd.t 31), none, none⟩]) 
 (AC.ret))))) ⟩
/-- lexicon/store.New -/
def code7 : AFn := ⟨ [ARes.tmp 4, ARes.tmp 5],  AC.seq
 
 (AC.reg [⟨some 2, AOp.lbox (Opd.t 0), none, none⟩,
 ⟨some 4, AOp.mv (Opd.c (D.nilp)), none, none⟩,
 ⟨some 5, AOp.mv (Opd.c (D.int .i64 0)), none, none⟩]) 
 (AC.seq
 
 (AC.seq
 
 (AC.reg [⟨some 9, AOp.faddr 0 (Opd.t 2), none, none⟩,
 ⟨some 10, AOp.lload 2 none (Opd.t 9), none, none⟩,
 ⟨some 11, AOp.bin .lss (Opd.t 10) (Opd.c (D.int .i64 0)), none, none⟩,
 ⟨some 12, AOp.mv (Opd.t 11), none, none⟩,
 ⟨some 13, AOp.faddr 0 (Opd.t 2), some (12, false), none⟩,
 ⟨some 14, AOp.lload 2 none (Opd.t 13), some (12, false), none⟩,
 ⟨some 15, AOp.bin .gtr (Opd.t 14) (Opd.c (D.int .i64 100000)), some (12, false), none⟩,
 ⟨some 16, AOp.pick (Opd.t 12) (Opd.c (D.bool true)) (Opd.t 15), none, none⟩,
 ⟨some 17, AOp.mv (Opd.t 16), none, none⟩,
 ⟨some 18, AOp.faddr 1 (Opd.t 2), some (17, false), none⟩,
 ⟨some 19, AOp.lload 2 none (Opd.t 18), some (17, false), none⟩,
 ⟨some 20, AOp.bin .lss (Opd.t 19) (Opd.c (D.int .i64 0)), some (17, false), none⟩,
 ⟨some 21, AOp.pick (Opd.t 17) (Opd.c (D.bool true)) (Opd.t 20), none, none⟩,
 ⟨some 22, AOp.mv (Opd.t 21), none, none⟩,
 ⟨some 23, AOp.faddr 1 (Opd.t 2), some (22, false), none⟩,
 ⟨some 24, AOp.lload 2 none (Opd.t 23), some (22, false), none⟩,
 ⟨some 25, AOp.bin .gtr (Opd.t 24) (Opd.c (D.int .i64 65536)), some (22, false), none⟩,
 ⟨some 26, AOp.pick (Opd.t 22) (Opd.c (D.bool true)) (Opd.t 25), none, none⟩,
 ⟨some 27, AOp.mv (Opd.t 26), none, none⟩,
 ⟨some 28, AOp.faddr 2 (Opd.t 2), some (27, false), none⟩,
 ⟨some 29, AOp.lload 2 none (Opd.t 28), some (27, false), none⟩,
 ⟨some 30, AOp.bin .lss (Opd.t 29) (Opd.c (D.int .i64 0)), some (27, false), none⟩,
 ⟨some 31, AOp.pick (Opd.t 27) (Opd.c (D.bool true)) (Opd.t 30), none, none⟩,
 ⟨some 32, AOp.mv (Opd.t 31), none, none⟩,
 ⟨some 33, AOp.faddr 2 (Opd.t 2), some (32, false), none⟩,
 ⟨some 34, AOp.lload 2 none (Opd.t 33), some (32, false), none⟩,
 ⟨some 35, AOp.bin .gtr (Opd.t 34) (Opd.c (D.int .i64 256)), some (32, false), none⟩,
 ⟨some 36, AOp.pick (Opd.t 32) (Opd.c (D.bool true)) (Opd.t 35), none, none⟩]) 
 (AC.cond (Opd.t 36) 
 (AC.seq
 
 (AC.reg [⟨some 4, AOp.mv (Opd.c (D.nilp)), none, none⟩,
 ⟨some 5, AOp.mv (Opd.c (D.int .i64 1)), none, none⟩]) 
 (AC.ret)) 
 (AC.skip))) 
 (AC.seq
 
 (AC.dreg 1 [(⟨some 37, AOp.lload 2 (some 5) (Opd.t 2), none, none⟩, []),
 (⟨some 38, AOp.mv (Opd.t 1), none, none⟩, []),
 (⟨some 39, AOp.call false 16 [], none, none⟩, []),
 (⟨some 40, AOp.faddr 4 (Opd.t 2), none, none⟩, []),
 (⟨some 41, AOp.lload 2 none (Opd.t 40), none, none⟩, []),
 (⟨some 42, AOp.call false 17 [Opd.t 41], none, none⟩, []),
 (⟨some 43, AOp.build [D.int .i64 0, D.int .i64 0, D.int .i64 0, D.vs true 0 [], D.vs true 0 [], D.nilp, D.nilp, D.int .i64 0, D.int .i64 0, D.int .i64 0, D.nilp, D.bool false] [(0, 5, Opd.t 37), (5, 1, Opd.t 38), (6, 1, Opd.t 39), (10, 1, Opd.t 42)], none, none⟩, []),
 (⟨some 44, AOp.box 71 (Opd.t 43), none, some 0⟩, []),
 (⟨some 6, AOp.mv (Opd.t 44), none, none⟩, [])]) 
 (AC.seq
 
 (AC.seq
 
 (AC.reg [⟨some 45, AOp.build [] [], none, none⟩,
 ⟨some 46, AOp.mkif 75 (Opd.t 45), none, none⟩,
 ⟨some 47, AOp.build [D.bool false] [], none, none⟩,
 ⟨some 48, AOp.mkif 77 (Opd.t 47), none, none⟩,
 ⟨some 49, AOp.build [D.bool false] [(0, 1, Opd.c (D.bool true))], none, none⟩,
 ⟨some 50, AOp.mkif 77 (Opd.t 49), none, none⟩,
 ⟨some 51, AOp.bslice 1 67 (D.nili) 3 [(0, Opd.t 46), (1, Opd.t 48), (2, Opd.t 50)], none, none⟩,
 ⟨some 52, AOp.len 1 (Opd.t 51), none, none⟩,
 ⟨some 53, AOp.mv (Opd.c (D.int .i64 0)), none, none⟩]) 
 (AC.block 0 
 (AC.loop [6, 51, 52, 53] 
 (AC.seq
 
 (AC.reg [⟨some 54, AOp.bin .lss (Opd.t 53) (Opd.t 52), none, none⟩]) 
 (AC.seq
 
 (AC.cond (Opd.t 54) 
 (AC.skip) 
 (AC.exit 0)) 
 (AC.seq
 
 (AC.block 1 
 (AC.seq
 
 (AC.reg [⟨some 55, AOp.iaddr 1 (Opd.t 51) (Opd.t 53), none, none⟩,
 ⟨some 56, AOp.load none (Opd.t 55), none, none⟩,
 ⟨some 8, AOp.mv (Opd.t 56), none, none⟩]) 
 (AC.reg [⟨some 57, AOp.mv (Opd.t 6), none, none⟩,
 ⟨some 58, AOp.nilchk (Opd.t 57), none, none⟩,
 ⟨some 59, AOp.faddr 6 (Opd.t 58), none, none⟩,
 ⟨some 60, AOp.load none (Opd.t 59), none, none⟩,
 ⟨some 61, AOp.mv (Opd.t 8), none, none⟩,
 ⟨some 62, AOp.call false 18 [Opd.t 60, Opd.t 61], none, none⟩]))) 
 (AC.reg [⟨some 63, AOp.bin .add (Opd.t 53) (Opd.c (D.int .i64 1)), none, none⟩,
 ⟨some 53, AOp.mv (Opd.t 63), none, none⟩]))))))) 
 (AC.seq
 
 (AC.reg [⟨some 64, AOp.mv (Opd.t 6), none, none⟩,
 ⟨some 4, AOp.mv (Opd.t 64), none, none⟩,
 ⟨some 5, AOp.mv (Opd.c (D.int .i64 0)), none, none⟩]) 
 (AC.ret))))) ⟩
/-- lexicon/lexiconref19.New -/
def code8 : AFn := ⟨ [ARes.tmp 2, ARes.tmp 3],  AC.seq
 
 (AC.reg [⟨some 1, AOp.lbox (Opd.t 0), none, none⟩,
 ⟨some 2, AOp.mv (Opd.c (D.nilp)), none, none⟩,
 ⟨some 3, AOp.mv (Opd.c (D.int .i64 0)), none, none⟩]) 
 (AC.seq
 
 (AC.seq
 
 (AC.reg [⟨some 5, AOp.faddr 0 (Opd.t 1), none, none⟩,
 ⟨some 6, AOp.lload 1 none (Opd.t 5), none, none⟩,
 ⟨some 7, AOp.bin .lss (Opd.t 6) (Opd.c (D.int .i64 0)), none, none⟩,
 ⟨some 8, AOp.mv (Opd.t 7), none, none⟩,
 ⟨some 9, AOp.faddr 0 (Opd.t 1), some (8, false), none⟩,
 ⟨some 10, AOp.lload 1 none (Opd.t 9), some (8, false), none⟩,
 ⟨some 11, AOp.bin .gtr (Opd.t 10) (Opd.c (D.int .i64 100000)), some (8, false), none⟩,
 ⟨some 12, AOp.pick (Opd.t 8) (Opd.c (D.bool true)) (Opd.t 11), none, none⟩,
 ⟨some 13, AOp.mv (Opd.t 12), none, none⟩,
 ⟨some 14, AOp.faddr 1 (Opd.t 1), some (13, false), none⟩,
 ⟨some 15, AOp.lload 1 none (Opd.t 14), some (13, false), none⟩,
 ⟨some 16, AOp.bin .lss (Opd.t 15) (Opd.c (D.int .i64 0)), some (13, false), none⟩,
 ⟨some 17, AOp.pick (Opd.t 13) (Opd.c (D.bool true)) (Opd.t 16), none, none⟩,
 ⟨some 18, AOp.mv (Opd.t 17), none, none⟩,
 ⟨some 19, AOp.faddr 1 (Opd.t 1), some (18, false), none⟩,
 ⟨some 20, AOp.lload 1 none (Opd.t 19), some (18, false), none⟩,
 ⟨some 21, AOp.bin .gtr (Opd.t 20) (Opd.c (D.int .i64 65536)), some (18, false), none⟩,
 ⟨some 22, AOp.pick (Opd.t 18) (Opd.c (D.bool true)) (Opd.t 21), none, none⟩,
 ⟨some 23, AOp.mv (Opd.t 22), none, none⟩,
 ⟨some 24, AOp.faddr 2 (Opd.t 1), some (23, false), none⟩,
 ⟨some 25, AOp.lload 1 none (Opd.t 24), some (23, false), none⟩,
 ⟨some 26, AOp.bin .lss (Opd.t 25) (Opd.c (D.int .i64 0)), some (23, false), none⟩,
 ⟨some 27, AOp.pick (Opd.t 23) (Opd.c (D.bool true)) (Opd.t 26), none, none⟩,
 ⟨some 28, AOp.mv (Opd.t 27), none, none⟩,
 ⟨some 29, AOp.faddr 2 (Opd.t 1), some (28, false), none⟩,
 ⟨some 30, AOp.lload 1 none (Opd.t 29), some (28, false), none⟩,
 ⟨some 31, AOp.bin .gtr (Opd.t 30) (Opd.c (D.int .i64 256)), some (28, false), none⟩,
 ⟨some 32, AOp.pick (Opd.t 28) (Opd.c (D.bool true)) (Opd.t 31), none, none⟩]) 
 (AC.cond (Opd.t 32) 
 (AC.seq
 
 (AC.reg [⟨some 2, AOp.mv (Opd.c (D.nilp)), none, none⟩,
 ⟨some 3, AOp.mv (Opd.c (D.int .i64 1)), none, none⟩]) 
 (AC.ret)) 
 (AC.skip))) 
 (AC.seq
 
 (AC.reg [⟨some 33, AOp.lload 1 (some 5) (Opd.t 1), none, none⟩,
 ⟨some 34, AOp.build [D.int .i64 0, D.int .i64 0, D.int .i64 0, D.int .i64 0] [], none, none⟩,
 ⟨some 35, AOp.box 84 (Opd.t 34), none, none⟩,
 ⟨some 36, AOp.build [D.vs true 0 [], D.int .i64 0, D.int .i64 0, D.int .i64 0, D.int .i64 0, D.vs true 0 [], D.vs true 0 [], D.nilp] [(2, 5, Opd.t 33), (7, 1, Opd.t 35)], none, none⟩,
 ⟨some 37, AOp.box 87 (Opd.t 36), none, none⟩,
 ⟨some 4, AOp.mv (Opd.t 37), none, none⟩]) 
 (AC.seq
 
 (AC.reg [⟨some 38, AOp.mv (Opd.t 4), none, none⟩,
 ⟨some 39, AOp.mv (Opd.t 4), none, none⟩,
 ⟨some 40, AOp.nilchk (Opd.t 39), none, none⟩,
 ⟨some 41, AOp.faddr 0 (Opd.t 40), none, none⟩,
 ⟨some 42, AOp.load none (Opd.t 41), none, none⟩,
 ⟨some 43, AOp.build [D.int .i64 0, D.int .i64 0, D.bool false, D.bool false, D.bool false, D.vs true 0 [], D.str [], D.vs true 0 [], D.nilp, D.int .i64 0, D.vs true 0 [], D.int .i64 0, D.int .i64 0, D.int .i64 0, D.int .i64 0, D.nilp, D.nilp, D.int .i64 0, D.nilp, D.bool false, D.bool false, D.bool false] [(0, 1, Opd.c (D.int .i64 1))], none, none⟩,
 ⟨some 44, AOp.build [D.int .i64 0, D.int .i64 0, D.bool false, D.bool false, D.bool false, D.vs true 0 [], D.str [], D.vs true 0 [], D.nilp, D.int .i64 0, D.vs true 0 [], D.int .i64 0, D.int .i64 0, D.int .i64 0, D.int .i64 0, D.nilp, D.nilp, D.int .i64 0, D.nilp, D.bool false, D.bool false, D.bool false] [(0, 1, Opd.c (D.int .i64 2))], none, none⟩,
 ⟨some 45, AOp.build [D.int .i64 0, D.int .i64 0, D.bool false, D.bool false, D.bool false, D.vs true 0 [], D.str [], D.vs true 0 [], D.nilp, D.int .i64 0, D.vs true 0 [], D.int .i64 0, D.int .i64 0, D.int .i64 0, D.int .i64 0, D.nilp, D.nilp, D.int .i64 0, D.nilp, D.bool false, D.bool false, D.bool false] [(0, 1, Opd.c (D.int .i64 2)), (3, 1, Opd.c (D.bool true))], none, none⟩,
 ⟨some 46, AOp.vslice 22 (D.agg [D.int .i64 0, D.int .i64 0, D.bool false, D.bool false, D.bool false, D.vs true 0 [], D.str [], D.vs true 0 [], D.nilp, D.int .i64 0, D.vs true 0 [], D.int .i64 0, D.int .i64 0, D.int .i64 0, D.int .i64 0, D.nilp, D.nilp, D.int .i64 0, D.nilp, D.bool false, D.bool false, D.bool false]) 3 [(0, Opd.t 43), (1, Opd.t 44), (2, Opd.t 45)], none, none⟩,
 ⟨some 47, AOp.append 22 208 93 (Opd.t 42) (Opd.t 46), none, none⟩,
 ⟨some 48, AOp.nilchk (Opd.t 38), none, none⟩,
 ⟨some 49, AOp.faddr 0 (Opd.t 48), none, none⟩,
 ⟨none, AOp.store 1 (Opd.t 49) (Opd.t 47), none, none⟩]) 
 (AC.seq
 
 (AC.reg [⟨some 50, AOp.mv (Opd.t 4), none, none⟩,
 ⟨some 2, AOp.mv (Opd.t 50), none, none⟩,
 ⟨some 3, AOp.mv (Opd.c (D.int .i64 0)), none, none⟩]) 
 (AC.ret))))) ⟩
/-- (*lexicon/store.Store).Build -/
def code9 : AFn := ⟨ [ARes.tmp 4, ARes.tmp 5],  AC.seq
 
 (AC.reg [⟨some 4, AOp.mv (Opd.c (D.vs true 0 [])), none, none⟩,
 ⟨some 5, AOp.mv (Opd.c (D.int .i64 0)), none, none⟩]) 
 (AC.seq
 
 (AC.seq
 
 (AC.reg [⟨some 17, AOp.mv (Opd.t 0), none, none⟩,
 ⟨some 18, AOp.eq (ET.ptr) false true (Opd.t 17) (Opd.c (D.nilp)), none, none⟩]) 
 (AC.cond (Opd.t 18) 
 (AC.seq
 
 (AC.reg [⟨some 4, AOp.mv (Opd.c (D.vs true 0 [])), none, none⟩,
 ⟨some 5, AOp.mv (Opd.c (D.int .i64 1)), none, none⟩]) 
 (AC.ret)) 
 (AC.skip))) 
 (AC.seq
 
 (AC.reg [⟨some 19, AOp.mv (Opd.t 0), none, none⟩,
 ⟨some 20, AOp.mv (Opd.t 1), none, none⟩,
 ⟨some 21, AOp.build [D.nilp, D.vs true 0 [], D.vs true 0 []] [(0, 1, Opd.t 19), (1, 1, Opd.t 20)], none, none⟩,
 ⟨some 22, AOp.box 96 (Opd.t 21), none, none⟩,
 ⟨some 6, AOp.mv (Opd.t 22), none, none⟩]) 
 (AC.seq
 
 (AC.seq
 
 (AC.reg [⟨some 23, AOp.mv (Opd.t 1), none, none⟩,
 ⟨some 24, AOp.len 1 (Opd.t 23), none, none⟩,
 ⟨some 25, AOp.mv (Opd.c (D.int .i64 0)), none, none⟩]) 
 (AC.block 0 
 (AC.loop [0, 1, 6, 24, 25] 
 (AC.seq
 
 (AC.reg [⟨some 26, AOp.bin .lss (Opd.t 25) (Opd.t 24), none, none⟩]) 
 (AC.seq
 
 (AC.cond (Opd.t 26) 
 (AC.skip) 
 (AC.exit 0)) 
 (AC.seq
 
 (AC.block 1 
 (AC.seq
 
 (AC.reg [⟨some 27, AOp.mv (Opd.t 25), none, none⟩,
 ⟨some 7, AOp.mv (Opd.t 27), none, none⟩]) 
 (AC.seq
 
 (AC.reg [⟨some 28, AOp.mv (Opd.t 6), none, none⟩,
 ⟨some 29, AOp.mv (Opd.t 7), none, none⟩,
 ⟨some 30, AOp.call false 19 [Opd.t 28, Opd.t 29], none, none⟩,
 ⟨some 8, AOp.mv (Opd.t 30), none, none⟩]) 
 (AC.seq
 
 (AC.reg [⟨some 31, AOp.mv (Opd.t 8), none, none⟩,
 ⟨some 32, AOp.bin .neq (Opd.t 31) (Opd.c (D.int .i64 0)), none, none⟩]) 
 (AC.cond (Opd.t 32) 
 (AC.seq
 
 (AC.reg [⟨some 33, AOp.mv (Opd.t 8), none, none⟩,
 ⟨some 4, AOp.mv (Opd.c (D.vs true 0 [])), none, none⟩,
 ⟨some 5, AOp.mv (Opd.t 33), none, none⟩]) 
 (AC.ret)) 
 (AC.skip)))))) 
 (AC.reg [⟨some 34, AOp.bin .add (Opd.t 25) (Opd.c (D.int .i64 1)), none, none⟩,
 ⟨some 25, AOp.mv (Opd.t 34), none, none⟩]))))))) 
 (AC.seq
 
 (AC.seq
 
 (AC.reg [⟨some 35, AOp.mv (Opd.t 1), none, none⟩,
 ⟨some 36, AOp.len 1 (Opd.t 35), none, none⟩,
 ⟨some 37, AOp.mv (Opd.c (D.int .i64 0)), none, none⟩]) 
 (AC.block 2 
 (AC.loop [0, 1, 6, 35, 36, 37] 
 (AC.seq
 
 (AC.reg [⟨some 38, AOp.bin .lss (Opd.t 37) (Opd.t 36), none, none⟩]) 
 (AC.seq
 
 (AC.cond (Opd.t 38) 
 (AC.skip) 
 (AC.exit 2)) 
 (AC.seq
 
 (AC.block 3 
 (AC.seq
 
 (AC.reg [⟨some 39, AOp.iaddr 8 (Opd.t 35) (Opd.t 37), none, none⟩,
 ⟨some 40, AOp.load (some 8) (Opd.t 39), none, none⟩,
 ⟨some 10, AOp.lbox (Opd.c (D.agg [D.int .i64 0, D.bool false, D.bool false, D.vs true 0 [], D.str [], D.vs true 0 [], D.bool false, D.bool false])), none, none⟩,
 ⟨none, AOp.lstore 10 8 (Opd.t 10) (Opd.t 40), none, none⟩]) 
 (AC.dreg 1 [(⟨some 41, AOp.mv (Opd.t 6), none, none⟩, []),
 (⟨some 42, AOp.mv (Opd.t 6), none, none⟩, []),
 (⟨some 43, AOp.nilchk (Opd.t 42), none, none⟩, []),
 (⟨some 44, AOp.faddr 2 (Opd.t 43), none, none⟩, []),
 (⟨some 45, AOp.load none (Opd.t 44), none, none⟩, []),
 (⟨some 46, AOp.mv (Opd.t 6), none, none⟩, []),
 (⟨some 47, AOp.lload 10 (some 8) (Opd.t 10), none, none⟩, []),
 (⟨some 48, AOp.call false 20 [Opd.t 46, Opd.t 47], none, none⟩, [4]), (⟨some 49, AOp.vslice 1 (D.int .i64 0) 1 [(0, Opd.t 48)], none, none⟩, []),
 (⟨some 50, AOp.append 1 8 3 (Opd.t 45) (Opd.t 49), none, some 0⟩, []),
 (⟨some 51, AOp.nilchk (Opd.t 41), none, none⟩, []),
 (⟨some 52, AOp.faddr 2 (Opd.t 51), none, none⟩, []),
 (⟨none, AOp.store 1 (Opd.t 52) (Opd.t 50), none, none⟩, [])]))) 
 (AC.reg [⟨some 53, AOp.bin .add (Opd.t 37) (Opd.c (D.int .i64 1)), none, none⟩,
 ⟨some 37, AOp.mv (Opd.t 53), none, none⟩]))))))) 
 (AC.seq
 
 (AC.seq
 
 (AC.reg [⟨some 54, AOp.mv (Opd.t 1), none, none⟩,
 ⟨some 55, AOp.len 1 (Opd.t 54), none, none⟩,
 ⟨some 56, AOp.mv (Opd.c (D.int .i64 0)), none, none⟩]) 
 (AC.block 4 
 (AC.loop [0, 6, 54, 55, 56] 
 (AC.seq
 
 (AC.reg [⟨some 57, AOp.bin .lss (Opd.t 56) (Opd.t 55), none, none⟩]) 
 (AC.seq
 
 (AC.cond (Opd.t 57) 
 (AC.skip) 
 (AC.exit 4)) 
 (AC.seq
 
 (AC.block 5 
 (AC.seq
 
 (AC.reg [⟨some 58, AOp.mv (Opd.t 56), none, none⟩,
 ⟨some 59, AOp.iaddr 8 (Opd.t 54) (Opd.t 56), none, none⟩,
 ⟨some 60, AOp.load (some 8) (Opd.t 59), none, none⟩,
 ⟨some 12, AOp.lbox (Opd.c (D.agg [D.int .i64 0, D.bool false, D.bool false, D.vs true 0 [], D.str [], D.vs true 0 [], D.bool false, D.bool false])), none, none⟩,
 ⟨some 11, AOp.mv (Opd.t 58), none, none⟩,
 ⟨none, AOp.lstore 12 8 (Opd.t 12) (Opd.t 60), none, none⟩]) 
 (AC.seq
 
 (AC.reg [⟨some 62, AOp.mv (Opd.t 0), none, none⟩,
 ⟨some 63, AOp.mv (Opd.t 6), none, none⟩,
 ⟨some 64, AOp.nilchk (Opd.t 63), none, none⟩,
 ⟨some 65, AOp.faddr 2 (Opd.t 64), none, none⟩,
 ⟨some 66, AOp.load none (Opd.t 65), none, none⟩,
 ⟨some 67, AOp.mv (Opd.t 11), none, none⟩,
 ⟨some 68, AOp.iaddr 1 (Opd.t 66) (Opd.t 67), none, none⟩,
 ⟨some 69, AOp.load none (Opd.t 68), none, none⟩,
 ⟨some 70, AOp.call false 21 [Opd.t 62, Opd.t 69], none, none⟩,
 ⟨some 71, AOp.tassert 99 (D.nilp) true (Opd.t 70), none, none⟩,
 ⟨some 61, AOp.mv (Opd.t 71), none, none⟩,
 ⟨some 72, AOp.extract 0 (Opd.t 61), none, none⟩,
 ⟨some 73, AOp.extract 1 (Opd.t 61), none, none⟩,
 ⟨some 13, AOp.mv (Opd.t 72), none, none⟩,
 ⟨some 14, AOp.mv (Opd.t 73), none, none⟩]) 
 (AC.seq
 
 (AC.reg [⟨some 74, AOp.mv (Opd.t 14), none, none⟩]) 
 (AC.cond (Opd.t 74) 
 (AC.seq
 
 (AC.reg [⟨some 75, AOp.faddr 5 (Opd.t 12), none, none⟩,
 ⟨some 76, AOp.lload 12 none (Opd.t 75), none, none⟩,
 ⟨some 77, AOp.len 1 (Opd.t 76), none, none⟩,
 ⟨some 78, AOp.mv (Opd.c (D.int .i64 0)), none, none⟩]) 
 (AC.block 6 
 (AC.loop [0, 6, 13, 54, 55, 56, 76, 77, 78] 
 (AC.seq
 
 (AC.reg [⟨some 79, AOp.bin .lss (Opd.t 78) (Opd.t 77), none, none⟩]) 
 (AC.seq
 
 (AC.cond (Opd.t 79) 
 (AC.skip) 
 (AC.exit 6)) 
 (AC.seq
 
 (AC.block 7 
 (AC.seq
 
 (AC.reg [⟨some 80, AOp.mv (Opd.t 78), none, none⟩,
 ⟨some 81, AOp.iaddr 1 (Opd.t 76) (Opd.t 78), none, none⟩,
 ⟨some 82, AOp.load none (Opd.t 81), none, none⟩,
 ⟨some 15, AOp.mv (Opd.t 80), none, none⟩,
 ⟨some 16, AOp.mv (Opd.t 82), none, none⟩]) 
 (AC.dreg 0 [(⟨some 83, AOp.mv (Opd.t 13), none, none⟩, []),
 (⟨some 84, AOp.nilchk (Opd.t 83), none, none⟩, []),
 (⟨some 85, AOp.faddr 1 (Opd.t 84), none, none⟩, []),
 (⟨some 86, AOp.load none (Opd.t 85), none, none⟩, []),
 (⟨some 87, AOp.mv (Opd.t 15), none, none⟩, []),
 (⟨some 88, AOp.mv (Opd.t 6), none, none⟩, []),
 (⟨some 89, AOp.nilchk (Opd.t 88), none, none⟩, []),
 (⟨some 90, AOp.faddr 2 (Opd.t 89), none, none⟩, []),
 (⟨some 91, AOp.load none (Opd.t 90), none, none⟩, []),
 (⟨some 92, AOp.mv (Opd.t 16), none, none⟩, []),
 (⟨some 93, AOp.iaddr 1 (Opd.t 91) (Opd.t 92), none, none⟩, []),
 (⟨some 94, AOp.load none (Opd.t 93), none, none⟩, []),
 (⟨some 95, AOp.iaddr 1 (Opd.t 86) (Opd.t 87), none, none⟩, []),
 (⟨none, AOp.store 1 (Opd.t 95) (Opd.t 94), none, none⟩, [])]))) 
 (AC.reg [⟨some 96, AOp.bin .add (Opd.t 78) (Opd.c (D.int .i64 1)), none, none⟩,
 ⟨some 78, AOp.mv (Opd.t 96), none, none⟩]))))))) 
 (AC.skip)))))) 
 (AC.reg [⟨some 97, AOp.bin .add (Opd.t 56) (Opd.c (D.int .i64 1)), none, none⟩,
 ⟨some 56, AOp.mv (Opd.t 97), none, none⟩]))))))) 
 (AC.seq
 
 (AC.dreg 2 [(⟨some 98, AOp.mv (Opd.t 6), none, none⟩, []),
 (⟨some 99, AOp.nilchk (Opd.t 98), none, none⟩, []),
 (⟨some 100, AOp.faddr 2 (Opd.t 99), none, none⟩, []),
 (⟨some 101, AOp.load none (Opd.t 100), none, none⟩, []),
 (⟨some 102, AOp.len 1 (Opd.t 101), none, none⟩, []),
 (⟨some 103, AOp.mkslice 1 8 3 (D.int .i64 0) (Opd.c (D.int .i64 0)) (Opd.t 102), none, some 0⟩, []),
 (⟨some 104, AOp.mv (Opd.t 6), none, none⟩, []),
 (⟨some 105, AOp.nilchk (Opd.t 104), none, none⟩, []),
 (⟨some 106, AOp.faddr 2 (Opd.t 105), none, none⟩, []),
 (⟨some 107, AOp.load none (Opd.t 106), none, none⟩, [5]), (⟨some 108, AOp.append 1 8 3 (Opd.t 103) (Opd.t 107), none, some 1⟩, []),
 (⟨some 4, AOp.mv (Opd.t 108), none, none⟩, []),
 (⟨some 5, AOp.mv (Opd.c (D.int .i64 0)), none, none⟩, [])]) 
 (AC.ret))))))) ⟩
/-- (*lexicon/lexiconref19.Store).Build -/
def code10 : AFn := ⟨ [ARes.tmp 4, ARes.tmp 5],  AC.seq
 
 (AC.reg [⟨some 4, AOp.mv (Opd.c (D.vs true 0 [])), none, none⟩,
 ⟨some 5, AOp.mv (Opd.c (D.int .i64 0)), none, none⟩]) 
 (AC.seq
 
 (AC.seq
 
 (AC.reg [⟨some 6, AOp.mv (Opd.c (D.int .i64 0)), none, none⟩]) 
 (AC.block 0 
 (AC.loop [0, 1, 6] 
 (AC.seq
 
 (AC.seq
 
 (AC.reg [⟨some 12, AOp.mv (Opd.t 6), none, none⟩,
 ⟨some 13, AOp.mv (Opd.t 1), none, none⟩,
 ⟨some 14, AOp.len 1 (Opd.t 13), none, none⟩,
 ⟨some 15, AOp.bin .lss (Opd.t 12) (Opd.t 14), none, none⟩]) 
 (AC.cond (Opd.t 15) 
 (AC.skip) 
 (AC.exit 0))) 
 (AC.seq
 
 (AC.block 1 
 (AC.seq
 
 (AC.reg [⟨some 18, AOp.mv (Opd.t 1), none, none⟩,
 ⟨some 19, AOp.mv (Opd.t 6), none, none⟩,
 ⟨some 20, AOp.mv (Opd.t 0), none, none⟩,
 ⟨some 21, AOp.nilchk (Opd.t 20), none, none⟩,
 ⟨some 22, AOp.faddr 2 (Opd.t 21), none, none⟩,
 ⟨some 23, AOp.faddr 1 (Opd.t 22), none, none⟩,
 ⟨some 24, AOp.load none (Opd.t 23), none, none⟩,
 ⟨some 25, AOp.call false 22 [Opd.t 18, Opd.t 19, Opd.t 24], none, none⟩,
 ⟨some 7, AOp.mv (Opd.t 25), none, none⟩]) 
 (AC.seq
 
 (AC.reg [⟨some 26, AOp.mv (Opd.t 7), none, none⟩,
 ⟨some 27, AOp.bin .neq (Opd.t 26) (Opd.c (D.int .i64 0)), none, none⟩]) 
 (AC.cond (Opd.t 27) 
 (AC.seq
 
 (AC.reg [⟨some 28, AOp.mv (Opd.t 7), none, none⟩,
 ⟨some 4, AOp.mv (Opd.c (D.vs true 0 [])), none, none⟩,
 ⟨some 5, AOp.mv (Opd.t 28), none, none⟩]) 
 (AC.ret)) 
 (AC.skip))))) 
 (AC.reg [⟨some 16, AOp.mv (Opd.t 6), none, none⟩,
 ⟨some 17, AOp.bin .add (Opd.t 16) (Opd.c (D.int .i64 1)), none, none⟩,
 ⟨some 6, AOp.mv (Opd.t 17), none, none⟩])))))) 
 (AC.seq
 
 (AC.reg [⟨some 8, AOp.mv (Opd.c (D.vs true 0 [])), none, none⟩]) 
 (AC.seq
 
 (AC.seq
 
 (AC.reg [⟨some 9, AOp.mv (Opd.c (D.int .i64 0)), none, none⟩]) 
 (AC.block 2 
 (AC.loop [0, 1, 8, 9] 
 (AC.seq
 
 (AC.seq
 
 (AC.reg [⟨some 29, AOp.mv (Opd.t 9), none, none⟩,
 ⟨some 30, AOp.mv (Opd.t 1), none, none⟩,
 ⟨some 31, AOp.len 1 (Opd.t 30), none, none⟩,
 ⟨some 32, AOp.bin .lss (Opd.t 29) (Opd.t 31), none, none⟩]) 
 (AC.cond (Opd.t 32) 
 (AC.skip) 
 (AC.exit 2))) 
 (AC.seq
 
 (AC.block 3 
 (AC.reg [⟨some 35, AOp.mv (Opd.t 8), none, none⟩,
 ⟨some 36, AOp.mv (Opd.t 0), none, none⟩,
 ⟨some 37, AOp.mv (Opd.t 1), none, none⟩,
 ⟨some 38, AOp.mv (Opd.t 8), none, none⟩,
 ⟨some 39, AOp.mv (Opd.t 9), none, none⟩,
 ⟨some 40, AOp.call false 23 [Opd.t 36, Opd.t 37, Opd.t 38, Opd.t 39], none, none⟩,
 ⟨some 41, AOp.vslice 1 (D.int .i64 0) 1 [(0, Opd.t 40)], none, none⟩,
 ⟨some 42, AOp.append 1 8 3 (Opd.t 35) (Opd.t 41), none, none⟩,
 ⟨some 8, AOp.mv (Opd.t 42), none, none⟩])) 
 (AC.reg [⟨some 33, AOp.mv (Opd.t 9), none, none⟩,
 ⟨some 34, AOp.bin .add (Opd.t 33) (Opd.c (D.int .i64 1)), none, none⟩,
 ⟨some 9, AOp.mv (Opd.t 34), none, none⟩])))))) 
 (AC.seq
 
 (AC.seq
 
 (AC.reg [⟨some 10, AOp.mv (Opd.c (D.int .i64 0)), none, none⟩]) 
 (AC.block 4 
 (AC.loop [0, 1, 8, 10] 
 (AC.seq
 
 (AC.seq
 
 (AC.reg [⟨some 43, AOp.mv (Opd.t 10), none, none⟩,
 ⟨some 44, AOp.mv (Opd.t 1), none, none⟩,
 ⟨some 45, AOp.len 1 (Opd.t 44), none, none⟩,
 ⟨some 46, AOp.bin .lss (Opd.t 43) (Opd.t 45), none, none⟩]) 
 (AC.cond (Opd.t 46) 
 (AC.skip) 
 (AC.exit 4))) 
 (AC.seq
 
 (AC.block 5 
 (AC.seq
 
 (AC.reg [⟨some 49, AOp.mv (Opd.t 1), none, none⟩,
 ⟨some 50, AOp.mv (Opd.t 10), none, none⟩,
 ⟨some 51, AOp.iaddr 8 (Opd.t 49) (Opd.t 50), none, none⟩,
 ⟨some 52, AOp.faddr 0 (Opd.t 51), none, none⟩,
 ⟨some 53, AOp.load none (Opd.t 52), none, none⟩,
 ⟨some 54, AOp.bin .eql (Opd.t 53) (Opd.c (D.int .i64 6)), none, none⟩]) 
 (AC.cond (Opd.t 54) 
 (AC.seq
 
 (AC.reg [⟨some 11, AOp.mv (Opd.c (D.int .i64 0)), none, none⟩]) 
 (AC.block 6 
 (AC.loop [0, 1, 8, 10, 11] 
 (AC.seq
 
 (AC.seq
 
 (AC.reg [⟨some 55, AOp.mv (Opd.t 11), none, none⟩,
 ⟨some 56, AOp.mv (Opd.t 1), none, none⟩,
 ⟨some 57, AOp.mv (Opd.t 10), none, none⟩,
 ⟨some 58, AOp.iaddr 8 (Opd.t 56) (Opd.t 57), none, none⟩,
 ⟨some 59, AOp.faddr 5 (Opd.t 58), none, none⟩,
 ⟨some 60, AOp.load none (Opd.t 59), none, none⟩,
 ⟨some 61, AOp.len 1 (Opd.t 60), none, none⟩,
 ⟨some 62, AOp.bin .lss (Opd.t 55) (Opd.t 61), none, none⟩]) 
 (AC.cond (Opd.t 62) 
 (AC.skip) 
 (AC.exit 6))) 
 (AC.seq
 
 (AC.block 7 
 (AC.dreg 1 [(⟨some 65, AOp.mv (Opd.t 0), none, none⟩, []),
 (⟨some 66, AOp.nilchk (Opd.t 65), none, none⟩, []),
 (⟨some 67, AOp.faddr 0 (Opd.t 66), none, none⟩, []),
 (⟨some 68, AOp.load none (Opd.t 67), none, none⟩, []),
 (⟨some 69, AOp.mv (Opd.t 8), none, none⟩, []),
 (⟨some 70, AOp.mv (Opd.t 10), none, none⟩, []),
 (⟨some 71, AOp.iaddr 1 (Opd.t 69) (Opd.t 70), none, none⟩, []),
 (⟨some 72, AOp.load none (Opd.t 71), none, none⟩, []),
 (⟨some 73, AOp.mv (Opd.t 0), none, none⟩, []),
 (⟨some 74, AOp.nilchk (Opd.t 73), none, none⟩, []),
 (⟨some 75, AOp.faddr 0 (Opd.t 74), none, none⟩, []),
 (⟨some 76, AOp.load none (Opd.t 75), none, none⟩, []),
 (⟨some 77, AOp.mv (Opd.t 8), none, none⟩, []),
 (⟨some 78, AOp.mv (Opd.t 10), none, none⟩, []),
 (⟨some 79, AOp.iaddr 1 (Opd.t 77) (Opd.t 78), none, none⟩, []),
 (⟨some 80, AOp.load none (Opd.t 79), none, none⟩, []),
 (⟨some 81, AOp.iaddr 22 (Opd.t 76) (Opd.t 80), none, none⟩, []),
 (⟨some 82, AOp.faddr 7 (Opd.t 81), none, none⟩, []),
 (⟨some 83, AOp.load none (Opd.t 82), none, none⟩, []),
 (⟨some 84, AOp.mv (Opd.t 8), none, none⟩, []),
 (⟨some 85, AOp.mv (Opd.t 1), none, none⟩, []),
 (⟨some 86, AOp.mv (Opd.t 10), none, none⟩, []),
 (⟨some 87, AOp.iaddr 8 (Opd.t 85) (Opd.t 86), none, none⟩, []),
 (⟨some 88, AOp.faddr 5 (Opd.t 87), none, none⟩, []),
 (⟨some 89, AOp.load none (Opd.t 88), none, none⟩, []),
 (⟨some 90, AOp.mv (Opd.t 11), none, none⟩, []),
 (⟨some 91, AOp.iaddr 1 (Opd.t 89) (Opd.t 90), none, none⟩, []),
 (⟨some 92, AOp.load none (Opd.t 91), none, none⟩, []),
 (⟨some 93, AOp.iaddr 1 (Opd.t 84) (Opd.t 92), none, none⟩, []),
 (⟨some 94, AOp.load none (Opd.t 93), none, none⟩, []),
 (⟨some 95, AOp.vslice 1 (D.int .i64 0) 1 [(0, Opd.t 94)], none, none⟩, []),
 (⟨some 96, AOp.append 1 8 3 (Opd.t 83) (Opd.t 95), none, some 0⟩, [3, 6, 7]), (⟨some 97, AOp.iaddr 22 (Opd.t 68) (Opd.t 72), none, none⟩, []),
 (⟨some 98, AOp.faddr 7 (Opd.t 97), none, none⟩, []),
 (⟨none, AOp.store 1 (Opd.t 98) (Opd.t 96), none, none⟩, [])])) 
 (AC.reg [⟨some 63, AOp.mv (Opd.t 11), none, none⟩,
 ⟨some 64, AOp.bin .add (Opd.t 63) (Opd.c (D.int .i64 1)), none, none⟩,
 ⟨some 11, AOp.mv (Opd.t 64), none, none⟩])))))) 
 (AC.skip)))) 
 (AC.reg [⟨some 47, AOp.mv (Opd.t 10), none, none⟩,
 ⟨some 48, AOp.bin .add (Opd.t 47) (Opd.c (D.int .i64 1)), none, none⟩,
 ⟨some 10, AOp.mv (Opd.t 48), none, none⟩])))))) 
 (AC.seq
 
 (AC.reg [⟨some 99, AOp.mv (Opd.t 8), none, none⟩,
 ⟨some 4, AOp.mv (Opd.t 99), none, none⟩,
 ⟨some 5, AOp.mv (Opd.c (D.int .i64 0)), none, none⟩]) 
 (AC.ret)))))) ⟩
/-- (*lexicon/store.Store).Text -/
def code11 : AFn := ⟨ [ARes.tmp 4, ARes.tmp 5],  AC.seq
 
 (AC.reg [⟨some 4, AOp.mv (Opd.c (D.str [])), none, none⟩,
 ⟨some 5, AOp.mv (Opd.c (D.bool false)), none, none⟩]) 
 (AC.seq
 
 (AC.reg [⟨some 9, AOp.mv (Opd.t 0), none, none⟩,
 ⟨some 10, AOp.mv (Opd.t 1), none, none⟩,
 ⟨some 11, AOp.call false 21 [Opd.t 9, Opd.t 10], none, none⟩,
 ⟨some 12, AOp.tassert 109 (D.agg [D.str []]) true (Opd.t 11), none, none⟩,
 ⟨some 8, AOp.mv (Opd.t 12), none, none⟩,
 ⟨some 13, AOp.extract 0 (Opd.t 8), none, none⟩,
 ⟨some 14, AOp.extract 1 (Opd.t 8), none, none⟩,
 ⟨some 6, AOp.lbox (Opd.c (D.agg [D.str []])), none, none⟩,
 ⟨none, AOp.lstore 6 1 (Opd.t 6) (Opd.t 13), none, none⟩,
 ⟨some 7, AOp.mv (Opd.t 14), none, none⟩]) 
 (AC.seq
 
 (AC.reg [⟨some 15, AOp.faddr 0 (Opd.t 6), none, none⟩,
 ⟨some 16, AOp.lload 6 none (Opd.t 15), none, none⟩,
 ⟨some 17, AOp.mv (Opd.t 7), none, none⟩,
 ⟨some 4, AOp.mv (Opd.t 16), none, none⟩,
 ⟨some 5, AOp.mv (Opd.t 17), none, none⟩]) 
 (AC.ret))) ⟩
/-- lexicon/show.all -/
def code12 : AFn := ⟨ [ARes.tmp 4],  AC.seq
 
 (AC.reg [⟨some 2, AOp.box 30 (Opd.t 0), none, none⟩,
 ⟨some 3, AOp.box 3 (Opd.t 1), none, none⟩,
 ⟨some 4, AOp.mv (Opd.c (D.nilf)), none, none⟩]) 
 (AC.seq
 
 (AC.reg [⟨some 5, AOp.mkfn (Fn.func 24) [] [Opd.t 2, Opd.t 3], none, none⟩,
 ⟨some 4, AOp.mv (Opd.t 5), none, none⟩]) 
 (AC.ret)) ⟩
/-- (*strings.Builder).Len -/
def code13 : AFn := ⟨ [ARes.tmp 2],  AC.seq
 
 (AC.reg [⟨some 2, AOp.mv (Opd.c (D.int .i64 0)), none, none⟩]) 
 (AC.seq
 
 (AC.reg [⟨some 3, AOp.mv (Opd.t 0), none, none⟩,
 ⟨some 4, AOp.nilchk (Opd.t 3), none, none⟩,
 ⟨some 5, AOp.faddr 1 (Opd.t 4), none, none⟩,
 ⟨some 6, AOp.load none (Opd.t 5), none, none⟩,
 ⟨some 7, AOp.len 1 (Opd.t 6), none, none⟩,
 ⟨some 2, AOp.mv (Opd.t 7), none, none⟩]) 
 (AC.ret)) ⟩
/-- (*strings.Builder).WriteString -/
def code14 : AFn := ⟨ [ARes.tmp 4, ARes.tmp 5],  AC.seq
 
 (AC.reg [⟨some 4, AOp.mv (Opd.c (D.int .i64 0)), none, none⟩,
 ⟨some 5, AOp.mv (Opd.c (D.nili)), none, none⟩]) 
 (AC.seq
 
 (AC.reg [⟨some 6, AOp.mv (Opd.t 0), none, none⟩,
 ⟨some 7, AOp.call false 26 [Opd.t 6], none, none⟩]) 
 (AC.seq
 
 (AC.reg [⟨some 8, AOp.mv (Opd.t 0), none, none⟩,
 ⟨some 9, AOp.mv (Opd.t 0), none, none⟩,
 ⟨some 10, AOp.nilchk (Opd.t 9), none, none⟩,
 ⟨some 11, AOp.faddr 1 (Opd.t 10), none, none⟩,
 ⟨some 12, AOp.load none (Opd.t 11), none, none⟩,
 ⟨some 13, AOp.mv (Opd.t 1), none, none⟩,
 ⟨some 14, AOp.append 1 1 5 (Opd.t 12) (Opd.t 13), none, none⟩,
 ⟨some 15, AOp.nilchk (Opd.t 8), none, none⟩,
 ⟨some 16, AOp.faddr 1 (Opd.t 15), none, none⟩,
 ⟨none, AOp.store 1 (Opd.t 16) (Opd.t 14), none, none⟩]) 
 (AC.seq
 
 (AC.reg [⟨some 17, AOp.mv (Opd.t 1), none, none⟩,
 ⟨some 18, AOp.len 0 (Opd.t 17), none, none⟩,
 ⟨some 4, AOp.mv (Opd.t 18), none, none⟩,
 ⟨some 5, AOp.mv (Opd.c (D.nili)), none, none⟩]) 
 (AC.ret)))) ⟩
/-- (*strings.Builder).String -/
def code15 : AFn := ⟨ [ARes.tmp 2],  AC.seq
 
 (AC.reg [⟨some 2, AOp.mv (Opd.c (D.str [])), none, none⟩]) 
 (AC.seq
 
 (AC.dreg 0 [(⟨some 3, AOp.mv (Opd.t 0), none, none⟩, []),
 (⟨some 4, AOp.nilchk (Opd.t 3), none, none⟩, []),
 (⟨some 5, AOp.faddr 1 (Opd.t 4), none, none⟩, []),
 (⟨some 6, AOp.load none (Opd.t 5), none, none⟩, []),
 (⟨some 7, AOp.sldata (Opd.t 6), none, none⟩, []),
 (⟨some 8, AOp.mv (Opd.t 0), none, none⟩, []),
 (⟨some 9, AOp.nilchk (Opd.t 8), none, none⟩, []),
 (⟨some 10, AOp.faddr 1 (Opd.t 9), none, none⟩, []),
 (⟨some 11, AOp.load none (Opd.t 10), none, none⟩, []),
 (⟨some 12, AOp.len 1 (Opd.t 11), none, none⟩, []),
 (⟨some 13, AOp.ustr 5 (Opd.t 7) (Opd.t 12), none, none⟩, []),
 (⟨some 2, AOp.mv (Opd.t 13), none, none⟩, [])]) 
 (AC.ret)) ⟩
/-- lexicon/slots.New[lexicon/store.value] -/
def code16 : AFn := ⟨ [ARes.tmp 0],  AC.seq
 
 (AC.reg [⟨some 0, AOp.mv (Opd.c (D.nilp)), none, none⟩]) 
 (AC.seq
 
 (AC.reg [⟨some 1, AOp.build [D.vs true 0 [], D.vs true 0 [], D.vs true 0 []] [], none, none⟩,
 ⟨some 2, AOp.box 120 (Opd.t 1), none, none⟩,
 ⟨some 0, AOp.mv (Opd.t 2), none, none⟩]) 
 (AC.ret)) ⟩
/-- lexicon/sweep.Force -/
def code17 : AFn := ⟨ [ARes.tmp 2],  AC.seq
 
 (AC.reg [⟨some 2, AOp.mv (Opd.c (D.nilp)), none, none⟩]) 
 (AC.seq
 
 (AC.reg [⟨some 6, AOp.mkmap none, none, none⟩,
 ⟨some 7, AOp.build [D.nilm, D.int .i64 0] [(0, 1, Opd.t 6)], none, none⟩,
 ⟨some 8, AOp.box 123 (Opd.t 7), none, none⟩,
 ⟨some 3, AOp.mv (Opd.t 8), none, none⟩]) 
 (AC.seq
 
 (AC.seq
 
 (AC.reg [⟨some 9, AOp.mv (Opd.t 0), none, none⟩,
 ⟨some 10, AOp.len 1 (Opd.t 9), none, none⟩,
 ⟨some 11, AOp.mv (Opd.c (D.int .i64 0)), none, none⟩]) 
 (AC.block 0 
 (AC.loop [3, 9, 10, 11] 
 (AC.seq
 
 (AC.reg [⟨some 12, AOp.bin .lss (Opd.t 11) (Opd.t 10), none, none⟩]) 
 (AC.seq
 
 (AC.cond (Opd.t 12) 
 (AC.skip) 
 (AC.exit 0)) 
 (AC.seq
 
 (AC.block 1 
 (AC.seq
 
 (AC.reg [⟨some 13, AOp.iaddr 1 (Opd.t 9) (Opd.t 11), none, none⟩,
 ⟨some 14, AOp.load none (Opd.t 13), none, none⟩,
 ⟨some 5, AOp.mv (Opd.t 14), none, none⟩]) 
 (AC.reg [⟨some 15, AOp.mv (Opd.t 3), none, none⟩,
 ⟨some 16, AOp.nilchk (Opd.t 15), none, none⟩,
 ⟨some 17, AOp.faddr 0 (Opd.t 16), none, none⟩,
 ⟨some 18, AOp.load none (Opd.t 17), none, none⟩,
 ⟨some 19, AOp.mv (Opd.t 5), none, none⟩,
 ⟨some 20, AOp.lookup (ET.int) (D.int .i64 0) false (Opd.t 18) (Opd.t 19), none, none⟩,
 ⟨some 21, AOp.bin .add (Opd.t 20) (Opd.c (D.int .i64 1)), none, none⟩,
 ⟨none, AOp.mupd (ET.int) (Opd.t 18) (Opd.t 19) (Opd.t 21), none, none⟩]))) 
 (AC.reg [⟨some 22, AOp.bin .add (Opd.t 11) (Opd.c (D.int .i64 1)), none, none⟩,
 ⟨some 11, AOp.mv (Opd.t 22), none, none⟩]))))))) 
 (AC.seq
 
 (AC.reg [⟨some 23, AOp.mv (Opd.t 3), none, none⟩,
 ⟨some 2, AOp.mv (Opd.t 23), none, none⟩]) 
 (AC.ret)))) ⟩
/-- (*lexicon/slots.Slots[lexicon/store.value]).Add -/
def code18 : AFn := ⟨ [ARes.tmp 4],  AC.seq
 
 (AC.reg [⟨some 4, AOp.mv (Opd.c (D.int .i64 0)), none, none⟩]) 
 (AC.seq
 
 (AC.seq
 
 (AC.reg [⟨some 6, AOp.mv (Opd.t 0), none, none⟩,
 ⟨some 7, AOp.eq (ET.ptr) false true (Opd.t 6) (Opd.c (D.nilp)), none, none⟩]) 
 (AC.cond (Opd.t 7) 
 (AC.seq
 
 (AC.reg [⟨some 4, AOp.mv (Opd.c (D.int .i64 (-1))), none, none⟩]) 
 (AC.ret)) 
 (AC.skip))) 
 (AC.seq
 
 (AC.seq
 
 (AC.reg [⟨some 8, AOp.mv (Opd.t 0), none, none⟩,
 ⟨some 9, AOp.nilchk (Opd.t 8), none, none⟩,
 ⟨some 10, AOp.faddr 2 (Opd.t 9), none, none⟩,
 ⟨some 11, AOp.load none (Opd.t 10), none, none⟩,
 ⟨some 12, AOp.len 1 (Opd.t 11), none, none⟩,
 ⟨some 13, AOp.bin .eql (Opd.t 12) (Opd.c (D.int .i64 0)), none, none⟩]) 
 (AC.cond (Opd.t 13) 
 (AC.seq
 
 (AC.dreg 2 [(⟨some 14, AOp.mv (Opd.t 0), none, none⟩, []),
 (⟨some 15, AOp.mv (Opd.t 0), none, none⟩, []),
 (⟨some 16, AOp.mv (Opd.t 0), none, none⟩, []),
 (⟨some 17, AOp.nilchk (Opd.t 16), none, none⟩, []),
 (⟨some 18, AOp.faddr 0 (Opd.t 17), none, none⟩, []),
 (⟨some 19, AOp.load none (Opd.t 18), none, none⟩, []),
 (⟨some 20, AOp.mv (Opd.t 1), none, none⟩, []),
 (⟨some 21, AOp.vslice 1 (D.nili) 1 [(0, Opd.t 20)], none, none⟩, []),
 (⟨some 22, AOp.append 1 16 67 (Opd.t 19) (Opd.t 21), none, some 0⟩, []),
 (⟨some 23, AOp.mv (Opd.t 0), none, none⟩, []),
 (⟨some 24, AOp.nilchk (Opd.t 23), none, none⟩, []),
 (⟨some 25, AOp.faddr 1 (Opd.t 24), none, none⟩, []),
 (⟨some 26, AOp.load none (Opd.t 25), none, none⟩, [8]), (⟨some 27, AOp.vslice 1 (D.bool false) 1 [(0, Opd.c (D.bool true))], none, none⟩, []),
 (⟨some 28, AOp.append 1 1 4 (Opd.t 26) (Opd.t 27), none, some 1⟩, []),
 (⟨some 29, AOp.nilchk (Opd.t 14), none, none⟩, []),
 (⟨some 30, AOp.faddr 0 (Opd.t 29), none, none⟩, []),
 (⟨none, AOp.store 1 (Opd.t 30) (Opd.t 22), none, none⟩, []),
 (⟨some 31, AOp.nilchk (Opd.t 15), none, none⟩, []),
 (⟨some 32, AOp.faddr 1 (Opd.t 31), none, none⟩, []),
 (⟨none, AOp.store 1 (Opd.t 32) (Opd.t 28), none, none⟩, [])]) 
 (AC.seq
 
 (AC.reg [⟨some 33, AOp.mv (Opd.t 0), none, none⟩,
 ⟨some 34, AOp.nilchk (Opd.t 33), none, none⟩,
 ⟨some 35, AOp.faddr 0 (Opd.t 34), none, none⟩,
 ⟨some 36, AOp.load none (Opd.t 35), none, none⟩,
 ⟨some 37, AOp.len 1 (Opd.t 36), none, none⟩,
 ⟨some 38, AOp.bin .sub (Opd.t 37) (Opd.c (D.int .i64 1)), none, none⟩,
 ⟨some 4, AOp.mv (Opd.t 38), none, none⟩]) 
 (AC.ret))) 
 (AC.skip))) 
 (AC.seq
 
 (AC.reg [⟨some 39, AOp.mv (Opd.t 0), none, none⟩,
 ⟨some 40, AOp.nilchk (Opd.t 39), none, none⟩,
 ⟨some 41, AOp.faddr 2 (Opd.t 40), none, none⟩,
 ⟨some 42, AOp.load none (Opd.t 41), none, none⟩,
 ⟨some 43, AOp.iaddr 1 (Opd.t 42) (Opd.c (D.int .i64 0)), none, none⟩,
 ⟨some 44, AOp.load none (Opd.t 43), none, none⟩,
 ⟨some 5, AOp.mv (Opd.t 44), none, none⟩]) 
 (AC.seq
 
 (AC.reg [⟨some 45, AOp.mv (Opd.t 0), none, none⟩,
 ⟨some 46, AOp.nilchk (Opd.t 45), none, none⟩,
 ⟨some 47, AOp.faddr 2 (Opd.t 46), none, none⟩,
 ⟨some 48, AOp.mkif 125 (Opd.t 47), none, none⟩,
 ⟨some 49, AOp.call false 27 [Opd.t 48], none, none⟩]) 
 (AC.seq
 
 (AC.dreg 0 [(⟨some 50, AOp.mv (Opd.t 0), none, none⟩, []),
 (⟨some 51, AOp.nilchk (Opd.t 50), none, none⟩, []),
 (⟨some 52, AOp.faddr 0 (Opd.t 51), none, none⟩, []),
 (⟨some 53, AOp.load none (Opd.t 52), none, none⟩, []),
 (⟨some 54, AOp.mv (Opd.t 5), none, none⟩, []),
 (⟨some 55, AOp.mv (Opd.t 0), none, none⟩, []),
 (⟨some 56, AOp.nilchk (Opd.t 55), none, none⟩, []),
 (⟨some 57, AOp.faddr 1 (Opd.t 56), none, none⟩, []),
 (⟨some 58, AOp.load none (Opd.t 57), none, none⟩, []),
 (⟨some 59, AOp.mv (Opd.t 5), none, none⟩, []),
 (⟨some 60, AOp.mv (Opd.t 1), none, none⟩, []),
 (⟨some 61, AOp.iaddr 1 (Opd.t 53) (Opd.t 54), none, none⟩, []),
 (⟨none, AOp.store 1 (Opd.t 61) (Opd.t 60), none, none⟩, []),
 (⟨some 62, AOp.iaddr 1 (Opd.t 58) (Opd.t 59), none, none⟩, []),
 (⟨none, AOp.store 1 (Opd.t 62) (Opd.c (D.bool true)), none, none⟩, [])]) 
 (AC.seq
 
 (AC.reg [⟨some 63, AOp.mv (Opd.t 5), none, none⟩,
 ⟨some 4, AOp.mv (Opd.t 63), none, none⟩]) 
 (AC.ret))))))) ⟩
/-- (*lexicon/store.builder).wrong -/
def code19 : AFn := ⟨ [ARes.tmp 4],  AC.seq
 
 (AC.reg [⟨some 4, AOp.mv (Opd.c (D.int .i64 0)), none, none⟩]) 
 (AC.seq
 
 (AC.reg [⟨some 6, AOp.mv (Opd.t 0), none, none⟩,
 ⟨some 7, AOp.nilchk (Opd.t 6), none, none⟩,
 ⟨some 8, AOp.faddr 1 (Opd.t 7), none, none⟩,
 ⟨some 9, AOp.load none (Opd.t 8), none, none⟩,
 ⟨some 10, AOp.mv (Opd.t 1), none, none⟩,
 ⟨some 11, AOp.iaddr 8 (Opd.t 9) (Opd.t 10), none, none⟩,
 ⟨some 12, AOp.load (some 8) (Opd.t 11), none, none⟩,
 ⟨some 5, AOp.lbox (Opd.c (D.agg [D.int .i64 0, D.bool false, D.bool false, D.vs true 0 [], D.str [], D.vs true 0 [], D.bool false, D.bool false])), none, none⟩,
 ⟨none, AOp.lstore 5 8 (Opd.t 5) (Opd.t 12), none, none⟩]) 
 (AC.seq
 
 (AC.block 0 
 (AC.seq
 
 (AC.reg [⟨some 14, AOp.faddr 0 (Opd.t 5), none, none⟩,
 ⟨some 15, AOp.lload 5 none (Opd.t 14), none, none⟩,
 ⟨some 16, AOp.call false 28 [Opd.t 15], none, none⟩,
 ⟨some 17, AOp.un .not (Opd.t 16), none, none⟩,
 ⟨some 13, AOp.mv (Opd.t 17), none, none⟩]) 
 (AC.cond (Opd.t 13) 
 (AC.seq
 
 (AC.reg [⟨some 4, AOp.mv (Opd.c (D.int .i64 12)), none, none⟩]) 
 (AC.ret)) 
 (AC.seq
 
 (AC.reg [⟨some 19, AOp.mv (Opd.t 0), none, none⟩,
 ⟨some 20, AOp.mv (Opd.t 1), none, none⟩,
 ⟨some 21, AOp.call false 29 [Opd.t 19, Opd.t 20], none, none⟩,
 ⟨some 22, AOp.mv (Opd.t 21), none, none⟩,
 ⟨some 23, AOp.faddr 0 (Opd.t 5), some (22, false), none⟩,
 ⟨some 24, AOp.lload 5 none (Opd.t 23), some (22, false), none⟩,
 ⟨some 25, AOp.bin .eql (Opd.t 24) (Opd.c (D.int .i64 4)), some (22, false), none⟩,
 ⟨some 26, AOp.mv (Opd.t 25), some (22, false), none⟩,
 ⟨some 27, AOp.faddr 4 (Opd.t 5), some (26, true), none⟩,
 ⟨some 28, AOp.lload 5 none (Opd.t 27), some (26, true), none⟩,
 ⟨some 29, AOp.call false 30 [Opd.t 28], some (26, true), none⟩,
 ⟨some 30, AOp.un .not (Opd.t 29), some (26, true), none⟩,
 ⟨some 31, AOp.pick (Opd.t 26) (Opd.t 30) (Opd.c (D.bool false)), some (22, false), none⟩,
 ⟨some 32, AOp.pick (Opd.t 22) (Opd.c (D.bool true)) (Opd.t 31), none, none⟩,
 ⟨some 18, AOp.mv (Opd.t 32), none, none⟩]) 
 (AC.cond (Opd.t 18) 
 (AC.seq
 
 (AC.reg [⟨some 4, AOp.mv (Opd.c (D.int .i64 1)), none, none⟩]) 
 (AC.ret)) 
 (AC.seq
 
 (AC.reg [⟨some 34, AOp.mv (Opd.t 0), none, none⟩,
 ⟨some 35, AOp.mv (Opd.t 1), none, none⟩,
 ⟨some 36, AOp.call false 31 [Opd.t 34, Opd.t 35], none, none⟩,
 ⟨some 33, AOp.mv (Opd.t 36), none, none⟩]) 
 (AC.cond (Opd.t 33) 
 (AC.seq
 
 (AC.reg [⟨some 4, AOp.mv (Opd.c (D.int .i64 3)), none, none⟩]) 
 (AC.ret)) 
 (AC.skip)))))))) 
 (AC.seq
 
 (AC.reg [⟨some 4, AOp.mv (Opd.c (D.int .i64 0)), none, none⟩]) 
 (AC.ret)))) ⟩
/-- (*lexicon/store.builder).make -/
def code20 : AFn := ⟨ [ARes.tmp 4],  AC.seq
 
 (AC.reg [⟨some 3, AOp.lbox (Opd.t 1), none, none⟩,
 ⟨some 4, AOp.mv (Opd.c (D.int .i64 0)), none, none⟩]) 
 (AC.seq
 
 (AC.seq
 
 (AC.reg [⟨some 8, AOp.faddr 0 (Opd.t 3), none, none⟩,
 ⟨some 9, AOp.lload 3 none (Opd.t 8), none, none⟩]) 
 (AC.block 0 
 (AC.seq
 
 (AC.reg [⟨some 11, AOp.bin .eql (Opd.t 9) (Opd.c (D.int .i64 1)), none, none⟩,
 ⟨some 10, AOp.mv (Opd.t 11), none, none⟩]) 
 (AC.cond (Opd.t 10) 
 (AC.seq
 
 (AC.reg [⟨some 4, AOp.mv (Opd.c (D.int .i64 0)), none, none⟩]) 
 (AC.ret)) 
 (AC.seq
 
 (AC.reg [⟨some 13, AOp.bin .eql (Opd.t 9) (Opd.c (D.int .i64 2)), none, none⟩,
 ⟨some 12, AOp.mv (Opd.t 13), none, none⟩]) 
 (AC.cond (Opd.t 12) 
 (AC.seq
 
 (AC.reg [⟨some 14, AOp.faddr 1 (Opd.t 3), none, none⟩,
 ⟨some 15, AOp.lload 3 none (Opd.t 14), none, none⟩,
 ⟨some 16, AOp.call false 32 [Opd.t 15], none, none⟩,
 ⟨some 4, AOp.mv (Opd.t 16), none, none⟩]) 
 (AC.ret)) 
 (AC.seq
 
 (AC.reg [⟨some 18, AOp.bin .eql (Opd.t 9) (Opd.c (D.int .i64 3)), none, none⟩,
 ⟨some 17, AOp.mv (Opd.t 18), none, none⟩]) 
 (AC.cond (Opd.t 17) 
 (AC.seq
 
 (AC.dreg 0 [(⟨some 19, AOp.mv (Opd.t 0), none, none⟩, []),
 (⟨some 20, AOp.nilchk (Opd.t 19), none, none⟩, []),
 (⟨some 21, AOp.faddr 0 (Opd.t 20), none, none⟩, []),
 (⟨some 22, AOp.load none (Opd.t 21), none, none⟩, []),
 (⟨some 23, AOp.faddr 2 (Opd.t 3), none, none⟩, []),
 (⟨some 24, AOp.lload 3 (some 2) (Opd.t 23), none, none⟩, []),
 (⟨some 25, AOp.call false 34 [Opd.t 24], none, none⟩, [3]), (⟨some 26, AOp.call false 33 [Opd.t 22, Opd.t 25], none, none⟩, []),
 (⟨some 4, AOp.mv (Opd.t 26), none, none⟩, [])]) 
 (AC.ret)) 
 (AC.seq
 
 (AC.reg [⟨some 28, AOp.bin .eql (Opd.t 9) (Opd.c (D.int .i64 4)), none, none⟩,
 ⟨some 27, AOp.mv (Opd.t 28), none, none⟩]) 
 (AC.cond (Opd.t 27) 
 (AC.seq
 
 (AC.dreg 0 [(⟨some 29, AOp.mv (Opd.t 0), none, none⟩, []),
 (⟨some 30, AOp.nilchk (Opd.t 29), none, none⟩, []),
 (⟨some 31, AOp.faddr 0 (Opd.t 30), none, none⟩, []),
 (⟨some 32, AOp.load none (Opd.t 31), none, none⟩, []),
 (⟨some 33, AOp.faddr 4 (Opd.t 3), none, none⟩, []),
 (⟨some 34, AOp.lload 3 none (Opd.t 33), none, none⟩, []),
 (⟨some 35, AOp.call false 35 [Opd.t 32, Opd.t 34], none, none⟩, []),
 (⟨some 4, AOp.mv (Opd.t 35), none, none⟩, [])]) 
 (AC.ret)) 
 (AC.seq
 
 (AC.seq
 
 (AC.reg [⟨some 37, AOp.bin .eql (Opd.t 9) (Opd.c (D.int .i64 5)), none, none⟩,
 ⟨some 36, AOp.mv (Opd.t 37), none, none⟩]) 
 (AC.cond (Opd.t 36) 
 (AC.skip) 
 (AC.reg [⟨some 38, AOp.bin .eql (Opd.t 9) (Opd.c (D.int .i64 6)), none, none⟩,
 ⟨some 36, AOp.mv (Opd.t 38), none, none⟩]))) 
 (AC.cond (Opd.t 36) 
 (AC.seq
 
 (AC.dreg 1 [(⟨some 39, AOp.mv (Opd.t 0), none, none⟩, []),
 (⟨some 40, AOp.nilchk (Opd.t 39), none, none⟩, []),
 (⟨some 41, AOp.faddr 0 (Opd.t 40), none, none⟩, []),
 (⟨some 42, AOp.load none (Opd.t 41), none, none⟩, []),
 (⟨some 43, AOp.faddr 0 (Opd.t 3), none, none⟩, []),
 (⟨some 44, AOp.lload 3 none (Opd.t 43), none, none⟩, []),
 (⟨some 45, AOp.faddr 5 (Opd.t 3), none, none⟩, []),
 (⟨some 46, AOp.lload 3 none (Opd.t 45), none, none⟩, []),
 (⟨some 47, AOp.len 1 (Opd.t 46), none, none⟩, []),
 (⟨some 48, AOp.mkslice 1 8 3 (D.int .i64 0) (Opd.t 47) (Opd.t 47), none, some 0⟩, [3]), (⟨some 49, AOp.call false 36 [Opd.t 42, Opd.t 44, Opd.t 48], none, none⟩, []),
 (⟨some 4, AOp.mv (Opd.t 49), none, none⟩, [])]) 
 (AC.ret)) 
 (AC.seq
 
 (AC.seq
 
 (AC.reg [⟨some 51, AOp.bin .eql (Opd.t 9) (Opd.c (D.int .i64 7)), none, none⟩,
 ⟨some 50, AOp.mv (Opd.t 51), none, none⟩]) 
 (AC.cond (Opd.t 50) 
 (AC.skip) 
 (AC.seq
 
 (AC.reg [⟨some 52, AOp.bin .eql (Opd.t 9) (Opd.c (D.int .i64 8)), none, none⟩,
 ⟨some 50, AOp.mv (Opd.t 52), none, none⟩]) 
 (AC.cond (Opd.t 50) 
 (AC.skip) 
 (AC.reg [⟨some 53, AOp.bin .eql (Opd.t 9) (Opd.c (D.int .i64 9)), none, none⟩,
 ⟨some 50, AOp.mv (Opd.t 53), none, none⟩]))))) 
 (AC.cond (Opd.t 50) 
 (AC.seq
 
 (AC.reg [⟨some 54, AOp.mv (Opd.t 0), none, none⟩,
 ⟨some 55, AOp.lload 3 (some 8) (Opd.t 3), none, none⟩,
 ⟨some 56, AOp.call false 37 [Opd.t 54, Opd.t 55], none, none⟩,
 ⟨some 4, AOp.mv (Opd.t 56), none, none⟩]) 
 (AC.ret)) 
 (AC.seq
 
 (AC.reg [⟨some 58, AOp.bin .eql (Opd.t 9) (Opd.c (D.int .i64 14)), none, none⟩,
 ⟨some 57, AOp.mv (Opd.t 58), none, none⟩]) 
 (AC.cond (Opd.t 57) 
 (AC.seq
 
 (AC.reg [⟨some 59, AOp.mv (Opd.t 0), none, none⟩,
 ⟨some 60, AOp.nilchk (Opd.t 59), none, none⟩,
 ⟨some 61, AOp.faddr 0 (Opd.t 60), none, none⟩,
 ⟨some 62, AOp.load none (Opd.t 61), none, none⟩,
 ⟨some 63, AOp.call false 38 [Opd.t 62, Opd.c (D.str [67]), Opd.c (D.int .i64 (-1))], none, none⟩,
 ⟨some 5, AOp.mv (Opd.t 63), none, none⟩]) 
 (AC.seq
 
 (AC.seq
 
 (AC.reg [⟨some 65, AOp.mv (Opd.t 0), none, none⟩,
 ⟨some 66, AOp.nilchk (Opd.t 65), none, none⟩,
 ⟨some 67, AOp.faddr 0 (Opd.t 66), none, none⟩,
 ⟨some 68, AOp.load none (Opd.t 67), none, none⟩,
 ⟨some 69, AOp.mv (Opd.t 5), none, none⟩,
 ⟨some 70, AOp.call false 21 [Opd.t 68, Opd.t 69], none, none⟩,
 ⟨some 71, AOp.tassert 133 (D.nilp) true (Opd.t 70), none, none⟩,
 ⟨some 64, AOp.mv (Opd.t 71), none, none⟩,
 ⟨some 72, AOp.extract 0 (Opd.t 64), none, none⟩,
 ⟨some 73, AOp.extract 1 (Opd.t 64), none, none⟩,
 ⟨some 6, AOp.mv (Opd.t 72), none, none⟩,
 ⟨some 7, AOp.mv (Opd.t 73), none, none⟩]) 
 (AC.seq
 
 (AC.reg [⟨some 74, AOp.mv (Opd.t 7), none, none⟩]) 
 (AC.cond (Opd.t 74) 
 (AC.dreg 0 [(⟨some 75, AOp.mv (Opd.t 6), none, none⟩, []),
 (⟨some 76, AOp.mv (Opd.t 6), none, none⟩, []),
 (⟨some 77, AOp.faddr 6 (Opd.t 3), none, none⟩, []),
 (⟨some 78, AOp.lload 3 none (Opd.t 77), none, none⟩, []),
 (⟨some 79, AOp.faddr 7 (Opd.t 3), none, none⟩, []),
 (⟨some 80, AOp.lload 3 none (Opd.t 79), none, none⟩, []),
 (⟨some 81, AOp.nilchk (Opd.t 75), none, none⟩, []),
 (⟨some 82, AOp.faddr 5 (Opd.t 81), none, none⟩, []),
 (⟨none, AOp.store 1 (Opd.t 82) (Opd.t 78), none, none⟩, []),
 (⟨some 83, AOp.nilchk (Opd.t 76), none, none⟩, []),
 (⟨some 84, AOp.faddr 6 (Opd.t 83), none, none⟩, []),
 (⟨none, AOp.store 1 (Opd.t 84) (Opd.t 80), none, none⟩, [])]) 
 (AC.skip)))) 
 (AC.seq
 
 (AC.reg [⟨some 85, AOp.mv (Opd.t 0), none, none⟩,
 ⟨some 86, AOp.nilchk (Opd.t 85), none, none⟩,
 ⟨some 87, AOp.faddr 0 (Opd.t 86), none, none⟩,
 ⟨some 88, AOp.load none (Opd.t 87), none, none⟩,
 ⟨some 89, AOp.mv (Opd.t 5), none, none⟩,
 ⟨some 90, AOp.call false 39 [Opd.t 88, Opd.t 89], none, none⟩,
 ⟨some 4, AOp.mv (Opd.t 90), none, none⟩]) 
 (AC.ret)))) 
 (AC.skip))))))))))))))))) 
 (AC.seq
 
 (AC.dreg 0 [(⟨some 91, AOp.mv (Opd.t 0), none, none⟩, []),
 (⟨some 92, AOp.nilchk (Opd.t 91), none, none⟩, []),
 (⟨some 93, AOp.faddr 0 (Opd.t 92), none, none⟩, []),
 (⟨some 94, AOp.load none (Opd.t 93), none, none⟩, []),
 (⟨some 95, AOp.faddr 0 (Opd.t 3), none, none⟩, []),
 (⟨some 96, AOp.lload 3 none (Opd.t 95), none, none⟩, []),
 (⟨some 97, AOp.mv (Opd.t 0), none, none⟩, []),
 (⟨some 98, AOp.nilchk (Opd.t 97), none, none⟩, []),
 (⟨some 99, AOp.faddr 2 (Opd.t 98), none, none⟩, []),
 (⟨some 100, AOp.load none (Opd.t 99), none, none⟩, []),
 (⟨some 101, AOp.faddr 5 (Opd.t 3), none, none⟩, []),
 (⟨some 102, AOp.lload 3 none (Opd.t 101), none, none⟩, []),
 (⟨some 103, AOp.iaddr 1 (Opd.t 102) (Opd.c (D.int .i64 0)), none, none⟩, []),
 (⟨some 104, AOp.load none (Opd.t 103), none, none⟩, []),
 (⟨some 105, AOp.iaddr 1 (Opd.t 100) (Opd.t 104), none, none⟩, []),
 (⟨some 106, AOp.load none (Opd.t 105), none, none⟩, []),
 (⟨some 107, AOp.call false 40 [Opd.t 94, Opd.t 96, Opd.t 106], none, none⟩, []),
 (⟨some 4, AOp.mv (Opd.t 107), none, none⟩, [])]) 
 (AC.ret))) ⟩
/-- (*lexicon/store.Store).get -/
def code21 : AFn := ⟨ [ARes.tmp 4],  AC.seq
 
 (AC.reg [⟨some 4, AOp.mv (Opd.c (D.nili)), none, none⟩]) 
 (AC.seq
 
 (AC.seq
 
 (AC.reg [⟨some 7, AOp.mv (Opd.t 0), none, none⟩,
 ⟨some 8, AOp.eq (ET.ptr) false true (Opd.t 7) (Opd.c (D.nilp)), none, none⟩]) 
 (AC.cond (Opd.t 8) 
 (AC.seq
 
 (AC.reg [⟨some 4, AOp.mv (Opd.c (D.nili)), none, none⟩]) 
 (AC.ret)) 
 (AC.skip))) 
 (AC.seq
 
 (AC.reg [⟨some 10, AOp.mv (Opd.t 0), none, none⟩,
 ⟨some 11, AOp.nilchk (Opd.t 10), none, none⟩,
 ⟨some 12, AOp.faddr 6 (Opd.t 11), none, none⟩,
 ⟨some 13, AOp.load none (Opd.t 12), none, none⟩,
 ⟨some 14, AOp.mv (Opd.t 1), none, none⟩,
 ⟨some 15, AOp.call false 41 [Opd.t 13, Opd.t 14], none, none⟩,
 ⟨some 9, AOp.mv (Opd.t 15), none, none⟩,
 ⟨some 16, AOp.extract 0 (Opd.t 9), none, none⟩,
 ⟨some 17, AOp.extract 1 (Opd.t 9), none, none⟩,
 ⟨some 5, AOp.mv (Opd.t 16), none, none⟩,
 ⟨some 6, AOp.mv (Opd.t 17), none, none⟩]) 
 (AC.seq
 
 (AC.reg [⟨some 18, AOp.mv (Opd.t 5), none, none⟩,
 ⟨some 4, AOp.mv (Opd.t 18), none, none⟩]) 
 (AC.ret)))) ⟩
/-- lexicon/lexiconref19.Wrong -/
def code22 : AFn := ⟨ [ARes.tmp 6],  AC.seq
 
 (AC.reg [⟨some 6, AOp.mv (Opd.c (D.int .i64 0)), none, none⟩]) 
 (AC.seq
 
 (AC.reg [⟨some 15, AOp.mv (Opd.t 0), none, none⟩,
 ⟨some 16, AOp.mv (Opd.t 1), none, none⟩,
 ⟨some 17, AOp.iaddr 8 (Opd.t 15) (Opd.t 16), none, none⟩,
 ⟨some 18, AOp.load (some 8) (Opd.t 17), none, none⟩,
 ⟨some 7, AOp.lbox (Opd.c (D.agg [D.int .i64 0, D.bool false, D.bool false, D.vs true 0 [], D.str [], D.vs true 0 [], D.bool false, D.bool false])), none, none⟩,
 ⟨none, AOp.lstore 7 8 (Opd.t 7) (Opd.t 18), none, none⟩]) 
 (AC.seq
 
 (AC.reg [⟨some 19, AOp.faddr 0 (Opd.t 7), none, none⟩,
 ⟨some 20, AOp.lload 7 none (Opd.t 19), none, none⟩,
 ⟨some 21, AOp.bin .geq (Opd.t 20) (Opd.c (D.int .i64 15)), none, none⟩,
 ⟨some 22, AOp.mv (Opd.t 21), none, none⟩,
 ⟨some 23, AOp.faddr 0 (Opd.t 7), some (22, true), none⟩,
 ⟨some 24, AOp.lload 7 none (Opd.t 23), some (22, true), none⟩,
 ⟨some 25, AOp.bin .leq (Opd.t 24) (Opd.c (D.int .i64 17)), some (22, true), none⟩,
 ⟨some 26, AOp.pick (Opd.t 22) (Opd.t 25) (Opd.c (D.bool false)), none, none⟩,
 ⟨some 8, AOp.mv (Opd.t 26), none, none⟩]) 
 (AC.seq
 
 (AC.seq
 
 (AC.reg [⟨some 27, AOp.faddr 0 (Opd.t 7), none, none⟩,
 ⟨some 28, AOp.lload 7 none (Opd.t 27), none, none⟩,
 ⟨some 29, AOp.bin .geq (Opd.t 28) (Opd.c (D.int .i64 1)), none, none⟩,
 ⟨some 30, AOp.mv (Opd.t 29), none, none⟩,
 ⟨some 31, AOp.faddr 0 (Opd.t 7), some (30, true), none⟩,
 ⟨some 32, AOp.lload 7 none (Opd.t 31), some (30, true), none⟩,
 ⟨some 33, AOp.bin .leq (Opd.t 32) (Opd.c (D.int .i64 9)), some (30, true), none⟩,
 ⟨some 34, AOp.pick (Opd.t 30) (Opd.t 33) (Opd.c (D.bool false)), none, none⟩,
 ⟨some 35, AOp.mv (Opd.t 34), none, none⟩,
 ⟨some 36, AOp.faddr 0 (Opd.t 7), some (35, false), none⟩,
 ⟨some 37, AOp.lload 7 none (Opd.t 36), some (35, false), none⟩,
 ⟨some 38, AOp.bin .eql (Opd.t 37) (Opd.c (D.int .i64 14)), some (35, false), none⟩,
 ⟨some 39, AOp.pick (Opd.t 35) (Opd.c (D.bool true)) (Opd.t 38), none, none⟩,
 ⟨some 40, AOp.mv (Opd.t 39), none, none⟩,
 ⟨some 41, AOp.mv (Opd.t 8), some (40, false), none⟩,
 ⟨some 42, AOp.pick (Opd.t 40) (Opd.c (D.bool true)) (Opd.t 41), none, none⟩,
 ⟨some 43, AOp.un .not (Opd.t 42), none, none⟩]) 
 (AC.cond (Opd.t 43) 
 (AC.seq
 
 (AC.reg [⟨some 6, AOp.mv (Opd.c (D.int .i64 12)), none, none⟩]) 
 (AC.ret)) 
 (AC.skip))) 
 (AC.seq
 
 (AC.reg [⟨some 44, AOp.faddr 0 (Opd.t 7), none, none⟩,
 ⟨some 45, AOp.lload 7 none (Opd.t 44), none, none⟩,
 ⟨some 46, AOp.bin .eql (Opd.t 45) (Opd.c (D.int .i64 7)), none, none⟩,
 ⟨some 9, AOp.mv (Opd.t 46), none, none⟩]) 
 (AC.seq
 
 (AC.reg [⟨some 47, AOp.faddr 0 (Opd.t 7), none, none⟩,
 ⟨some 48, AOp.lload 7 none (Opd.t 47), none, none⟩,
 ⟨some 49, AOp.bin .eql (Opd.t 48) (Opd.c (D.int .i64 8)), none, none⟩,
 ⟨some 50, AOp.mv (Opd.t 49), none, none⟩,
 ⟨some 51, AOp.faddr 0 (Opd.t 7), some (50, false), none⟩,
 ⟨some 52, AOp.lload 7 none (Opd.t 51), some (50, false), none⟩,
 ⟨some 53, AOp.bin .eql (Opd.t 52) (Opd.c (D.int .i64 9)), some (50, false), none⟩,
 ⟨some 54, AOp.pick (Opd.t 50) (Opd.c (D.bool true)) (Opd.t 53), none, none⟩,
 ⟨some 10, AOp.mv (Opd.t 54), none, none⟩]) 
 (AC.seq
 
 (AC.reg [⟨some 55, AOp.faddr 0 (Opd.t 7), none, none⟩,
 ⟨some 56, AOp.lload 7 none (Opd.t 55), none, none⟩,
 ⟨some 57, AOp.bin .eql (Opd.t 56) (Opd.c (D.int .i64 5)), none, none⟩,
 ⟨some 58, AOp.mv (Opd.t 57), none, none⟩,
 ⟨some 59, AOp.faddr 0 (Opd.t 7), some (58, false), none⟩,
 ⟨some 60, AOp.lload 7 none (Opd.t 59), some (58, false), none⟩,
 ⟨some 61, AOp.bin .eql (Opd.t 60) (Opd.c (D.int .i64 6)), some (58, false), none⟩,
 ⟨some 62, AOp.pick (Opd.t 58) (Opd.c (D.bool true)) (Opd.t 61), none, none⟩,
 ⟨some 11, AOp.mv (Opd.t 62), none, none⟩]) 
 (AC.seq
 
 (AC.seq
 
 (AC.reg [⟨some 63, AOp.faddr 5 (Opd.t 7), none, none⟩,
 ⟨some 64, AOp.lload 7 none (Opd.t 63), none, none⟩,
 ⟨some 65, AOp.len 1 (Opd.t 64), none, none⟩,
 ⟨some 66, AOp.bin .gtr (Opd.t 65) (Opd.c (D.int .i64 0)), none, none⟩,
 ⟨some 67, AOp.mv (Opd.t 66), none, none⟩,
 ⟨some 68, AOp.mv (Opd.t 9), some (67, true), none⟩,
 ⟨some 69, AOp.un .not (Opd.t 68), some (67, true), none⟩,
 ⟨some 70, AOp.pick (Opd.t 67) (Opd.t 69) (Opd.c (D.bool false)), none, none⟩,
 ⟨some 71, AOp.mv (Opd.t 70), none, none⟩,
 ⟨some 72, AOp.mv (Opd.t 10), some (71, true), none⟩,
 ⟨some 73, AOp.un .not (Opd.t 72), some (71, true), none⟩,
 ⟨some 74, AOp.pick (Opd.t 71) (Opd.t 73) (Opd.c (D.bool false)), none, none⟩,
 ⟨some 75, AOp.mv (Opd.t 74), none, none⟩,
 ⟨some 76, AOp.mv (Opd.t 11), some (75, true), none⟩,
 ⟨some 77, AOp.un .not (Opd.t 76), some (75, true), none⟩,
 ⟨some 78, AOp.pick (Opd.t 75) (Opd.t 77) (Opd.c (D.bool false)), none, none⟩,
 ⟨some 79, AOp.mv (Opd.t 78), none, none⟩,
 ⟨some 80, AOp.mv (Opd.t 8), some (79, true), none⟩,
 ⟨some 81, AOp.un .not (Opd.t 80), some (79, true), none⟩,
 ⟨some 82, AOp.pick (Opd.t 79) (Opd.t 81) (Opd.c (D.bool false)), none, none⟩,
 ⟨some 83, AOp.mv (Opd.t 82), none, none⟩,
 ⟨some 84, AOp.mv (Opd.t 9), some (83, false), none⟩,
 ⟨some 85, AOp.mv (Opd.t 84), some (83, false), none⟩,
 ⟨some 86, AOp.faddr 5 (Opd.t 7), some (85, true), none⟩,
 ⟨some 87, AOp.lload 7 none (Opd.t 86), some (85, true), none⟩,
 ⟨some 88, AOp.len 1 (Opd.t 87), some (85, true), none⟩,
 ⟨some 89, AOp.bin .rem (Opd.t 88) (Opd.c (D.int .i64 2)), some (85, true), none⟩,
 ⟨some 90, AOp.bin .neq (Opd.t 89) (Opd.c (D.int .i64 0)), some (85, true), none⟩,
 ⟨some 91, AOp.pick (Opd.t 85) (Opd.t 90) (Opd.c (D.bool false)), some (83, false), none⟩,
 ⟨some 92, AOp.pick (Opd.t 83) (Opd.c (D.bool true)) (Opd.t 91), none, none⟩,
 ⟨some 93, AOp.mv (Opd.t 92), none, none⟩,
 ⟨some 94, AOp.mv (Opd.t 8), some (93, false), none⟩,
 ⟨some 95, AOp.mv (Opd.t 94), some (93, false), none⟩,
 ⟨some 96, AOp.faddr 5 (Opd.t 7), some (95, true), none⟩,
 ⟨some 97, AOp.lload 7 none (Opd.t 96), some (95, true), none⟩,
 ⟨some 98, AOp.len 1 (Opd.t 97), some (95, true), none⟩,
 ⟨some 99, AOp.bin .neq (Opd.t 98) (Opd.c (D.int .i64 1)), some (95, true), none⟩,
 ⟨some 100, AOp.pick (Opd.t 95) (Opd.t 99) (Opd.c (D.bool false)), some (93, false), none⟩,
 ⟨some 101, AOp.pick (Opd.t 93) (Opd.c (D.bool true)) (Opd.t 100), none, none⟩]) 
 (AC.cond (Opd.t 101) 
 (AC.seq
 
 (AC.reg [⟨some 6, AOp.mv (Opd.c (D.int .i64 1)), none, none⟩]) 
 (AC.ret)) 
 (AC.skip))) 
 (AC.seq
 
 (AC.seq
 
 (AC.reg [⟨some 102, AOp.faddr 0 (Opd.t 7), none, none⟩,
 ⟨some 103, AOp.lload 7 none (Opd.t 102), none, none⟩,
 ⟨some 104, AOp.bin .eql (Opd.t 103) (Opd.c (D.int .i64 4)), none, none⟩,
 ⟨some 105, AOp.mv (Opd.t 104), none, none⟩,
 ⟨some 106, AOp.faddr 4 (Opd.t 7), some (105, true), none⟩,
 ⟨some 107, AOp.lload 7 none (Opd.t 106), some (105, true), none⟩,
 ⟨some 108, AOp.call false 42 [Opd.t 107], some (105, true), none⟩,
 ⟨some 109, AOp.un .not (Opd.t 108), some (105, true), none⟩,
 ⟨some 110, AOp.pick (Opd.t 105) (Opd.t 109) (Opd.c (D.bool false)), none, none⟩]) 
 (AC.cond (Opd.t 110) 
 (AC.seq
 
 (AC.reg [⟨some 6, AOp.mv (Opd.c (D.int .i64 1)), none, none⟩]) 
 (AC.ret)) 
 (AC.skip))) 
 (AC.seq
 
 (AC.seq
 
 (AC.reg [⟨some 12, AOp.mv (Opd.c (D.int .i64 0)), none, none⟩]) 
 (AC.block 0 
 (AC.loop [0, 1, 2, 3, 4, 7, 8, 9, 10, 11, 12, 13, 15, 18, 20, 22, 24] 
 (AC.seq
 
 (AC.seq
 
 (AC.reg [⟨some 111, AOp.mv (Opd.t 12), none, none⟩,
 ⟨some 112, AOp.faddr 5 (Opd.t 7), none, none⟩,
 ⟨some 113, AOp.lload 7 none (Opd.t 112), none, none⟩,
 ⟨some 114, AOp.len 1 (Opd.t 113), none, none⟩,
 ⟨some 115, AOp.bin .lss (Opd.t 111) (Opd.t 114), none, none⟩]) 
 (AC.cond (Opd.t 115) 
 (AC.skip) 
 (AC.exit 0))) 
 (AC.seq
 
 (AC.block 1 
 (AC.seq
 
 (AC.reg [⟨some 118, AOp.faddr 5 (Opd.t 7), none, none⟩,
 ⟨some 119, AOp.lload 7 none (Opd.t 118), none, none⟩,
 ⟨some 120, AOp.mv (Opd.t 12), none, none⟩,
 ⟨some 121, AOp.iaddr 1 (Opd.t 119) (Opd.t 120), none, none⟩,
 ⟨some 122, AOp.load none (Opd.t 121), none, none⟩,
 ⟨some 13, AOp.mv (Opd.t 122), none, none⟩]) 
 (AC.seq
 
 (AC.seq
 
 (AC.reg [⟨some 123, AOp.mv (Opd.t 13), none, none⟩,
 ⟨some 124, AOp.bin .lss (Opd.t 123) (Opd.c (D.int .i64 0)), none, none⟩,
 ⟨some 125, AOp.mv (Opd.t 124), none, none⟩,
 ⟨some 126, AOp.mv (Opd.t 13), some (125, false), none⟩,
 ⟨some 127, AOp.mv (Opd.t 0), some (125, false), none⟩,
 ⟨some 128, AOp.len 1 (Opd.t 127), some (125, false), none⟩,
 ⟨some 129, AOp.bin .geq (Opd.t 126) (Opd.t 128), some (125, false), none⟩,
 ⟨some 130, AOp.pick (Opd.t 125) (Opd.c (D.bool true)) (Opd.t 129), none, none⟩,
 ⟨some 131, AOp.mv (Opd.t 130), none, none⟩,
 ⟨some 132, AOp.mv (Opd.t 13), some (131, false), none⟩,
 ⟨some 133, AOp.mv (Opd.t 1), some (131, false), none⟩,
 ⟨some 134, AOp.bin .geq (Opd.t 132) (Opd.t 133), some (131, false), none⟩,
 ⟨some 135, AOp.mv (Opd.t 134), some (131, false), none⟩,
 ⟨some 136, AOp.faddr 0 (Opd.t 7), some (135, true), none⟩,
 ⟨some 137, AOp.lload 7 none (Opd.t 136), some (135, true), none⟩,
 ⟨some 138, AOp.bin .neq (Opd.t 137) (Opd.c (D.int .i64 6)), some (135, true), none⟩,
 ⟨some 139, AOp.pick (Opd.t 135) (Opd.t 138) (Opd.c (D.bool false)), some (131, false), none⟩,
 ⟨some 140, AOp.pick (Opd.t 131) (Opd.c (D.bool true)) (Opd.t 139), none, none⟩,
 ⟨some 141, AOp.mv (Opd.t 140), none, none⟩,
 ⟨some 142, AOp.mv (Opd.t 8), some (141, false), none⟩,
 ⟨some 143, AOp.mv (Opd.t 142), some (141, false), none⟩,
 ⟨some 144, AOp.mv (Opd.t 0), some (143, true), none⟩,
 ⟨some 145, AOp.mv (Opd.t 13), some (143, true), none⟩,
 ⟨some 146, AOp.iaddr 8 (Opd.t 144) (Opd.t 145), some (143, true), none⟩,
 ⟨some 147, AOp.faddr 0 (Opd.t 146), some (143, true), none⟩,
 ⟨some 148, AOp.load none (Opd.t 147), some (143, true), none⟩,
 ⟨some 149, AOp.bin .neq (Opd.t 148) (Opd.c (D.int .i64 7)), some (143, true), none⟩,
 ⟨some 150, AOp.pick (Opd.t 143) (Opd.t 149) (Opd.c (D.bool false)), some (141, false), none⟩,
 ⟨some 151, AOp.pick (Opd.t 141) (Opd.c (D.bool true)) (Opd.t 150), none, none⟩]) 
 (AC.cond (Opd.t 151) 
 (AC.seq
 
 (AC.reg [⟨some 6, AOp.mv (Opd.c (D.int .i64 1)), none, none⟩]) 
 (AC.ret)) 
 (AC.skip))) 
 (AC.seq
 
 (AC.reg [⟨some 152, AOp.mv (Opd.t 10), none, none⟩,
 ⟨some 153, AOp.mv (Opd.t 152), none, none⟩,
 ⟨some 154, AOp.mv (Opd.t 9), some (153, false), none⟩,
 ⟨some 155, AOp.mv (Opd.t 154), some (153, false), none⟩,
 ⟨some 156, AOp.mv (Opd.t 12), some (155, true), none⟩,
 ⟨some 157, AOp.bin .rem (Opd.t 156) (Opd.c (D.int .i64 2)), some (155, true), none⟩,
 ⟨some 158, AOp.bin .eql (Opd.t 157) (Opd.c (D.int .i64 0)), some (155, true), none⟩,
 ⟨some 159, AOp.pick (Opd.t 155) (Opd.t 158) (Opd.c (D.bool false)), some (153, false), none⟩,
 ⟨some 160, AOp.pick (Opd.t 153) (Opd.c (D.bool true)) (Opd.t 159), none, none⟩]) 
 (AC.cond (Opd.t 160) 
 (AC.seq
 
 (AC.reg [⟨some 161, AOp.mv (Opd.t 0), none, none⟩,
 ⟨some 162, AOp.mv (Opd.t 13), none, none⟩,
 ⟨some 163, AOp.iaddr 8 (Opd.t 161) (Opd.t 162), none, none⟩,
 ⟨some 164, AOp.load (some 8) (Opd.t 163), none, none⟩,
 ⟨some 14, AOp.lbox (Opd.c (D.agg [D.int .i64 0, D.bool false, D.bool false, D.vs true 0 [], D.str [], D.vs true 0 [], D.bool false, D.bool false])), none, none⟩,
 ⟨none, AOp.lstore 14 8 (Opd.t 14) (Opd.t 164), none, none⟩]) 
 (AC.seq
 
 (AC.reg [⟨some 165, AOp.faddr 0 (Opd.t 14), none, none⟩,
 ⟨some 166, AOp.lload 14 none (Opd.t 165), none, none⟩,
 ⟨some 167, AOp.bin .geq (Opd.t 166) (Opd.c (D.int .i64 1)), none, none⟩,
 ⟨some 168, AOp.mv (Opd.t 167), none, none⟩,
 ⟨some 169, AOp.faddr 0 (Opd.t 14), some (168, true), none⟩,
 ⟨some 170, AOp.lload 14 none (Opd.t 169), some (168, true), none⟩,
 ⟨some 171, AOp.bin .leq (Opd.t 170) (Opd.c (D.int .i64 4)), some (168, true), none⟩,
 ⟨some 172, AOp.pick (Opd.t 168) (Opd.t 171) (Opd.c (D.bool false)), none, none⟩,
 ⟨some 173, AOp.mv (Opd.t 172), none, none⟩,
 ⟨some 174, AOp.faddr 0 (Opd.t 14), some (173, false), none⟩,
 ⟨some 175, AOp.lload 14 none (Opd.t 174), some (173, false), none⟩,
 ⟨some 176, AOp.bin .eql (Opd.t 175) (Opd.c (D.int .i64 14)), some (173, false), none⟩,
 ⟨some 177, AOp.mv (Opd.t 176), some (173, false), none⟩,
 ⟨some 178, AOp.faddr 6 (Opd.t 14), some (177, true), none⟩,
 ⟨some 179, AOp.lload 14 none (Opd.t 178), some (177, true), none⟩,
 ⟨some 180, AOp.mv (Opd.t 179), some (177, true), none⟩,
 ⟨some 181, AOp.faddr 7 (Opd.t 14), some (180, false), none⟩,
 ⟨some 182, AOp.lload 14 none (Opd.t 181), some (180, false), none⟩,
 ⟨some 183, AOp.un .not (Opd.t 182), some (180, false), none⟩,
 ⟨some 184, AOp.pick (Opd.t 180) (Opd.c (D.bool true)) (Opd.t 183), some (177, true), none⟩,
 ⟨some 185, AOp.pick (Opd.t 177) (Opd.t 184) (Opd.c (D.bool false)), some (173, false), none⟩,
 ⟨some 186, AOp.pick (Opd.t 173) (Opd.c (D.bool true)) (Opd.t 185), none, none⟩,
 ⟨some 187, AOp.un .not (Opd.t 186), none, none⟩]) 
 (AC.cond (Opd.t 187) 
 (AC.seq
 
 (AC.reg [⟨some 6, AOp.mv (Opd.c (D.int .i64 1)), none, none⟩]) 
 (AC.ret)) 
 (AC.skip)))) 
 (AC.skip)))))) 
 (AC.reg [⟨some 116, AOp.mv (Opd.t 12), none, none⟩,
 ⟨some 117, AOp.bin .add (Opd.t 116) (Opd.c (D.int .i64 1)), none, none⟩,
 ⟨some 12, AOp.mv (Opd.t 117), none, none⟩])))))) 
 (AC.seq
 
 (AC.seq
 
 (AC.reg [⟨some 188, AOp.faddr 0 (Opd.t 7), none, none⟩,
 ⟨some 189, AOp.lload 7 none (Opd.t 188), none, none⟩,
 ⟨some 190, AOp.bin .eql (Opd.t 189) (Opd.c (D.int .i64 4)), none, none⟩,
 ⟨some 191, AOp.mv (Opd.t 190), none, none⟩,
 ⟨some 192, AOp.faddr 4 (Opd.t 7), some (191, true), none⟩,
 ⟨some 193, AOp.lload 7 none (Opd.t 192), some (191, true), none⟩,
 ⟨some 194, AOp.call false 43 [Opd.t 193], some (191, true), none⟩,
 ⟨some 195, AOp.bin .gtr (Opd.t 194) (Opd.c (D.int .i64 65536)), some (191, true), none⟩,
 ⟨some 196, AOp.pick (Opd.t 191) (Opd.t 195) (Opd.c (D.bool false)), none, none⟩,
 ⟨some 197, AOp.mv (Opd.t 196), none, none⟩,
 ⟨some 198, AOp.faddr 0 (Opd.t 7), some (197, false), none⟩,
 ⟨some 199, AOp.lload 7 none (Opd.t 198), some (197, false), none⟩,
 ⟨some 200, AOp.bin .eql (Opd.t 199) (Opd.c (D.int .i64 3)), some (197, false), none⟩,
 ⟨some 201, AOp.mv (Opd.t 200), some (197, false), none⟩,
 ⟨some 202, AOp.faddr 2 (Opd.t 7), some (201, true), none⟩,
 ⟨some 203, AOp.lload 7 (some 2) (Opd.t 202), some (201, true), none⟩,
 ⟨some 204, AOp.call false 44 [Opd.t 203], some (201, true), none⟩,
 ⟨some 205, AOp.field 1 none (Opd.t 204), some (201, true), none⟩,
 ⟨some 206, AOp.len 1 (Opd.t 205), some (201, true), none⟩,
 ⟨some 207, AOp.bin .gtr (Opd.t 206) (Opd.c (D.int .i64 256)), some (201, true), none⟩,
 ⟨some 208, AOp.pick (Opd.t 201) (Opd.t 207) (Opd.c (D.bool false)), some (197, false), none⟩,
 ⟨some 209, AOp.pick (Opd.t 197) (Opd.c (D.bool true)) (Opd.t 208), none, none⟩,
 ⟨some 210, AOp.mv (Opd.t 209), none, none⟩,
 ⟨some 211, AOp.mv (Opd.t 11), some (210, false), none⟩,
 ⟨some 212, AOp.mv (Opd.t 211), some (210, false), none⟩,
 ⟨some 213, AOp.faddr 5 (Opd.t 7), some (212, true), none⟩,
 ⟨some 214, AOp.lload 7 none (Opd.t 213), some (212, true), none⟩,
 ⟨some 215, AOp.len 1 (Opd.t 214), some (212, true), none⟩,
 ⟨some 216, AOp.bin .gtr (Opd.t 215) (Opd.c (D.int .i64 65536)), some (212, true), none⟩,
 ⟨some 217, AOp.pick (Opd.t 212) (Opd.t 216) (Opd.c (D.bool false)), some (210, false), none⟩,
 ⟨some 218, AOp.pick (Opd.t 210) (Opd.c (D.bool true)) (Opd.t 217), none, none⟩]) 
 (AC.cond (Opd.t 218) 
 (AC.seq
 
 (AC.reg [⟨some 6, AOp.mv (Opd.c (D.int .i64 3)), none, none⟩]) 
 (AC.ret)) 
 (AC.skip))) 
 (AC.seq
 
 (AC.seq
 
 (AC.reg [⟨some 219, AOp.mv (Opd.t 9), none, none⟩,
 ⟨some 220, AOp.mv (Opd.t 219), none, none⟩,
 ⟨some 221, AOp.mv (Opd.t 10), some (220, false), none⟩,
 ⟨some 222, AOp.pick (Opd.t 220) (Opd.c (D.bool true)) (Opd.t 221), none, none⟩,
 ⟨some 223, AOp.mv (Opd.t 222), none, none⟩,
 ⟨some 224, AOp.mv (Opd.t 0), some (223, true), none⟩,
 ⟨some 225, AOp.lload 7 (some 8) (Opd.t 7), some (223, true), none⟩,
 ⟨some 226, AOp.call false 45 [Opd.t 224, Opd.t 225], some (223, true), none⟩,
 ⟨some 227, AOp.mv (Opd.t 2), some (223, true), none⟩,
 ⟨some 228, AOp.bin .gtr (Opd.t 226) (Opd.t 227), some (223, true), none⟩,
 ⟨some 229, AOp.pick (Opd.t 223) (Opd.t 228) (Opd.c (D.bool false)), none, none⟩]) 
 (AC.cond (Opd.t 229) 
 (AC.seq
 
 (AC.reg [⟨some 6, AOp.mv (Opd.c (D.int .i64 3)), none, none⟩]) 
 (AC.ret)) 
 (AC.skip))) 
 (AC.seq
 
 (AC.reg [⟨some 6, AOp.mv (Opd.c (D.int .i64 0)), none, none⟩]) 
 (AC.ret))))))))))))) ⟩
/-- (*lexicon/lexiconref19.Store).made -/
def code23 : AFn := ⟨ [ARes.tmp 8],  AC.seq
 
 (AC.reg [⟨some 8, AOp.mv (Opd.c (D.int .i64 0)), none, none⟩]) 
 (AC.seq
 
 (AC.reg [⟨some 19, AOp.mv (Opd.t 1), none, none⟩,
 ⟨some 20, AOp.mv (Opd.t 3), none, none⟩,
 ⟨some 21, AOp.iaddr 8 (Opd.t 19) (Opd.t 20), none, none⟩,
 ⟨some 22, AOp.load (some 8) (Opd.t 21), none, none⟩,
 ⟨some 9, AOp.lbox (Opd.c (D.agg [D.int .i64 0, D.bool false, D.bool false, D.vs true 0 [], D.str [], D.vs true 0 [], D.bool false, D.bool false])), none, none⟩,
 ⟨none, AOp.lstore 9 8 (Opd.t 9) (Opd.t 22), none, none⟩]) 
 (AC.seq
 
 (AC.seq
 
 (AC.reg [⟨some 23, AOp.faddr 0 (Opd.t 9), none, none⟩,
 ⟨some 24, AOp.lload 9 none (Opd.t 23), none, none⟩]) 
 (AC.block 0 
 (AC.seq
 
 (AC.reg [⟨some 26, AOp.bin .eql (Opd.t 24) (Opd.c (D.int .i64 1)), none, none⟩,
 ⟨some 25, AOp.mv (Opd.t 26), none, none⟩]) 
 (AC.cond (Opd.t 25) 
 (AC.seq
 
 (AC.reg [⟨some 8, AOp.mv (Opd.c (D.int .i64 0)), none, none⟩]) 
 (AC.ret)) 
 (AC.seq
 
 (AC.reg [⟨some 28, AOp.bin .eql (Opd.t 24) (Opd.c (D.int .i64 2)), none, none⟩,
 ⟨some 27, AOp.mv (Opd.t 28), none, none⟩]) 
 (AC.cond (Opd.t 27) 
 (AC.seq
 
 (AC.reg [⟨some 29, AOp.faddr 1 (Opd.t 9), none, none⟩,
 ⟨some 30, AOp.lload 9 none (Opd.t 29), none, none⟩,
 ⟨some 31, AOp.call false 46 [Opd.t 30], none, none⟩,
 ⟨some 8, AOp.mv (Opd.t 31), none, none⟩]) 
 (AC.ret)) 
 (AC.seq
 
 (AC.reg [⟨some 33, AOp.bin .eql (Opd.t 24) (Opd.c (D.int .i64 3)), none, none⟩,
 ⟨some 32, AOp.mv (Opd.t 33), none, none⟩]) 
 (AC.cond (Opd.t 32) 
 (AC.seq
 
 (AC.reg [⟨some 34, AOp.mv (Opd.t 0), none, none⟩,
 ⟨some 35, AOp.faddr 2 (Opd.t 9), none, none⟩,
 ⟨some 36, AOp.lload 9 (some 2) (Opd.t 35), none, none⟩,
 ⟨some 37, AOp.call false 47 [Opd.t 34, Opd.t 36], none, none⟩,
 ⟨some 8, AOp.mv (Opd.t 37), none, none⟩]) 
 (AC.ret)) 
 (AC.seq
 
 (AC.reg [⟨some 39, AOp.bin .eql (Opd.t 24) (Opd.c (D.int .i64 4)), none, none⟩,
 ⟨some 38, AOp.mv (Opd.t 39), none, none⟩]) 
 (AC.cond (Opd.t 38) 
 (AC.seq
 
 (AC.reg [⟨some 40, AOp.mv (Opd.t 0), none, none⟩,
 ⟨some 41, AOp.faddr 4 (Opd.t 9), none, none⟩,
 ⟨some 42, AOp.lload 9 none (Opd.t 41), none, none⟩,
 ⟨some 43, AOp.call false 48 [Opd.t 40, Opd.t 42], none, none⟩,
 ⟨some 8, AOp.mv (Opd.t 43), none, none⟩]) 
 (AC.ret)) 
 (AC.seq
 
 (AC.reg [⟨some 45, AOp.bin .eql (Opd.t 24) (Opd.c (D.int .i64 5)), none, none⟩,
 ⟨some 44, AOp.mv (Opd.t 45), none, none⟩]) 
 (AC.cond (Opd.t 44) 
 (AC.seq
 
 (AC.reg [⟨some 10, AOp.mv (Opd.c (D.vs true 0 [])), none, none⟩]) 
 (AC.seq
 
 (AC.seq
 
 (AC.reg [⟨some 11, AOp.mv (Opd.c (D.int .i64 0)), none, none⟩]) 
 (AC.block 1 
 (AC.loop [0, 2, 9, 10, 11] 
 (AC.seq
 
 (AC.seq
 
 (AC.reg [⟨some 46, AOp.mv (Opd.t 11), none, none⟩,
 ⟨some 47, AOp.faddr 5 (Opd.t 9), none, none⟩,
 ⟨some 48, AOp.lload 9 none (Opd.t 47), none, none⟩,
 ⟨some 49, AOp.len 1 (Opd.t 48), none, none⟩,
 ⟨some 50, AOp.bin .lss (Opd.t 46) (Opd.t 49), none, none⟩]) 
 (AC.cond (Opd.t 50) 
 (AC.skip) 
 (AC.exit 1))) 
 (AC.seq
 
 (AC.block 2 
 (AC.reg [⟨some 53, AOp.mv (Opd.t 10), none, none⟩,
 ⟨some 54, AOp.mv (Opd.t 2), none, none⟩,
 ⟨some 55, AOp.faddr 5 (Opd.t 9), none, none⟩,
 ⟨some 56, AOp.lload 9 none (Opd.t 55), none, none⟩,
 ⟨some 57, AOp.mv (Opd.t 11), none, none⟩,
 ⟨some 58, AOp.iaddr 1 (Opd.t 56) (Opd.t 57), none, none⟩,
 ⟨some 59, AOp.load none (Opd.t 58), none, none⟩,
 ⟨some 60, AOp.iaddr 1 (Opd.t 54) (Opd.t 59), none, none⟩,
 ⟨some 61, AOp.load none (Opd.t 60), none, none⟩,
 ⟨some 62, AOp.vslice 1 (D.int .i64 0) 1 [(0, Opd.t 61)], none, none⟩,
 ⟨some 63, AOp.append 1 8 3 (Opd.t 53) (Opd.t 62), none, none⟩,
 ⟨some 10, AOp.mv (Opd.t 63), none, none⟩])) 
 (AC.reg [⟨some 51, AOp.mv (Opd.t 11), none, none⟩,
 ⟨some 52, AOp.bin .add (Opd.t 51) (Opd.c (D.int .i64 1)), none, none⟩,
 ⟨some 11, AOp.mv (Opd.t 52), none, none⟩])))))) 
 (AC.seq
 
 (AC.reg [⟨some 64, AOp.mv (Opd.t 0), none, none⟩,
 ⟨some 65, AOp.faddr 0 (Opd.t 9), none, none⟩,
 ⟨some 66, AOp.lload 9 none (Opd.t 65), none, none⟩,
 ⟨some 67, AOp.mv (Opd.t 10), none, none⟩,
 ⟨some 68, AOp.build [D.int .i64 0, D.int .i64 0, D.bool false, D.bool false, D.bool false, D.vs true 0 [], D.str [], D.vs true 0 [], D.nilp, D.int .i64 0, D.vs true 0 [], D.int .i64 0, D.int .i64 0, D.int .i64 0, D.int .i64 0, D.nilp, D.nilp, D.int .i64 0, D.nilp, D.bool false, D.bool false, D.bool false] [(0, 1, Opd.t 66), (7, 1, Opd.t 67)], none, none⟩,
 ⟨some 69, AOp.call false 49 [Opd.t 64, Opd.t 68], none, none⟩,
 ⟨some 8, AOp.mv (Opd.t 69), none, none⟩]) 
 (AC.ret)))) 
 (AC.seq
 
 (AC.reg [⟨some 71, AOp.bin .eql (Opd.t 24) (Opd.c (D.int .i64 6)), none, none⟩,
 ⟨some 70, AOp.mv (Opd.t 71), none, none⟩]) 
 (AC.cond (Opd.t 70) 
 (AC.seq
 
 (AC.reg [⟨some 72, AOp.mv (Opd.t 0), none, none⟩,
 ⟨some 73, AOp.faddr 0 (Opd.t 9), none, none⟩,
 ⟨some 74, AOp.lload 9 none (Opd.t 73), none, none⟩,
 ⟨some 75, AOp.build [D.int .i64 0, D.int .i64 0, D.bool false, D.bool false, D.bool false, D.vs true 0 [], D.str [], D.vs true 0 [], D.nilp, D.int .i64 0, D.vs true 0 [], D.int .i64 0, D.int .i64 0, D.int .i64 0, D.int .i64 0, D.nilp, D.nilp, D.int .i64 0, D.nilp, D.bool false, D.bool false, D.bool false] [(0, 1, Opd.t 74)], none, none⟩,
 ⟨some 76, AOp.call false 49 [Opd.t 72, Opd.t 75], none, none⟩,
 ⟨some 8, AOp.mv (Opd.t 76), none, none⟩]) 
 (AC.ret)) 
 (AC.seq
 
 (AC.reg [⟨some 78, AOp.bin .eql (Opd.t 24) (Opd.c (D.int .i64 14)), none, none⟩,
 ⟨some 77, AOp.mv (Opd.t 78), none, none⟩]) 
 (AC.cond (Opd.t 77) 
 (AC.seq
 
 (AC.reg [⟨some 79, AOp.mv (Opd.t 0), none, none⟩,
 ⟨some 80, AOp.call false 50 [Opd.t 79, Opd.c (D.str [67]), Opd.c (D.int .i64 (-1))], none, none⟩,
 ⟨some 12, AOp.mv (Opd.t 80), none, none⟩]) 
 (AC.seq
 
 (AC.dreg 0 [(⟨some 81, AOp.mv (Opd.t 0), none, none⟩, []),
 (⟨some 82, AOp.nilchk (Opd.t 81), none, none⟩, []),
 (⟨some 83, AOp.faddr 0 (Opd.t 82), none, none⟩, []),
 (⟨some 84, AOp.load none (Opd.t 83), none, none⟩, []),
 (⟨some 85, AOp.mv (Opd.t 12), none, none⟩, []),
 (⟨some 86, AOp.faddr 6 (Opd.t 9), none, none⟩, []),
 (⟨some 87, AOp.lload 9 none (Opd.t 86), none, none⟩, []),
 (⟨some 88, AOp.iaddr 22 (Opd.t 84) (Opd.t 85), none, none⟩, []),
 (⟨some 89, AOp.faddr 20 (Opd.t 88), none, none⟩, []),
 (⟨none, AOp.store 1 (Opd.t 89) (Opd.t 87), none, none⟩, [])]) 
 (AC.seq
 
 (AC.dreg 0 [(⟨some 90, AOp.mv (Opd.t 0), none, none⟩, []),
 (⟨some 91, AOp.nilchk (Opd.t 90), none, none⟩, []),
 (⟨some 92, AOp.faddr 0 (Opd.t 91), none, none⟩, []),
 (⟨some 93, AOp.load none (Opd.t 92), none, none⟩, []),
 (⟨some 94, AOp.mv (Opd.t 12), none, none⟩, []),
 (⟨some 95, AOp.faddr 7 (Opd.t 9), none, none⟩, []),
 (⟨some 96, AOp.lload 9 none (Opd.t 95), none, none⟩, []),
 (⟨some 97, AOp.iaddr 22 (Opd.t 93) (Opd.t 94), none, none⟩, []),
 (⟨some 98, AOp.faddr 21 (Opd.t 97), none, none⟩, []),
 (⟨none, AOp.store 1 (Opd.t 98) (Opd.t 96), none, none⟩, [])]) 
 (AC.seq
 
 (AC.reg [⟨some 99, AOp.mv (Opd.t 0), none, none⟩,
 ⟨some 100, AOp.mv (Opd.t 12), none, none⟩,
 ⟨some 101, AOp.call false 51 [Opd.t 99, Opd.t 100], none, none⟩,
 ⟨some 8, AOp.mv (Opd.t 101), none, none⟩]) 
 (AC.ret))))) 
 (AC.seq
 
 (AC.seq
 
 (AC.reg [⟨some 103, AOp.bin .eql (Opd.t 24) (Opd.c (D.int .i64 7)), none, none⟩,
 ⟨some 102, AOp.mv (Opd.t 103), none, none⟩]) 
 (AC.cond (Opd.t 102) 
 (AC.skip) 
 (AC.seq
 
 (AC.reg [⟨some 104, AOp.bin .eql (Opd.t 24) (Opd.c (D.int .i64 8)), none, none⟩,
 ⟨some 102, AOp.mv (Opd.t 104), none, none⟩]) 
 (AC.cond (Opd.t 102) 
 (AC.skip) 
 (AC.reg [⟨some 105, AOp.bin .eql (Opd.t 24) (Opd.c (D.int .i64 9)), none, none⟩,
 ⟨some 102, AOp.mv (Opd.t 105), none, none⟩]))))) 
 (AC.cond (Opd.t 102) 
 (AC.seq
 
 (AC.reg [⟨some 106, AOp.mv (Opd.t 0), none, none⟩,
 ⟨some 107, AOp.faddr 0 (Opd.t 9), none, none⟩,
 ⟨some 108, AOp.lload 9 none (Opd.t 107), none, none⟩,
 ⟨some 109, AOp.call false 52 [Opd.t 106, Opd.t 108], none, none⟩,
 ⟨some 13, AOp.mv (Opd.t 109), none, none⟩]) 
 (AC.seq
 
 (AC.reg [⟨some 14, AOp.mv (Opd.c (D.int .i64 1)), none, none⟩]) 
 (AC.seq
 
 (AC.seq
 
 (AC.reg [⟨some 110, AOp.faddr 0 (Opd.t 9), none, none⟩,
 ⟨some 111, AOp.lload 9 none (Opd.t 110), none, none⟩,
 ⟨some 112, AOp.bin .eql (Opd.t 111) (Opd.c (D.int .i64 7)), none, none⟩]) 
 (AC.cond (Opd.t 112) 
 (AC.reg [⟨some 14, AOp.mv (Opd.c (D.int .i64 2)), none, none⟩]) 
 (AC.skip))) 
 (AC.seq
 
 (AC.seq
 
 (AC.reg [⟨some 15, AOp.mv (Opd.c (D.int .i64 0)), none, none⟩]) 
 (AC.block 3 
 (AC.loop [0, 1, 2, 9, 13, 14, 15] 
 (AC.seq
 
 (AC.seq
 
 (AC.reg [⟨some 113, AOp.mv (Opd.t 15), none, none⟩,
 ⟨some 114, AOp.faddr 5 (Opd.t 9), none, none⟩,
 ⟨some 115, AOp.lload 9 none (Opd.t 114), none, none⟩,
 ⟨some 116, AOp.len 1 (Opd.t 115), none, none⟩,
 ⟨some 117, AOp.bin .lss (Opd.t 113) (Opd.t 116), none, none⟩]) 
 (AC.cond (Opd.t 117) 
 (AC.skip) 
 (AC.exit 3))) 
 (AC.seq
 
 (AC.block 4 
 (AC.seq
 
 (AC.reg [⟨some 16, AOp.mv (Opd.c (D.int .i64 0)), none, none⟩]) 
 (AC.seq
 
 (AC.seq
 
 (AC.reg [⟨some 121, AOp.mv (Opd.t 14), none, none⟩,
 ⟨some 122, AOp.bin .eql (Opd.t 121) (Opd.c (D.int .i64 2)), none, none⟩]) 
 (AC.cond (Opd.t 122) 
 (AC.reg [⟨some 123, AOp.mv (Opd.t 2), none, none⟩,
 ⟨some 124, AOp.faddr 5 (Opd.t 9), none, none⟩,
 ⟨some 125, AOp.lload 9 none (Opd.t 124), none, none⟩,
 ⟨some 126, AOp.mv (Opd.t 15), none, none⟩,
 ⟨some 127, AOp.bin .add (Opd.t 126) (Opd.c (D.int .i64 1)), none, none⟩,
 ⟨some 128, AOp.iaddr 1 (Opd.t 125) (Opd.t 127), none, none⟩,
 ⟨some 129, AOp.load none (Opd.t 128), none, none⟩,
 ⟨some 130, AOp.iaddr 1 (Opd.t 123) (Opd.t 129), none, none⟩,
 ⟨some 131, AOp.load none (Opd.t 130), none, none⟩,
 ⟨some 16, AOp.mv (Opd.t 131), none, none⟩]) 
 (AC.skip))) 
 (AC.seq
 
 (AC.dreg 0 [(⟨some 133, AOp.mv (Opd.t 1), none, none⟩, []),
 (⟨some 134, AOp.faddr 5 (Opd.t 9), none, none⟩, []),
 (⟨some 135, AOp.lload 9 none (Opd.t 134), none, none⟩, []),
 (⟨some 136, AOp.mv (Opd.t 15), none, none⟩, []),
 (⟨some 137, AOp.iaddr 1 (Opd.t 135) (Opd.t 136), none, none⟩, []),
 (⟨some 138, AOp.load none (Opd.t 137), none, none⟩, []),
 (⟨some 139, AOp.iaddr 8 (Opd.t 133) (Opd.t 138), none, none⟩, []),
 (⟨some 140, AOp.load (some 8) (Opd.t 139), none, none⟩, []),
 (⟨some 141, AOp.mv (Opd.t 0), none, none⟩, []),
 (⟨some 142, AOp.mv (Opd.t 2), none, none⟩, []),
 (⟨some 143, AOp.faddr 5 (Opd.t 9), none, none⟩, []),
 (⟨some 144, AOp.lload 9 none (Opd.t 143), none, none⟩, []),
 (⟨some 145, AOp.mv (Opd.t 15), none, none⟩, []),
 (⟨some 146, AOp.iaddr 1 (Opd.t 144) (Opd.t 145), none, none⟩, []),
 (⟨some 147, AOp.load none (Opd.t 146), none, none⟩, []),
 (⟨some 148, AOp.iaddr 1 (Opd.t 142) (Opd.t 147), none, none⟩, []),
 (⟨some 149, AOp.load none (Opd.t 148), none, none⟩, []),
 (⟨some 150, AOp.call false 53 [Opd.t 140, Opd.t 141, Opd.t 149], none, none⟩, []),
 (⟨some 132, AOp.mv (Opd.t 150), none, none⟩, []),
 (⟨some 151, AOp.extract 0 (Opd.t 132), none, none⟩, []),
 (⟨some 152, AOp.extract 1 (Opd.t 132), none, none⟩, []),
 (⟨some 17, AOp.mv (Opd.t 151), none, none⟩, []),
 (⟨some 18, AOp.mv (Opd.t 152), none, none⟩, [])]) 
 (AC.reg [⟨some 153, AOp.mv (Opd.t 0), none, none⟩,
 ⟨some 154, AOp.mv (Opd.t 13), none, none⟩,
 ⟨some 155, AOp.mv (Opd.t 17), none, none⟩,
 ⟨some 156, AOp.mv (Opd.t 2), none, none⟩,
 ⟨some 157, AOp.faddr 5 (Opd.t 9), none, none⟩,
 ⟨some 158, AOp.lload 9 none (Opd.t 157), none, none⟩,
 ⟨some 159, AOp.mv (Opd.t 15), none, none⟩,
 ⟨some 160, AOp.iaddr 1 (Opd.t 158) (Opd.t 159), none, none⟩,
 ⟨some 161, AOp.load none (Opd.t 160), none, none⟩,
 ⟨some 162, AOp.iaddr 1 (Opd.t 156) (Opd.t 161), none, none⟩,
 ⟨some 163, AOp.load none (Opd.t 162), none, none⟩,
 ⟨some 164, AOp.mv (Opd.t 16), none, none⟩,
 ⟨some 165, AOp.call false 54 [Opd.t 153, Opd.t 154, Opd.t 155, Opd.t 163, Opd.t 164], none, none⟩]))))) 
 (AC.reg [⟨some 118, AOp.mv (Opd.t 15), none, none⟩,
 ⟨some 119, AOp.mv (Opd.t 14), none, none⟩,
 ⟨some 120, AOp.bin .add (Opd.t 118) (Opd.t 119), none, none⟩,
 ⟨some 15, AOp.mv (Opd.t 120), none, none⟩])))))) 
 (AC.seq
 
 (AC.reg [⟨some 166, AOp.mv (Opd.t 13), none, none⟩,
 ⟨some 8, AOp.mv (Opd.t 166), none, none⟩]) 
 (AC.ret)))))) 
 (AC.skip))))))))))))))))))) 
 (AC.seq
 
 (AC.dreg 0 [(⟨some 167, AOp.mv (Opd.t 0), none, none⟩, []),
 (⟨some 168, AOp.faddr 0 (Opd.t 9), none, none⟩, []),
 (⟨some 169, AOp.lload 9 none (Opd.t 168), none, none⟩, []),
 (⟨some 170, AOp.mv (Opd.t 2), none, none⟩, []),
 (⟨some 171, AOp.faddr 5 (Opd.t 9), none, none⟩, []),
 (⟨some 172, AOp.lload 9 none (Opd.t 171), none, none⟩, []),
 (⟨some 173, AOp.iaddr 1 (Opd.t 172) (Opd.c (D.int .i64 0)), none, none⟩, []),
 (⟨some 174, AOp.load none (Opd.t 173), none, none⟩, []),
 (⟨some 175, AOp.iaddr 1 (Opd.t 170) (Opd.t 174), none, none⟩, []),
 (⟨some 176, AOp.load none (Opd.t 175), none, none⟩, []),
 (⟨some 177, AOp.build [D.int .i64 0, D.int .i64 0, D.bool false, D.bool false, D.bool false, D.vs true 0 [], D.str [], D.vs true 0 [], D.nilp, D.int .i64 0, D.vs true 0 [], D.int .i64 0, D.int .i64 0, D.int .i64 0, D.int .i64 0, D.nilp, D.nilp, D.int .i64 0, D.nilp, D.bool false, D.bool false, D.bool false] [(0, 1, Opd.t 169), (17, 1, Opd.t 176)], none, none⟩, []),
 (⟨some 178, AOp.call false 49 [Opd.t 167, Opd.t 177], none, none⟩, []),
 (⟨some 8, AOp.mv (Opd.t 178), none, none⟩, [])]) 
 (AC.ret)))) ⟩
/-- lexicon/show.all$1 -/
def code24 : AFn := ⟨ [],  AC.seq
 
 (AC.reg [⟨some 5, AOp.load none (Opd.t 1), none, none⟩,
 ⟨some 6, AOp.mv (Opd.t 0), none, none⟩,
 ⟨some 7, AOp.build [D.nilp, D.nilf, D.vs true 0 [], D.bool false] [(0, 1, Opd.t 5), (1, 1, Opd.t 6), (3, 1, Opd.c (D.bool true))], none, none⟩,
 ⟨some 8, AOp.box 114 (Opd.t 7), none, none⟩,
 ⟨some 4, AOp.mv (Opd.t 8), none, none⟩]) 
 (AC.reg [⟨some 9, AOp.mv (Opd.t 4), none, none⟩,
 ⟨some 10, AOp.load none (Opd.t 2), none, none⟩,
 ⟨some 11, AOp.call false 25 [Opd.t 9, Opd.t 10], none, none⟩]) ⟩
/-- (*lexicon/show.pieces).value -/
def code25 : AFn := ⟨ [],  AC.seq
 
 (AC.reg [⟨some 2, AOp.box 112 (Opd.t 0), none, none⟩]) 
 (AC.seq
 
 (AC.seq
 
 (AC.reg [⟨some 16, AOp.load none (Opd.t 2), none, none⟩,
 ⟨some 17, AOp.nilchk (Opd.t 16), none, none⟩,
 ⟨some 18, AOp.faddr 3 (Opd.t 17), none, none⟩,
 ⟨some 19, AOp.load none (Opd.t 18), none, none⟩,
 ⟨some 20, AOp.un .not (Opd.t 19), none, none⟩]) 
 (AC.cond (Opd.t 20) 
 (AC.ret) 
 (AC.skip))) 
 (AC.seq
 
 (AC.reg [⟨some 21, AOp.load none (Opd.t 2), none, none⟩,
 ⟨some 22, AOp.nilchk (Opd.t 21), none, none⟩,
 ⟨some 23, AOp.faddr 0 (Opd.t 22), none, none⟩,
 ⟨some 24, AOp.load none (Opd.t 23), none, none⟩,
 ⟨some 25, AOp.mv (Opd.t 1), none, none⟩,
 ⟨some 26, AOp.call false 55 [Opd.t 24, Opd.t 25], none, none⟩]) 
 (AC.block 0 
 (AC.seq
 
 (AC.reg [⟨some 30, AOp.tassert 99 (D.nilp) true (Opd.t 26), none, none⟩,
 ⟨some 31, AOp.extract 1 (Opd.t 30), none, none⟩,
 ⟨some 32, AOp.extract 0 (Opd.t 30), none, none⟩]) 
 (AC.cond (Opd.t 31) 
 (AC.seq
 
 (AC.reg [⟨some 4, AOp.box 99 (Opd.c (D.nilp)), none, none⟩,
 ⟨none, AOp.store 1 (Opd.t 4) (Opd.t 32), none, none⟩]) 
 (AC.reg [⟨some 33, AOp.load none (Opd.t 2), none, none⟩,
 ⟨some 34, AOp.mv (Opd.t 1), none, none⟩,
 ⟨some 35, AOp.mkfn (Fn.func 57) [] [Opd.t 2, Opd.t 4], none, none⟩,
 ⟨some 36, AOp.call false 56 [Opd.t 33, Opd.t 34, Opd.t 35], none, none⟩])) 
 (AC.seq
 
 (AC.reg [⟨some 37, AOp.tassert 151 (D.nilp) true (Opd.t 26), none, none⟩,
 ⟨some 38, AOp.extract 1 (Opd.t 37), none, none⟩,
 ⟨some 39, AOp.extract 0 (Opd.t 37), none, none⟩]) 
 (AC.cond (Opd.t 38) 
 (AC.seq
 
 (AC.reg [⟨some 5, AOp.box 151 (Opd.c (D.nilp)), none, none⟩,
 ⟨none, AOp.store 1 (Opd.t 5) (Opd.t 39), none, none⟩]) 
 (AC.reg [⟨some 40, AOp.load none (Opd.t 2), none, none⟩,
 ⟨some 41, AOp.mv (Opd.t 1), none, none⟩,
 ⟨some 42, AOp.mkfn (Fn.func 59) [] [Opd.t 2, Opd.t 5], none, none⟩,
 ⟨some 43, AOp.call false 56 [Opd.t 40, Opd.t 41, Opd.t 42], none, none⟩])) 
 (AC.seq
 
 (AC.reg [⟨some 44, AOp.tassert 153 (D.nilp) true (Opd.t 26), none, none⟩,
 ⟨some 45, AOp.extract 1 (Opd.t 44), none, none⟩,
 ⟨some 46, AOp.extract 0 (Opd.t 44), none, none⟩]) 
 (AC.cond (Opd.t 45) 
 (AC.seq
 
 (AC.reg [⟨some 6, AOp.box 153 (Opd.c (D.nilp)), none, none⟩,
 ⟨none, AOp.store 1 (Opd.t 6) (Opd.t 46), none, none⟩]) 
 (AC.reg [⟨some 47, AOp.load none (Opd.t 2), none, none⟩,
 ⟨some 48, AOp.mv (Opd.t 1), none, none⟩,
 ⟨some 49, AOp.mkfn (Fn.func 61) [] [Opd.t 2, Opd.t 6], none, none⟩,
 ⟨some 50, AOp.call false 56 [Opd.t 47, Opd.t 48, Opd.t 49], none, none⟩])) 
 (AC.seq
 
 (AC.reg [⟨some 51, AOp.tassert 155 (D.nilp) true (Opd.t 26), none, none⟩,
 ⟨some 52, AOp.extract 1 (Opd.t 51), none, none⟩,
 ⟨some 53, AOp.extract 0 (Opd.t 51), none, none⟩]) 
 (AC.cond (Opd.t 52) 
 (AC.seq
 
 (AC.reg [⟨some 7, AOp.mv (Opd.t 53), none, none⟩]) 
 (AC.reg [⟨some 54, AOp.load none (Opd.t 2), none, none⟩,
 ⟨some 55, AOp.mv (Opd.t 1), none, none⟩,
 ⟨some 56, AOp.mv (Opd.t 7), none, none⟩,
 ⟨some 57, AOp.call false 63 [Opd.t 54, Opd.t 55, Opd.t 56], none, none⟩])) 
 (AC.seq
 
 (AC.reg [⟨some 58, AOp.tassert 157 (D.nilp) true (Opd.t 26), none, none⟩,
 ⟨some 59, AOp.extract 1 (Opd.t 58), none, none⟩,
 ⟨some 60, AOp.extract 0 (Opd.t 58), none, none⟩]) 
 (AC.cond (Opd.t 59) 
 (AC.seq
 
 (AC.reg [⟨some 8, AOp.mv (Opd.t 60), none, none⟩]) 
 (AC.dreg 0 [(⟨some 61, AOp.load none (Opd.t 2), none, none⟩, []),
 (⟨some 62, AOp.mv (Opd.t 8), none, none⟩, []),
 (⟨some 63, AOp.nilchk (Opd.t 62), none, none⟩, []),
 (⟨some 64, AOp.faddr 2 (Opd.t 63), none, none⟩, []),
 (⟨some 65, AOp.load none (Opd.t 64), none, none⟩, []),
 (⟨some 66, AOp.bin .add (Opd.c (D.str [60, 102, 117, 110, 99, 116, 105, 111, 110, 32])) (Opd.t 65), none, none⟩, []),
 (⟨some 67, AOp.bin .add (Opd.t 66) (Opd.c (D.str [62])), none, none⟩, []),
 (⟨some 68, AOp.vslice 1 (D.str []) 1 [(0, Opd.t 67)], none, none⟩, []),
 (⟨some 69, AOp.call false 64 [Opd.t 61, Opd.t 68], none, none⟩, [])])) 
 (AC.seq
 
 (AC.reg [⟨some 70, AOp.tassert 162 (D.agg [D.int .i64 0, D.str []]) true (Opd.t 26), none, none⟩,
 ⟨some 71, AOp.extract 1 (Opd.t 70), none, none⟩,
 ⟨some 72, AOp.extract 0 (Opd.t 70), none, none⟩]) 
 (AC.cond (Opd.t 71) 
 (AC.seq
 
 (AC.reg [⟨some 9, AOp.lbox (Opd.c (D.agg [D.int .i64 0, D.str []])), none, none⟩,
 ⟨none, AOp.lstore 9 2 (Opd.t 9) (Opd.t 72), none, none⟩]) 
 (AC.dreg 0 [(⟨some 73, AOp.load none (Opd.t 2), none, none⟩, []),
 (⟨some 74, AOp.load none (Opd.t 2), none, none⟩, []),
 (⟨some 75, AOp.nilchk (Opd.t 74), none, none⟩, []),
 (⟨some 76, AOp.faddr 0 (Opd.t 75), none, none⟩, []),
 (⟨some 77, AOp.load none (Opd.t 76), none, none⟩, []),
 (⟨some 78, AOp.mv (Opd.t 1), none, none⟩, []),
 (⟨some 79, AOp.call false 65 [Opd.t 77, Opd.t 78], none, none⟩, [0]), (⟨some 80, AOp.vslice 1 (D.str []) 1 [(0, Opd.t 79)], none, none⟩, []),
 (⟨some 81, AOp.call false 64 [Opd.t 73, Opd.t 80], none, none⟩, [])])) 
 (AC.seq
 
 (AC.reg [⟨some 82, AOp.tassert 164 (D.nilp) true (Opd.t 26), none, none⟩,
 ⟨some 83, AOp.extract 1 (Opd.t 82), none, none⟩,
 ⟨some 84, AOp.extract 0 (Opd.t 82), none, none⟩]) 
 (AC.cond (Opd.t 83) 
 (AC.seq
 
 (AC.reg [⟨some 10, AOp.mv (Opd.t 84), none, none⟩]) 
 (AC.dreg 0 [(⟨some 85, AOp.load none (Opd.t 2), none, none⟩, []),
 (⟨some 86, AOp.load none (Opd.t 2), none, none⟩, []),
 (⟨some 87, AOp.nilchk (Opd.t 86), none, none⟩, []),
 (⟨some 88, AOp.faddr 0 (Opd.t 87), none, none⟩, []),
 (⟨some 89, AOp.load none (Opd.t 88), none, none⟩, []),
 (⟨some 90, AOp.mv (Opd.t 10), none, none⟩, []),
 (⟨some 91, AOp.nilchk (Opd.t 90), none, none⟩, []),
 (⟨some 92, AOp.faddr 2 (Opd.t 91), none, none⟩, []),
 (⟨some 93, AOp.load none (Opd.t 92), none, none⟩, []),
 (⟨some 94, AOp.call false 66 [Opd.t 89, Opd.t 93], none, none⟩, [0]), (⟨some 95, AOp.bin .add (Opd.c (D.str [60, 109, 101, 116, 104, 111, 100, 32])) (Opd.t 94), none, none⟩, []),
 (⟨some 96, AOp.bin .add (Opd.t 95) (Opd.c (D.str [62])), none, none⟩, []),
 (⟨some 97, AOp.vslice 1 (D.str []) 1 [(0, Opd.t 96)], none, none⟩, []),
 (⟨some 98, AOp.call false 64 [Opd.t 85, Opd.t 97], none, none⟩, [])])) 
 (AC.seq
 
 (AC.reg [⟨some 99, AOp.tassert 133 (D.nilp) true (Opd.t 26), none, none⟩,
 ⟨some 100, AOp.extract 1 (Opd.t 99), none, none⟩,
 ⟨some 101, AOp.extract 0 (Opd.t 99), none, none⟩]) 
 (AC.cond (Opd.t 100) 
 (AC.seq
 
 (AC.reg [⟨some 11, AOp.mv (Opd.t 101), none, none⟩]) 
 (AC.dreg 0 [(⟨some 102, AOp.load none (Opd.t 2), none, none⟩, []),
 (⟨some 103, AOp.mv (Opd.t 11), none, none⟩, []),
 (⟨some 104, AOp.nilchk (Opd.t 103), none, none⟩, []),
 (⟨some 105, AOp.faddr 2 (Opd.t 104), none, none⟩, []),
 (⟨some 106, AOp.load none (Opd.t 105), none, none⟩, []),
 (⟨some 107, AOp.bin .add (Opd.c (D.str [60, 99, 108, 97, 115, 115, 32])) (Opd.t 106), none, none⟩, []),
 (⟨some 108, AOp.bin .add (Opd.t 107) (Opd.c (D.str [62])), none, none⟩, []),
 (⟨some 109, AOp.vslice 1 (D.str []) 1 [(0, Opd.t 108)], none, none⟩, []),
 (⟨some 110, AOp.call false 64 [Opd.t 102, Opd.t 109], none, none⟩, [])])) 
 (AC.seq
 
 (AC.reg [⟨some 111, AOp.tassert 167 (D.nilp) true (Opd.t 26), none, none⟩,
 ⟨some 112, AOp.extract 1 (Opd.t 111), none, none⟩,
 ⟨some 113, AOp.extract 0 (Opd.t 111), none, none⟩]) 
 (AC.cond (Opd.t 112) 
 (AC.seq
 
 (AC.reg [⟨some 12, AOp.mv (Opd.t 113), none, none⟩]) 
 (AC.reg [⟨some 114, AOp.load none (Opd.t 2), none, none⟩,
 ⟨some 115, AOp.vslice 1 (D.str []) 1 [(0, Opd.c (D.str [60, 99, 101, 108, 108, 62]))], none, none⟩,
 ⟨some 116, AOp.call false 64 [Opd.t 114, Opd.t 115], none, none⟩])) 
 (AC.seq
 
 (AC.reg [⟨some 117, AOp.eq (ET.iface) false true (Opd.t 26) (Opd.c (D.nili)), none, none⟩]) 
 (AC.cond (Opd.t 117) 
 (AC.seq
 
 (AC.reg [⟨some 13, AOp.mv (Opd.t 26), none, none⟩]) 
 (AC.seq
 
 (AC.reg [⟨some 118, AOp.load none (Opd.t 2), none, none⟩,
 ⟨some 119, AOp.nilchk (Opd.t 118), none, none⟩,
 ⟨some 120, AOp.faddr 0 (Opd.t 119), none, none⟩,
 ⟨some 121, AOp.load none (Opd.t 120), none, none⟩,
 ⟨some 122, AOp.mv (Opd.t 1), none, none⟩,
 ⟨some 123, AOp.call false 65 [Opd.t 121, Opd.t 122], none, none⟩,
 ⟨some 14, AOp.mv (Opd.t 123), none, none⟩]) 
 (AC.seq
 
 (AC.reg [⟨some 124, AOp.mv (Opd.t 14), none, none⟩,
 ⟨some 125, AOp.bin .neq (Opd.t 124) (Opd.c (D.str [])), none, none⟩]) 
 (AC.cond (Opd.t 125) 
 (AC.reg [⟨some 126, AOp.load none (Opd.t 2), none, none⟩,
 ⟨some 127, AOp.mv (Opd.t 14), none, none⟩,
 ⟨some 128, AOp.vslice 1 (D.str []) 1 [(0, Opd.t 127)], none, none⟩,
 ⟨some 129, AOp.call false 64 [Opd.t 126, Opd.t 128], none, none⟩]) 
 (AC.skip))))) 
 (AC.seq
 
 (AC.reg [⟨some 15, AOp.mv (Opd.t 26), none, none⟩]) 
 (AC.reg [⟨some 27, AOp.load none (Opd.t 2), none, none⟩,
 ⟨some 28, AOp.vslice 1 (D.str []) 1 [(0, Opd.c (D.str [60, 105, 116, 101, 114, 97, 116, 111, 114, 62]))], none, none⟩,
 ⟨some 29, AOp.call false 64 [Opd.t 27, Opd.t 28], none, none⟩]))))))))))))))))))))))))) ⟩
/-- (*strings.Builder).copyCheck -/
def code26 : AFn := ⟨ [],  AC.seq
 
 (AC.reg [⟨some 2, AOp.mv (Opd.t 0), none, none⟩,
 ⟨some 3, AOp.nilchk (Opd.t 2), none, none⟩,
 ⟨some 4, AOp.faddr 0 (Opd.t 3), none, none⟩,
 ⟨some 5, AOp.load none (Opd.t 4), none, none⟩,
 ⟨some 6, AOp.eq (ET.ptr) false true (Opd.t 5) (Opd.c (D.nilp)), none, none⟩]) 
 (AC.cond (Opd.t 6) 
 (AC.reg [⟨some 7, AOp.mv (Opd.t 0), none, none⟩,
 ⟨some 8, AOp.mv (Opd.t 0), none, none⟩,
 ⟨some 9, AOp.uptr (Opd.t 8), none, none⟩,
 ⟨some 10, AOp.ext (Ext.idp) [Opd.t 9], none, none⟩,
 ⟨some 11, AOp.upto [(53, 0, 2)] (Opd.t 10), none, none⟩,
 ⟨some 12, AOp.nilchk (Opd.t 7), none, none⟩,
 ⟨some 13, AOp.faddr 0 (Opd.t 12), none, none⟩,
 ⟨none, AOp.store 1 (Opd.t 13) (Opd.t 11), none, none⟩]) 
 (AC.seq
 
 (AC.reg [⟨some 14, AOp.mv (Opd.t 0), none, none⟩,
 ⟨some 15, AOp.nilchk (Opd.t 14), none, none⟩,
 ⟨some 16, AOp.faddr 0 (Opd.t 15), none, none⟩,
 ⟨some 17, AOp.load none (Opd.t 16), none, none⟩,
 ⟨some 18, AOp.mv (Opd.t 0), none, none⟩,
 ⟨some 19, AOp.eq (ET.ptr) true false (Opd.t 17) (Opd.t 18), none, none⟩]) 
 (AC.cond (Opd.t 19) 
 (AC.bad) 
 (AC.skip)))) ⟩
/-- lexicon/store.isKind -/
def code28 : AFn := ⟨ [ARes.tmp 2],  AC.seq
 
 (AC.reg [⟨some 2, AOp.mv (Opd.c (D.bool false)), none, none⟩]) 
 (AC.seq
 
 (AC.reg [⟨some 3, AOp.mv (Opd.t 0), none, none⟩,
 ⟨some 4, AOp.bin .geq (Opd.t 3) (Opd.c (D.int .i64 1)), none, none⟩,
 ⟨some 5, AOp.mv (Opd.t 4), none, none⟩,
 ⟨some 6, AOp.mv (Opd.t 0), some (5, true), none⟩,
 ⟨some 7, AOp.bin .leq (Opd.t 6) (Opd.c (D.int .i64 9)), some (5, true), none⟩,
 ⟨some 8, AOp.pick (Opd.t 5) (Opd.t 7) (Opd.c (D.bool false)), none, none⟩,
 ⟨some 9, AOp.mv (Opd.t 8), none, none⟩,
 ⟨some 10, AOp.mv (Opd.t 0), some (9, false), none⟩,
 ⟨some 11, AOp.bin .eql (Opd.t 10) (Opd.c (D.int .i64 14)), some (9, false), none⟩,
 ⟨some 12, AOp.pick (Opd.t 9) (Opd.c (D.bool true)) (Opd.t 11), none, none⟩,
 ⟨some 13, AOp.mv (Opd.t 12), none, none⟩,
 ⟨some 14, AOp.mv (Opd.t 0), some (13, false), none⟩,
 ⟨some 15, AOp.bin .geq (Opd.t 14) (Opd.c (D.int .i64 15)), some (13, false), none⟩,
 ⟨some 16, AOp.mv (Opd.t 15), some (13, false), none⟩,
 ⟨some 17, AOp.mv (Opd.t 0), some (16, true), none⟩,
 ⟨some 18, AOp.bin .leq (Opd.t 17) (Opd.c (D.int .i64 17)), some (16, true), none⟩,
 ⟨some 19, AOp.pick (Opd.t 16) (Opd.t 18) (Opd.c (D.bool false)), some (13, false), none⟩,
 ⟨some 20, AOp.pick (Opd.t 13) (Opd.c (D.bool true)) (Opd.t 19), none, none⟩,
 ⟨some 2, AOp.mv (Opd.t 20), none, none⟩]) 
 (AC.ret)) ⟩
/-- (*lexicon/store.builder).badKids -/
def code29 : AFn := ⟨ [ARes.tmp 4],  AC.seq
 
 (AC.reg [⟨some 4, AOp.mv (Opd.c (D.bool false)), none, none⟩]) 
 (AC.seq
 
 (AC.reg [⟨some 11, AOp.mv (Opd.t 0), none, none⟩,
 ⟨some 12, AOp.nilchk (Opd.t 11), none, none⟩,
 ⟨some 13, AOp.faddr 1 (Opd.t 12), none, none⟩,
 ⟨some 14, AOp.load none (Opd.t 13), none, none⟩,
 ⟨some 15, AOp.mv (Opd.t 1), none, none⟩,
 ⟨some 16, AOp.iaddr 8 (Opd.t 14) (Opd.t 15), none, none⟩,
 ⟨some 17, AOp.load (some 8) (Opd.t 16), none, none⟩,
 ⟨some 5, AOp.lbox (Opd.c (D.agg [D.int .i64 0, D.bool false, D.bool false, D.vs true 0 [], D.str [], D.vs true 0 [], D.bool false, D.bool false])), none, none⟩,
 ⟨none, AOp.lstore 5 8 (Opd.t 5) (Opd.t 17), none, none⟩]) 
 (AC.seq
 
 (AC.reg [⟨some 18, AOp.mv (Opd.t 1), none, none⟩,
 ⟨some 6, AOp.mv (Opd.t 18), none, none⟩]) 
 (AC.seq
 
 (AC.seq
 
 (AC.reg [⟨some 19, AOp.faddr 0 (Opd.t 5), none, none⟩,
 ⟨some 20, AOp.lload 5 none (Opd.t 19), none, none⟩,
 ⟨some 21, AOp.bin .eql (Opd.t 20) (Opd.c (D.int .i64 6)), none, none⟩]) 
 (AC.cond (Opd.t 21) 
 (AC.reg [⟨some 22, AOp.mv (Opd.t 0), none, none⟩,
 ⟨some 23, AOp.nilchk (Opd.t 22), none, none⟩,
 ⟨some 24, AOp.faddr 1 (Opd.t 23), none, none⟩,
 ⟨some 25, AOp.load none (Opd.t 24), none, none⟩,
 ⟨some 26, AOp.len 1 (Opd.t 25), none, none⟩,
 ⟨some 6, AOp.mv (Opd.t 26), none, none⟩]) 
 (AC.skip))) 
 (AC.seq
 
 (AC.seq
 
 (AC.reg [⟨some 27, AOp.faddr 5 (Opd.t 5), none, none⟩,
 ⟨some 28, AOp.lload 5 none (Opd.t 27), none, none⟩,
 ⟨some 29, AOp.len 1 (Opd.t 28), none, none⟩,
 ⟨some 30, AOp.mv (Opd.c (D.int .i64 0)), none, none⟩]) 
 (AC.block 0 
 (AC.loop [0, 2, 4, 5, 6, 28, 29, 30] 
 (AC.seq
 
 (AC.reg [⟨some 31, AOp.bin .lss (Opd.t 30) (Opd.t 29), none, none⟩]) 
 (AC.seq
 
 (AC.cond (Opd.t 31) 
 (AC.skip) 
 (AC.exit 0)) 
 (AC.seq
 
 (AC.block 1 
 (AC.seq
 
 (AC.reg [⟨some 32, AOp.iaddr 1 (Opd.t 28) (Opd.t 30), none, none⟩,
 ⟨some 33, AOp.load none (Opd.t 32), none, none⟩,
 ⟨some 8, AOp.mv (Opd.t 33), none, none⟩]) 
 (AC.seq
 
 (AC.reg [⟨some 34, AOp.mv (Opd.t 8), none, none⟩,
 ⟨some 35, AOp.bin .lss (Opd.t 34) (Opd.c (D.int .i64 0)), none, none⟩,
 ⟨some 36, AOp.mv (Opd.t 35), none, none⟩,
 ⟨some 37, AOp.mv (Opd.t 8), some (36, false), none⟩,
 ⟨some 38, AOp.mv (Opd.t 6), some (36, false), none⟩,
 ⟨some 39, AOp.bin .geq (Opd.t 37) (Opd.t 38), some (36, false), none⟩,
 ⟨some 40, AOp.pick (Opd.t 36) (Opd.c (D.bool true)) (Opd.t 39), none, none⟩]) 
 (AC.cond (Opd.t 40) 
 (AC.seq
 
 (AC.reg [⟨some 4, AOp.mv (Opd.c (D.bool true)), none, none⟩]) 
 (AC.ret)) 
 (AC.skip))))) 
 (AC.reg [⟨some 41, AOp.bin .add (Opd.t 30) (Opd.c (D.int .i64 1)), none, none⟩,
 ⟨some 30, AOp.mv (Opd.t 41), none, none⟩]))))))) 
 (AC.seq
 
 (AC.seq
 
 (AC.reg [⟨some 42, AOp.lload 5 (some 8) (Opd.t 5), none, none⟩,
 ⟨some 43, AOp.call false 69 [Opd.t 42], none, none⟩,
 ⟨some 44, AOp.len 1 (Opd.t 43), none, none⟩,
 ⟨some 45, AOp.mv (Opd.c (D.int .i64 0)), none, none⟩]) 
 (AC.block 2 
 (AC.loop [0, 4, 5, 43, 44, 45] 
 (AC.seq
 
 (AC.reg [⟨some 46, AOp.bin .lss (Opd.t 45) (Opd.t 44), none, none⟩]) 
 (AC.seq
 
 (AC.cond (Opd.t 46) 
 (AC.skip) 
 (AC.exit 2)) 
 (AC.seq
 
 (AC.block 3 
 (AC.seq
 
 (AC.reg [⟨some 47, AOp.iaddr 1 (Opd.t 43) (Opd.t 45), none, none⟩,
 ⟨some 48, AOp.load none (Opd.t 47), none, none⟩,
 ⟨some 10, AOp.mv (Opd.t 48), none, none⟩]) 
 (AC.seq
 
 (AC.reg [⟨some 49, AOp.mv (Opd.t 0), none, none⟩,
 ⟨some 50, AOp.nilchk (Opd.t 49), none, none⟩,
 ⟨some 51, AOp.faddr 1 (Opd.t 50), none, none⟩,
 ⟨some 52, AOp.load none (Opd.t 51), none, none⟩,
 ⟨some 53, AOp.mv (Opd.t 10), none, none⟩,
 ⟨some 54, AOp.iaddr 8 (Opd.t 52) (Opd.t 53), none, none⟩,
 ⟨some 55, AOp.load (some 8) (Opd.t 54), none, none⟩,
 ⟨some 56, AOp.call false 70 [Opd.t 55], none, none⟩,
 ⟨some 57, AOp.un .not (Opd.t 56), none, none⟩]) 
 (AC.cond (Opd.t 57) 
 (AC.seq
 
 (AC.reg [⟨some 4, AOp.mv (Opd.c (D.bool true)), none, none⟩]) 
 (AC.ret)) 
 (AC.skip))))) 
 (AC.reg [⟨some 58, AOp.bin .add (Opd.t 45) (Opd.c (D.int .i64 1)), none, none⟩,
 ⟨some 45, AOp.mv (Opd.t 58), none, none⟩]))))))) 
 (AC.seq
 
 (AC.seq
 
 (AC.reg [⟨some 59, AOp.faddr 0 (Opd.t 5), none, none⟩,
 ⟨some 60, AOp.lload 5 none (Opd.t 59), none, none⟩]) 
 (AC.block 4 
 (AC.seq
 
 (AC.seq
 
 (AC.reg [⟨some 62, AOp.bin .eql (Opd.t 60) (Opd.c (D.int .i64 5)), none, none⟩,
 ⟨some 61, AOp.mv (Opd.t 62), none, none⟩]) 
 (AC.cond (Opd.t 61) 
 (AC.skip) 
 (AC.seq
 
 (AC.reg [⟨some 63, AOp.bin .eql (Opd.t 60) (Opd.c (D.int .i64 6)), none, none⟩,
 ⟨some 61, AOp.mv (Opd.t 63), none, none⟩]) 
 (AC.cond (Opd.t 61) 
 (AC.skip) 
 (AC.seq
 
 (AC.reg [⟨some 64, AOp.bin .eql (Opd.t 60) (Opd.c (D.int .i64 8)), none, none⟩,
 ⟨some 61, AOp.mv (Opd.t 64), none, none⟩]) 
 (AC.cond (Opd.t 61) 
 (AC.skip) 
 (AC.reg [⟨some 65, AOp.bin .eql (Opd.t 60) (Opd.c (D.int .i64 9)), none, none⟩,
 ⟨some 61, AOp.mv (Opd.t 65), none, none⟩]))))))) 
 (AC.cond (Opd.t 61) 
 (AC.seq
 
 (AC.reg [⟨some 4, AOp.mv (Opd.c (D.bool false)), none, none⟩]) 
 (AC.ret)) 
 (AC.seq
 
 (AC.reg [⟨some 67, AOp.bin .eql (Opd.t 60) (Opd.c (D.int .i64 7)), none, none⟩,
 ⟨some 66, AOp.mv (Opd.t 67), none, none⟩]) 
 (AC.cond (Opd.t 66) 
 (AC.seq
 
 (AC.reg [⟨some 68, AOp.faddr 5 (Opd.t 5), none, none⟩,
 ⟨some 69, AOp.lload 5 none (Opd.t 68), none, none⟩,
 ⟨some 70, AOp.len 1 (Opd.t 69), none, none⟩,
 ⟨some 71, AOp.bin .rem (Opd.t 70) (Opd.c (D.int .i64 2)), none, none⟩,
 ⟨some 72, AOp.bin .eql (Opd.t 71) (Opd.c (D.int .i64 1)), none, none⟩,
 ⟨some 4, AOp.mv (Opd.t 72), none, none⟩]) 
 (AC.ret)) 
 (AC.seq
 
 (AC.seq
 
 (AC.reg [⟨some 74, AOp.bin .eql (Opd.t 60) (Opd.c (D.int .i64 15)), none, none⟩,
 ⟨some 73, AOp.mv (Opd.t 74), none, none⟩]) 
 (AC.cond (Opd.t 73) 
 (AC.skip) 
 (AC.seq
 
 (AC.reg [⟨some 75, AOp.bin .eql (Opd.t 60) (Opd.c (D.int .i64 16)), none, none⟩,
 ⟨some 73, AOp.mv (Opd.t 75), none, none⟩]) 
 (AC.cond (Opd.t 73) 
 (AC.skip) 
 (AC.reg [⟨some 76, AOp.bin .eql (Opd.t 60) (Opd.c (D.int .i64 17)), none, none⟩,
 ⟨some 73, AOp.mv (Opd.t 76), none, none⟩]))))) 
 (AC.cond (Opd.t 73) 
 (AC.seq
 
 (AC.dreg 0 [(⟨some 77, AOp.faddr 5 (Opd.t 5), none, none⟩, []),
 (⟨some 78, AOp.lload 5 none (Opd.t 77), none, none⟩, []),
 (⟨some 79, AOp.len 1 (Opd.t 78), none, none⟩, []),
 (⟨some 80, AOp.bin .neq (Opd.t 79) (Opd.c (D.int .i64 1)), none, none⟩, []),
 (⟨some 81, AOp.mv (Opd.t 80), none, none⟩, []),
 (⟨some 82, AOp.mv (Opd.t 0), some (81, false), none⟩, []),
 (⟨some 83, AOp.nilchk (Opd.t 82), some (81, false), none⟩, []),
 (⟨some 84, AOp.faddr 1 (Opd.t 83), some (81, false), none⟩, []),
 (⟨some 85, AOp.load none (Opd.t 84), some (81, false), none⟩, []),
 (⟨some 86, AOp.faddr 5 (Opd.t 5), some (81, false), none⟩, []),
 (⟨some 87, AOp.lload 5 none (Opd.t 86), some (81, false), none⟩, []),
 (⟨some 88, AOp.iaddr 1 (Opd.t 87) (Opd.c (D.int .i64 0)), some (81, false), none⟩, []),
 (⟨some 89, AOp.load none (Opd.t 88), some (81, false), none⟩, []),
 (⟨some 90, AOp.iaddr 8 (Opd.t 85) (Opd.t 89), some (81, false), none⟩, []),
 (⟨some 91, AOp.faddr 0 (Opd.t 90), some (81, false), none⟩, []),
 (⟨some 92, AOp.load none (Opd.t 91), some (81, false), none⟩, []),
 (⟨some 93, AOp.bin .neq (Opd.t 92) (Opd.c (D.int .i64 7)), some (81, false), none⟩, []),
 (⟨some 94, AOp.pick (Opd.t 81) (Opd.c (D.bool true)) (Opd.t 93), none, none⟩, []),
 (⟨some 4, AOp.mv (Opd.t 94), none, none⟩, [])]) 
 (AC.ret)) 
 (AC.skip))))))))) 
 (AC.seq
 
 (AC.reg [⟨some 95, AOp.faddr 5 (Opd.t 5), none, none⟩,
 ⟨some 96, AOp.lload 5 none (Opd.t 95), none, none⟩,
 ⟨some 97, AOp.len 1 (Opd.t 96), none, none⟩,
 ⟨some 98, AOp.bin .gtr (Opd.t 97) (Opd.c (D.int .i64 0)), none, none⟩,
 ⟨some 4, AOp.mv (Opd.t 98), none, none⟩]) 
 (AC.ret)))))))) ⟩
/-- (*lexicon/store.builder).tooBig -/
def code31 : AFn := ⟨ [ARes.tmp 4],  AC.seq
 
 (AC.reg [⟨some 4, AOp.mv (Opd.c (D.bool false)), none, none⟩]) 
 (AC.seq
 
 (AC.reg [⟨some 9, AOp.mv (Opd.t 0), none, none⟩,
 ⟨some 10, AOp.nilchk (Opd.t 9), none, none⟩,
 ⟨some 11, AOp.faddr 1 (Opd.t 10), none, none⟩,
 ⟨some 12, AOp.load none (Opd.t 11), none, none⟩,
 ⟨some 13, AOp.mv (Opd.t 1), none, none⟩,
 ⟨some 14, AOp.iaddr 8 (Opd.t 12) (Opd.t 13), none, none⟩,
 ⟨some 15, AOp.load (some 8) (Opd.t 14), none, none⟩,
 ⟨some 5, AOp.lbox (Opd.c (D.agg [D.int .i64 0, D.bool false, D.bool false, D.vs true 0 [], D.str [], D.vs true 0 [], D.bool false, D.bool false])), none, none⟩,
 ⟨none, AOp.lstore 5 8 (Opd.t 5) (Opd.t 15), none, none⟩]) 
 (AC.seq
 
 (AC.seq
 
 (AC.reg [⟨some 16, AOp.faddr 0 (Opd.t 5), none, none⟩,
 ⟨some 17, AOp.lload 5 none (Opd.t 16), none, none⟩]) 
 (AC.block 0 
 (AC.seq
 
 (AC.reg [⟨some 19, AOp.bin .eql (Opd.t 17) (Opd.c (D.int .i64 4)), none, none⟩,
 ⟨some 18, AOp.mv (Opd.t 19), none, none⟩]) 
 (AC.cond (Opd.t 18) 
 (AC.seq
 
 (AC.reg [⟨some 20, AOp.faddr 4 (Opd.t 5), none, none⟩,
 ⟨some 21, AOp.lload 5 none (Opd.t 20), none, none⟩,
 ⟨some 22, AOp.call false 72 [Opd.t 21], none, none⟩,
 ⟨some 23, AOp.bin .gtr (Opd.t 22) (Opd.c (D.int .i64 65536)), none, none⟩,
 ⟨some 4, AOp.mv (Opd.t 23), none, none⟩]) 
 (AC.ret)) 
 (AC.seq
 
 (AC.reg [⟨some 25, AOp.bin .eql (Opd.t 17) (Opd.c (D.int .i64 3)), none, none⟩,
 ⟨some 24, AOp.mv (Opd.t 25), none, none⟩]) 
 (AC.cond (Opd.t 24) 
 (AC.seq
 
 (AC.reg [⟨some 26, AOp.faddr 2 (Opd.t 5), none, none⟩,
 ⟨some 27, AOp.lload 5 (some 2) (Opd.t 26), none, none⟩,
 ⟨some 28, AOp.call false 34 [Opd.t 27], none, none⟩,
 ⟨some 29, AOp.field 1 none (Opd.t 28), none, none⟩,
 ⟨some 30, AOp.len 1 (Opd.t 29), none, none⟩,
 ⟨some 31, AOp.bin .gtr (Opd.t 30) (Opd.c (D.int .i64 256)), none, none⟩,
 ⟨some 4, AOp.mv (Opd.t 31), none, none⟩]) 
 (AC.ret)) 
 (AC.seq
 
 (AC.seq
 
 (AC.reg [⟨some 33, AOp.bin .eql (Opd.t 17) (Opd.c (D.int .i64 5)), none, none⟩,
 ⟨some 32, AOp.mv (Opd.t 33), none, none⟩]) 
 (AC.cond (Opd.t 32) 
 (AC.skip) 
 (AC.reg [⟨some 34, AOp.bin .eql (Opd.t 17) (Opd.c (D.int .i64 6)), none, none⟩,
 ⟨some 32, AOp.mv (Opd.t 34), none, none⟩]))) 
 (AC.cond (Opd.t 32) 
 (AC.seq
 
 (AC.reg [⟨some 35, AOp.faddr 5 (Opd.t 5), none, none⟩,
 ⟨some 36, AOp.lload 5 none (Opd.t 35), none, none⟩,
 ⟨some 37, AOp.len 1 (Opd.t 36), none, none⟩,
 ⟨some 38, AOp.bin .gtr (Opd.t 37) (Opd.c (D.int .i64 65536)), none, none⟩,
 ⟨some 4, AOp.mv (Opd.t 38), none, none⟩]) 
 (AC.ret)) 
 (AC.skip))))))))) 
 (AC.seq
 
 (AC.reg [⟨some 39, AOp.mkmap none, none, none⟩,
 ⟨some 6, AOp.mv (Opd.t 39), none, none⟩]) 
 (AC.seq
 
 (AC.seq
 
 (AC.reg [⟨some 40, AOp.lload 5 (some 8) (Opd.t 5), none, none⟩,
 ⟨some 41, AOp.call false 69 [Opd.t 40], none, none⟩,
 ⟨some 42, AOp.len 1 (Opd.t 41), none, none⟩,
 ⟨some 43, AOp.mv (Opd.c (D.int .i64 0)), none, none⟩]) 
 (AC.block 1 
 (AC.loop [0, 6, 41, 42, 43] 
 (AC.seq
 
 (AC.reg [⟨some 44, AOp.bin .lss (Opd.t 43) (Opd.t 42), none, none⟩]) 
 (AC.seq
 
 (AC.cond (Opd.t 44) 
 (AC.skip) 
 (AC.exit 1)) 
 (AC.seq
 
 (AC.block 2 
 (AC.seq
 
 (AC.reg [⟨some 45, AOp.iaddr 1 (Opd.t 41) (Opd.t 43), none, none⟩,
 ⟨some 46, AOp.load none (Opd.t 45), none, none⟩,
 ⟨some 8, AOp.mv (Opd.t 46), none, none⟩]) 
 (AC.reg [⟨some 47, AOp.mv (Opd.t 6), none, none⟩,
 ⟨some 48, AOp.mv (Opd.t 0), none, none⟩,
 ⟨some 49, AOp.mv (Opd.t 8), none, none⟩,
 ⟨some 50, AOp.call false 73 [Opd.t 48, Opd.t 49], none, none⟩,
 ⟨some 51, AOp.lookup (ET.str) (D.int .i64 0) false (Opd.t 47) (Opd.t 50), none, none⟩,
 ⟨some 52, AOp.bin .add (Opd.t 51) (Opd.c (D.int .i64 1)), none, none⟩,
 ⟨none, AOp.mupd (ET.str) (Opd.t 47) (Opd.t 50) (Opd.t 52), none, none⟩]))) 
 (AC.reg [⟨some 53, AOp.bin .add (Opd.t 43) (Opd.c (D.int .i64 1)), none, none⟩,
 ⟨some 43, AOp.mv (Opd.t 53), none, none⟩]))))))) 
 (AC.seq
 
 (AC.dreg 0 [(⟨some 54, AOp.mv (Opd.t 6), none, none⟩, []),
 (⟨some 55, AOp.len 2 (Opd.t 54), none, none⟩, []),
 (⟨some 56, AOp.mv (Opd.t 0), none, none⟩, []),
 (⟨some 57, AOp.nilchk (Opd.t 56), none, none⟩, []),
 (⟨some 58, AOp.faddr 0 (Opd.t 57), none, none⟩, []),
 (⟨some 59, AOp.load none (Opd.t 58), none, none⟩, []),
 (⟨some 60, AOp.nilchk (Opd.t 59), none, none⟩, []),
 (⟨some 61, AOp.faddr 0 (Opd.t 60), none, none⟩, []),
 (⟨some 62, AOp.faddr 1 (Opd.t 61), none, none⟩, []),
 (⟨some 63, AOp.load none (Opd.t 62), none, none⟩, []),
 (⟨some 64, AOp.bin .gtr (Opd.t 55) (Opd.t 63), none, none⟩, []),
 (⟨some 4, AOp.mv (Opd.t 64), none, none⟩, [])]) 
 (AC.ret)))))) ⟩
/-- (*lexicon/store.Store).Row -/
def code36 : AFn := ⟨ [ARes.tmp 6],  AC.seq
 
 (AC.reg [⟨some 6, AOp.mv (Opd.c (D.int .i64 0)), none, none⟩]) 
 (AC.seq
 
 (AC.dreg 1 [(⟨some 7, AOp.mv (Opd.t 0), none, none⟩, []),
 (⟨some 8, AOp.nilchk (Opd.t 7), none, none⟩, []),
 (⟨some 9, AOp.faddr 6 (Opd.t 8), none, none⟩, []),
 (⟨some 10, AOp.load none (Opd.t 9), none, none⟩, []),
 (⟨some 11, AOp.mv (Opd.t 0), none, none⟩, []),
 (⟨some 12, AOp.call false 76 [Opd.t 11], none, none⟩, [3]), (⟨some 13, AOp.mv (Opd.t 2), none, none⟩, []),
 (⟨some 14, AOp.mv (Opd.t 1), none, none⟩, []),
 (⟨some 15, AOp.build [D.int .i64 0, D.vs true 0 [], D.int .i64 0] [(0, 1, Opd.t 12), (1, 1, Opd.t 13), (2, 1, Opd.t 14)], none, none⟩, []),
 (⟨some 16, AOp.box 105 (Opd.t 15), none, some 0⟩, [3]), (⟨some 17, AOp.mkif 99 (Opd.t 16), none, none⟩, []),
 (⟨some 18, AOp.call false 18 [Opd.t 10, Opd.t 17], none, none⟩, []),
 (⟨some 6, AOp.mv (Opd.t 18), none, none⟩, [])]) 
 (AC.ret)) ⟩
/-- (*lexicon/slots.Slots[lexicon/store.value]).Get -/
def code41 : AFn := ⟨ [ARes.tmp 4, ARes.tmp 5],  AC.seq
 
 (AC.reg [⟨some 4, AOp.mv (Opd.c (D.nili)), none, none⟩,
 ⟨some 5, AOp.mv (Opd.c (D.bool false)), none, none⟩]) 
 (AC.seq
 
 (AC.seq
 
 (AC.reg [⟨some 6, AOp.mv (Opd.t 0), none, none⟩,
 ⟨some 7, AOp.mv (Opd.t 1), none, none⟩,
 ⟨some 8, AOp.call false 82 [Opd.t 6, Opd.t 7], none, none⟩,
 ⟨some 9, AOp.un .not (Opd.t 8), none, none⟩]) 
 (AC.cond (Opd.t 9) 
 (AC.seq
 
 (AC.reg [⟨some 10, AOp.lbox (Opd.c (D.nili)), none, none⟩,
 ⟨some 11, AOp.nilchk (Opd.t 10), none, none⟩,
 ⟨some 12, AOp.lload 10 none (Opd.t 11), none, none⟩,
 ⟨some 4, AOp.mv (Opd.t 12), none, none⟩,
 ⟨some 5, AOp.mv (Opd.c (D.bool false)), none, none⟩]) 
 (AC.ret)) 
 (AC.skip))) 
 (AC.seq
 
 (AC.reg [⟨some 13, AOp.mv (Opd.t 0), none, none⟩,
 ⟨some 14, AOp.nilchk (Opd.t 13), none, none⟩,
 ⟨some 15, AOp.faddr 0 (Opd.t 14), none, none⟩,
 ⟨some 16, AOp.load none (Opd.t 15), none, none⟩,
 ⟨some 17, AOp.mv (Opd.t 1), none, none⟩,
 ⟨some 18, AOp.iaddr 1 (Opd.t 16) (Opd.t 17), none, none⟩,
 ⟨some 19, AOp.load none (Opd.t 18), none, none⟩,
 ⟨some 4, AOp.mv (Opd.t 19), none, none⟩,
 ⟨some 5, AOp.mv (Opd.c (D.bool true)), none, none⟩]) 
 (AC.ret))) ⟩
/-- (*lexicon/lexiconref19.Store).Object -/
def code49 : AFn := ⟨ [ARes.tmp 4],  AC.seq
 
 (AC.reg [⟨some 3, AOp.lbox (Opd.t 1), none, none⟩,
 ⟨some 4, AOp.mv (Opd.c (D.int .i64 0)), none, none⟩]) 
 (AC.seq
 
 (AC.reg [⟨some 5, AOp.mv (Opd.t 0), none, none⟩,
 ⟨some 6, AOp.nilchk (Opd.t 5), none, none⟩,
 ⟨some 7, AOp.faddr 1 (Opd.t 6), none, none⟩,
 ⟨some 8, AOp.load none (Opd.t 7), none, none⟩,
 ⟨some 9, AOp.bin .add (Opd.t 8) (Opd.c (D.int .i64 1)), none, none⟩,
 ⟨some 10, AOp.nilchk (Opd.t 5), none, none⟩,
 ⟨some 11, AOp.faddr 1 (Opd.t 10), none, none⟩,
 ⟨none, AOp.store 1 (Opd.t 11) (Opd.t 9), none, none⟩]) 
 (AC.seq
 
 (AC.reg [⟨some 12, AOp.mv (Opd.t 0), none, none⟩,
 ⟨some 13, AOp.nilchk (Opd.t 12), none, none⟩,
 ⟨some 14, AOp.faddr 1 (Opd.t 13), none, none⟩,
 ⟨some 15, AOp.load none (Opd.t 14), none, none⟩,
 ⟨some 16, AOp.faddr 1 (Opd.t 3), none, none⟩,
 ⟨none, AOp.lstore 3 1 (Opd.t 16) (Opd.t 15), none, none⟩]) 
 (AC.seq
 
 (AC.reg [⟨some 17, AOp.mv (Opd.t 0), none, none⟩,
 ⟨some 18, AOp.lload 3 (some 22) (Opd.t 3), none, none⟩,
 ⟨some 19, AOp.call false 86 [Opd.t 17, Opd.t 18], none, none⟩,
 ⟨some 4, AOp.mv (Opd.t 19), none, none⟩]) 
 (AC.ret)))) ⟩
/-- (*lexicon/store.Store).Object -/
def code55 : AFn := ⟨ [ARes.tmp 4],  AC.seq
 
 (AC.reg [⟨some 4, AOp.mv (Opd.c (D.nili)), none, none⟩]) 
 (AC.seq
 
 (AC.reg [⟨some 6, AOp.mv (Opd.t 0), none, none⟩,
 ⟨some 7, AOp.mv (Opd.t 1), none, none⟩,
 ⟨some 8, AOp.call false 21 [Opd.t 6, Opd.t 7], none, none⟩,
 ⟨some 5, AOp.mv (Opd.t 8), none, none⟩]) 
 (AC.seq
 
 (AC.seq
 
 (AC.reg [⟨some 9, AOp.mv (Opd.t 5), none, none⟩,
 ⟨some 10, AOp.eq (ET.iface) false true (Opd.t 9) (Opd.c (D.nili)), none, none⟩,
 ⟨some 11, AOp.mv (Opd.t 10), none, none⟩,
 ⟨some 12, AOp.mv (Opd.t 5), some (11, false), none⟩,
 ⟨some 13, AOp.invoke [(73, 294, Recv.self), (74, 294, Recv.part 0 (some 0)), (75, 294, Recv.part 0 (some 0)), (76, 294, Recv.part 0 (some 0)), (77, 294, Recv.part 0 (some 0)), (99, 301, Recv.load 0 (some 1)), (103, 301, Recv.self), (104, 301, Recv.part 0 (some 1)), (105, 301, Recv.part 0 (some 1)), (108, 294, Recv.part 0 (some 0)), (109, 294, Recv.part 0 (some 0)), (133, 301, Recv.load 0 (some 1)), (137, 301, Recv.part 0 (some 1)), (138, 301, Recv.part 0 (some 1)), (151, 301, Recv.load 0 (some 1)), (153, 301, Recv.load 0 (some 1)), (155, 301, Recv.load 0 (some 1)), (157, 301, Recv.load 0 (some 1)), (159, 301, Recv.part 0 (some 1)), (160, 301, Recv.part 0 (some 1)), (161, 294, Recv.part 0 (some 0)), (162, 294, Recv.part 0 (some 0)), (164, 301, Recv.load 0 (some 1)), (165, 301, Recv.part 0 (some 1)), (166, 301, Recv.part 0 (some 1)), (167, 301, Recv.load 0 (some 1)), (178, 294, Recv.part 0 (some 0)), (179, 294, Recv.part 0 (some 0)), (188, 301, Recv.part 0 (some 1)), (189, 301, Recv.part 0 (some 1)), (191, 301, Recv.part 0 (some 1)), (192, 301, Recv.part 0 (some 1)), (214, 301, Recv.part 0 (some 1)), (215, 301, Recv.part 0 (some 1)), (425, 301, Recv.part 0 (some 1)), (426, 301, Recv.part 0 (some 1))] (Opd.t 12) [], some (11, false), none⟩,
 ⟨some 14, AOp.bin .eql (Opd.t 13) (Opd.c (D.int .i64 0)), some (11, false), none⟩,
 ⟨some 15, AOp.mv (Opd.t 14), some (11, false), none⟩,
 ⟨some 16, AOp.mv (Opd.t 5), some (15, true), none⟩,
 ⟨some 17, AOp.invoke [(17, 280, Recv.self), (30, 115, Recv.self), (75, 295, Recv.self), (77, 296, Recv.self), (99, 100, Recv.self), (109, 302, Recv.self), (133, 308, Recv.self), (151, 103, Recv.self), (153, 106, Recv.self), (155, 315, Recv.self), (157, 318, Recv.self), (162, 320, Recv.self), (164, 321, Recv.self), (167, 323, Recv.self), (179, 325, Recv.self)] (Opd.t 16) [], some (15, true), none⟩,
 ⟨some 18, AOp.bin .neq (Opd.t 17) (Opd.c (D.int .i64 11)), some (15, true), none⟩,
 ⟨some 19, AOp.pick (Opd.t 15) (Opd.t 18) (Opd.c (D.bool false)), some (11, false), none⟩,
 ⟨some 20, AOp.pick (Opd.t 11) (Opd.c (D.bool true)) (Opd.t 19), none, none⟩]) 
 (AC.cond (Opd.t 20) 
 (AC.seq
 
 (AC.reg [⟨some 4, AOp.mv (Opd.c (D.nili)), none, none⟩]) 
 (AC.ret)) 
 (AC.skip))) 
 (AC.seq
 
 (AC.reg [⟨some 21, AOp.mv (Opd.t 5), none, none⟩,
 ⟨some 4, AOp.mv (Opd.t 21), none, none⟩]) 
 (AC.ret)))) ⟩
/-- (*lexicon/show.pieces).within -/
def code56 : AFn := ⟨ [],  AC.seq
 
 (AC.seq
 
 (AC.reg [⟨some 6, AOp.mv (Opd.t 0), none, none⟩,
 ⟨some 7, AOp.nilchk (Opd.t 6), none, none⟩,
 ⟨some 8, AOp.faddr 2 (Opd.t 7), none, none⟩,
 ⟨some 9, AOp.load none (Opd.t 8), none, none⟩,
 ⟨some 10, AOp.mv (Opd.t 1), none, none⟩,
 ⟨some 11, AOp.call false 99 [Opd.t 9, Opd.t 10], none, none⟩,
 ⟨some 12, AOp.mv (Opd.t 11), none, none⟩,
 ⟨some 13, AOp.mv (Opd.t 0), some (12, false), none⟩,
 ⟨some 14, AOp.nilchk (Opd.t 13), some (12, false), none⟩,
 ⟨some 15, AOp.faddr 2 (Opd.t 14), some (12, false), none⟩,
 ⟨some 16, AOp.load none (Opd.t 15), some (12, false), none⟩,
 ⟨some 17, AOp.len 1 (Opd.t 16), some (12, false), none⟩,
 ⟨some 18, AOp.bin .geq (Opd.t 17) (Opd.c (D.int .i64 20)), some (12, false), none⟩,
 ⟨some 19, AOp.pick (Opd.t 12) (Opd.c (D.bool true)) (Opd.t 18), none, none⟩]) 
 (AC.cond (Opd.t 19) 
 (AC.seq
 
 (AC.reg [⟨some 20, AOp.mv (Opd.t 0), none, none⟩,
 ⟨some 21, AOp.vslice 1 (D.str []) 1 [(0, Opd.c (D.str [46, 46, 46]))], none, none⟩,
 ⟨some 22, AOp.call false 64 [Opd.t 20, Opd.t 21], none, none⟩]) 
 (AC.ret)) 
 (AC.skip))) 
 (AC.seq
 
 (AC.reg [⟨some 23, AOp.mv (Opd.t 0), none, none⟩,
 ⟨some 24, AOp.mv (Opd.t 0), none, none⟩,
 ⟨some 25, AOp.nilchk (Opd.t 24), none, none⟩,
 ⟨some 26, AOp.faddr 2 (Opd.t 25), none, none⟩,
 ⟨some 27, AOp.load none (Opd.t 26), none, none⟩,
 ⟨some 28, AOp.mv (Opd.t 1), none, none⟩,
 ⟨some 29, AOp.vslice 1 (D.int .i64 0) 1 [(0, Opd.t 28)], none, none⟩,
 ⟨some 30, AOp.append 1 8 3 (Opd.t 27) (Opd.t 29), none, none⟩,
 ⟨some 31, AOp.nilchk (Opd.t 23), none, none⟩,
 ⟨some 32, AOp.faddr 2 (Opd.t 31), none, none⟩,
 ⟨none, AOp.store 1 (Opd.t 32) (Opd.t 30), none, none⟩]) 
 (AC.seq
 
 (AC.reg [⟨some 33, AOp.mv (Opd.t 2), none, none⟩,
 ⟨some 34, AOp.callv (Opd.t 33) [], none, none⟩]) 
 (AC.dreg 0 [(⟨some 35, AOp.mv (Opd.t 0), none, none⟩, []),
 (⟨some 36, AOp.mv (Opd.t 0), none, none⟩, []),
 (⟨some 37, AOp.nilchk (Opd.t 36), none, none⟩, []),
 (⟨some 38, AOp.faddr 2 (Opd.t 37), none, none⟩, []),
 (⟨some 39, AOp.load none (Opd.t 38), none, none⟩, []),
 (⟨some 40, AOp.mv (Opd.t 0), none, none⟩, []),
 (⟨some 41, AOp.nilchk (Opd.t 40), none, none⟩, []),
 (⟨some 42, AOp.faddr 2 (Opd.t 41), none, none⟩, []),
 (⟨some 43, AOp.load none (Opd.t 42), none, none⟩, []),
 (⟨some 44, AOp.len 1 (Opd.t 43), none, none⟩, []),
 (⟨some 45, AOp.bin .sub (Opd.t 44) (Opd.c (D.int .i64 1)), none, none⟩, []),
 (⟨some 46, AOp.ssl 1 (Opd.t 39) none (some (Opd.t 45)) none, none, none⟩, []),
 (⟨some 47, AOp.nilchk (Opd.t 35), none, none⟩, []),
 (⟨some 48, AOp.faddr 2 (Opd.t 47), none, none⟩, []),
 (⟨none, AOp.store 1 (Opd.t 48) (Opd.t 46), none, none⟩, [])]))) ⟩
/-- (*lexicon/show.pieces).value$1 -/
def code57 : AFn := ⟨ [], AC.reg [⟨some 2, AOp.load none (Opd.t 0), none, none⟩,
 ⟨some 3, AOp.load none (Opd.t 1), none, none⟩,
 ⟨some 4, AOp.call false 58 [Opd.t 2, Opd.t 3], none, none⟩] ⟩
/-- (*lexicon/show.pieces).row -/
def code58 : AFn := ⟨ [],  AC.seq
 
 (AC.reg [⟨some 4, AOp.mv (Opd.c (D.str [91])), none, none⟩,
 ⟨some 5, AOp.mv (Opd.c (D.str [93])), none, none⟩]) 
 (AC.seq
 
 (AC.seq
 
 (AC.reg [⟨some 6, AOp.mv (Opd.t 1), none, none⟩,
 ⟨some 7, AOp.call false 100 [Opd.t 6], none, none⟩,
 ⟨some 8, AOp.bin .eql (Opd.t 7) (Opd.c (D.int .i64 5)), none, none⟩]) 
 (AC.cond (Opd.t 8) 
 (AC.seq
 
 (AC.reg [⟨some 4, AOp.mv (Opd.c (D.str [40])), none, none⟩,
 ⟨some 5, AOp.mv (Opd.c (D.str [41])), none, none⟩]) 
 (AC.seq
 
 (AC.reg [⟨some 9, AOp.mv (Opd.t 1), none, none⟩,
 ⟨some 10, AOp.nilchk (Opd.t 9), none, none⟩,
 ⟨some 11, AOp.faddr 1 (Opd.t 10), none, none⟩,
 ⟨some 12, AOp.load none (Opd.t 11), none, none⟩,
 ⟨some 13, AOp.len 1 (Opd.t 12), none, none⟩,
 ⟨some 14, AOp.bin .eql (Opd.t 13) (Opd.c (D.int .i64 1)), none, none⟩]) 
 (AC.cond (Opd.t 14) 
 (AC.reg [⟨some 5, AOp.mv (Opd.c (D.str [44, 41])), none, none⟩]) 
 (AC.skip)))) 
 (AC.skip))) 
 (AC.seq
 
 (AC.reg [⟨some 15, AOp.mv (Opd.t 0), none, none⟩,
 ⟨some 16, AOp.mv (Opd.t 4), none, none⟩,
 ⟨some 17, AOp.vslice 1 (D.str []) 1 [(0, Opd.t 16)], none, none⟩,
 ⟨some 18, AOp.call false 64 [Opd.t 15, Opd.t 17], none, none⟩]) 
 (AC.seq
 
 (AC.reg [⟨some 19, AOp.mv (Opd.t 0), none, none⟩,
 ⟨some 20, AOp.mv (Opd.t 1), none, none⟩,
 ⟨some 21, AOp.nilchk (Opd.t 20), none, none⟩,
 ⟨some 22, AOp.faddr 1 (Opd.t 21), none, none⟩,
 ⟨some 23, AOp.load none (Opd.t 22), none, none⟩,
 ⟨some 24, AOp.mv (Opd.t 0), none, none⟩,
 ⟨some 25, AOp.mkfn (Fn.func 25) [Opd.t 24] [], none, none⟩,
 ⟨some 26, AOp.call false 101 [Opd.t 19, Opd.t 23, Opd.t 25], none, none⟩]) 
 (AC.reg [⟨some 27, AOp.mv (Opd.t 0), none, none⟩,
 ⟨some 28, AOp.mv (Opd.t 5), none, none⟩,
 ⟨some 29, AOp.vslice 1 (D.str []) 1 [(0, Opd.t 28)], none, none⟩,
 ⟨some 30, AOp.call false 64 [Opd.t 27, Opd.t 29], none, none⟩])))) ⟩
/-- (*lexicon/show.pieces).say -/
def code64 : AFn := ⟨ [],  AC.seq
 
 (AC.reg [⟨some 6, AOp.mv (Opd.t 1), none, none⟩,
 ⟨some 7, AOp.len 1 (Opd.t 6), none, none⟩,
 ⟨some 8, AOp.mv (Opd.c (D.int .i64 0)), none, none⟩]) 
 (AC.block 0 
 (AC.loop [0, 6, 7, 8] 
 (AC.seq
 
 (AC.reg [⟨some 9, AOp.bin .lss (Opd.t 8) (Opd.t 7), none, none⟩]) 
 (AC.seq
 
 (AC.cond (Opd.t 9) 
 (AC.skip) 
 (AC.exit 0)) 
 (AC.seq
 
 (AC.block 1 
 (AC.seq
 
 (AC.reg [⟨some 10, AOp.iaddr 1 (Opd.t 6) (Opd.t 8), none, none⟩,
 ⟨some 11, AOp.load none (Opd.t 10), none, none⟩,
 ⟨some 5, AOp.mv (Opd.t 11), none, none⟩]) 
 (AC.reg [⟨some 12, AOp.mv (Opd.t 0), none, none⟩,
 ⟨some 13, AOp.mv (Opd.t 0), none, none⟩,
 ⟨some 14, AOp.nilchk (Opd.t 13), none, none⟩,
 ⟨some 15, AOp.faddr 3 (Opd.t 14), none, none⟩,
 ⟨some 16, AOp.load none (Opd.t 15), none, none⟩,
 ⟨some 17, AOp.mv (Opd.t 16), none, none⟩,
 ⟨some 18, AOp.mv (Opd.t 0), some (17, true), none⟩,
 ⟨some 19, AOp.nilchk (Opd.t 18), some (17, true), none⟩,
 ⟨some 20, AOp.faddr 1 (Opd.t 19), some (17, true), none⟩,
 ⟨some 21, AOp.load none (Opd.t 20), some (17, true), none⟩,
 ⟨some 22, AOp.mv (Opd.t 5), some (17, true), none⟩,
 ⟨some 23, AOp.callv (Opd.t 21) [Opd.t 22], some (17, true), none⟩,
 ⟨some 24, AOp.pick (Opd.t 17) (Opd.t 23) (Opd.c (D.bool false)), none, none⟩,
 ⟨some 25, AOp.nilchk (Opd.t 12), none, none⟩,
 ⟨some 26, AOp.faddr 3 (Opd.t 25), none, none⟩,
 ⟨none, AOp.store 1 (Opd.t 26) (Opd.t 24), none, none⟩]))) 
 (AC.reg [⟨some 27, AOp.bin .add (Opd.t 8) (Opd.c (D.int .i64 1)), none, none⟩,
 ⟨some 8, AOp.mv (Opd.t 27), none, none⟩])))))) ⟩
/-- (*lexicon/store.Store).Tag -/
def code65 : AFn := ⟨ [ARes.tmp 4],  AC.seq
 
 (AC.reg [⟨some 4, AOp.mv (Opd.c (D.str [])), none, none⟩]) 
 (AC.seq
 
 (AC.reg [⟨some 12, AOp.mv (Opd.t 0), none, none⟩,
 ⟨some 13, AOp.mv (Opd.t 1), none, none⟩,
 ⟨some 14, AOp.call false 21 [Opd.t 12, Opd.t 13], none, none⟩]) 
 (AC.block 0 
 (AC.seq
 
 (AC.reg [⟨some 19, AOp.eq (ET.iface) false true (Opd.t 14) (Opd.c (D.nili)), none, none⟩]) 
 (AC.cond (Opd.t 19) 
 (AC.seq
 
 (AC.reg [⟨some 5, AOp.mv (Opd.t 14), none, none⟩]) 
 (AC.seq
 
 (AC.reg [⟨some 4, AOp.mv (Opd.c (D.str [])), none, none⟩]) 
 (AC.ret))) 
 (AC.seq
 
 (AC.reg [⟨some 20, AOp.tassert 75 (D.agg []) true (Opd.t 14), none, none⟩,
 ⟨some 21, AOp.extract 1 (Opd.t 20), none, none⟩,
 ⟨some 22, AOp.extract 0 (Opd.t 20), none, none⟩]) 
 (AC.cond (Opd.t 21) 
 (AC.seq
 
 (AC.reg [⟨some 6, AOp.lbox (Opd.c (D.agg [])), none, none⟩,
 ⟨none, AOp.lstore 6 0 (Opd.t 6) (Opd.t 22), none, none⟩]) 
 (AC.seq
 
 (AC.reg [⟨some 4, AOp.mv (Opd.c (D.str [78, 111, 110, 101])), none, none⟩]) 
 (AC.ret))) 
 (AC.seq
 
 (AC.reg [⟨some 23, AOp.tassert 77 (D.agg [D.bool false]) true (Opd.t 14), none, none⟩,
 ⟨some 24, AOp.extract 1 (Opd.t 23), none, none⟩,
 ⟨some 25, AOp.extract 0 (Opd.t 23), none, none⟩]) 
 (AC.cond (Opd.t 24) 
 (AC.seq
 
 (AC.reg [⟨some 7, AOp.lbox (Opd.c (D.agg [D.bool false])), none, none⟩,
 ⟨none, AOp.lstore 7 1 (Opd.t 7) (Opd.t 25), none, none⟩]) 
 (AC.seq
 
 (AC.seq
 
 (AC.reg [⟨some 26, AOp.faddr 0 (Opd.t 7), none, none⟩,
 ⟨some 27, AOp.lload 7 none (Opd.t 26), none, none⟩]) 
 (AC.cond (Opd.t 27) 
 (AC.seq
 
 (AC.reg [⟨some 4, AOp.mv (Opd.c (D.str [84, 114, 117, 101])), none, none⟩]) 
 (AC.ret)) 
 (AC.skip))) 
 (AC.seq
 
 (AC.reg [⟨some 4, AOp.mv (Opd.c (D.str [70, 97, 108, 115, 101])), none, none⟩]) 
 (AC.ret)))) 
 (AC.seq
 
 (AC.reg [⟨some 28, AOp.tassert 179 (D.agg [D.bool false, D.vs true 0 []]) true (Opd.t 14), none, none⟩,
 ⟨some 29, AOp.extract 1 (Opd.t 28), none, none⟩,
 ⟨some 30, AOp.extract 0 (Opd.t 28), none, none⟩]) 
 (AC.cond (Opd.t 29) 
 (AC.seq
 
 (AC.reg [⟨some 8, AOp.lbox (Opd.c (D.agg [D.bool false, D.vs true 0 []])), none, none⟩,
 ⟨none, AOp.lstore 8 2 (Opd.t 8) (Opd.t 30), none, none⟩]) 
 (AC.seq
 
 (AC.reg [⟨some 31, AOp.faddr 0 (Opd.t 8), none, none⟩,
 ⟨some 32, AOp.lload 8 (some 2) (Opd.t 31), none, none⟩,
 ⟨some 33, AOp.call false 116 [Opd.t 32], none, none⟩,
 ⟨some 4, AOp.mv (Opd.t 33), none, none⟩]) 
 (AC.ret))) 
 (AC.seq
 
 (AC.reg [⟨some 34, AOp.tassert 109 (D.agg [D.str []]) true (Opd.t 14), none, none⟩,
 ⟨some 35, AOp.extract 1 (Opd.t 34), none, none⟩,
 ⟨some 36, AOp.extract 0 (Opd.t 34), none, none⟩]) 
 (AC.cond (Opd.t 35) 
 (AC.seq
 
 (AC.reg [⟨some 9, AOp.lbox (Opd.c (D.agg [D.str []])), none, none⟩,
 ⟨none, AOp.lstore 9 1 (Opd.t 9) (Opd.t 36), none, none⟩]) 
 (AC.seq
 
 (AC.reg [⟨some 37, AOp.faddr 0 (Opd.t 9), none, none⟩,
 ⟨some 38, AOp.lload 9 none (Opd.t 37), none, none⟩,
 ⟨some 39, AOp.call false 117 [Opd.t 38], none, none⟩,
 ⟨some 4, AOp.mv (Opd.t 39), none, none⟩]) 
 (AC.ret))) 
 (AC.seq
 
 (AC.reg [⟨some 40, AOp.tassert 162 (D.agg [D.int .i64 0, D.str []]) true (Opd.t 14), none, none⟩,
 ⟨some 41, AOp.extract 1 (Opd.t 40), none, none⟩,
 ⟨some 42, AOp.extract 0 (Opd.t 40), none, none⟩]) 
 (AC.cond (Opd.t 41) 
 (AC.seq
 
 (AC.reg [⟨some 10, AOp.lbox (Opd.c (D.agg [D.int .i64 0, D.str []])), none, none⟩,
 ⟨none, AOp.lstore 10 2 (Opd.t 10) (Opd.t 42), none, none⟩]) 
 (AC.seq
 
 (AC.reg [⟨some 43, AOp.faddr 1 (Opd.t 10), none, none⟩,
 ⟨some 44, AOp.lload 10 none (Opd.t 43), none, none⟩,
 ⟨some 45, AOp.bin .add (Opd.c (D.str [60, 110, 97, 116, 105, 118, 101, 32])) (Opd.t 44), none, none⟩,
 ⟨some 46, AOp.bin .add (Opd.t 45) (Opd.c (D.str [62])), none, none⟩,
 ⟨some 4, AOp.mv (Opd.t 46), none, none⟩]) 
 (AC.ret))) 
 (AC.seq
 
 (AC.reg [⟨some 11, AOp.mv (Opd.t 14), none, none⟩]) 
 (AC.seq
 
 (AC.reg [⟨some 15, AOp.mv (Opd.t 11), none, none⟩,
 ⟨some 16, AOp.invoke [(73, 294, Recv.self), (74, 294, Recv.part 0 (some 0)), (75, 294, Recv.part 0 (some 0)), (76, 294, Recv.part 0 (some 0)), (77, 294, Recv.part 0 (some 0)), (99, 301, Recv.load 0 (some 1)), (103, 301, Recv.self), (104, 301, Recv.part 0 (some 1)), (105, 301, Recv.part 0 (some 1)), (108, 294, Recv.part 0 (some 0)), (109, 294, Recv.part 0 (some 0)), (133, 301, Recv.load 0 (some 1)), (137, 301, Recv.part 0 (some 1)), (138, 301, Recv.part 0 (some 1)), (151, 301, Recv.load 0 (some 1)), (153, 301, Recv.load 0 (some 1)), (155, 301, Recv.load 0 (some 1)), (157, 301, Recv.load 0 (some 1)), (159, 301, Recv.part 0 (some 1)), (160, 301, Recv.part 0 (some 1)), (161, 294, Recv.part 0 (some 0)), (162, 294, Recv.part 0 (some 0)), (164, 301, Recv.load 0 (some 1)), (165, 301, Recv.part 0 (some 1)), (166, 301, Recv.part 0 (some 1)), (167, 301, Recv.load 0 (some 1)), (178, 294, Recv.part 0 (some 0)), (179, 294, Recv.part 0 (some 0)), (188, 301, Recv.part 0 (some 1)), (189, 301, Recv.part 0 (some 1)), (191, 301, Recv.part 0 (some 1)), (192, 301, Recv.part 0 (some 1)), (214, 301, Recv.part 0 (some 1)), (215, 301, Recv.part 0 (some 1)), (425, 301, Recv.part 0 (some 1)), (426, 301, Recv.part 0 (some 1))] (Opd.t 15) [], none, none⟩,
 ⟨some 17, AOp.call false 118 [Opd.t 16], none, none⟩,
 ⟨some 18, AOp.bin .add (Opd.c (D.str [35])) (Opd.t 17), none, none⟩,
 ⟨some 4, AOp.mv (Opd.t 18), none, none⟩]) 
 (AC.ret))))))))))))))))) ⟩
/-- lexicon/store.keys -/
def code69 : AFn := ⟨ [ARes.tmp 2],  AC.seq
 
 (AC.reg [⟨some 1, AOp.lbox (Opd.t 0), none, none⟩,
 ⟨some 2, AOp.mv (Opd.c (D.vs true 0 [])), none, none⟩]) 
 (AC.seq
 
 (AC.seq
 
 (AC.reg [⟨some 5, AOp.faddr 0 (Opd.t 1), none, none⟩,
 ⟨some 6, AOp.lload 1 none (Opd.t 5), none, none⟩]) 
 (AC.block 0 
 (AC.seq
 
 (AC.seq
 
 (AC.reg [⟨some 8, AOp.bin .eql (Opd.t 6) (Opd.c (D.int .i64 8)), none, none⟩,
 ⟨some 7, AOp.mv (Opd.t 8), none, none⟩]) 
 (AC.cond (Opd.t 7) 
 (AC.skip) 
 (AC.reg [⟨some 9, AOp.bin .eql (Opd.t 6) (Opd.c (D.int .i64 9)), none, none⟩,
 ⟨some 7, AOp.mv (Opd.t 9), none, none⟩]))) 
 (AC.cond (Opd.t 7) 
 (AC.seq
 
 (AC.reg [⟨some 10, AOp.faddr 5 (Opd.t 1), none, none⟩,
 ⟨some 11, AOp.lload 1 none (Opd.t 10), none, none⟩,
 ⟨some 2, AOp.mv (Opd.t 11), none, none⟩]) 
 (AC.ret)) 
 (AC.seq
 
 (AC.reg [⟨some 13, AOp.bin .eql (Opd.t 6) (Opd.c (D.int .i64 7)), none, none⟩,
 ⟨some 12, AOp.mv (Opd.t 13), none, none⟩]) 
 (AC.cond (Opd.t 12) 
 (AC.seq
 
 (AC.reg [⟨some 3, AOp.mv (Opd.c (D.vs true 0 [])), none, none⟩]) 
 (AC.seq
 
 (AC.seq
 
 (AC.reg [⟨some 4, AOp.mv (Opd.c (D.int .i64 0)), none, none⟩]) 
 (AC.block 1 
 (AC.loop [1, 3, 4] 
 (AC.seq
 
 (AC.seq
 
 (AC.reg [⟨some 14, AOp.mv (Opd.t 4), none, none⟩,
 ⟨some 15, AOp.faddr 5 (Opd.t 1), none, none⟩,
 ⟨some 16, AOp.lload 1 none (Opd.t 15), none, none⟩,
 ⟨some 17, AOp.len 1 (Opd.t 16), none, none⟩,
 ⟨some 18, AOp.bin .lss (Opd.t 14) (Opd.t 17), none, none⟩]) 
 (AC.cond (Opd.t 18) 
 (AC.skip) 
 (AC.exit 1))) 
 (AC.seq
 
 (AC.block 2 
 (AC.reg [⟨some 21, AOp.mv (Opd.t 3), none, none⟩,
 ⟨some 22, AOp.faddr 5 (Opd.t 1), none, none⟩,
 ⟨some 23, AOp.lload 1 none (Opd.t 22), none, none⟩,
 ⟨some 24, AOp.mv (Opd.t 4), none, none⟩,
 ⟨some 25, AOp.iaddr 1 (Opd.t 23) (Opd.t 24), none, none⟩,
 ⟨some 26, AOp.load none (Opd.t 25), none, none⟩,
 ⟨some 27, AOp.vslice 1 (D.int .i64 0) 1 [(0, Opd.t 26)], none, none⟩,
 ⟨some 28, AOp.append 1 8 3 (Opd.t 21) (Opd.t 27), none, none⟩,
 ⟨some 3, AOp.mv (Opd.t 28), none, none⟩])) 
 (AC.reg [⟨some 19, AOp.mv (Opd.t 4), none, none⟩,
 ⟨some 20, AOp.bin .add (Opd.t 19) (Opd.c (D.int .i64 2)), none, none⟩,
 ⟨some 4, AOp.mv (Opd.t 20), none, none⟩])))))) 
 (AC.seq
 
 (AC.reg [⟨some 29, AOp.mv (Opd.t 3), none, none⟩,
 ⟨some 2, AOp.mv (Opd.t 29), none, none⟩]) 
 (AC.ret)))) 
 (AC.skip))))))) 
 (AC.seq
 
 (AC.reg [⟨some 2, AOp.mv (Opd.c (D.vs true 0 [])), none, none⟩]) 
 (AC.ret))) ⟩
/-- (*lexicon/store.Store).made -/
def code74 : AFn := ⟨ [],  AC.seq
 
 (AC.reg [⟨some 2, AOp.mv (Opd.t 0), none, none⟩,
 ⟨some 3, AOp.nilchk (Opd.t 2), none, none⟩,
 ⟨some 4, AOp.faddr 10 (Opd.t 3), none, none⟩,
 ⟨some 5, AOp.load none (Opd.t 4), none, none⟩,
 ⟨some 6, AOp.call false 120 [Opd.t 5], none, none⟩]) 
 (AC.cond (Opd.t 6) 
 (AC.reg [⟨some 7, AOp.mv (Opd.t 0), none, none⟩,
 ⟨some 8, AOp.nilchk (Opd.t 7), none, none⟩,
 ⟨some 9, AOp.faddr 11 (Opd.t 8), none, none⟩,
 ⟨none, AOp.store 1 (Opd.t 9) (Opd.c (D.bool true)), none, none⟩]) 
 (AC.skip)) ⟩
/-- (*lexicon/store.Store).give -/
def code76 : AFn := ⟨ [ARes.cell 2 (some 1)],  AC.seq
 
 (AC.reg [⟨some 2, AOp.lbox (Opd.c (D.agg [D.int .i64 0])), none, none⟩]) 
 (AC.seq
 
 (AC.reg [⟨some 3, AOp.mv (Opd.t 0), none, none⟩,
 ⟨some 4, AOp.call false 74 [Opd.t 3], none, none⟩]) 
 (AC.seq
 
 (AC.reg [⟨some 5, AOp.mv (Opd.t 0), none, none⟩,
 ⟨some 6, AOp.nilchk (Opd.t 5), none, none⟩,
 ⟨some 7, AOp.faddr 7 (Opd.t 6), none, none⟩,
 ⟨some 8, AOp.load none (Opd.t 7), none, none⟩,
 ⟨some 9, AOp.bin .add (Opd.t 8) (Opd.c (D.int .i64 1)), none, none⟩,
 ⟨some 10, AOp.nilchk (Opd.t 5), none, none⟩,
 ⟨some 11, AOp.faddr 7 (Opd.t 10), none, none⟩,
 ⟨none, AOp.store 1 (Opd.t 11) (Opd.t 9), none, none⟩]) 
 (AC.seq
 
 (AC.reg [⟨some 12, AOp.mv (Opd.t 0), none, none⟩,
 ⟨some 13, AOp.nilchk (Opd.t 12), none, none⟩,
 ⟨some 14, AOp.faddr 8 (Opd.t 13), none, none⟩,
 ⟨some 15, AOp.load none (Opd.t 14), none, none⟩,
 ⟨some 16, AOp.bin .add (Opd.t 15) (Opd.c (D.int .i64 1)), none, none⟩,
 ⟨some 17, AOp.nilchk (Opd.t 12), none, none⟩,
 ⟨some 18, AOp.faddr 8 (Opd.t 17), none, none⟩,
 ⟨none, AOp.store 1 (Opd.t 18) (Opd.t 16), none, none⟩]) 
 (AC.seq
 
 (AC.reg [⟨some 19, AOp.mv (Opd.t 0), none, none⟩,
 ⟨some 20, AOp.nilchk (Opd.t 19), none, none⟩,
 ⟨some 21, AOp.faddr 7 (Opd.t 20), none, none⟩,
 ⟨some 22, AOp.load none (Opd.t 21), none, none⟩,
 ⟨some 23, AOp.build [D.int .i64 0] [(0, 1, Opd.t 22)], none, none⟩,
 ⟨none, AOp.lstore 2 1 (Opd.t 2) (Opd.t 23), none, none⟩]) 
 (AC.ret))))) ⟩
/-- (*lexicon/slots.Slots[lexicon/store.value]).has -/
def code82 : AFn := ⟨ [ARes.tmp 4],  AC.seq
 
 (AC.reg [⟨some 4, AOp.mv (Opd.c (D.bool false)), none, none⟩]) 
 (AC.seq
 
 (AC.reg [⟨some 5, AOp.mv (Opd.t 0), none, none⟩,
 ⟨some 6, AOp.eq (ET.ptr) true true (Opd.t 5) (Opd.c (D.nilp)), none, none⟩,
 ⟨some 7, AOp.mv (Opd.t 6), none, none⟩,
 ⟨some 8, AOp.mv (Opd.t 1), some (7, true), none⟩,
 ⟨some 9, AOp.bin .geq (Opd.t 8) (Opd.c (D.int .i64 0)), some (7, true), none⟩,
 ⟨some 10, AOp.pick (Opd.t 7) (Opd.t 9) (Opd.c (D.bool false)), none, none⟩,
 ⟨some 11, AOp.mv (Opd.t 10), none, none⟩,
 ⟨some 12, AOp.mv (Opd.t 1), some (11, true), none⟩,
 ⟨some 13, AOp.mv (Opd.t 0), some (11, true), none⟩,
 ⟨some 14, AOp.nilchk (Opd.t 13), some (11, true), none⟩,
 ⟨some 15, AOp.faddr 0 (Opd.t 14), some (11, true), none⟩,
 ⟨some 16, AOp.load none (Opd.t 15), some (11, true), none⟩,
 ⟨some 17, AOp.len 1 (Opd.t 16), some (11, true), none⟩,
 ⟨some 18, AOp.bin .lss (Opd.t 12) (Opd.t 17), some (11, true), none⟩,
 ⟨some 19, AOp.pick (Opd.t 11) (Opd.t 18) (Opd.c (D.bool false)), none, none⟩,
 ⟨some 20, AOp.mv (Opd.t 19), none, none⟩,
 ⟨some 21, AOp.mv (Opd.t 0), some (20, true), none⟩,
 ⟨some 22, AOp.nilchk (Opd.t 21), some (20, true), none⟩,
 ⟨some 23, AOp.faddr 1 (Opd.t 22), some (20, true), none⟩,
 ⟨some 24, AOp.load none (Opd.t 23), some (20, true), none⟩,
 ⟨some 25, AOp.mv (Opd.t 1), some (20, true), none⟩,
 ⟨some 26, AOp.iaddr 1 (Opd.t 24) (Opd.t 25), some (20, true), none⟩,
 ⟨some 27, AOp.load none (Opd.t 26), some (20, true), none⟩,
 ⟨some 28, AOp.pick (Opd.t 20) (Opd.t 27) (Opd.c (D.bool false)), none, none⟩,
 ⟨some 4, AOp.mv (Opd.t 28), none, none⟩]) 
 (AC.ret)) ⟩
/-- (*lexicon/lexiconref19.Store).Plain -/
def code86 : AFn := ⟨ [ARes.tmp 4],  AC.seq
 
 (AC.reg [⟨some 3, AOp.lbox (Opd.t 1), none, none⟩,
 ⟨some 4, AOp.mv (Opd.c (D.int .i64 0)), none, none⟩]) 
 (AC.seq
 
 (AC.dreg 1 [(⟨some 5, AOp.mv (Opd.t 0), none, none⟩, []),
 (⟨some 6, AOp.mv (Opd.t 0), none, none⟩, []),
 (⟨some 7, AOp.nilchk (Opd.t 6), none, none⟩, []),
 (⟨some 8, AOp.faddr 0 (Opd.t 7), none, none⟩, []),
 (⟨some 9, AOp.load none (Opd.t 8), none, none⟩, []),
 (⟨some 10, AOp.lload 3 (some 22) (Opd.t 3), none, none⟩, []),
 (⟨some 11, AOp.vslice 22 (D.agg [D.int .i64 0, D.int .i64 0, D.bool false, D.bool false, D.bool false, D.vs true 0 [], D.str [], D.vs true 0 [], D.nilp, D.int .i64 0, D.vs true 0 [], D.int .i64 0, D.int .i64 0, D.int .i64 0, D.int .i64 0, D.nilp, D.nilp, D.int .i64 0, D.nilp, D.bool false, D.bool false, D.bool false]) 1 [(0, Opd.t 10)], none, none⟩, []),
 (⟨some 12, AOp.append 22 208 93 (Opd.t 9) (Opd.t 11), none, some 0⟩, []),
 (⟨some 13, AOp.nilchk (Opd.t 5), none, none⟩, []),
 (⟨some 14, AOp.faddr 0 (Opd.t 13), none, none⟩, []),
 (⟨none, AOp.store 1 (Opd.t 14) (Opd.t 12), none, none⟩, [])]) 
 (AC.seq
 
 (AC.reg [⟨some 15, AOp.mv (Opd.t 0), none, none⟩,
 ⟨some 16, AOp.nilchk (Opd.t 15), none, none⟩,
 ⟨some 17, AOp.faddr 0 (Opd.t 16), none, none⟩,
 ⟨some 18, AOp.load none (Opd.t 17), none, none⟩,
 ⟨some 19, AOp.len 1 (Opd.t 18), none, none⟩,
 ⟨some 20, AOp.bin .sub (Opd.t 19) (Opd.c (D.int .i64 1)), none, none⟩,
 ⟨some 4, AOp.mv (Opd.t 20), none, none⟩]) 
 (AC.ret))) ⟩
/-- slices.Contains[[]int,int] -/
def code99 : AFn := ⟨ [ARes.tmp 4],  AC.seq
 
 (AC.reg [⟨some 4, AOp.mv (Opd.c (D.bool false)), none, none⟩]) 
 (AC.seq
 
 (AC.reg [⟨some 5, AOp.mv (Opd.t 0), none, none⟩,
 ⟨some 6, AOp.mv (Opd.t 1), none, none⟩,
 ⟨some 7, AOp.call false 143 [Opd.t 5, Opd.t 6], none, none⟩,
 ⟨some 8, AOp.bin .geq (Opd.t 7) (Opd.c (D.int .i64 0)), none, none⟩,
 ⟨some 4, AOp.mv (Opd.t 8), none, none⟩]) 
 (AC.ret)) ⟩
/-- (*lexicon/store.Row).Kind -/
def code100 : AFn := ⟨ [ARes.tmp 2],  AC.seq
 
 (AC.reg [⟨some 2, AOp.mv (Opd.c (D.int .i64 0)), none, none⟩]) 
 (AC.seq
 
 (AC.reg [⟨some 3, AOp.mv (Opd.t 0), none, none⟩,
 ⟨some 4, AOp.nilchk (Opd.t 3), none, none⟩,
 ⟨some 5, AOp.faddr 2 (Opd.t 4), none, none⟩,
 ⟨some 6, AOp.load none (Opd.t 5), none, none⟩,
 ⟨some 2, AOp.mv (Opd.t 6), none, none⟩]) 
 (AC.ret)) ⟩
/-- (*lexicon/show.pieces).list -/
def code101 : AFn := ⟨ [],  AC.seq
 
 (AC.reg [⟨some 8, AOp.mv (Opd.t 1), none, none⟩,
 ⟨some 9, AOp.len 1 (Opd.t 8), none, none⟩,
 ⟨some 10, AOp.mv (Opd.c (D.int .i64 0)), none, none⟩]) 
 (AC.block 0 
 (AC.loop [0, 2, 8, 9, 10] 
 (AC.seq
 
 (AC.reg [⟨some 11, AOp.bin .lss (Opd.t 10) (Opd.t 9), none, none⟩]) 
 (AC.seq
 
 (AC.cond (Opd.t 11) 
 (AC.skip) 
 (AC.exit 0)) 
 (AC.seq
 
 (AC.block 1 
 (AC.seq
 
 (AC.reg [⟨some 12, AOp.mv (Opd.t 10), none, none⟩,
 ⟨some 13, AOp.iaddr 1 (Opd.t 8) (Opd.t 10), none, none⟩,
 ⟨some 14, AOp.load none (Opd.t 13), none, none⟩,
 ⟨some 6, AOp.mv (Opd.t 12), none, none⟩,
 ⟨some 7, AOp.mv (Opd.t 14), none, none⟩]) 
 (AC.seq
 
 (AC.seq
 
 (AC.reg [⟨some 15, AOp.mv (Opd.t 0), none, none⟩,
 ⟨some 16, AOp.nilchk (Opd.t 15), none, none⟩,
 ⟨some 17, AOp.faddr 3 (Opd.t 16), none, none⟩,
 ⟨some 18, AOp.load none (Opd.t 17), none, none⟩,
 ⟨some 19, AOp.un .not (Opd.t 18), none, none⟩]) 
 (AC.cond (Opd.t 19) 
 (AC.ret) 
 (AC.skip))) 
 (AC.seq
 
 (AC.seq
 
 (AC.reg [⟨some 20, AOp.mv (Opd.t 6), none, none⟩,
 ⟨some 21, AOp.bin .gtr (Opd.t 20) (Opd.c (D.int .i64 0)), none, none⟩]) 
 (AC.cond (Opd.t 21) 
 (AC.reg [⟨some 22, AOp.mv (Opd.t 0), none, none⟩,
 ⟨some 23, AOp.vslice 1 (D.str []) 1 [(0, Opd.c (D.str [44, 32]))], none, none⟩,
 ⟨some 24, AOp.call false 64 [Opd.t 22, Opd.t 23], none, none⟩]) 
 (AC.skip))) 
 (AC.reg [⟨some 25, AOp.mv (Opd.t 2), none, none⟩,
 ⟨some 26, AOp.mv (Opd.t 7), none, none⟩,
 ⟨some 27, AOp.callv (Opd.t 25) [Opd.t 26], none, none⟩]))))) 
 (AC.reg [⟨some 28, AOp.bin .add (Opd.t 10) (Opd.c (D.int .i64 1)), none, none⟩,
 ⟨some 10, AOp.mv (Opd.t 28), none, none⟩])))))) ⟩
/-- (*lexicon/sweep.Plan).Tick -/
def code120 : AFn := ⟨ [ARes.tmp 2],  AC.seq
 
 (AC.reg [⟨some 2, AOp.mv (Opd.c (D.bool false)), none, none⟩]) 
 (AC.seq
 
 (AC.seq
 
 (AC.reg [⟨some 3, AOp.mv (Opd.t 0), none, none⟩,
 ⟨some 4, AOp.eq (ET.ptr) false true (Opd.t 3) (Opd.c (D.nilp)), none, none⟩]) 
 (AC.cond (Opd.t 4) 
 (AC.seq
 
 (AC.reg [⟨some 2, AOp.mv (Opd.c (D.bool false)), none, none⟩]) 
 (AC.ret)) 
 (AC.skip))) 
 (AC.seq
 
 (AC.reg [⟨some 5, AOp.mv (Opd.t 0), none, none⟩,
 ⟨some 6, AOp.nilchk (Opd.t 5), none, none⟩,
 ⟨some 7, AOp.faddr 1 (Opd.t 6), none, none⟩,
 ⟨some 8, AOp.load none (Opd.t 7), none, none⟩,
 ⟨some 9, AOp.bin .add (Opd.t 8) (Opd.c (D.int .i64 1)), none, none⟩,
 ⟨some 10, AOp.nilchk (Opd.t 5), none, none⟩,
 ⟨some 11, AOp.faddr 1 (Opd.t 10), none, none⟩,
 ⟨none, AOp.store 1 (Opd.t 11) (Opd.t 9), none, none⟩]) 
 (AC.seq
 
 (AC.dreg 0 [(⟨some 12, AOp.mv (Opd.t 0), none, none⟩, []),
 (⟨some 13, AOp.nilchk (Opd.t 12), none, none⟩, []),
 (⟨some 14, AOp.faddr 0 (Opd.t 13), none, none⟩, []),
 (⟨some 15, AOp.load none (Opd.t 14), none, none⟩, []),
 (⟨some 16, AOp.mv (Opd.t 0), none, none⟩, []),
 (⟨some 17, AOp.nilchk (Opd.t 16), none, none⟩, []),
 (⟨some 18, AOp.faddr 1 (Opd.t 17), none, none⟩, []),
 (⟨some 19, AOp.load none (Opd.t 18), none, none⟩, []),
 (⟨some 20, AOp.lookup (ET.int) (D.int .i64 0) false (Opd.t 15) (Opd.t 19), none, none⟩, []),
 (⟨some 21, AOp.bin .gtr (Opd.t 20) (Opd.c (D.int .i64 0)), none, none⟩, []),
 (⟨some 2, AOp.mv (Opd.t 21), none, none⟩, [])]) 
 (AC.ret)))) ⟩
/-- slices.Index[[]int,int] -/
def code143 : AFn := ⟨ [ARes.tmp 4],  AC.seq
 
 (AC.reg [⟨some 4, AOp.mv (Opd.c (D.int .i64 0)), none, none⟩]) 
 (AC.seq
 
 (AC.seq
 
 (AC.reg [⟨some 6, AOp.mv (Opd.t 0), none, none⟩,
 ⟨some 7, AOp.len 1 (Opd.t 6), none, none⟩,
 ⟨some 8, AOp.mv (Opd.c (D.int .i64 0)), none, none⟩]) 
 (AC.block 0 
 (AC.loop [0, 1, 7, 8] 
 (AC.seq
 
 (AC.reg [⟨some 9, AOp.bin .lss (Opd.t 8) (Opd.t 7), none, none⟩]) 
 (AC.seq
 
 (AC.cond (Opd.t 9) 
 (AC.skip) 
 (AC.exit 0)) 
 (AC.seq
 
 (AC.block 1 
 (AC.seq
 
 (AC.reg [⟨some 10, AOp.mv (Opd.t 8), none, none⟩,
 ⟨some 5, AOp.mv (Opd.t 10), none, none⟩]) 
 (AC.seq
 
 (AC.reg [⟨some 11, AOp.mv (Opd.t 1), none, none⟩,
 ⟨some 12, AOp.mv (Opd.t 0), none, none⟩,
 ⟨some 13, AOp.mv (Opd.t 5), none, none⟩,
 ⟨some 14, AOp.iaddr 1 (Opd.t 12) (Opd.t 13), none, none⟩,
 ⟨some 15, AOp.load none (Opd.t 14), none, none⟩,
 ⟨some 16, AOp.bin .eql (Opd.t 11) (Opd.t 15), none, none⟩]) 
 (AC.cond (Opd.t 16) 
 (AC.seq
 
 (AC.reg [⟨some 17, AOp.mv (Opd.t 5), none, none⟩,
 ⟨some 4, AOp.mv (Opd.t 17), none, none⟩]) 
 (AC.ret)) 
 (AC.skip))))) 
 (AC.reg [⟨some 18, AOp.bin .add (Opd.t 8) (Opd.c (D.int .i64 1)), none, none⟩,
 ⟨some 8, AOp.mv (Opd.t 18), none, none⟩]))))))) 
 (AC.seq
 
 (AC.reg [⟨some 4, AOp.mv (Opd.c (D.int .i64 (-1))), none, none⟩]) 
 (AC.ret))) ⟩
/-- (lexicon/store.plain).numbered -/
def code294 : AFn := ⟨ [ARes.tmp 2],  AC.seq
 
 (AC.reg [⟨some 1, AOp.lbox (Opd.t 0), none, none⟩,
 ⟨some 2, AOp.mv (Opd.c (D.int .i64 0)), none, none⟩]) 
 (AC.seq
 
 (AC.reg [⟨some 2, AOp.mv (Opd.c (D.int .i64 0)), none, none⟩]) 
 (AC.ret)) ⟩
/-- (lexicon/store.noneValue).Kind -/
def code295 : AFn := ⟨ [ARes.tmp 2],  AC.seq
 
 (AC.reg [⟨some 1, AOp.lbox (Opd.t 0), none, none⟩,
 ⟨some 2, AOp.mv (Opd.c (D.int .i64 0)), none, none⟩]) 
 (AC.seq
 
 (AC.reg [⟨some 2, AOp.mv (Opd.c (D.int .i64 1)), none, none⟩]) 
 (AC.ret)) ⟩
/-- (lexicon/store.object).numbered -/
def code301 : AFn := ⟨ [ARes.tmp 2],  AC.seq
 
 (AC.reg [⟨some 1, AOp.lbox (Opd.t 0), none, none⟩,
 ⟨some 2, AOp.mv (Opd.c (D.int .i64 0)), none, none⟩]) 
 (AC.seq
 
 (AC.reg [⟨some 3, AOp.faddr 0 (Opd.t 1), none, none⟩,
 ⟨some 4, AOp.lload 1 none (Opd.t 3), none, none⟩,
 ⟨some 2, AOp.mv (Opd.t 4), none, none⟩]) 
 (AC.ret)) ⟩
structure Tb (T : Nat → Option AFn) : Prop where
  t3 : T 3 = some code3
  t5 : T 5 = some code5
  t6 : T 6 = some code6
  t7 : T 7 = some code7
  t8 : T 8 = some code8
  t9 : T 9 = some code9
  t10 : T 10 = some code10
  t11 : T 11 = some code11
  t12 : T 12 = some code12
  t13 : T 13 = some code13
  t14 : T 14 = some code14
  t15 : T 15 = some code15
  t16 : T 16 = some code16
  t17 : T 17 = some code17
  t18 : T 18 = some code18
  t19 : T 19 = some code19
  t20 : T 20 = some code20
  t21 : T 21 = some code21
  t22 : T 22 = some code22
  t23 : T 23 = some code23
  t24 : T 24 = some code24
  t25 : T 25 = some code25
  t26 : T 26 = some code26
  t28 : T 28 = some code28
  t29 : T 29 = some code29
  t31 : T 31 = some code31
  t36 : T 36 = some code36
  t41 : T 41 = some code41
  t49 : T 49 = some code49
  t55 : T 55 = some code55
  t56 : T 56 = some code56
  t57 : T 57 = some code57
  t58 : T 58 = some code58
  t64 : T 64 = some code64
  t65 : T 65 = some code65
  t69 : T 69 = some code69
  t74 : T 74 = some code74
  t76 : T 76 = some code76
  t82 : T 82 = some code82
  t86 : T 86 = some code86
  t99 : T 99 = some code99
  t100 : T 100 = some code100
  t101 : T 101 = some code101
  t120 : T 120 = some code120
  t143 : T 143 = some code143
  t294 : T 294 = some code294
  t295 : T 295 = some code295
  t301 : T 301 = some code301
end Go.Proofs.YtloaklflgfefaaaGreatDoor.Tab
