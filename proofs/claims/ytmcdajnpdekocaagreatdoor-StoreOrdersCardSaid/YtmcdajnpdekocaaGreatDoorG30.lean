/- Part. -/
import Derived.Test.YtmcdajnpdekocaaGreatDoorG27
set_option maxRecDepth 100000
namespace Go.Proofs.YtmcdajnpdekocaaGreatDoor.Tab
open Go Go.Ab
def code51:AFn:=⟨[.tmp 2],
 .seq (.reg [o 2 (.mv (.c (.int .i64 0)))])
 (.seq (.seq (.reg [m 3 0,o 4 (.eq (.ptr) false true (.t 3) (.c (.nilp)))])
 (.cond (.t 4)
 (.seq (.reg [o 2 (.mv (.c (.int .i64 0)))]) (.ret)) (.skip)))
 (.seq (.reg [m 5 0,o 6 (.nilchk (.t 5)),o 7 (.faddr 3 (.t 6)),o 8 (.load none (.t 7)),m 2 8]) (.ret)))⟩
def code96:AFn:=⟨[.tmp 2],
 .seq (.reg [o 2 (.mv (.c (.nilp)))])
 (.seq (.reg [m 4 0,o 5 (.build [.nilp,.vs true 0 [],.nilp,.int .i64 0,.int .i64 0,.int .i64 0,.int .i64 0] [(0,1,.t 4)]),o 6 (.box 183 (.t 5)),m 3 6])
 (.seq (.reg [m 7 3,o 8 (.call false 116 [.t 7,.c (.int .i64 3)])])
 (.seq (.reg [m 9 3,m 2 9]) (.ret))))⟩
def yEd:AFn:=⟨[.tmp 4],
 .seq (.reg [o 4 (.mv (.c (.nilp)))])
 (.seq (.seq (.reg [m 5 0,o 6 (.eq (.ptr) false true (.t 5) (.c (.nilp)))])
 (.cond (.t 6)
 (.seq (.reg [o 4 (.mv (.c (.nilp)))]) (.ret)) (.skip)))
 (.seq (.reg [m 7 0,o 8 (.call false 138 [.t 7])])
 (.seq (.dreg 1 [(m 9 0,[]),(m 10 1,[]),(m 11 1,[]),(m 12 0,[]),(o 13 (.nilchk (.t 12)),[]),(o 14 (.faddr 2 (.t 13)),[]),(o 15 (.load none (.t 14)),[]),(o 16 (.call true 140 [.t 15]),[]),(o 17 (.call true 139 [.t 11,
 .t 16]),[]),(m 18 1,[]),(o 19 (.toInt .u64 (.t 18)),[]),(m 20 0,[]),(o 21 (.nilchk (.t 20)),[]),(o 22 (.faddr 6 (.t 21)),[]),(o 23 (.load none (.t 22)),[]),(o 24 (.build [.nilp,.int .i64 0,.int .i64 0,.int .u64 0,
 .int .i64 0,.int .i64 0,.int .i64 0,.bool false] [(0,1,.t 9),(1,1,.t 10),(2,1,.t 17),(3,1,.t 19),(4,1,.t 23),(6,1,.c (.int .i64 (-1)))]),[]),(⟨some 25,.box 259 (.t 24),none,some 0⟩,[]),(m 4 25,[])]) (.ret))))⟩
def yEb:AFn:=⟨[.tmp 2,.tmp 3],
 .seq (.reg [o 2 (.mv (.c (.int .i64 0))),o 3 (.mv (.c (.bool false)))])
 (.seq (.seq (.reg [m 6 0,o 7 (.eq (.ptr) false true (.t 6) (.c (.nilp))),m 8 7,w 9 (.mv (.t 0)) (8,false),w 10 (.nilchk (.t 9)) (8,false),w 11 (.faddr 0 (.t 10)) (8,false),w 12 (.load none (.t 11)) (8,false),w 13 (.eq (.ptr) false true (.t 12) (.c (.nilp))) (8,
 false),o 14 (.pick (.t 8) (.c (.bool true)) (.t 13))])
 (.cond (.t 14)
 (.seq (.reg [o 2 (.mv (.c (.int .i64 (-1)))),o 3 (.mv (.c (.bool false)))]) (.ret)) (.skip)))
 (.seq (.dreg 0 [(m 15 0,[]),(m 16 0,[]),(o 17 (.nilchk (.t 16)),[]),(o 18 (.faddr 7 (.t 17)),[]),(o 19 (.load none (.t 18)),[]),(m 20 19,[]),(w 21 (.mv (.t 0)) (20,false),[]),(w 22 (.nilchk (.t 21)) (20,false),
 []),(w 23 (.faddr 4 (.t 22)) (20,false),[]),(w 24 (.load none (.t 23)) (20,false),[]),(w 25 (.mv (.t 0)) (20,false),[]),(w 26 (.nilchk (.t 25)) (20,false),[]),(w 27 (.faddr 0 (.t 26)) (20,false),[]),(w 28 (.load none (.t 27)) (20,
 false),[]),(w 29 (.nilchk (.t 28)) (20,false),[]),(w 30 (.faddr 6 (.t 29)) (20,false),[]),(w 31 (.load none (.t 30)) (20,false),[]),(w 32 (.bin .neq (.t 24) (.t 31)) (20,false),[]),(o 33 (.pick (.t 20) (.c (.bool true)) (.t 32)),
 []),(o 34 (.nilchk (.t 15)),[]),(o 35 (.faddr 7 (.t 34)),[]),(⟨none,.store 1 (.t 35) (.t 33),none,none⟩,[])])
 (.seq (.block 0
 (.loop [0,6]
 (.seq (.seq (.reg [m 36 0,o 37 (.nilchk (.t 36)),o 38 (.faddr 7 (.t 37)),o 39 (.load none (.t 38)),o 40 (.un .not (.t 39))])
 (.cond (.t 40) (.skip) (.exit 0)))
 (.block 1
 (.seq (.dreg 0 [(m 42 0,[]),(o 43 (.nilchk (.t 42)),[]),(o 44 (.faddr 0 (.t 43)),[]),(o 45 (.load none (.t 44)),[]),(o 46 (.nilchk (.t 45)),[]),(o 47 (.faddr 2 (.t 46)),[]),(o 48 (.load none (.t 47)),[]),(m 49 0,
 []),(o 50 (.nilchk (.t 49)),[]),(o 51 (.faddr 2 (.t 50)),[]),(o 52 (.load none (.t 51)),[]),(o 53 (.call false 141 [.t 48,.t 52]),[]),(m 41 53,[]),(o 54 (.extract 0 (.t 41)),[]),(o 55 (.extract 1 (.t 41)),[]),
 (m 4 54,[]),(m 5 55,[])])
 (.seq (.reg [m 56 0,o 57 (.nilchk (.t 56)),o 58 (.faddr 5 (.t 57)),o 59 (.load none (.t 58)),o 60 (.bin .add (.t 59) (.c (.int .i64 1))),o 61 (.nilchk (.t 56)),o 62 (.faddr 5 (.t 61)),⟨none,.store 1 (.t 62) (.t 60),
 none,none⟩])
 (.seq (.reg [m 63 0,o 64 (.nilchk (.t 63)),o 65 (.faddr 0 (.t 64)),o 66 (.load none (.t 65)),o 67 (.nilchk (.t 66)),o 68 (.faddr 0 (.t 67)),o 69 (.load none (.t 68)),o 70 (.call false 142 [.t 69,.c (.int .i64 1)])])
 (.seq (.seq (.reg [m 71 4,o 72 (.bin .eql (.t 71) (.c (.int .i64 (-1))))])
 (.cond (.t 72)
 (.seq (.reg [m 73 0,o 74 (.nilchk (.t 73)),o 75 (.faddr 7 (.t 74)),⟨none,.store 1 (.t 75) (.c (.bool true)),none,none⟩]) (.exit 0)) (.skip)))
 (.seq (.reg [m 76 0,o 77 (.call false 143 [.t 76])])
 (.seq (.dreg 0 [(m 78 4,[]),(m 79 0,[]),(o 80 (.nilchk (.t 79)),[]),(o 81 (.faddr 6 (.t 80)),[]),(o 82 (.load none (.t 81)),[]),(o 83 (.bin .gtr (.t 78) (.t 82)),[]),(m 84 83,[]),(w 85 (.mv (.t 0)) (84,true),
 []),(w 86 (.nilchk (.t 85)) (84,true),[]),(w 87 (.faddr 0 (.t 86)) (84,true),[]),(w 88 (.load none (.t 87)) (84,true),[]),(w 89 (.nilchk (.t 88)) (84,true),[]),(w 90 (.faddr 1 (.t 89)) (84,true),[]),(w 91 (.load none (.t 90)) (84,
 true),[]),(w 92 (.mv (.t 4)) (84,true),[]),(w 93 (.iaddr 5 (.t 91) (.t 92)) (84,true),[]),(w 94 (.faddr 1 (.t 93)) (84,true),[]),(w 95 (.load none (.t 94)) (84,true),[]),(w 96 (.mv (.t 0)) (84,true),[]),(w 97 (.nilchk (.t 96)) (84,
 true),[]),(w 98 (.faddr 1 (.t 97)) (84,true),[]),(w 99 (.load none (.t 98)) (84,true),[]),(w 100 (.bin .eql (.t 95) (.t 99)) (84,true),[]),(o 101 (.pick (.t 84) (.t 100) (.c (.bool false))),[])])
 (.cond (.t 101)
 (.seq (.reg [m 102 0,m 103 4,o 104 (.nilchk (.t 102)),o 105 (.faddr 6 (.t 104)),⟨none,.store 1 (.t 105) (.t 103),none,none⟩])
 (.seq (.reg [m 106 4,m 2 106,o 3 (.mv (.c (.bool true)))]) (.ret))) (.skip))))))))))))
 (.seq (.reg [o 2 (.mv (.c (.int .i64 (-1)))),o 3 (.mv (.c (.bool false)))]) (.ret)))))⟩
def yDz:AFn:=⟨[.cell 4 (some 5),.tmp 5],
 .seq (.reg [o 4 (.lbox (.c (.agg [.bool false,.int .i64 0,.int .i64 0,.int .i64 0,.int .i64 0]))),o 5 (.mv (.c (.int .i64 0)))])
 (.seq (.seq (.reg [m 7 0,m 8 1,o 9 (.call false 144 [.t 7,.t 8]),m 6 9])
 (.seq (.reg [m 10 6,o 11 (.bin .neq (.t 10) (.c (.int .i64 0)))])
 (.cond (.t 11)
 (.seq (.reg [o 12 (.build [.bool false,.int .i64 0,.int .i64 0,.int .i64 0,.int .i64 0] []),m 13 6,⟨none,.lstore 4 5 (.t 4) (.t 12),none,none⟩,m 5 13]) (.ret)) (.skip))))
 (.seq (.reg [m 14 0,o 15 (.nilchk (.t 14)),o 16 (.faddr 1 (.t 15)),o 17 (.load none (.t 16)),m 18 1,o 19 (.iaddr 5 (.t 17) (.t 18)),o 20 (.load (some 5) (.t 19)),⟨none,.lstore 4 5 (.t 4) (.t 20),none,none⟩,o 5 (.mv (.c (.int .i64 0)))]) (.ret)))⟩
def yDy:AFn:=⟨[],
 .seq (.reg [m 5 0,m 6 1,o 7 (.call false 145 [.t 6]),m 4 7,o 8 (.extract 0 (.t 4)),o 9 (.extract 1 (.t 4)),o 10 (.nilchk (.t 5)),o 11 (.faddr 2 (.t 10)),⟨none,.store 1 (.t 11) (.t 8),none,none⟩])
 (.seq (.reg [m 12 0,o 13 (.nilchk (.t 12)),o 14 (.faddr 5 (.t 13)),o 15 (.load none (.t 14)),o 16 (.bin .add (.t 15) (.c (.int .i64 1))),o 17 (.nilchk (.t 12)),o 18 (.faddr 5 (.t 17)),⟨none,.store 1 (.t 18) (.t 16),
 none,none⟩]) (.reg [m 19 0,o 20 (.nilchk (.t 19)),o 21 (.faddr 0 (.t 20)),o 22 (.load none (.t 21)),o 23 (.call false 146 [.t 22])]))⟩
def yDt:AFn:=⟨[.tmp 6],
 .seq (.reg [o 6 (.mv (.c (.int .i64 0)))])
 (.seq (.reg [m 8 0,m 9 1,o 10 (.call false 144 [.t 8,.t 9]),m 7 10])
 (.seq (.seq (.reg [m 11 7,o 12 (.bin .eql (.t 11) (.c (.int .i64 0)))])
 (.cond (.t 12) (.reg [m 13 0,o 14 (.nilchk (.t 13)),o 15 (.faddr 1 (.t 14)),o 16 (.load none (.t 15)),m 17 1,m 18 2,o 19 (.iaddr 5 (.t 16) (.t 17)),o 20 (.faddr 3 (.t 19)),⟨none,.store 1 (.t 20) (.t 18),none,none⟩]) (.skip)))
 (.seq (.reg [m 21 7,m 6 21]) (.ret))))⟩
def yDp:AFn:=⟨[.tmp 8,.tmp 9],
 .seq (.reg [o 4 (.box 131 (.t 0)),o 8 (.mv (.c (.int .i64 0))),o 9 (.mv (.c (.int .i64 0)))])
 (.seq (.seq (.reg [o 12 (.load none (.t 4)),o 13 (.eq (.ptr) false true (.t 12) (.c (.nilp)))])
 (.cond (.t 13)
 (.seq (.reg [o 8 (.mv (.c (.int .i64 0))),o 9 (.mv (.c (.int .i64 1)))]) (.ret)) (.skip)))
 (.seq (.reg [o 14 (.load none (.t 4)),o 15 (.call false 138 [.t 14])])
 (.seq (.seq (.dreg 0 [(o 16 (.load none (.t 4)),[]),(o 17 (.nilchk (.t 16)),[]),(o 18 (.faddr 1 (.t 17)),[]),(o 19 (.load none (.t 18)),[]),(o 20 (.len 1 (.t 19)),[]),(o 21 (.load none (.t 4)),[]),(o 22 (.nilchk (.t 21)),
 []),(o 23 (.faddr 2 (.t 22)),[]),(o 24 (.load none (.t 23)),[]),(o 25 (.call false 155 [.t 24]),[0,3,4]),(o 26 (.bin .eql (.t 20) (.t 25)),[])])
 (.cond (.t 26)
 (.seq (.reg [o 27 (.mkfn (.func 157) [] [.t 4]),o 28 (.call false 156 [.t 27]),m 10 28])
 (.seq (.seq (.reg [m 29 10,o 30 (.bin .gtr (.t 29) (.c (.int .i64 20)))])
 (.cond (.t 30)
 (.seq (.reg [o 8 (.mv (.c (.int .i64 0))),o 9 (.mv (.c (.int .i64 3)))]) (.ret)) (.skip)))
 (.seq (.reg [o 31 (.load none (.t 4)),o 32 (.call false 158 [.t 31])])
 (.seq (.reg [o 33 (.load none (.t 4)),m 34 10,o 35 (.call false 116 [.t 33,.t 34])]) (.reg [o 36 (.load none (.t 4)),o 37 (.call false 159 [.t 36])]))))) (.skip)))
 (.seq (.reg [o 38 (.load none (.t 4)),o 39 (.nilchk (.t 38)),o 40 (.faddr 1 (.t 39)),o 41 (.load none (.t 40)),o 42 (.len 1 (.t 41)),m 11 42])
 (.seq (.dreg 1 [(o 43 (.load none (.t 4)),[]),(o 44 (.load none (.t 4)),[]),(o 45 (.nilchk (.t 44)),[]),(o 46 (.faddr 1 (.t 45)),[]),(o 47 (.load none (.t 46)),[]),(m 48 1,[]),(m 49 2,[]),(m 50 3,[]),(o 51 (.load none (.t 4)),
 []),(o 52 (.nilchk (.t 51)),[]),(o 53 (.faddr 4 (.t 52)),[]),(o 54 (.load none (.t 53)),[]),(o 55 (.build [.bool false,.int .i64 0,.int .i64 0,.int .i64 0,.int .i64 0] [(0,1,.c (.bool true)),(1,1,.t 48),(2,
 1,.t 49),(3,1,.t 50),(4,1,.t 54)]),[]),(o 56 (.vslice 5 (.agg [.bool false,.int .i64 0,.int .i64 0,.int .i64 0,.int .i64 0]) 1 [(0,.t 55)]),[]),(⟨some 57,.append 5 40 243 (.t 47) (.t 56),none,some 0⟩,[0]),
 (o 58 (.nilchk (.t 43)),[]),(o 59 (.faddr 1 (.t 58)),[]),(⟨none,.store 1 (.t 59) (.t 57),none,none⟩,[])])
 (.seq (.reg [o 60 (.load none (.t 4)),m 61 11,o 62 (.call false 160 [.t 60,.t 61])])
 (.seq (.reg [o 63 (.load none (.t 4)),o 64 (.nilchk (.t 63)),o 65 (.faddr 4 (.t 64)),o 66 (.load none (.t 65)),o 67 (.bin .add (.t 66) (.c (.int .i64 1))),o 68 (.nilchk (.t 63)),o 69 (.faddr 4 (.t 68)),⟨none,.store 1 (.t 69) (.t 67),
 none,none⟩])
 (.seq (.reg [o 70 (.load none (.t 4)),o 71 (.nilchk (.t 70)),o 72 (.faddr 3 (.t 71)),o 73 (.load none (.t 72)),o 74 (.bin .add (.t 73) (.c (.int .i64 1))),o 75 (.nilchk (.t 70)),o 76 (.faddr 3 (.t 75)),⟨none,.store 1 (.t 76) (.t 74),
 none,none⟩])
 (.seq (.reg [o 77 (.load none (.t 4)),o 78 (.nilchk (.t 77)),o 79 (.faddr 6 (.t 78)),o 80 (.load none (.t 79)),o 81 (.bin .add (.t 80) (.c (.int .i64 1))),o 82 (.nilchk (.t 77)),o 83 (.faddr 6 (.t 82)),⟨none,.store 1 (.t 83) (.t 81),
 none,none⟩])
 (.seq (.reg [m 84 11,m 8 84,o 9 (.mv (.c (.int .i64 0)))]) (.ret)))))))))))⟩
def yDk:AFn:=⟨[],
 .seq (.reg [m 2 0,o 3 (.nilchk (.t 2)),o 4 (.faddr 2 (.t 3)),o 5 (.load none (.t 4)),o 6 (.eq (.ptr) false true (.t 5) (.c (.nilp)))])
 (.cond (.t 6) (.reg [m 7 0,o 8 (.call false 116 [.t 7,.c (.int .i64 3)])]) (.skip))⟩
def yDj:AFn:=⟨[.tmp 4],
 .seq (.reg [o 4 (.mv (.c (.int .i64 0)))])
 (.seq (.seq (.reg [m 5 1,o 6 (.bin .lss (.t 5) (.c (.int .i64 0))),m 7 6,w 8 (.mv (.t 1)) (7,false),w 9 (.bin .gtr (.t 8) (.c (.int .i64 20))) (7,false),o 10 (.pick (.t 7) (.c (.bool true)) (.t 9))])
 (.cond (.t 10)
 (.seq (.reg [o 4 (.mv (.c (.int .i64 0)))]) (.ret)) (.skip)))
 (.seq (.reg [m 11 0,o 12 (.toInt .u64 (.t 11)),m 13 1,o 14 (.bin .shl (.c (.int .u64 1)) (.t 13)),o 15 (.bin .sub (.t 14) (.c (.int .u64 1))),o 16 (.bin .and (.t 12) (.t 15)),o 17 (.toInt .i64 (.t 16)),m 4 17]) (.ret)))⟩
def yDi:AFn:=⟨[.tmp 2],
 .seq (.reg [o 2 (.mv (.c (.int .i64 0)))])
 (.seq (.seq (.reg [m 3 0,o 4 (.call false 163 [.t 3])])
 (.cond (.t 4)
 (.seq (.reg [o 2 (.mv (.c (.int .i64 0)))]) (.ret)) (.skip)))
 (.seq (.reg [m 5 0,o 6 (.nilchk (.t 5)),o 7 (.faddr 0 (.t 6)),o 8 (.load none (.t 7)),m 2 8]) (.ret)))⟩
def yDh:AFn:=⟨[.tmp 4,.tmp 5],
 .seq (.reg [o 4 (.mv (.c (.int .i64 0))),o 5 (.mv (.c (.int .i64 0)))])
 (.seq (.seq (.reg [m 7 0,m 8 1,o 9 (.call false 164 [.t 7,.t 8]),m 6 9])
 (.seq (.reg [m 10 6,o 11 (.bin .neq (.t 10) (.c (.int .i64 0)))])
 (.cond (.t 11)
 (.seq (.reg [m 12 6,o 4 (.mv (.c (.int .i64 0))),m 5 12]) (.ret)) (.skip))))
 (.seq (.reg [m 13 0,o 14 (.nilchk (.t 13)),o 15 (.faddr 1 (.t 14)),o 16 (.load none (.t 15)),m 17 1,o 18 (.invoke [(290,230,.self),(293,234,.self),(296,238,.self)] (.t 16) [.t 17]),m 4 18,o 5 (.mv (.c (.int .i64 0)))]) (.ret)))⟩
def yDg:AFn:=⟨[],.reg [m 4 0,m 5 1,o 6 (.call false 165 [.t 4,.c (.int .i64 1),.t 5])]⟩
def yDf:AFn:=⟨[],
 .seq (.reg [m 2 0,o 3 (.nilchk (.t 2)),o 4 (.faddr 3 (.t 3)),o 5 (.load none (.t 4)),o 6 (.bin .shr (.t 5) (.c (.int .u64 5))),o 7 (.nilchk (.t 2)),o 8 (.faddr 3 (.t 7)),⟨none,.store 1 (.t 8) (.t 6),none,none⟩]) (.dreg 0 [(m 9 0,
 []),(m 10 0,[]),(o 11 (.nilchk (.t 10)),[]),(o 12 (.faddr 2 (.t 11)),[]),(o 13 (.load none (.t 12)),[]),(o 14 (.toInt .u64 (.t 13)),[]),(o 15 (.bin .mul (.c (.int .u64 5)) (.t 14)),[]),(m 16 0,[]),(o 17 (.nilchk (.t 16)),
 []),(o 18 (.faddr 3 (.t 17)),[]),(o 19 (.load none (.t 18)),[]),(o 20 (.bin .add (.t 15) (.t 19)),[]),(o 21 (.bin .add (.t 20) (.c (.int .u64 1))),[]),(m 22 0,[]),(o 23 (.nilchk (.t 22)),[]),(o 24 (.faddr 0 (.t 23)),
 []),(o 25 (.load none (.t 24)),[]),(o 26 (.nilchk (.t 25)),[]),(o 27 (.faddr 2 (.t 26)),[]),(o 28 (.load none (.t 27)),[]),(o 29 (.call false 140 [.t 28]),[4,10]),(o 30 (.bin .shl (.c (.int .u64 1)) (.t 29)),[]),
 (o 31 (.bin .sub (.t 30) (.c (.int .u64 1))),[]),(o 32 (.bin .and (.t 21) (.t 31)),[]),(o 33 (.toInt .i64 (.t 32)),[]),(o 34 (.nilchk (.t 9)),[]),(o 35 (.faddr 2 (.t 34)),[]),(⟨none,.store 1 (.t 35) (.t 33),none,
 none⟩,[])])⟩
def yDe:AFn:=⟨[.tmp 4],
 .seq (.reg [o 4 (.mv (.c (.int .i64 0)))])
 (.seq (.block 0
 (.seq (.reg [m 6 0,o 7 (.eq (.ptr) false true (.t 6) (.c (.nilp))),m 5 7])
 (.cond (.t 5)
 (.seq (.reg [o 4 (.mv (.c (.int .i64 1)))]) (.ret))
 (.seq (.reg [m 9 1,o 10 (.bin .lss (.t 9) (.c (.int .i64 0))),m 11 10,w 12 (.mv (.t 1)) (11,false),w 13 (.mv (.t 0)) (11,false),w 14 (.nilchk (.t 13)) (11,false),w 15 (.faddr 1 (.t 14)) (11,false),w 16 (.load none (.t 15)) (11,
 false),w 17 (.len 1 (.t 16)) (11,false),w 18 (.bin .geq (.t 12) (.t 17)) (11,false),o 19 (.pick (.t 11) (.c (.bool true)) (.t 18)),m 20 19,w 21 (.mv (.t 0)) (20,false),w 22 (.nilchk (.t 21)) (20,false),w 23 (.faddr 1 (.t 22)) (20,
 false),w 24 (.load none (.t 23)) (20,false),w 25 (.mv (.t 1)) (20,false),w 26 (.iaddr 5 (.t 24) (.t 25)) (20,false),w 27 (.faddr 0 (.t 26)) (20,false),w 28 (.load none (.t 27)) (20,false),w 29 (.un .not (.t 28)) (20,
 false),o 30 (.pick (.t 20) (.c (.bool true)) (.t 29)),m 8 30])
 (.cond (.t 8)
 (.seq (.reg [o 4 (.mv (.c (.int .i64 7)))]) (.ret)) (.skip))))))
 (.seq (.reg [o 4 (.mv (.c (.int .i64 0)))]) (.ret)))⟩
def yDd:AFn:=⟨[.tmp 2,.tmp 3],
 .seq (.reg [o 2 (.mv (.c (.nilp))),o 3 (.mv (.c (.int .i64 0)))])
 (.seq (.seq (.reg [m 6 0,o 7 (.bin .lss (.t 6) (.c (.int .i64 3))),m 8 7,w 9 (.mv (.t 0)) (8,false),w 10 (.bin .gtr (.t 9) (.c (.int .i64 20))) (8,false),o 11 (.pick (.t 8) (.c (.bool true)) (.t 10))])
 (.cond (.t 11)
 (.seq (.reg [o 2 (.mv (.c (.nilp))),o 3 (.mv (.c (.int .i64 1)))]) (.ret)) (.skip)))
 (.seq (.reg [m 12 0,m 13 0,o 14 (.call false 166 [.t 13]),o 15 (.build [.int .i64 0,.nili] [(0,1,.t 12),(1,1,.t 14)]),o 16 (.box 274 (.t 15)),m 4 16])
 (.seq (.seq (.reg [m 17 4,o 18 (.nilchk (.t 17)),o 19 (.faddr 1 (.t 18)),o 20 (.load none (.t 19)),o 21 (.invoke [(290,231,.self),(293,235,.self),(296,239,.self)] (.t 20) []),o 22 (.mv (.c (.int .i64 0)))])
 (.block 0
 (.loop [4,21,22]
 (.seq (.reg [o 23 (.bin .lss (.t 22) (.t 21))])
 (.seq (.cond (.t 23) (.skip) (.exit 0))
 (.seq (.block 1
 (.seq (.reg [m 24 22,m 5 24]) (.reg [m 25 4,o 26 (.nilchk (.t 25)),o 27 (.faddr 1 (.t 26)),o 28 (.load none (.t 27)),m 29 5,o 30 (.invoke [(290,232,.self),(293,236,.self),(296,240,.self)] (.t 28) [.t 29,.c (.int .i64 (-1))])]))) (.reg [o 31 (.bin .add (.t 22) (.c (.int .i64 1))),
 m 22 31])))))))
 (.seq (.reg [m 32 4,m 2 32,o 3 (.mv (.c (.int .i64 0)))]) (.ret)))))⟩
def yDc:AFn:=⟨[],.reg [m 2 0,o 3 (.call false 165 [.t 2,.c (.int .i64 0),.c (.int .i64 1)])]⟩
def yDb:AFn:=⟨[.tmp 4],
 .seq (.reg [o 2 (.box 3 (.t 0)),o 3 (.box 3 (.t 1)),o 4 (.mv (.c (.nilf)))])
 (.seq (.reg [o 5 (.mkfn (.func 168) [] [.t 3,.t 2]),m 4 5]) (.ret))⟩
def yDa:AFn:=⟨[.tmp 6],
 .seq (.reg [o 6 (.mv (.c (.int .i64 0)))])
 (.seq (.seq (.reg [m 8 0,m 9 1,o 10 (.call false 164 [.t 8,.t 9]),m 7 10])
 (.seq (.reg [m 11 7,o 12 (.bin .neq (.t 11) (.c (.int .i64 0)))])
 (.cond (.t 12)
 (.seq (.reg [m 13 7,m 6 13]) (.ret)) (.skip))))
 (.seq (.seq (.reg [m 14 0,m 15 2,o 16 (.call false 169 [.t 14,.t 15]),o 17 (.un .not (.t 16))])
 (.cond (.t 17)
 (.seq (.reg [o 6 (.mv (.c (.int .i64 1)))]) (.ret)) (.skip)))
 (.seq (.reg [m 18 0,o 19 (.nilchk (.t 18)),o 20 (.faddr 1 (.t 19)),o 21 (.load none (.t 20)),m 22 1,m 23 2,o 24 (.invoke [(290,232,.self),(293,236,.self),(296,240,.self)] (.t 21) [.t 22,.t 23])])
 (.seq (.reg [o 6 (.mv (.c (.int .i64 0)))]) (.ret)))))⟩
def yCz:AFn:=⟨[.tmp 2],
 .seq (.reg [o 2 (.mv (.c (.int .i64 0)))])
 (.seq (.reg [m 3 0,o 4 (.call false 170 [.t 3]),o 5 (.bin .mul (.c (.int .i64 2)) (.t 4)),o 6 (.bin .quo (.t 5) (.c (.int .i64 3))),m 2 6]) (.ret))⟩
def yCy:AFn:=⟨[.tmp 2],
 .seq (.reg [o 2 (.mv (.c (.int .i64 0)))])
 (.seq (.reg [o 3 (.mv (.c (.int .i64 3)))])
 (.seq (.block 0
 (.loop [0,2,3]
 (.seq (.seq (.reg [m 4 3,o 5 (.bin .leq (.t 4) (.c (.int .i64 20))),m 6 5,w 7 (.mv (.t 0)) (6,true),w 8 (.mv (.t 3)) (6,true),w 9 (.callv (.t 7) [.t 8]) (6,true),w 10 (.un .not (.t 9)) (6,true),o 11 (.pick (.t 6) (.t 10) (.c (.bool false)))])
 (.cond (.t 11) (.skip) (.exit 0)))
 (.block 1 (.reg [m 12 3,o 13 (.bin .add (.t 12) (.c (.int .i64 1))),m 3 13])))))
 (.seq (.reg [m 14 3,m 2 14]) (.ret))))⟩
def yCx:AFn:=⟨[.tmp 3],
 .seq (.reg [o 3 (.mv (.c (.bool false)))])
 (.seq (.dreg 0 [(m 4 0,[]),(o 5 (.bin .shl (.c (.int .i64 1)) (.t 4)),[]),(o 6 (.load none (.t 1)),[]),(o 7 (.nilchk (.t 6)),[]),(o 8 (.faddr 3 (.t 7)),[]),(o 9 (.load none (.t 8)),[]),(o 10 (.bin .mul (.c (.int .i64 3)) (.t 9)),
 []),(o 11 (.bin .geq (.t 5) (.t 10)),[]),(m 3 11,[])]) (.ret))⟩
def yCw:AFn:=⟨[],
 .seq (.reg [o 2 (.mv (.c (.int .i64 0)))])
 (.seq (.seq (.reg [m 5 0,o 6 (.nilchk (.t 5)),o 7 (.faddr 1 (.t 6)),o 8 (.load none (.t 7)),o 9 (.len 1 (.t 8)),o 10 (.mv (.c (.int .i64 0)))])
 (.block 0
 (.loop [0,2,8,9,10]
 (.seq (.reg [o 11 (.bin .lss (.t 10) (.t 9))])
 (.seq (.cond (.t 11) (.skip) (.exit 0))
 (.seq (.block 1
 (.seq (.reg [m 12 10,o 13 (.iaddr 5 (.t 8) (.t 10)),o 14 (.load (some 5) (.t 13)),o 4 (.lbox (.c (.agg [.bool false,.int .i64 0,.int .i64 0,.int .i64 0,.int .i64 0]))),m 3 12,⟨none,.lstore 4 5 (.t 4) (.t 14),none,
 none⟩])
 (.seq (.reg [o 15 (.faddr 0 (.t 4)),o 16 (.lload 4 none (.t 15))])
 (.cond (.t 16) (.dreg 0 [(m 17 2,[]),(m 18 0,[]),(o 19 (.nilchk (.t 18)),[]),(o 20 (.faddr 1 (.t 19)),[]),(o 21 (.load none (.t 20)),[]),(m 22 2,[]),(m 23 2,[]),(o 24 (.bin .add (.t 23) (.c (.int .i64 1))),[]),
 (o 25 (.ssl 5 (.t 21) (some (.t 22)) (some (.t 24)) none),[]),(m 26 0,[]),(o 27 (.nilchk (.t 26)),[]),(o 28 (.faddr 1 (.t 27)),[]),(o 29 (.load none (.t 28)),[]),(m 30 3,[]),(m 31 3,[]),(o 32 (.bin .add (.t 31) (.c (.int .i64 1))),
 []),(o 33 (.ssl 5 (.t 29) (some (.t 30)) (some (.t 32)) none),[]),(o 34 (.copy 5 (.t 25) (.t 33)),[]),(o 35 (.bin .add (.t 17) (.t 34)),[]),(m 2 35,[])]) (.skip))))) (.reg [o 36 (.bin .add (.t 10) (.c (.int .i64 1))),
 m 10 36])))))))
 (.seq (.reg [m 37 0,o 38 (.nilchk (.t 37)),o 39 (.faddr 1 (.t 38)),o 40 (.load none (.t 39)),m 41 2,o 42 (.ssl 5 (.t 40) (some (.t 41)) none none),⟨none,.clear 5 (.agg [.bool false,.int .i64 0,.int .i64 0,.int .i64 0,
 .int .i64 0]) (.t 42),none,none⟩]) (.reg [m 43 0,m 44 0,o 45 (.nilchk (.t 44)),o 46 (.faddr 1 (.t 45)),o 47 (.load none (.t 46)),m 48 2,o 49 (.ssl 5 (.t 47) none (some (.t 48)) none),o 50 (.nilchk (.t 43)),o 51 (.faddr 1 (.t 50)),
 ⟨none,.store 1 (.t 51) (.t 49),none,none⟩])))⟩
def yCv:AFn:=⟨[],
 .seq (.reg [m 3 0,o 4 (.nilchk (.t 3)),o 5 (.faddr 1 (.t 4)),o 6 (.load none (.t 5)),o 7 (.len 1 (.t 6)),o 8 (.mv (.c (.int .i64 0)))])
 (.block 0
 (.loop [0,7,8]
 (.seq (.reg [o 9 (.bin .lss (.t 8) (.t 7))])
 (.seq (.cond (.t 9) (.skip) (.exit 0))
 (.seq (.block 1
 (.seq (.reg [m 10 8,m 2 10]) (.reg [m 11 0,m 12 2,o 13 (.call false 160 [.t 11,.t 12])]))) (.reg [o 14 (.bin .add (.t 8) (.c (.int .i64 1))),m 8 14]))))))⟩
def yCu:AFn:=⟨[],
 .seq (.reg [o 2 (.box 131 (.t 0)),o 3 (.box 3 (.t 1))])
 (.seq (.skip)
 (.seq (.dreg 0 [(o 7 (.load none (.t 2)),[]),(o 8 (.nilchk (.t 7)),[]),(o 9 (.faddr 1 (.t 8)),[]),(o 10 (.load none (.t 9)),[]),(o 11 (.load none (.t 3)),[]),(o 12 (.iaddr 5 (.t 10) (.t 11)),[]),(o 13 (.faddr 1 (.t 12)),
 []),(o 14 (.load none (.t 13)),[]),(o 15 (.load none (.t 2)),[]),(o 16 (.nilchk (.t 15)),[]),(o 17 (.faddr 2 (.t 16)),[]),(o 18 (.load none (.t 17)),[]),(o 19 (.call false 140 [.t 18]),[0,3,4,5,7]),(o 20 (.call false 153 [.t 14,
 .t 19]),[])])
 (.block 0 (.rangef [2,3,4] (.t 20) [21] (.reg [m 4 21])
 (.block 1
 (.seq (.reg [o 23 (.load none (.t 2)),o 24 (.nilchk (.t 23)),o 25 (.faddr 2 (.t 24)),o 26 (.load none (.t 25)),m 27 4,o 28 (.call false 141 [.t 26,.t 27]),m 22 28,o 29 (.extract 0 (.t 22)),o 30 (.extract 1 (.t 22)),
 m 5 29,m 6 30])
 (.seq (.reg [m 31 5,o 32 (.bin .eql (.t 31) (.c (.int .i64 (-1))))])
 (.cond (.t 32)
 (.seq (.dreg 0 [(o 33 (.load none (.t 2)),[]),(o 34 (.nilchk (.t 33)),[]),(o 35 (.faddr 2 (.t 34)),[]),(o 36 (.load none (.t 35)),[]),(m 37 4,[]),(o 38 (.load none (.t 3)),[]),(o 39 (.call false 154 [.t 36,.t 37,
 .t 38]),[])]) (.exit 0)) (.skip)))))))))⟩
def yCr:AFn:=⟨[.tmp 2],
 .seq (.reg [o 2 (.mv (.c (.bool false)))])
 (.seq (.reg [m 3 0,o 4 (.eq (.ptr) false true (.t 3) (.c (.nilp))),m 5 4,w 6 (.mv (.t 0)) (5,false),w 7 (.nilchk (.t 6)) (5,false),w 8 (.faddr 1 (.t 7)) (5,false),w 9 (.load none (.t 8)) (5,false),w 10 (.eq (.iface) false true (.t 9) (.c (.nili))) (5,
 false),o 11 (.pick (.t 5) (.c (.bool true)) (.t 10)),m 2 11]) (.ret))⟩
def yCq:AFn:=⟨[.tmp 4],
 .seq (.reg [o 4 (.mv (.c (.int .i64 0)))])
 (.seq (.block 0
 (.seq (.reg [m 6 0,o 7 (.call false 163 [.t 6]),m 5 7])
 (.cond (.t 5)
 (.seq (.reg [o 4 (.mv (.c (.int .i64 1)))]) (.ret))
 (.seq (.reg [m 9 1,o 10 (.bin .lss (.t 9) (.c (.int .i64 0))),m 11 10,w 12 (.mv (.t 1)) (11,false),w 13 (.mv (.t 0)) (11,false),w 14 (.call false 170 [.t 13]) (11,false),w 15 (.bin .geq (.t 12) (.t 14)) (11,false),
 o 16 (.pick (.t 11) (.c (.bool true)) (.t 15)),m 8 16])
 (.cond (.t 8)
 (.seq (.reg [o 4 (.mv (.c (.int .i64 5)))]) (.ret)) (.skip))))))
 (.seq (.reg [o 4 (.mv (.c (.int .i64 0)))]) (.ret)))⟩
def yCp:AFn:=⟨[],
 .seq (.reg [m 6 0,o 7 (.eq (.ptr) true true (.t 6) (.c (.nilp))),m 8 7,w 9 (.mv (.t 2)) (8,true),w 10 (.bin .geq (.t 9) (.c (.int .i64 1))) (8,true),o 11 (.pick (.t 8) (.t 10) (.c (.bool false))),m 12 11,w 13 (.mv (.t 2)) (12,
 true),w 14 (.bin .leq (.t 13) (.c (.int .i64 2147483647))) (12,true),o 15 (.pick (.t 12) (.t 14) (.c (.bool false)))])
 (.cond (.t 15) (.reg [m 16 0,m 17 1,o 18 (.nilchk (.t 16)),o 19 (.faddr 0 (.t 18)),o 20 (.iaddrA 4 1 (.t 19) (.t 17)),m 21 2,o 22 (.call false 172 [.t 20,.t 21])]) (.skip))⟩
def yCo:AFn:=⟨[.tmp 2],
 .seq (.reg [o 2 (.mv (.c (.nili)))])
 (.seq (.block 0
 (.seq (.reg [m 4 0,o 5 (.bin .leq (.t 4) (.c (.int .i64 7))),m 3 5])
 (.cond (.t 3)
 (.seq (.reg [m 6 0,o 7 (.bin .shl (.c (.int .i64 1)) (.t 6)),o 8 (.mkslice 1 1 319 (.int .i8 0) (.t 7) (.t 7)),o 9 (.build [.vs true 0 [],.int .i64 0] [(0,1,.t 8),(1,1,.c (.int .i64 1))]),o 10 (.mkif 290 (.t 9)),
 m 2 10]) (.ret))
 (.seq (.reg [m 12 0,o 13 (.bin .leq (.t 12) (.c (.int .i64 15))),m 11 13])
 (.cond (.t 11)
 (.seq (.reg [m 14 0,o 15 (.bin .shl (.c (.int .i64 1)) (.t 14)),o 16 (.mkslice 1 2 320 (.int .i16 0) (.t 15) (.t 15)),o 17 (.build [.vs true 0 [],.int .i64 0] [(0,1,.t 16),(1,1,.c (.int .i64 2))]),o 18 (.mkif 293 (.t 17)),
 m 2 18]) (.ret)) (.skip))))))
 (.seq (.reg [m 19 0,o 20 (.bin .shl (.c (.int .i64 1)) (.t 19)),o 21 (.mkslice 1 4 21 (.int .i32 0) (.t 20) (.t 20)),o 22 (.build [.vs true 0 [],.int .i64 0] [(0,1,.t 21),(1,1,.c (.int .i64 4))]),o 23 (.mkif 296 (.t 22)),
 m 2 23]) (.ret)))⟩
def yCn:AFn:=⟨[],
 .seq (.seq (.reg [o 7 (.load none (.t 1)),o 8 (.bin .lss (.t 7) (.c (.int .i64 0))),m 9 8,w 10 (.load none (.t 1)) (9,false),w 11 (.bin .gtr (.t 10) (.c (.int .i64 20))) (9,false),o 12 (.pick (.t 9) (.c (.bool true)) (.t 11))])
 (.cond (.t 12) (.ret) (.skip)))
 (.seq (.reg [o 13 (.load none (.t 1)),o 14 (.bin .shl (.c (.int .u64 1)) (.t 13)),o 15 (.bin .sub (.t 14) (.c (.int .u64 1))),m 4 15])
 (.seq (.reg [o 16 (.load none (.t 2)),o 17 (.toInt .u64 (.t 16)),m 5 17])
 (.seq (.reg [m 18 5,m 19 4,o 20 (.bin .and (.t 18) (.t 19)),m 6 20])
 (.seq (.reg [o 21 (.load none (.t 1)),o 22 (.bin .shl (.c (.int .i64 1)) (.t 21)),o 23 (.bin .add (.t 22) (.c (.int .i64 13))),o 24 (.mv (.c (.int .i64 0)))])
 (.block 0
 (.loop [0,4,5,6,23,24]
 (.seq (.reg [o 25 (.bin .lss (.t 24) (.t 23))])
 (.seq (.cond (.t 25) (.skip) (.exit 0))
 (.seq (.block 1
 (.seq (.seq (.reg [m 26 0,m 27 6,o 28 (.toInt .i64 (.t 27)),o 29 (.callv (.t 26) [.t 28]),o 30 (.un .not (.t 29))])
 (.cond (.t 30) (.ret) (.skip)))
 (.seq (.reg [m 31 5,o 32 (.bin .shr (.t 31) (.c (.int .u64 5))),m 5 32]) (.reg [m 33 6,o 34 (.bin .mul (.c (.int .u64 5)) (.t 33)),m 35 5,o 36 (.bin .add (.t 34) (.t 35)),o 37 (.bin .add (.t 36) (.c (.int .u64 1))),
 m 38 4,o 39 (.bin .and (.t 37) (.t 38)),m 6 39])))) (.reg [o 40 (.bin .add (.t 24) (.c (.int .i64 1))),m 24 40]))))))))))⟩
def yCm:AFn:=⟨[.tmp 4],
 .seq (.reg [o 4 (.mv (.c (.bool false)))])
 (.seq (.reg [m 5 1,o 6 (.bin .eql (.t 5) (.c (.int .i64 (-1)))),m 7 6,w 8 (.mv (.t 1)) (7,false),w 9 (.bin .eql (.t 8) (.c (.int .i64 (-2)))) (7,false),o 10 (.pick (.t 7) (.c (.bool true)) (.t 9)),m 11 10,w 12 (.mv (.t 1)) (11,
 false),w 13 (.bin .geq (.t 12) (.c (.int .i64 0))) (11,false),w 14 (.mv (.t 13)) (11,false),w 15 (.mv (.t 1)) (14,true),w 16 (.mv (.t 0)) (14,true),w 17 (.call false 155 [.t 16]) (14,true),w 18 (.bin .lss (.t 15) (.t 17)) (14,
 true),w 19 (.pick (.t 14) (.t 18) (.c (.bool false))) (11,false),o 20 (.pick (.t 11) (.c (.bool true)) (.t 19)),m 4 20]) (.ret))⟩
def yCl:AFn:=⟨[.tmp 2],
 .seq (.reg [o 2 (.mv (.c (.int .i64 0)))])
 (.seq (.seq (.reg [m 3 0,o 4 (.call false 163 [.t 3])])
 (.cond (.t 4)
 (.seq (.reg [o 2 (.mv (.c (.int .i64 0)))]) (.ret)) (.skip)))
 (.seq (.reg [m 5 0,o 6 (.nilchk (.t 5)),o 7 (.faddr 1 (.t 6)),o 8 (.load none (.t 7)),o 9 (.invoke [(290,231,.self),(293,235,.self),(296,239,.self)] (.t 8) []),m 2 9]) (.ret)))⟩
def yBx:AFn:=⟨[.tmp 4],
 .seq (.reg [o 2 (.lbox (.t 0)),o 4 (.mv (.c (.int .i64 0)))])
 (.seq (.reg [o 5 (.faddr 0 (.t 2)),o 6 (.lload 2 none (.t 5)),m 7 1,o 8 (.iaddr 1 (.t 6) (.t 7)),o 9 (.load none (.t 8)),o 10 (.toInt .i64 (.t 9)),m 4 10]) (.ret))⟩
def yBw:AFn:=⟨[.tmp 2],
 .seq (.reg [o 1 (.lbox (.t 0)),o 2 (.mv (.c (.int .i64 0)))])
 (.seq (.reg [o 3 (.faddr 0 (.t 1)),o 4 (.lload 1 none (.t 3)),o 5 (.len 1 (.t 4)),m 2 5]) (.ret))⟩
def yBv:AFn:=⟨[],
 .seq (.reg [o 3 (.lbox (.t 0))]) (.reg [o 6 (.faddr 0 (.t 3)),o 7 (.lload 3 none (.t 6)),m 8 1,m 9 2,o 10 (.toInt .i8 (.t 9)),o 11 (.iaddr 1 (.t 7) (.t 8)),⟨none,.store 1 (.t 11) (.t 10),none,none⟩])⟩
def yBu:AFn:=⟨[.tmp 4],
 .seq (.reg [o 2 (.lbox (.t 0)),o 4 (.mv (.c (.int .i64 0)))])
 (.seq (.reg [o 5 (.faddr 0 (.t 2)),o 6 (.lload 2 none (.t 5)),m 7 1,o 8 (.iaddr 1 (.t 6) (.t 7)),o 9 (.load none (.t 8)),o 10 (.toInt .i64 (.t 9)),m 4 10]) (.ret))⟩
def yBt:AFn:=⟨[.tmp 2],
 .seq (.reg [o 1 (.lbox (.t 0)),o 2 (.mv (.c (.int .i64 0)))])
 (.seq (.reg [o 3 (.faddr 0 (.t 1)),o 4 (.lload 1 none (.t 3)),o 5 (.len 1 (.t 4)),m 2 5]) (.ret))⟩
def yBs:AFn:=⟨[],
 .seq (.reg [o 3 (.lbox (.t 0))]) (.reg [o 6 (.faddr 0 (.t 3)),o 7 (.lload 3 none (.t 6)),m 8 1,m 9 2,o 10 (.toInt .i16 (.t 9)),o 11 (.iaddr 1 (.t 7) (.t 8)),⟨none,.store 1 (.t 11) (.t 10),none,none⟩])⟩
structure TT (T:Nat→Option AFn):Prop where
 t51:T 51=some code51
 t96:T 96=some code96
 t111:T 111=some yEd
 t113:T 113=some yEb
 t115:T 115=some yDz
 t116:T 116=some yDy
 t127:T 127=some yDt
 t133:T 133=some yDp
 t138:T 138=some yDk
 t139:T 139=some yDj
 t140:T 140=some yDi
 t141:T 141=some yDh
 t142:T 142=some yDg
 t143:T 143=some yDf
 t144:T 144=some yDe
 t145:T 145=some yDd
 t146:T 146=some yDc
 t153:T 153=some yDb
 t154:T 154=some yDa
 t155:T 155=some yCz
 t156:T 156=some yCy
 t157:T 157=some yCx
 t158:T 158=some yCw
 t159:T 159=some yCv
 t160:T 160=some yCu
 t163:T 163=some yCr
 t164:T 164=some yCq
 t165:T 165=some yCp
 t166:T 166=some yCo
 t168:T 168=some yCn
 t169:T 169=some yCm
 t170:T 170=some yCl
 t230:T 230=some yBx
 t231:T 231=some yBw
 t232:T 232=some yBv
 t234:T 234=some yBu
 t235:T 235=some yBt
 t236:T 236=some yBs
end Go.Proofs.YtmcdajnpdekocaaGreatDoor.Tab
