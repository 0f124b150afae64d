/- Part. -/
import Derived.Test.YtmcdajnpdekocaaGreatDoorG27
set_option maxRecDepth 100000
namespace Go.Proofs.YtmcdajnpdekocaaGreatDoor.Tab
open Go Go.Ab
def code27:AFn:=⟨[.tmp 2],
 .seq (.reg [o 2 (.mv (.c (.int .i64 0)))])
 (.seq (.seq (.reg [m 3 0,o 4 (.eq (.ptr) false true (.t 3) (.c (.nilp)))])
 (.cond (.t 4)
 (.seq (.reg [o 2 (.mv (.c (.int .i64 0)))]) (.ret)) (.skip)))
 (.seq (.reg [m 5 0,o 6 (.nilchk (.t 5)),o 7 (.faddr 0 (.t 6)),o 8 (.load none (.t 7)),o 9 (.call false 51 [.t 8]),m 2 9]) (.ret)))⟩
def code75:AFn:=⟨[.tmp 4,.tmp 5],
 .seq (.reg [o 4 (.mv (.c (.nilp))),o 5 (.mv (.c (.int .i64 0)))])
 (.seq (.seq (.reg [m 6 0,o 7 (.bin .lss (.t 6) (.c (.int .i64 0))),m 8 7,w 9 (.mv (.t 0)) (8,false),w 10 (.bin .gtr (.t 9) (.c (.int .i64 65536))) (8,false),o 11 (.pick (.t 8) (.c (.bool true)) (.t 10))])
 (.cond (.t 11)
 (.seq (.reg [o 4 (.mv (.c (.nilp))),o 5 (.mv (.c (.int .i64 1)))]) (.ret)) (.skip)))
 (.seq (.reg [m 12 1,o 13 (.call false 96 [.t 12]),m 14 0,o 15 (.build [.nilp,.int .i64 0,.int .u64 0] [(0,1,.t 13),(1,1,.t 14)]),o 16 (.box 134 (.t 15)),m 4 16,o 5 (.mv (.c (.int .i64 0)))]) (.ret)))⟩
def code92:AFn:=⟨[.tmp 10],
 .seq (.reg [o 10 (.mv (.c (.nilp)))])
 (.seq (.reg [o 14 (.call false 106 []),m 15 1,o 16 (.lookup (.int) (.agg [.nilf,.nilf]) true (.t 14) (.t 15)),m 13 16,o 17 (.extract 0 (.t 13)),o 18 (.extract 1 (.t 13)),o 11 (.lbox (.c (.agg [.nilf,.nilf]))),⟨none,
 .lstore 11 2 (.t 11) (.t 17),none,none⟩,m 12 18])
 (.seq (.seq (.reg [m 19 0,o 20 (.eq (.ptr) false true (.t 19) (.c (.nilp))),m 21 20,w 22 (.mv (.t 12)) (21,false),w 23 (.un .not (.t 22)) (21,false),o 24 (.pick (.t 21) (.c (.bool true)) (.t 23))])
 (.cond (.t 24)
 (.seq (.reg [o 10 (.mv (.c (.nilp)))]) (.ret)) (.skip)))
 (.seq (.reg [m 25 0,o 26 (.lload 11 (some 2) (.t 11)),m 27 2,m 28 3,m 29 4,o 30 (.build [.nilp,.nilp,.nilf,.nilf,.int .i64 0,.int .i64 0,.int .i64 0,.int .i64 0,.int .i64 0,.int .i64 0,.int .u64 0,.int .i64 0,
 .int .i64 0,.bool false,.int .i64 0,.int .i64 0] [(1,1,.t 25),(2,2,.t 26),(4,1,.t 27),(5,1,.t 28),(6,1,.t 29)]),o 31 (.box 235 (.t 30)),m 10 31]) (.ret))))⟩
def code94:AFn:=⟨[.cell 2 (some 5)],
 .seq (.reg [o 2 (.lbox (.c (.agg [.int .i64 0,.int .i64 0,.bool false,.int .i64 0,.int .i64 0])))])
 (.seq (.seq (.reg [m 7 0,o 8 (.eq (.ptr) false true (.t 7) (.c (.nilp))),m 9 8,w 10 (.mv (.t 0)) (9,false),w 11 (.nilchk (.t 10)) (9,false),w 12 (.faddr 1 (.t 11)) (9,false),w 13 (.load none (.t 12)) (9,false),w 14 (.eq (.ptr) false true (.t 13) (.c (.nilp))) (9,
 false),o 15 (.pick (.t 9) (.c (.bool true)) (.t 14))])
 (.cond (.t 15)
 (.seq (.reg [o 16 (.build [.int .i64 0,.int .i64 0,.bool false,.int .i64 0,.int .i64 0] []),⟨none,.lstore 2 5 (.t 2) (.t 16),none,none⟩]) (.ret)) (.skip)))
 (.seq (.seq (.reg [m 17 0,o 18 (.nilchk (.t 17)),o 19 (.faddr 7 (.t 18)),o 20 (.load none (.t 19)),o 21 (.bin .eql (.t 20) (.c (.int .i64 4))),m 22 21,w 23 (.mv (.t 0)) (22,false),w 24 (.nilchk (.t 23)) (22,false),
 w 25 (.faddr 7 (.t 24)) (22,false),w 26 (.load none (.t 25)) (22,false),w 27 (.bin .eql (.t 26) (.c (.int .i64 2))) (22,false),o 28 (.pick (.t 22) (.c (.bool true)) (.t 27))])
 (.cond (.t 28)
 (.seq (.reg [m 29 0,o 30 (.nilchk (.t 29)),o 31 (.faddr 11 (.t 30)),o 32 (.load (some 5) (.t 31)),⟨none,.lstore 2 5 (.t 2) (.t 32),none,none⟩]) (.ret)) (.skip)))
 (.seq (.seq (.dreg 0 [(m 33 0,[]),(o 34 (.nilchk (.t 33)),[]),(o 35 (.faddr 7 (.t 34)),[]),(o 36 (.load none (.t 35)),[]),(o 37 (.bin .eql (.t 36) (.c (.int .i64 0))),[]),(m 38 37,[]),(w 39 (.mv (.t 0)) (38,false),
 []),(w 40 (.nilchk (.t 39)) (38,false),[]),(w 41 (.faddr 10 (.t 40)) (38,false),[]),(w 42 (.load none (.t 41)) (38,false),[]),(w 43 (.mv (.t 0)) (38,false),[]),(w 44 (.nilchk (.t 43)) (38,false),[]),(w 45 (.faddr 1 (.t 44)) (38,
 false),[]),(w 46 (.load none (.t 45)) (38,false),[]),(w 47 (.nilchk (.t 46)) (38,false),[]),(w 48 (.faddr 2 (.t 47)) (38,false),[]),(w 49 (.load none (.t 48)) (38,false),[]),(w 50 (.bin .neq (.t 42) (.t 49)) (38,
 false),[]),(o 51 (.pick (.t 38) (.c (.bool true)) (.t 50)),[])])
 (.cond (.t 51)
 (.seq (.dreg 0 [(m 52 0,[]),(m 53 0,[]),(o 54 (.nilchk (.t 53)),[]),(o 55 (.faddr 1 (.t 54)),[]),(o 56 (.load none (.t 55)),[]),(o 57 (.call true 110 [.t 56]),[]),(m 58 0,[]),(o 59 (.nilchk (.t 58)),[]),(o 60 (.faddr 4 (.t 59)),
 []),(o 61 (.load none (.t 60)),[]),(o 62 (.call false 111 [.t 57,.t 61]),[]),(o 63 (.nilchk (.t 52)),[]),(o 64 (.faddr 0 (.t 63)),[]),(⟨none,.store 1 (.t 64) (.t 62),none,none⟩,[])])
 (.seq (.reg [m 65 0,m 66 0,o 67 (.nilchk (.t 66)),o 68 (.faddr 1 (.t 67)),o 69 (.load none (.t 68)),o 70 (.nilchk (.t 69)),o 71 (.faddr 2 (.t 70)),o 72 (.load none (.t 71)),o 73 (.nilchk (.t 65)),o 74 (.faddr 10 (.t 73)),
 ⟨none,.store 1 (.t 74) (.t 72),none,none⟩]) (.reg [m 75 0,o 76 (.nilchk (.t 75)),o 77 (.faddr 9 (.t 76)),o 78 (.load none (.t 77)),o 79 (.bin .add (.t 78) (.c (.int .i64 1))),o 80 (.nilchk (.t 75)),o 81 (.faddr 9 (.t 80)),
 ⟨none,.store 1 (.t 81) (.t 79),none,none⟩])))
 (.seq (.reg [m 82 0,o 83 (.nilchk (.t 82)),o 84 (.faddr 7 (.t 83)),o 85 (.load none (.t 84)),o 86 (.bin .eql (.t 85) (.c (.int .i64 3)))])
 (.cond (.t 86)
 (.seq (.reg [m 87 0,m 88 0,o 89 (.nilchk (.t 88)),o 90 (.faddr 8 (.t 89)),o 91 (.load none (.t 90)),o 92 (.call false 112 [.t 87,.t 91]),⟨none,.lstore 2 5 (.t 2) (.t 92),none,none⟩]) (.ret)) (.skip)))))
 (.block 0
 (.loop [0,2]
 (.block 1
 (.seq (.reg [m 94 0,o 95 (.nilchk (.t 94)),o 96 (.faddr 0 (.t 95)),o 97 (.load none (.t 96)),o 98 (.call false 113 [.t 97]),m 93 98,o 99 (.extract 0 (.t 93)),o 100 (.extract 1 (.t 93)),m 3 99,m 4 100])
 (.seq (.seq (.reg [m 101 4,o 102 (.un .not (.t 101))])
 (.cond (.t 102)
 (.seq (.reg [m 103 0,m 104 0,o 105 (.nilchk (.t 104)),o 106 (.faddr 2 (.t 105)),o 107 (.faddr 1 (.t 106)),o 108 (.load none (.t 107)),m 109 0,o 110 (.callv (.t 108) [.t 109]),o 111 (.call false 114 [.t 103,.t 110]),
 ⟨none,.lstore 2 5 (.t 2) (.t 111),none,none⟩]) (.ret)) (.skip)))
 (.seq (.reg [m 113 0,o 114 (.nilchk (.t 113)),o 115 (.faddr 1 (.t 114)),o 116 (.load none (.t 115)),o 117 (.nilchk (.t 116)),o 118 (.faddr 0 (.t 117)),o 119 (.load none (.t 118)),m 120 3,o 121 (.call false 115 [.t 119,
 .t 120]),m 112 121,o 122 (.extract 0 (.t 112)),o 123 (.extract 1 (.t 112)),o 5 (.lbox (.c (.agg [.bool false,.int .i64 0,.int .i64 0,.int .i64 0,.int .i64 0]))),⟨none,.lstore 5 5 (.t 5) (.t 122),none,none⟩,m 6 123])
 (.seq (.seq (.dreg 0 [(o 124 (.faddr 2 (.t 5)),[]),(o 125 (.lload 5 none (.t 124)),[]),(m 126 0,[]),(o 127 (.nilchk (.t 126)),[]),(o 128 (.faddr 5 (.t 127)),[]),(o 129 (.load none (.t 128)),[]),(o 130 (.bin .eql (.t 125) (.t 129)),
 [])])
 (.cond (.t 130)
 (.seq (.reg [m 131 0,m 132 3,o 133 (.call false 112 [.t 131,.t 132]),⟨none,.lstore 2 5 (.t 2) (.t 133),none,none⟩]) (.ret)) (.skip)))
 (.seq (.dreg 0 [(m 134 0,[]),(m 135 0,[]),(m 136 0,[]),(m 137 3,[]),(o 138 (.faddr 2 (.t 5)),[]),(o 139 (.lload 5 none (.t 138)),[]),(o 140 (.build [.int .i64 0,.int .i64 0,.bool false,.int .i64 0,.int .i64 0] [(0,
 1,.c (.int .i64 1)),(1,1,.t 139)]),[]),(o 141 (.nilchk (.t 134)),[]),(o 142 (.faddr 7 (.t 141)),[]),(⟨none,.store 1 (.t 142) (.c (.int .i64 2)),none,none⟩,[]),(o 143 (.nilchk (.t 135)),[]),(o 144 (.faddr 8 (.t 143)),
 []),(⟨none,.store 1 (.t 144) (.t 137),none,none⟩,[]),(o 145 (.nilchk (.t 136)),[]),(o 146 (.faddr 11 (.t 145)),[]),(⟨none,.store 5 (.t 146) (.t 140),none,none⟩,[])])
 (.seq (.reg [m 147 0,o 148 (.nilchk (.t 147)),o 149 (.faddr 11 (.t 148)),o 150 (.load (some 5) (.t 149)),⟨none,.lstore 2 5 (.t 2) (.t 150),none,none⟩]) (.ret)))))))))))))⟩
def code95:AFn:=⟨[.tmp 4],
 .seq (.reg [o 4 (.mv (.c (.int .i64 0)))])
 (.seq (.block 0
 (.seq (.reg [m 9 0,o 10 (.eq (.ptr) false true (.t 9) (.c (.nilp))),m 8 10])
 (.cond (.t 8)
 (.seq (.reg [o 4 (.mv (.c (.int .i64 1)))]) (.ret))
 (.seq (.reg [m 12 0,o 13 (.nilchk (.t 12)),o 14 (.faddr 7 (.t 13)),o 15 (.load none (.t 14)),o 16 (.bin .neq (.t 15) (.c (.int .i64 2))),m 11 16])
 (.cond (.t 11)
 (.seq (.reg [o 4 (.mv (.c (.int .i64 8)))]) (.ret))
 (.seq (.reg [m 18 1,m 17 18])
 (.cond (.t 17) (.reg [m 19 0,o 20 (.nilchk (.t 19)),o 21 (.faddr 7 (.t 20)),⟨none,.store 1 (.t 21) (.c (.int .i64 3)),none,none⟩]) (.reg [m 5 0,o 6 (.nilchk (.t 5)),o 7 (.faddr 7 (.t 6)),⟨none,.store 1 (.t 7) (.c (.int .i64 1)),
 none,none⟩]))))))))
 (.seq (.reg [o 4 (.mv (.c (.int .i64 0)))]) (.ret)))⟩
def yEi:AFn:=⟨[.tmp 0],
 .seq (.reg [o 0 (.mv (.c (.nilm)))])
 (.seq (.reg [o 1 (.mv (.c (.fn (.func 124) [] [])))])
 (.seq (.reg [o 2 (.mv (.c (.fn (.func 126) [] [])))])
 (.seq (.reg [o 3 (.mv (.c (.fn (.func 129) [] [])))])
 (.seq (.reg [o 4 (.mv (.c (.fn (.func 131) [] [])))])
 (.seq (.reg [o 5 (.mv (.c (.fn (.func 132) [] [])))])
 (.seq (.reg [o 6 (.mkmap none),m 7 1,m 8 4,o 9 (.build [.nilf,.nilf] [(0,1,.t 7),(1,1,.t 8)]),⟨none,.mupd (.int) (.t 6) (.c (.int .i64 1)) (.t 9),none,none⟩,m 10 2,m 11 5,o 12 (.build [.nilf,.nilf] [(0,1,
 .t 10),(1,1,.t 11)]),⟨none,.mupd (.int) (.t 6) (.c (.int .i64 2)) (.t 12),none,none⟩,m 13 3,m 14 4,o 15 (.build [.nilf,.nilf] [(0,1,.t 13),(1,1,.t 14)]),⟨none,.mupd (.int) (.t 6) (.c (.int .i64 3)) (.t 15),
 none,none⟩,m 16 1,m 17 5,o 18 (.build [.nilf,.nilf] [(0,1,.t 16),(1,1,.t 17)]),⟨none,.mupd (.int) (.t 6) (.c (.int .i64 4)) (.t 18),none,none⟩,m 19 6,m 0 19]) (.ret)))))))⟩
def yEe:AFn:=⟨[.tmp 2],
 .seq (.reg [o 2 (.mv (.c (.nilp)))])
 (.seq (.seq (.reg [m 3 0,o 4 (.nilchk (.t 3)),o 5 (.faddr 0 (.t 4)),o 6 (.load none (.t 5)),o 7 (.eq (.ptr) false true (.t 6) (.c (.nilp)))])
 (.cond (.t 7) (.reg [m 8 0,o 9 (.call false 96 [.c (.nilp)]),o 10 (.nilchk (.t 8)),o 11 (.faddr 0 (.t 10)),⟨none,.store 1 (.t 11) (.t 9),none,none⟩]) (.skip)))
 (.seq (.reg [m 12 0,o 13 (.nilchk (.t 12)),o 14 (.faddr 0 (.t 13)),o 15 (.load none (.t 14)),m 2 15]) (.ret)))⟩
def yEc:AFn:=⟨[.cell 4 (some 5)],
 .seq (.reg [o 4 (.lbox (.c (.agg [.int .i64 0,.int .i64 0,.bool false,.int .i64 0,.int .i64 0])))])
 (.seq (.reg [m 8 0,o 9 (.nilchk (.t 8)),o 10 (.faddr 1 (.t 9)),o 11 (.load none (.t 10)),o 12 (.nilchk (.t 11)),o 13 (.faddr 0 (.t 12)),o 14 (.load none (.t 13)),m 15 1,o 16 (.call false 115 [.t 14,.t 15]),m 7 16,
 o 17 (.extract 0 (.t 7)),o 18 (.extract 1 (.t 7)),o 5 (.lbox (.c (.agg [.bool false,.int .i64 0,.int .i64 0,.int .i64 0,.int .i64 0]))),⟨none,.lstore 5 5 (.t 5) (.t 17),none,none⟩,m 6 18])
 (.seq (.dreg 0 [(m 19 0,[]),(m 20 0,[]),(o 21 (.nilchk (.t 20)),[]),(o 22 (.faddr 2 (.t 21)),[]),(o 23 (.faddr 0 (.t 22)),[]),(o 24 (.load none (.t 23)),[]),(m 25 0,[]),(m 26 1,[]),(o 27 (.lload 5 (some 5) (.t 5)),
 []),(o 28 (.callv (.t 24) [.t 25,.t 26,.t 27]),[]),(o 29 (.call false 114 [.t 19,.t 28]),[]),(⟨none,.lstore 4 5 (.t 4) (.t 29),none,none⟩,[])]) (.ret)))⟩
def yEa:AFn:=⟨[.cell 4 (some 5)],
 .seq (.reg [o 3 (.lbox (.t 1)),o 4 (.lbox (.c (.agg [.int .i64 0,.int .i64 0,.bool false,.int .i64 0,.int .i64 0])))])
 (.seq (.dreg 0 [(m 5 0,[]),(m 6 0,[]),(o 7 (.lload 3 (some 5) (.t 3)),[]),(o 8 (.nilchk (.t 5)),[]),(o 9 (.faddr 7 (.t 8)),[]),(⟨none,.store 1 (.t 9) (.c (.int .i64 4)),none,none⟩,[]),(o 10 (.nilchk (.t 6)),
 []),(o 11 (.faddr 11 (.t 10)),[]),(⟨none,.store 5 (.t 11) (.t 7),none,none⟩,[])])
 (.seq (.reg [o 12 (.lload 3 (some 5) (.t 3)),⟨none,.lstore 4 5 (.t 4) (.t 12),none,none⟩]) (.ret)))⟩
def yDw:AFn:=⟨[.cell 6 (some 5)],
 .seq (.reg [o 5 (.lbox (.t 2)),o 6 (.lbox (.c (.agg [.int .i64 0,.int .i64 0,.bool false,.int .i64 0,.int .i64 0])))])
 (.seq (.reg [m 7 1,o 8 (.lload 5 (some 5) (.t 5)),o 9 (.call false 125 [.t 7,.t 8]),⟨none,.lstore 6 5 (.t 6) (.t 9),none,none⟩]) (.ret))⟩
def yDv:AFn:=⟨[.cell 4 (some 5)],
 .seq (.reg [o 3 (.lbox (.t 1)),o 4 (.lbox (.c (.agg [.int .i64 0,.int .i64 0,.bool false,.int .i64 0,.int .i64 0])))])
 (.seq (.reg [o 5 (.faddr 3 (.t 3)),o 6 (.lload 3 none (.t 5)),m 7 0,o 8 (.build [.int .i64 0,.int .i64 0,.bool false,.int .i64 0,.int .i64 0] [(0,1,.c (.int .i64 2)),(2,1,.c (.bool true)),(3,1,.t 6),(4,1,
 .t 7)]),⟨none,.lstore 4 5 (.t 4) (.t 8),none,none⟩]) (.ret))⟩
def yDu:AFn:=⟨[.cell 6 (some 5)],
 .seq (.reg [o 5 (.lbox (.t 2)),o 6 (.lbox (.c (.agg [.int .i64 0,.int .i64 0,.bool false,.int .i64 0,.int .i64 0])))])
 (.seq (.dreg 0 [(m 7 0,[]),(o 8 (.nilchk (.t 7)),[]),(o 9 (.faddr 1 (.t 8)),[]),(o 10 (.load none (.t 9)),[]),(o 11 (.nilchk (.t 10)),[]),(o 12 (.faddr 0 (.t 11)),[]),(o 13 (.load none (.t 12)),[]),(m 14 1,[]),
 (m 15 0,[]),(o 16 (.nilchk (.t 15)),[]),(o 17 (.faddr 6 (.t 16)),[]),(o 18 (.load none (.t 17)),[]),(o 19 (.call false 127 [.t 13,.t 14,.t 18]),[])])
 (.seq (.reg [m 20 0,o 21 (.nilchk (.t 20)),o 22 (.faddr 1 (.t 21)),o 23 (.load none (.t 22)),o 24 (.call false 128 [.t 23])])
 (.seq (.reg [m 25 1,o 26 (.lload 5 (some 5) (.t 5)),o 27 (.call false 125 [.t 25,.t 26]),⟨none,.lstore 6 5 (.t 6) (.t 27),none,none⟩]) (.ret))))⟩
def yDs:AFn:=⟨[],.reg [m 2 0,o 3 (.nilchk (.t 2)),o 4 (.faddr 2 (.t 3)),o 5 (.load none (.t 4)),o 6 (.bin .add (.t 5) (.c (.int .u64 1))),o 7 (.nilchk (.t 2)),o 8 (.faddr 2 (.t 7)),⟨none,.store 1 (.t 8) (.t 6),
 none,none⟩]⟩
def yDr:AFn:=⟨[.cell 2 (some 5)],
 .seq (.reg [o 2 (.lbox (.c (.agg [.int .i64 0,.int .i64 0,.bool false,.int .i64 0,.int .i64 0])))])
 (.seq (.reg [o 3 (.build [.int .i64 0,.int .i64 0,.bool false,.int .i64 0,.int .i64 0] [(0,1,.c (.int .i64 2)),(4,1,.c (.int .i64 (-1)))]),⟨none,.lstore 2 5 (.t 2) (.t 3),none,none⟩]) (.ret))⟩
def yDq:AFn:=⟨[.cell 2 (some 5)],
 .seq (.reg [o 2 (.lbox (.c (.agg [.int .i64 0,.int .i64 0,.bool false,.int .i64 0,.int .i64 0])))])
 (.seq (.seq (.dreg 0 [(m 5 0,[]),(o 6 (.nilchk (.t 5)),[]),(o 7 (.faddr 1 (.t 6)),[]),(o 8 (.load none (.t 7)),[]),(o 9 (.call true 27 [.t 8]),[]),(m 10 0,[]),(o 11 (.nilchk (.t 10)),[]),(o 12 (.faddr 1 (.t 11)),
 []),(o 13 (.load none (.t 12)),[]),(o 14 (.nilchk (.t 13)),[]),(o 15 (.faddr 1 (.t 14)),[]),(o 16 (.load none (.t 15)),[]),(o 17 (.bin .geq (.t 9) (.t 16)),[])])
 (.cond (.t 17)
 (.seq (.reg [o 18 (.build [.int .i64 0,.int .i64 0,.bool false,.int .i64 0,.int .i64 0] [(0,1,.c (.int .i64 3))]),⟨none,.lstore 2 5 (.t 2) (.t 18),none,none⟩]) (.ret)) (.skip)))
 (.seq (.dreg 0 [(m 20 0,[]),(o 21 (.nilchk (.t 20)),[]),(o 22 (.faddr 1 (.t 21)),[]),(o 23 (.load none (.t 22)),[]),(o 24 (.nilchk (.t 23)),[]),(o 25 (.faddr 0 (.t 24)),[]),(o 26 (.load none (.t 25)),[]),(m 27 0,
 []),(o 28 (.nilchk (.t 27)),[]),(o 29 (.faddr 4 (.t 28)),[]),(o 30 (.load none (.t 29)),[]),(m 31 0,[]),(o 32 (.nilchk (.t 31)),[]),(o 33 (.faddr 5 (.t 32)),[]),(o 34 (.load none (.t 33)),[]),(m 35 0,[]),(o 36 (.nilchk (.t 35)),
 []),(o 37 (.faddr 6 (.t 36)),[]),(o 38 (.load none (.t 37)),[]),(o 39 (.call false 133 [.t 26,.t 30,.t 34,.t 38]),[]),(m 19 39,[]),(o 40 (.extract 0 (.t 19)),[]),(o 41 (.extract 1 (.t 19)),[]),(m 3 40,[]),
 (m 4 41,[])])
 (.seq (.reg [m 42 0,o 43 (.nilchk (.t 42)),o 44 (.faddr 1 (.t 43)),o 45 (.load none (.t 44)),o 46 (.call false 128 [.t 45])])
 (.seq (.reg [m 47 0,o 48 (.nilchk (.t 47)),o 49 (.faddr 6 (.t 48)),o 50 (.load none (.t 49)),m 51 3,o 52 (.build [.int .i64 0,.int .i64 0,.bool false,.int .i64 0,.int .i64 0] [(0,1,.c (.int .i64 2)),(3,1,.t 50),
 (4,1,.t 51)]),⟨none,.lstore 2 5 (.t 2) (.t 52),none,none⟩]) (.ret)))))⟩
structure TP (T:Nat→Option AFn):Prop where
 t27:T 27=some code27
 t75:T 75=some code75
 t92:T 92=some code92
 t94:T 94=some code94
 t95:T 95=some code95
 t106:T 106=some yEi
 t110:T 110=some yEe
 t112:T 112=some yEc
 t114:T 114=some yEa
 t124:T 124=some yDw
 t125:T 125=some yDv
 t126:T 126=some yDu
 t128:T 128=some yDs
 t131:T 131=some yDr
 t132:T 132=some yDq
end Go.Proofs.YtmcdajnpdekocaaGreatDoor.Tab
