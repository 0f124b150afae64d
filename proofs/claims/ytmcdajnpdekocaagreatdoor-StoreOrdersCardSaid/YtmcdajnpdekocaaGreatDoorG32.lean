/- Part. -/
import Derived.Test.YtmcdajnpdekocaaGreatDoorG27
set_option maxRecDepth 100000
namespace Go.Proofs.YtmcdajnpdekocaaGreatDoor.Tab
open Go Go.Ab
def code4:AFn:=⟨[.tmp 2],
 .seq (.reg [o 2 (.mv (.c (.bool false)))])
 (.seq (.seq (.reg [m 5 0,o 6 (.len 1 (.t 5)),o 7 (.bin .gtr (.t 6) (.c (.int .i64 120)))])
 (.cond (.t 7)
 (.seq (.reg [o 2 (.mv (.c (.bool true)))]) (.ret)) (.skip)))
 (.seq (.reg [o 3 (.mv (.c (.int .i64 0)))])
 (.seq (.seq (.reg [o 4 (.mv (.c (.int .i64 0)))])
 (.block 0
 (.loop [0,3,4]
 (.seq (.seq (.reg [m 8 4,m 9 0,o 10 (.len 1 (.t 9)),o 11 (.bin .lss (.t 8) (.t 10)),m 12 11,w 13 (.mv (.t 3)) (12,true),w 14 (.bin .leq (.t 13) (.c (.int .i64 3000))) (12,true),o 15 (.pick (.t 12) (.t 14) (.c (.bool false)))])
 (.cond (.t 15) (.skip) (.exit 0)))
 (.seq (.block 1 (.dreg 0 [(m 18 3,[]),(m 19 0,[]),(m 20 4,[]),(o 21 (.iaddr 8 (.t 19) (.t 20)),[]),(o 22 (.faddr 5 (.t 21)),[]),(o 23 (.load none (.t 22)),[]),(o 24 (.len 1 (.t 23)),[]),(o 25 (.bin .add (.t 18) (.t 24)),
 []),(m 26 0,[]),(m 27 4,[]),(o 28 (.iaddr 8 (.t 26) (.t 27)),[]),(o 29 (.faddr 4 (.t 28)),[]),(o 30 (.load none (.t 29)),[]),(o 31 (.len 0 (.t 30)),[]),(o 32 (.bin .add (.t 25) (.t 31)),[]),(m 33 0,[]),(m 34 4,
 []),(o 35 (.iaddr 8 (.t 33) (.t 34)),[]),(o 36 (.faddr 2 (.t 35)),[]),(o 37 (.faddr 1 (.t 36)),[]),(o 38 (.load none (.t 37)),[]),(o 39 (.len 1 (.t 38)),[]),(o 40 (.bin .add (.t 32) (.t 39)),[]),(m 3 40,[])])) (.reg [m 16 4,
 o 17 (.bin .add (.t 16) (.c (.int .i64 1))),m 4 17]))))))
 (.seq (.reg [m 41 3,o 42 (.bin .gtr (.t 41) (.c (.int .i64 3000))),m 2 42]) (.ret)))))⟩
def code6:AFn:=⟨[.tmp 4,.tmp 5],
 .seq (.reg [o 2 (.lbox (.t 0)),o 4 (.mv (.c (.nilp))),o 5 (.mv (.c (.int .i64 0)))])
 (.seq (.seq (.reg [o 9 (.faddr 0 (.t 2)),o 10 (.lload 2 none (.t 9)),o 11 (.bin .lss (.t 10) (.c (.int .i64 0))),m 12 11,w 13 (.faddr 0 (.t 2)) (12,false),w 14 (.lload 2 none (.t 13)) (12,false),w 15 (.bin .gtr (.t 14) (.c (.int .i64 100000))) (12,
 false),o 16 (.pick (.t 12) (.c (.bool true)) (.t 15)),m 17 16,w 18 (.faddr 1 (.t 2)) (17,false),w 19 (.lload 2 none (.t 18)) (17,false),w 20 (.bin .lss (.t 19) (.c (.int .i64 0))) (17,false),o 21 (.pick (.t 17) (.c (.bool true)) (.t 20)),
 m 22 21,w 23 (.faddr 1 (.t 2)) (22,false),w 24 (.lload 2 none (.t 23)) (22,false),w 25 (.bin .gtr (.t 24) (.c (.int .i64 65536))) (22,false),o 26 (.pick (.t 22) (.c (.bool true)) (.t 25)),m 27 26,w 28 (.faddr 2 (.t 2)) (27,
 false),w 29 (.lload 2 none (.t 28)) (27,false),w 30 (.bin .lss (.t 29) (.c (.int .i64 0))) (27,false),o 31 (.pick (.t 27) (.c (.bool true)) (.t 30)),m 32 31,w 33 (.faddr 2 (.t 2)) (32,false),w 34 (.lload 2 none (.t 33)) (32,
 false),w 35 (.bin .gtr (.t 34) (.c (.int .i64 256))) (32,false),o 36 (.pick (.t 32) (.c (.bool true)) (.t 35))])
 (.cond (.t 36)
 (.seq (.reg [o 4 (.mv (.c (.nilp))),o 5 (.mv (.c (.int .i64 1)))]) (.ret)) (.skip)))
 (.seq (.dreg 1 [(o 37 (.lload 2 (some 5) (.t 2)),[]),(m 38 1,[]),(o 39 (.call false 16 []),[]),(o 40 (.faddr 4 (.t 2)),[]),(o 41 (.lload 2 none (.t 40)),[]),(o 42 (.call false 17 [.t 41]),[]),(o 43 (.build [.int .i64 0,
 .int .i64 0,.int .i64 0,.vs true 0 [],.vs true 0 [],.nilp,.nilp,.int .i64 0,.int .i64 0,.int .i64 0,.nilp,.bool false] [(0,5,.t 37),(5,1,.t 38),(6,1,.t 39),(10,1,.t 42)]),[]),(⟨some 44,.box 56 (.t 43),
 none,some 0⟩,[]),(m 6 44,[])])
 (.seq (.seq (.reg [o 45 (.build [] []),o 46 (.mkif 60 (.t 45)),o 47 (.build [.bool false] []),o 48 (.mkif 62 (.t 47)),o 49 (.build [.bool false] [(0,1,.c (.bool true))]),o 50 (.mkif 62 (.t 49)),o 51 (.bslice 1 52 (.nili) 3 [(0,
 .t 46),(1,.t 48),(2,.t 50)]),o 52 (.len 1 (.t 51)),o 53 (.mv (.c (.int .i64 0)))])
 (.block 0
 (.loop [6,51,52,53]
 (.seq (.reg [o 54 (.bin .lss (.t 53) (.t 52))])
 (.seq (.cond (.t 54) (.skip) (.exit 0))
 (.seq (.block 1
 (.seq (.reg [o 55 (.iaddr 1 (.t 51) (.t 53)),o 56 (.load none (.t 55)),m 8 56]) (.reg [m 57 6,o 58 (.nilchk (.t 57)),o 59 (.faddr 6 (.t 58)),o 60 (.load none (.t 59)),m 61 8,o 62 (.call false 18 [.t 60,.t 61])]))) (.reg [o 63 (.bin .add (.t 53) (.c (.int .i64 1))),
 m 53 63])))))))
 (.seq (.reg [m 64 6,m 4 64,o 5 (.mv (.c (.int .i64 0)))]) (.ret)))))⟩
def code7:AFn:=⟨[.cell 4 (some 5)],
 .seq (.reg [o 4 (.lbox (.c (.agg [.int .i64 0,.int .i64 0,.int .i64 0,.vs true 0 [],.vs true 0 []])))])
 (.seq (.reg [m 5 0,m 6 1,o 7 (.build [.int .i64 0,.int .i64 0,.int .i64 0,.vs true 0 [],.vs true 0 []] [(1,1,.t 5),(2,1,.t 6)]),⟨none,.lstore 4 5 (.t 4) (.t 7),none,none⟩]) (.ret))⟩
def code8:AFn:=⟨[.tmp 4,.tmp 5],
 .seq (.reg [o 4 (.mv (.c (.vs true 0 []))),o 5 (.mv (.c (.int .i64 0)))])
 (.seq (.seq (.reg [m 17 0,o 18 (.eq (.ptr) false true (.t 17) (.c (.nilp)))])
 (.cond (.t 18)
 (.seq (.reg [o 4 (.mv (.c (.vs true 0 []))),o 5 (.mv (.c (.int .i64 1)))]) (.ret)) (.skip)))
 (.seq (.reg [m 19 0,m 20 1,o 21 (.build [.nilp,.vs true 0 [],.vs true 0 []] [(0,1,.t 19),(1,1,.t 20)]),o 22 (.box 67 (.t 21)),m 6 22])
 (.seq (.seq (.reg [m 23 1,o 24 (.len 1 (.t 23)),o 25 (.mv (.c (.int .i64 0)))])
 (.block 0
 (.loop [0,1,6,24,25]
 (.seq (.reg [o 26 (.bin .lss (.t 25) (.t 24))])
 (.seq (.cond (.t 26) (.skip) (.exit 0))
 (.seq (.block 1
 (.seq (.reg [m 27 25,m 7 27])
 (.seq (.reg [m 28 6,m 29 7,o 30 (.call false 19 [.t 28,.t 29]),m 8 30])
 (.seq (.reg [m 31 8,o 32 (.bin .neq (.t 31) (.c (.int .i64 0)))])
 (.cond (.t 32)
 (.seq (.reg [m 33 8,o 4 (.mv (.c (.vs true 0 []))),m 5 33]) (.ret)) (.skip)))))) (.reg [o 34 (.bin .add (.t 25) (.c (.int .i64 1))),m 25 34])))))))
 (.seq (.seq (.reg [m 35 1,o 36 (.len 1 (.t 35)),o 37 (.mv (.c (.int .i64 0)))])
 (.block 2
 (.loop [0,1,6,35,36,37]
 (.seq (.reg [o 38 (.bin .lss (.t 37) (.t 36))])
 (.seq (.cond (.t 38) (.skip) (.exit 2))
 (.seq (.block 3
 (.seq (.reg [o 39 (.iaddr 8 (.t 35) (.t 37)),o 40 (.load (some 8) (.t 39)),o 10 (.lbox (.c (.agg [.int .i64 0,.bool false,.bool false,.vs true 0 [],.str [],.vs true 0 [],.bool false,.bool false]))),⟨none,.lstore 10 8 (.t 10) (.t 40),
 none,none⟩]) (.dreg 1 [(m 41 6,[]),(m 42 6,[]),(o 43 (.nilchk (.t 42)),[]),(o 44 (.faddr 2 (.t 43)),[]),(o 45 (.load none (.t 44)),[]),(m 46 6,[]),(o 47 (.lload 10 (some 8) (.t 10)),[]),(o 48 (.call false 20 [.t 46,
 .t 47]),[4]),(o 49 (.vslice 1 (.int .i64 0) 1 [(0,.t 48)]),[]),(⟨some 50,.append 1 8 3 (.t 45) (.t 49),none,some 0⟩,[]),(o 51 (.nilchk (.t 41)),[]),(o 52 (.faddr 2 (.t 51)),[]),(⟨none,.store 1 (.t 52) (.t 50),
 none,none⟩,[])]))) (.reg [o 53 (.bin .add (.t 37) (.c (.int .i64 1))),m 37 53])))))))
 (.seq (.seq (.reg [m 54 1,o 55 (.len 1 (.t 54)),o 56 (.mv (.c (.int .i64 0)))])
 (.block 4
 (.loop [0,6,54,55,56]
 (.seq (.reg [o 57 (.bin .lss (.t 56) (.t 55))])
 (.seq (.cond (.t 57) (.skip) (.exit 4))
 (.seq (.block 5
 (.seq (.reg [m 58 56,o 59 (.iaddr 8 (.t 54) (.t 56)),o 60 (.load (some 8) (.t 59)),o 12 (.lbox (.c (.agg [.int .i64 0,.bool false,.bool false,.vs true 0 [],.str [],.vs true 0 [],.bool false,.bool false]))),m 11 58,
 ⟨none,.lstore 12 8 (.t 12) (.t 60),none,none⟩])
 (.seq (.reg [m 62 0,m 63 6,o 64 (.nilchk (.t 63)),o 65 (.faddr 2 (.t 64)),o 66 (.load none (.t 65)),m 67 11,o 68 (.iaddr 1 (.t 66) (.t 67)),o 69 (.load none (.t 68)),o 70 (.call false 21 [.t 62,.t 69]),o 71 (.tassert 70 (.nilp) true (.t 70)),
 m 61 71,o 72 (.extract 0 (.t 61)),o 73 (.extract 1 (.t 61)),m 13 72,m 14 73])
 (.seq (.reg [m 74 14])
 (.cond (.t 74)
 (.seq (.reg [o 75 (.faddr 5 (.t 12)),o 76 (.lload 12 none (.t 75)),o 77 (.len 1 (.t 76)),o 78 (.mv (.c (.int .i64 0)))])
 (.block 6
 (.loop [0,6,13,54,55,56,76,77,78]
 (.seq (.reg [o 79 (.bin .lss (.t 78) (.t 77))])
 (.seq (.cond (.t 79) (.skip) (.exit 6))
 (.seq (.block 7
 (.seq (.reg [m 80 78,o 81 (.iaddr 1 (.t 76) (.t 78)),o 82 (.load none (.t 81)),m 15 80,m 16 82]) (.dreg 0 [(m 83 13,[]),(o 84 (.nilchk (.t 83)),[]),(o 85 (.faddr 1 (.t 84)),[]),(o 86 (.load none (.t 85)),[]),(m 87 15,
 []),(m 88 6,[]),(o 89 (.nilchk (.t 88)),[]),(o 90 (.faddr 2 (.t 89)),[]),(o 91 (.load none (.t 90)),[]),(m 92 16,[]),(o 93 (.iaddr 1 (.t 91) (.t 92)),[]),(o 94 (.load none (.t 93)),[]),(o 95 (.iaddr 1 (.t 86) (.t 87)),
 []),(⟨none,.store 1 (.t 95) (.t 94),none,none⟩,[])]))) (.reg [o 96 (.bin .add (.t 78) (.c (.int .i64 1))),m 78 96]))))))) (.skip)))))) (.reg [o 97 (.bin .add (.t 56) (.c (.int .i64 1))),m 56 97])))))))
 (.seq (.dreg 2 [(m 98 6,[]),(o 99 (.nilchk (.t 98)),[]),(o 100 (.faddr 2 (.t 99)),[]),(o 101 (.load none (.t 100)),[]),(o 102 (.len 1 (.t 101)),[]),(⟨some 103,.mkslice 1 8 3 (.int .i64 0) (.c (.int .i64 0)) (.t 102),
 none,some 0⟩,[]),(m 104 6,[]),(o 105 (.nilchk (.t 104)),[]),(o 106 (.faddr 2 (.t 105)),[]),(o 107 (.load none (.t 106)),[5]),(⟨some 108,.append 1 8 3 (.t 103) (.t 107),none,some 1⟩,[]),(m 4 108,[]),(o 5 (.mv (.c (.int .i64 0))),
 [])]) (.ret)))))))⟩
def code9:AFn:=⟨[.tmp 2],
 .seq (.reg [o 2 (.mv (.c (.int .i64 0)))])
 (.seq (.seq (.reg [m 3 0,o 4 (.eq (.ptr) false true (.t 3) (.c (.nilp)))])
 (.cond (.t 4)
 (.seq (.reg [o 2 (.mv (.c (.int .i64 0)))]) (.ret)) (.skip)))
 (.seq (.reg [m 5 0,o 6 (.nilchk (.t 5)),o 7 (.faddr 8 (.t 6)),o 8 (.load none (.t 7)),m 2 8]) (.ret)))⟩
def code10:AFn:=⟨[.tmp 4],
 .seq (.reg [o 4 (.mv (.c (.int .i64 0)))])
 (.seq (.seq (.reg [m 6 0,m 7 1,o 8 (.call false 21 [.t 6,.t 7]),m 5 8])
 (.seq (.reg [m 9 5,o 10 (.eq (.iface) true true (.t 9) (.c (.nili)))])
 (.cond (.t 10)
 (.seq (.reg [m 11 5,o 12 (.invoke [(58,197,.self),(59,197,.part 0 (some 0)),(60,197,.part 0 (some 0)),(61,197,.part 0 (some 0)),(62,197,.part 0 (some 0)),(70,202,.load 0 (some 1)),(74,202,.self),(75,
 202,.part 0 (some 1)),(76,202,.part 0 (some 1)),(80,197,.part 0 (some 0)),(81,197,.part 0 (some 0)),(85,197,.part 0 (some 0)),(86,197,.part 0 (some 0)),(88,202,.load 0 (some 1)),(90,202,.part 0 (some 1)),
 (91,202,.part 0 (some 1)),(92,202,.load 0 (some 1)),(93,202,.load 0 (some 1)),(95,202,.part 0 (some 1)),(96,202,.part 0 (some 1)),(98,202,.part 0 (some 1)),(99,202,.part 0 (some 1)),(101,197,.part 0 (some 0)),
 (102,197,.part 0 (some 0)),(120,202,.load 0 (some 1)),(123,202,.part 0 (some 1)),(124,202,.part 0 (some 1))] (.t 11) []),m 4 12]) (.ret)) (.skip))))
 (.seq (.reg [o 4 (.mv (.c (.int .i64 0)))]) (.ret)))⟩
def code11:AFn:=⟨[.tmp 6],
 .seq (.reg [o 6 (.mv (.c (.bool false)))])
 (.seq (.reg [m 19 0,m 20 1,o 21 (.call false 21 [.t 19,.t 20]),m 22 0,m 23 2,o 24 (.call false 21 [.t 22,.t 23]),m 7 21,m 8 24])
 (.seq (.seq (.reg [m 25 7,o 26 (.eq (.iface) false true (.t 25) (.c (.nili))),m 27 26,w 28 (.mv (.t 8)) (27,false),w 29 (.eq (.iface) false true (.t 28) (.c (.nili))) (27,false),o 30 (.pick (.t 27) (.c (.bool true)) (.t 29))])
 (.cond (.t 30)
 (.seq (.reg [o 6 (.mv (.c (.bool false)))]) (.ret)) (.skip)))
 (.seq (.seq (.reg [m 31 1,m 32 2,o 33 (.bin .eql (.t 31) (.t 32))])
 (.cond (.t 33)
 (.seq (.reg [o 6 (.mv (.c (.bool true)))]) (.ret)) (.skip)))
 (.seq (.reg [m 35 0,m 36 1,o 37 (.call false 22 [.t 35,.t 36]),m 34 37,o 38 (.extract 0 (.t 34)),o 39 (.extract 1 (.t 34)),o 9 (.lbox (.c (.agg [.bool false,.vs true 0 []]))),⟨none,.lstore 9 2 (.t 9) (.t 38),none,
 none⟩,m 10 39])
 (.seq (.reg [m 41 0,m 42 2,o 43 (.call false 22 [.t 41,.t 42]),m 40 43,o 44 (.extract 0 (.t 40)),o 45 (.extract 1 (.t 40)),o 11 (.lbox (.c (.agg [.bool false,.vs true 0 []]))),⟨none,.lstore 11 2 (.t 11) (.t 44),
 none,none⟩,m 12 45])
 (.seq (.seq (.reg [m 46 10,m 47 46,w 48 (.mv (.t 12)) (47,true),o 49 (.pick (.t 47) (.t 48) (.c (.bool false)))])
 (.cond (.t 49)
 (.seq (.reg [o 50 (.lload 9 (some 2) (.t 9)),o 51 (.lload 11 (some 2) (.t 11)),o 52 (.call false 23 [.t 50,.t 51]),o 53 (.bin .eql (.t 52) (.c (.int .i64 0))),m 6 53]) (.ret)) (.skip)))
 (.seq (.seq (.reg [m 55 7,o 56 (.tassert 81 (.agg [.int .i64 0,.str []]) true (.t 55)),m 54 56,o 57 (.extract 0 (.t 54)),o 58 (.extract 1 (.t 54)),o 13 (.lbox (.c (.agg [.int .i64 0,.str []]))),⟨none,.lstore 13 2 (.t 13) (.t 57),
 none,none⟩,m 14 58])
 (.seq (.reg [m 59 14])
 (.cond (.t 59)
 (.seq (.reg [o 60 (.lload 13 (some 2) (.t 13)),o 61 (.mkif 81 (.t 60)),m 62 8,o 63 (.eq (.iface) false false (.t 61) (.t 62)),m 6 63]) (.ret)) (.skip))))
 (.seq (.reg [m 65 0,m 66 1,o 67 (.call false 24 [.t 65,.t 66]),m 64 67,o 68 (.extract 0 (.t 64)),o 69 (.extract 1 (.t 64)),m 15 68,m 16 69])
 (.seq (.reg [m 71 0,m 72 2,o 73 (.call false 24 [.t 71,.t 72]),m 70 73,o 74 (.extract 0 (.t 70)),o 75 (.extract 1 (.t 70)),m 17 74,m 18 75])
 (.seq (.reg [m 76 16,m 77 76,w 78 (.mv (.t 18)) (77,true),o 79 (.pick (.t 77) (.t 78) (.c (.bool false))),m 80 79,w 81 (.mv (.t 15)) (80,true),w 82 (.mv (.t 17)) (80,true),w 83 (.bin .eql (.t 81) (.t 82)) (80,true),
 o 84 (.pick (.t 80) (.t 83) (.c (.bool false))),m 85 84,w 86 (.mv (.t 7)) (85,false),w 87 (.invoke [(17,189,.self),(25,25,.self),(60,198,.self),(62,199,.self),(70,200,.self),(81,203,.self),(86,204,.self),
 (88,206,.self),(92,208,.self),(93,210,.self),(102,213,.self),(120,218,.self)] (.t 86) []) (85,false),w 88 (.bin .eql (.t 87) (.c (.int .i64 1))) (85,false),w 89 (.mv (.t 88)) (85,false),w 90 (.mv (.t 8)) (89,
 true),w 91 (.invoke [(17,189,.self),(25,25,.self),(60,198,.self),(62,199,.self),(70,200,.self),(81,203,.self),(86,204,.self),(88,206,.self),(92,208,.self),(93,210,.self),(102,213,.self),(120,
 218,.self)] (.t 90) []) (89,true),w 92 (.bin .eql (.t 91) (.c (.int .i64 1))) (89,true),w 93 (.pick (.t 89) (.t 92) (.c (.bool false))) (85,false),o 94 (.pick (.t 85) (.c (.bool true)) (.t 93)),m 6 94]) (.ret)))))))))))⟩
def code12:AFn:=⟨[.tmp 6],
 .seq (.reg [o 6 (.mv (.c (.bool false)))])
 (.seq (.reg [m 7 0,m 8 1,o 9 (.call false 25 [.t 7,.t 8]),m 10 0,m 11 2,o 12 (.call false 25 [.t 10,.t 11]),o 13 (.bin .eql (.t 9) (.t 12)),m 14 13,w 15 (.mv (.t 0)) (14,true),w 16 (.mv (.t 1)) (14,true),w 17 (.mv (.t 2)) (14,
 true),w 18 (.call false 11 [.t 15,.t 16,.t 17]) (14,true),o 19 (.pick (.t 14) (.t 18) (.c (.bool false))),m 6 19]) (.ret))⟩
def code16:AFn:=⟨[.tmp 0],
 .seq (.reg [o 0 (.mv (.c (.nilp)))])
 (.seq (.reg [o 1 (.build [.vs true 0 [],.vs true 0 [],.vs true 0 []] []),o 2 (.box 108 (.t 1)),m 0 2]) (.ret))⟩
def code17:AFn:=⟨[.tmp 2],
 .seq (.reg [o 2 (.mv (.c (.nilp)))])
 (.seq (.reg [o 6 (.mkmap none),o 7 (.build [.nilm,.int .i64 0] [(0,1,.t 6)]),o 8 (.box 111 (.t 7)),m 3 8])
 (.seq (.seq (.reg [m 9 0,o 10 (.len 1 (.t 9)),o 11 (.mv (.c (.int .i64 0)))])
 (.block 0
 (.loop [3,9,10,11]
 (.seq (.reg [o 12 (.bin .lss (.t 11) (.t 10))])
 (.seq (.cond (.t 12) (.skip) (.exit 0))
 (.seq (.block 1
 (.seq (.reg [o 13 (.iaddr 1 (.t 9) (.t 11)),o 14 (.load none (.t 13)),m 5 14]) (.reg [m 15 3,o 16 (.nilchk (.t 15)),o 17 (.faddr 0 (.t 16)),o 18 (.load none (.t 17)),m 19 5,o 20 (.lookup (.int) (.int .i64 0) false (.t 18) (.t 19)),
 o 21 (.bin .add (.t 20) (.c (.int .i64 1))),⟨none,.mupd (.int) (.t 18) (.t 19) (.t 21),none,none⟩]))) (.reg [o 22 (.bin .add (.t 11) (.c (.int .i64 1))),m 11 22])))))))
 (.seq (.reg [m 23 3,m 2 23]) (.ret))))⟩
def code18:AFn:=⟨[.tmp 4],
 .seq (.reg [o 4 (.mv (.c (.int .i64 0)))])
 (.seq (.seq (.reg [m 6 0,o 7 (.eq (.ptr) false true (.t 6) (.c (.nilp)))])
 (.cond (.t 7)
 (.seq (.reg [o 4 (.mv (.c (.int .i64 (-1))))]) (.ret)) (.skip)))
 (.seq (.seq (.reg [m 8 0,o 9 (.nilchk (.t 8)),o 10 (.faddr 2 (.t 9)),o 11 (.load none (.t 10)),o 12 (.len 1 (.t 11)),o 13 (.bin .eql (.t 12) (.c (.int .i64 0)))])
 (.cond (.t 13)
 (.seq (.dreg 2 [(m 14 0,[]),(m 15 0,[]),(m 16 0,[]),(o 17 (.nilchk (.t 16)),[]),(o 18 (.faddr 0 (.t 17)),[]),(o 19 (.load none (.t 18)),[]),(m 20 1,[]),(o 21 (.vslice 1 (.nili) 1 [(0,.t 20)]),[]),(⟨some 22,
 .append 1 16 52 (.t 19) (.t 21),none,some 0⟩,[]),(m 23 0,[]),(o 24 (.nilchk (.t 23)),[]),(o 25 (.faddr 1 (.t 24)),[]),(o 26 (.load none (.t 25)),[8]),(o 27 (.vslice 1 (.bool false) 1 [(0,.c (.bool true))]),[]),
 (⟨some 28,.append 1 1 4 (.t 26) (.t 27),none,some 1⟩,[]),(o 29 (.nilchk (.t 14)),[]),(o 30 (.faddr 0 (.t 29)),[]),(⟨none,.store 1 (.t 30) (.t 22),none,none⟩,[]),(o 31 (.nilchk (.t 15)),[]),(o 32 (.faddr 1 (.t 31)),
 []),(⟨none,.store 1 (.t 32) (.t 28),none,none⟩,[])])
 (.seq (.reg [m 33 0,o 34 (.nilchk (.t 33)),o 35 (.faddr 0 (.t 34)),o 36 (.load none (.t 35)),o 37 (.len 1 (.t 36)),o 38 (.bin .sub (.t 37) (.c (.int .i64 1))),m 4 38]) (.ret))) (.skip)))
 (.seq (.reg [m 39 0,o 40 (.nilchk (.t 39)),o 41 (.faddr 2 (.t 40)),o 42 (.load none (.t 41)),o 43 (.iaddr 1 (.t 42) (.c (.int .i64 0))),o 44 (.load none (.t 43)),m 5 44])
 (.seq (.reg [m 45 0,o 46 (.nilchk (.t 45)),o 47 (.faddr 2 (.t 46)),o 48 (.mkif 113 (.t 47)),o 49 (.call false 33 [.t 48])])
 (.seq (.dreg 0 [(m 50 0,[]),(o 51 (.nilchk (.t 50)),[]),(o 52 (.faddr 0 (.t 51)),[]),(o 53 (.load none (.t 52)),[]),(m 54 5,[]),(m 55 0,[]),(o 56 (.nilchk (.t 55)),[]),(o 57 (.faddr 1 (.t 56)),[]),(o 58 (.load none (.t 57)),
 []),(m 59 5,[]),(m 60 1,[]),(o 61 (.iaddr 1 (.t 53) (.t 54)),[]),(⟨none,.store 1 (.t 61) (.t 60),none,none⟩,[]),(o 62 (.iaddr 1 (.t 58) (.t 59)),[]),(⟨none,.store 1 (.t 62) (.c (.bool true)),none,none⟩,[])])
 (.seq (.reg [m 63 5,m 4 63]) (.ret)))))))⟩
def code19:AFn:=⟨[.tmp 4],
 .seq (.reg [o 4 (.mv (.c (.int .i64 0)))])
 (.seq (.reg [m 6 0,o 7 (.nilchk (.t 6)),o 8 (.faddr 1 (.t 7)),o 9 (.load none (.t 8)),m 10 1,o 11 (.iaddr 8 (.t 9) (.t 10)),o 12 (.load (some 8) (.t 11)),o 5 (.lbox (.c (.agg [.int .i64 0,.bool false,.bool false,
 .vs true 0 [],.str [],.vs true 0 [],.bool false,.bool false]))),⟨none,.lstore 5 8 (.t 5) (.t 12),none,none⟩])
 (.seq (.block 0
 (.seq (.reg [o 14 (.faddr 0 (.t 5)),o 15 (.lload 5 none (.t 14)),o 16 (.call false 34 [.t 15]),o 17 (.un .not (.t 16)),m 13 17])
 (.cond (.t 13)
 (.seq (.reg [o 4 (.mv (.c (.int .i64 12)))]) (.ret))
 (.seq (.reg [m 19 0,m 20 1,o 21 (.call false 35 [.t 19,.t 20]),m 22 21,w 23 (.faddr 0 (.t 5)) (22,false),w 24 (.lload 5 none (.t 23)) (22,false),w 25 (.bin .eql (.t 24) (.c (.int .i64 4))) (22,false),w 26 (.mv (.t 25)) (22,
 false),w 27 (.faddr 4 (.t 5)) (26,true),w 28 (.lload 5 none (.t 27)) (26,true),w 29 (.call false 36 [.t 28]) (26,true),w 30 (.un .not (.t 29)) (26,true),w 31 (.pick (.t 26) (.t 30) (.c (.bool false))) (22,false),
 o 32 (.pick (.t 22) (.c (.bool true)) (.t 31)),m 18 32])
 (.cond (.t 18)
 (.seq (.reg [o 4 (.mv (.c (.int .i64 1)))]) (.ret))
 (.seq (.reg [m 34 0,m 35 1,o 36 (.call false 37 [.t 34,.t 35]),m 33 36])
 (.cond (.t 33)
 (.seq (.reg [o 4 (.mv (.c (.int .i64 3)))]) (.ret)) (.skip))))))))
 (.seq (.reg [o 4 (.mv (.c (.int .i64 0)))]) (.ret))))⟩
def code20:AFn:=⟨[.tmp 4],
 .seq (.reg [o 3 (.lbox (.t 1)),o 4 (.mv (.c (.int .i64 0)))])
 (.seq (.seq (.reg [o 8 (.faddr 0 (.t 3)),o 9 (.lload 3 none (.t 8))])
 (.block 0
 (.seq (.reg [o 11 (.bin .eql (.t 9) (.c (.int .i64 1))),m 10 11])
 (.cond (.t 10)
 (.seq (.reg [o 4 (.mv (.c (.int .i64 0)))]) (.ret))
 (.seq (.reg [o 13 (.bin .eql (.t 9) (.c (.int .i64 2))),m 12 13])
 (.cond (.t 12)
 (.seq (.reg [o 14 (.faddr 1 (.t 3)),o 15 (.lload 3 none (.t 14)),o 16 (.call false 38 [.t 15]),m 4 16]) (.ret))
 (.seq (.reg [o 18 (.bin .eql (.t 9) (.c (.int .i64 3))),m 17 18])
 (.cond (.t 17)
 (.seq (.dreg 0 [(m 19 0,[]),(o 20 (.nilchk (.t 19)),[]),(o 21 (.faddr 0 (.t 20)),[]),(o 22 (.load none (.t 21)),[]),(o 23 (.faddr 2 (.t 3)),[]),(o 24 (.lload 3 (some 2) (.t 23)),[]),(o 25 (.call false 40 [.t 24]),
 [3]),(o 26 (.call false 39 [.t 22,.t 25]),[]),(m 4 26,[])]) (.ret))
 (.seq (.reg [o 28 (.bin .eql (.t 9) (.c (.int .i64 4))),m 27 28])
 (.cond (.t 27)
 (.seq (.dreg 0 [(m 29 0,[]),(o 30 (.nilchk (.t 29)),[]),(o 31 (.faddr 0 (.t 30)),[]),(o 32 (.load none (.t 31)),[]),(o 33 (.faddr 4 (.t 3)),[]),(o 34 (.lload 3 none (.t 33)),[]),(o 35 (.call false 41 [.t 32,.t 34]),
 []),(m 4 35,[])]) (.ret))
 (.seq (.seq (.reg [o 37 (.bin .eql (.t 9) (.c (.int .i64 5))),m 36 37])
 (.cond (.t 36) (.skip) (.reg [o 38 (.bin .eql (.t 9) (.c (.int .i64 6))),m 36 38])))
 (.cond (.t 36)
 (.seq (.dreg 1 [(m 39 0,[]),(o 40 (.nilchk (.t 39)),[]),(o 41 (.faddr 0 (.t 40)),[]),(o 42 (.load none (.t 41)),[]),(o 43 (.faddr 0 (.t 3)),[]),(o 44 (.lload 3 none (.t 43)),[]),(o 45 (.faddr 5 (.t 3)),[]),(o 46 (.lload 3 none (.t 45)),
 []),(o 47 (.len 1 (.t 46)),[]),(⟨some 48,.mkslice 1 8 3 (.int .i64 0) (.t 47) (.t 47),none,some 0⟩,[3]),(o 49 (.call false 42 [.t 42,.t 44,.t 48]),[]),(m 4 49,[])]) (.ret))
 (.seq (.seq (.reg [o 51 (.bin .eql (.t 9) (.c (.int .i64 7))),m 50 51])
 (.cond (.t 50) (.skip)
 (.seq (.reg [o 52 (.bin .eql (.t 9) (.c (.int .i64 8))),m 50 52])
 (.cond (.t 50) (.skip) (.reg [o 53 (.bin .eql (.t 9) (.c (.int .i64 9))),m 50 53])))))
 (.cond (.t 50)
 (.seq (.reg [m 54 0,o 55 (.lload 3 (some 8) (.t 3)),o 56 (.call false 43 [.t 54,.t 55]),m 4 56]) (.ret))
 (.seq (.reg [o 58 (.bin .eql (.t 9) (.c (.int .i64 14))),m 57 58])
 (.cond (.t 57)
 (.seq (.reg [m 59 0,o 60 (.nilchk (.t 59)),o 61 (.faddr 0 (.t 60)),o 62 (.load none (.t 61)),o 63 (.call false 44 [.t 62,.c (.str [67]),.c (.int .i64 (-1))]),m 5 63])
 (.seq (.seq (.reg [m 65 0,o 66 (.nilchk (.t 65)),o 67 (.faddr 0 (.t 66)),o 68 (.load none (.t 67)),m 69 5,o 70 (.call false 21 [.t 68,.t 69]),o 71 (.tassert 120 (.nilp) true (.t 70)),m 64 71,o 72 (.extract 0 (.t 64)),
 o 73 (.extract 1 (.t 64)),m 6 72,m 7 73])
 (.seq (.reg [m 74 7])
 (.cond (.t 74) (.dreg 0 [(m 75 6,[]),(m 76 6,[]),(o 77 (.faddr 6 (.t 3)),[]),(o 78 (.lload 3 none (.t 77)),[]),(o 79 (.faddr 7 (.t 3)),[]),(o 80 (.lload 3 none (.t 79)),[]),(o 81 (.nilchk (.t 75)),[]),(o 82 (.faddr 5 (.t 81)),
 []),(⟨none,.store 1 (.t 82) (.t 78),none,none⟩,[]),(o 83 (.nilchk (.t 76)),[]),(o 84 (.faddr 6 (.t 83)),[]),(⟨none,.store 1 (.t 84) (.t 80),none,none⟩,[])]) (.skip))))
 (.seq (.reg [m 85 0,o 86 (.nilchk (.t 85)),o 87 (.faddr 0 (.t 86)),o 88 (.load none (.t 87)),m 89 5,o 90 (.call false 45 [.t 88,.t 89]),m 4 90]) (.ret)))) (.skip)))))))))))))))))
 (.seq (.dreg 0 [(m 91 0,[]),(o 92 (.nilchk (.t 91)),[]),(o 93 (.faddr 0 (.t 92)),[]),(o 94 (.load none (.t 93)),[]),(o 95 (.faddr 0 (.t 3)),[]),(o 96 (.lload 3 none (.t 95)),[]),(m 97 0,[]),(o 98 (.nilchk (.t 97)),
 []),(o 99 (.faddr 2 (.t 98)),[]),(o 100 (.load none (.t 99)),[]),(o 101 (.faddr 5 (.t 3)),[]),(o 102 (.lload 3 none (.t 101)),[]),(o 103 (.iaddr 1 (.t 102) (.c (.int .i64 0))),[]),(o 104 (.load none (.t 103)),[]),
 (o 105 (.iaddr 1 (.t 100) (.t 104)),[]),(o 106 (.load none (.t 105)),[]),(o 107 (.call false 46 [.t 94,.t 96,.t 106]),[]),(m 4 107,[])]) (.ret)))⟩
def code21:AFn:=⟨[.tmp 4],
 .seq (.reg [o 4 (.mv (.c (.nili)))])
 (.seq (.seq (.reg [m 7 0,o 8 (.eq (.ptr) false true (.t 7) (.c (.nilp)))])
 (.cond (.t 8)
 (.seq (.reg [o 4 (.mv (.c (.nili)))]) (.ret)) (.skip)))
 (.seq (.reg [m 10 0,o 11 (.nilchk (.t 10)),o 12 (.faddr 6 (.t 11)),o 13 (.load none (.t 12)),m 14 1,o 15 (.call false 47 [.t 13,.t 14]),m 9 15,o 16 (.extract 0 (.t 9)),o 17 (.extract 1 (.t 9)),m 5 16,m 6 17])
 (.seq (.reg [m 18 5,m 4 18]) (.ret))))⟩
def code22:AFn:=⟨[.cell 4 (some 2),.tmp 5],
 .seq (.reg [o 4 (.lbox (.c (.agg [.bool false,.vs true 0 []]))),o 5 (.mv (.c (.bool false)))])
 (.seq (.seq (.reg [m 8 0,m 9 1,o 10 (.call false 21 [.t 8,.t 9])])
 (.block 0
 (.seq (.reg [o 11 (.tassert 62 (.agg [.bool false]) true (.t 10)),o 12 (.extract 1 (.t 11)),o 13 (.extract 0 (.t 11))])
 (.cond (.t 12)
 (.seq (.reg [o 6 (.lbox (.c (.agg [.bool false]))),⟨none,.lstore 6 1 (.t 6) (.t 13),none,none⟩])
 (.seq (.seq (.reg [o 14 (.faddr 0 (.t 6)),o 15 (.lload 6 none (.t 14))])
 (.cond (.t 15)
 (.seq (.reg [o 16 (.call false 48 [.c (.int .i64 1)]),⟨none,.lstore 4 2 (.t 4) (.t 16),none,none⟩,o 5 (.mv (.c (.bool true)))]) (.ret)) (.skip)))
 (.seq (.reg [o 17 (.call false 48 [.c (.int .i64 0)]),⟨none,.lstore 4 2 (.t 4) (.t 17),none,none⟩,o 5 (.mv (.c (.bool true)))]) (.ret))))
 (.seq (.reg [o 18 (.tassert 102 (.agg [.bool false,.vs true 0 []]) true (.t 10)),o 19 (.extract 1 (.t 18)),o 20 (.extract 0 (.t 18))])
 (.cond (.t 19)
 (.seq (.reg [o 7 (.lbox (.c (.agg [.bool false,.vs true 0 []]))),⟨none,.lstore 7 2 (.t 7) (.t 20),none,none⟩])
 (.seq (.reg [o 21 (.faddr 0 (.t 7)),o 22 (.lload 7 (some 2) (.t 21)),⟨none,.lstore 4 2 (.t 4) (.t 22),none,none⟩,o 5 (.mv (.c (.bool true)))]) (.ret))) (.skip)))))))
 (.seq (.reg [o 23 (.build [.bool false,.vs true 0 []] []),⟨none,.lstore 4 2 (.t 4) (.t 23),none,none⟩,o 5 (.mv (.c (.bool false)))]) (.ret)))⟩
def code24:AFn:=⟨[.tmp 4,.tmp 5],
 .seq (.reg [o 4 (.mv (.c (.str []))),o 5 (.mv (.c (.bool false)))])
 (.seq (.reg [m 9 0,m 10 1,o 11 (.call false 21 [.t 9,.t 10]),o 12 (.tassert 86 (.agg [.str []]) true (.t 11)),m 8 12,o 13 (.extract 0 (.t 8)),o 14 (.extract 1 (.t 8)),o 6 (.lbox (.c (.agg [.str []]))),⟨none,.lstore 6 1 (.t 6) (.t 13),
 none,none⟩,m 7 14])
 (.seq (.reg [o 15 (.faddr 0 (.t 6)),o 16 (.lload 6 none (.t 15)),m 17 7,m 4 16,m 5 17]) (.ret)))⟩
def code25:AFn:=⟨[.tmp 4],
 .seq (.reg [o 4 (.mv (.c (.int .i64 0)))])
 (.seq (.seq (.reg [m 6 0,m 7 1,o 8 (.call false 21 [.t 6,.t 7]),m 5 8])
 (.seq (.reg [m 9 5,o 10 (.eq (.iface) true true (.t 9) (.c (.nili)))])
 (.cond (.t 10)
 (.seq (.reg [m 11 5,o 12 (.invoke [(17,189,.self),(25,25,.self),(60,198,.self),(62,199,.self),(70,200,.self),(81,203,.self),(86,204,.self),(88,206,.self),(92,208,.self),(93,210,.self),(102,213,
 .self),(120,218,.self)] (.t 11) []),m 4 12]) (.ret)) (.skip))))
 (.seq (.reg [o 4 (.mv (.c (.int .i64 0)))]) (.ret)))⟩
def code26:AFn:=⟨[.tmp 2],
 .seq (.reg [o 2 (.mv (.c (.int .i64 0)))])
 (.seq (.reg [o 3 (.mv (.c (.int .i64 0)))])
 (.seq (.seq (.reg [m 4 0,o 5 (.range (.t 4))])
 (.block 0
 (.loop [3,5]
 (.seq (.reg [o 6 (.nexts (.t 5)),o 7 (.extract 0 (.t 6))])
 (.seq (.cond (.t 7) (.skip) (.exit 0))
 (.block 1 (.reg [m 8 3,o 9 (.bin .add (.t 8) (.c (.int .i64 1))),m 3 9])))))))
 (.seq (.reg [m 10 3,m 2 10]) (.ret))))⟩
def code34:AFn:=⟨[.tmp 2],
 .seq (.reg [o 2 (.mv (.c (.bool false)))])
 (.seq (.reg [m 3 0,o 4 (.bin .geq (.t 3) (.c (.int .i64 1))),m 5 4,w 6 (.mv (.t 0)) (5,true),w 7 (.bin .leq (.t 6) (.c (.int .i64 9))) (5,true),o 8 (.pick (.t 5) (.t 7) (.c (.bool false))),m 9 8,w 10 (.mv (.t 0)) (9,
 false),w 11 (.bin .eql (.t 10) (.c (.int .i64 14))) (9,false),o 12 (.pick (.t 9) (.c (.bool true)) (.t 11)),m 13 12,w 14 (.mv (.t 0)) (13,false),w 15 (.bin .geq (.t 14) (.c (.int .i64 15))) (13,false),w 16 (.mv (.t 15)) (13,
 false),w 17 (.mv (.t 0)) (16,true),w 18 (.bin .leq (.t 17) (.c (.int .i64 17))) (16,true),w 19 (.pick (.t 16) (.t 18) (.c (.bool false))) (13,false),o 20 (.pick (.t 13) (.c (.bool true)) (.t 19)),m 2 20]) (.ret))⟩
def code35:AFn:=⟨[.tmp 4],
 .seq (.reg [o 4 (.mv (.c (.bool false)))])
 (.seq (.reg [m 11 0,o 12 (.nilchk (.t 11)),o 13 (.faddr 1 (.t 12)),o 14 (.load none (.t 13)),m 15 1,o 16 (.iaddr 8 (.t 14) (.t 15)),o 17 (.load (some 8) (.t 16)),o 5 (.lbox (.c (.agg [.int .i64 0,.bool false,.bool false,
 .vs true 0 [],.str [],.vs true 0 [],.bool false,.bool false]))),⟨none,.lstore 5 8 (.t 5) (.t 17),none,none⟩])
 (.seq (.reg [m 18 1,m 6 18])
 (.seq (.seq (.reg [o 19 (.faddr 0 (.t 5)),o 20 (.lload 5 none (.t 19)),o 21 (.bin .eql (.t 20) (.c (.int .i64 6)))])
 (.cond (.t 21) (.reg [m 22 0,o 23 (.nilchk (.t 22)),o 24 (.faddr 1 (.t 23)),o 25 (.load none (.t 24)),o 26 (.len 1 (.t 25)),m 6 26]) (.skip)))
 (.seq (.seq (.reg [o 27 (.faddr 5 (.t 5)),o 28 (.lload 5 none (.t 27)),o 29 (.len 1 (.t 28)),o 30 (.mv (.c (.int .i64 0)))])
 (.block 0
 (.loop [0,2,4,5,6,28,29,30]
 (.seq (.reg [o 31 (.bin .lss (.t 30) (.t 29))])
 (.seq (.cond (.t 31) (.skip) (.exit 0))
 (.seq (.block 1
 (.seq (.reg [o 32 (.iaddr 1 (.t 28) (.t 30)),o 33 (.load none (.t 32)),m 8 33])
 (.seq (.reg [m 34 8,o 35 (.bin .lss (.t 34) (.c (.int .i64 0))),m 36 35,w 37 (.mv (.t 8)) (36,false),w 38 (.mv (.t 6)) (36,false),w 39 (.bin .geq (.t 37) (.t 38)) (36,false),o 40 (.pick (.t 36) (.c (.bool true)) (.t 39))])
 (.cond (.t 40)
 (.seq (.reg [o 4 (.mv (.c (.bool true)))]) (.ret)) (.skip))))) (.reg [o 41 (.bin .add (.t 30) (.c (.int .i64 1))),m 30 41])))))))
 (.seq (.seq (.reg [o 42 (.lload 5 (some 8) (.t 5)),o 43 (.call false 66 [.t 42]),o 44 (.len 1 (.t 43)),o 45 (.mv (.c (.int .i64 0)))])
 (.block 2
 (.loop [0,4,5,43,44,45]
 (.seq (.reg [o 46 (.bin .lss (.t 45) (.t 44))])
 (.seq (.cond (.t 46) (.skip) (.exit 2))
 (.seq (.block 3
 (.seq (.reg [o 47 (.iaddr 1 (.t 43) (.t 45)),o 48 (.load none (.t 47)),m 10 48])
 (.seq (.reg [m 49 0,o 50 (.nilchk (.t 49)),o 51 (.faddr 1 (.t 50)),o 52 (.load none (.t 51)),m 53 10,o 54 (.iaddr 8 (.t 52) (.t 53)),o 55 (.load (some 8) (.t 54)),o 56 (.call false 67 [.t 55]),o 57 (.un .not (.t 56))])
 (.cond (.t 57)
 (.seq (.reg [o 4 (.mv (.c (.bool true)))]) (.ret)) (.skip))))) (.reg [o 58 (.bin .add (.t 45) (.c (.int .i64 1))),m 45 58])))))))
 (.seq (.seq (.reg [o 59 (.faddr 0 (.t 5)),o 60 (.lload 5 none (.t 59))])
 (.block 4
 (.seq (.seq (.reg [o 62 (.bin .eql (.t 60) (.c (.int .i64 5))),m 61 62])
 (.cond (.t 61) (.skip)
 (.seq (.reg [o 63 (.bin .eql (.t 60) (.c (.int .i64 6))),m 61 63])
 (.cond (.t 61) (.skip)
 (.seq (.reg [o 64 (.bin .eql (.t 60) (.c (.int .i64 8))),m 61 64])
 (.cond (.t 61) (.skip) (.reg [o 65 (.bin .eql (.t 60) (.c (.int .i64 9))),m 61 65])))))))
 (.cond (.t 61)
 (.seq (.reg [o 4 (.mv (.c (.bool false)))]) (.ret))
 (.seq (.reg [o 67 (.bin .eql (.t 60) (.c (.int .i64 7))),m 66 67])
 (.cond (.t 66)
 (.seq (.reg [o 68 (.faddr 5 (.t 5)),o 69 (.lload 5 none (.t 68)),o 70 (.len 1 (.t 69)),o 71 (.bin .rem (.t 70) (.c (.int .i64 2))),o 72 (.bin .eql (.t 71) (.c (.int .i64 1))),m 4 72]) (.ret))
 (.seq (.seq (.reg [o 74 (.bin .eql (.t 60) (.c (.int .i64 15))),m 73 74])
 (.cond (.t 73) (.skip)
 (.seq (.reg [o 75 (.bin .eql (.t 60) (.c (.int .i64 16))),m 73 75])
 (.cond (.t 73) (.skip) (.reg [o 76 (.bin .eql (.t 60) (.c (.int .i64 17))),m 73 76])))))
 (.cond (.t 73)
 (.seq (.dreg 0 [(o 77 (.faddr 5 (.t 5)),[]),(o 78 (.lload 5 none (.t 77)),[]),(o 79 (.len 1 (.t 78)),[]),(o 80 (.bin .neq (.t 79) (.c (.int .i64 1))),[]),(m 81 80,[]),(w 82 (.mv (.t 0)) (81,false),[]),(w 83 (.nilchk (.t 82)) (81,
 false),[]),(w 84 (.faddr 1 (.t 83)) (81,false),[]),(w 85 (.load none (.t 84)) (81,false),[]),(w 86 (.faddr 5 (.t 5)) (81,false),[]),(w 87 (.lload 5 none (.t 86)) (81,false),[]),(w 88 (.iaddr 1 (.t 87) (.c (.int .i64 0))) (81,
 false),[]),(w 89 (.load none (.t 88)) (81,false),[]),(w 90 (.iaddr 8 (.t 85) (.t 89)) (81,false),[]),(w 91 (.faddr 0 (.t 90)) (81,false),[]),(w 92 (.load none (.t 91)) (81,false),[]),(w 93 (.bin .neq (.t 92) (.c (.int .i64 7))) (81,
 false),[]),(o 94 (.pick (.t 81) (.c (.bool true)) (.t 93)),[]),(m 4 94,[])]) (.ret)) (.skip)))))))))
 (.seq (.reg [o 95 (.faddr 5 (.t 5)),o 96 (.lload 5 none (.t 95)),o 97 (.len 1 (.t 96)),o 98 (.bin .gtr (.t 97) (.c (.int .i64 0))),m 4 98]) (.ret))))))))⟩
def code36:AFn:=⟨[.tmp 2],
 .seq (.reg [o 2 (.mv (.c (.bool false)))])
 (.seq (.reg [m 3 0,o 4 (.call false 68 [.t 3]),m 2 4]) (.ret))⟩
def code37:AFn:=⟨[.tmp 4],
 .seq (.reg [o 4 (.mv (.c (.bool false)))])
 (.seq (.reg [m 9 0,o 10 (.nilchk (.t 9)),o 11 (.faddr 1 (.t 10)),o 12 (.load none (.t 11)),m 13 1,o 14 (.iaddr 8 (.t 12) (.t 13)),o 15 (.load (some 8) (.t 14)),o 5 (.lbox (.c (.agg [.int .i64 0,.bool false,.bool false,
 .vs true 0 [],.str [],.vs true 0 [],.bool false,.bool false]))),⟨none,.lstore 5 8 (.t 5) (.t 15),none,none⟩])
 (.seq (.seq (.reg [o 16 (.faddr 0 (.t 5)),o 17 (.lload 5 none (.t 16))])
 (.block 0
 (.seq (.reg [o 19 (.bin .eql (.t 17) (.c (.int .i64 4))),m 18 19])
 (.cond (.t 18)
 (.seq (.reg [o 20 (.faddr 4 (.t 5)),o 21 (.lload 5 none (.t 20)),o 22 (.call false 26 [.t 21]),o 23 (.bin .gtr (.t 22) (.c (.int .i64 65536))),m 4 23]) (.ret))
 (.seq (.reg [o 25 (.bin .eql (.t 17) (.c (.int .i64 3))),m 24 25])
 (.cond (.t 24)
 (.seq (.reg [o 26 (.faddr 2 (.t 5)),o 27 (.lload 5 (some 2) (.t 26)),o 28 (.call false 40 [.t 27]),o 29 (.field 1 none (.t 28)),o 30 (.len 1 (.t 29)),o 31 (.bin .gtr (.t 30) (.c (.int .i64 256))),m 4 31]) (.ret))
 (.seq (.seq (.reg [o 33 (.bin .eql (.t 17) (.c (.int .i64 5))),m 32 33])
 (.cond (.t 32) (.skip) (.reg [o 34 (.bin .eql (.t 17) (.c (.int .i64 6))),m 32 34])))
 (.cond (.t 32)
 (.seq (.reg [o 35 (.faddr 5 (.t 5)),o 36 (.lload 5 none (.t 35)),o 37 (.len 1 (.t 36)),o 38 (.bin .gtr (.t 37) (.c (.int .i64 65536))),m 4 38]) (.ret)) (.skip)))))))))
 (.seq (.reg [o 39 (.mkmap none),m 6 39])
 (.seq (.seq (.reg [o 40 (.lload 5 (some 8) (.t 5)),o 41 (.call false 66 [.t 40]),o 42 (.len 1 (.t 41)),o 43 (.mv (.c (.int .i64 0)))])
 (.block 1
 (.loop [0,6,41,42,43]
 (.seq (.reg [o 44 (.bin .lss (.t 43) (.t 42))])
 (.seq (.cond (.t 44) (.skip) (.exit 1))
 (.seq (.block 2
 (.seq (.reg [o 45 (.iaddr 1 (.t 41) (.t 43)),o 46 (.load none (.t 45)),m 8 46]) (.reg [m 47 6,m 48 0,m 49 8,o 50 (.call false 69 [.t 48,.t 49]),o 51 (.lookup (.str) (.int .i64 0) false (.t 47) (.t 50)),o 52 (.bin .add (.t 51) (.c (.int .i64 1))),
 ⟨none,.mupd (.str) (.t 47) (.t 50) (.t 52),none,none⟩]))) (.reg [o 53 (.bin .add (.t 43) (.c (.int .i64 1))),m 43 53])))))))
 (.seq (.dreg 0 [(m 54 6,[]),(o 55 (.len 2 (.t 54)),[]),(m 56 0,[]),(o 57 (.nilchk (.t 56)),[]),(o 58 (.faddr 0 (.t 57)),[]),(o 59 (.load none (.t 58)),[]),(o 60 (.nilchk (.t 59)),[]),(o 61 (.faddr 0 (.t 60)),
 []),(o 62 (.faddr 1 (.t 61)),[]),(o 63 (.load none (.t 62)),[]),(o 64 (.bin .gtr (.t 55) (.t 63)),[]),(m 4 64,[])]) (.ret))))))⟩
def code38:AFn:=⟨[.tmp 2],
 .seq (.reg [o 2 (.mv (.c (.int .i64 0)))])
 (.seq (.seq (.reg [m 3 0])
 (.cond (.t 3)
 (.seq (.reg [o 2 (.mv (.c (.int .i64 2)))]) (.ret)) (.skip)))
 (.seq (.reg [o 2 (.mv (.c (.int .i64 1)))]) (.ret)))⟩
def code39:AFn:=⟨[.tmp 4],
 .seq (.reg [o 3 (.lbox (.t 1)),o 4 (.mv (.c (.int .i64 0)))])
 (.seq (.reg [m 5 0,o 6 (.call false 70 [.t 5])])
 (.seq (.dreg 0 [(m 7 0,[]),(o 8 (.nilchk (.t 7)),[]),(o 9 (.faddr 6 (.t 8)),[]),(o 10 (.load none (.t 9)),[]),(o 11 (.lload 3 (some 2) (.t 3)),[]),(o 12 (.build [.bool false,.vs true 0 []] [(0,2,.t 11)]),[]),
 (o 13 (.mkif 102 (.t 12)),[]),(o 14 (.call false 18 [.t 10,.t 13]),[]),(m 4 14,[])]) (.ret)))⟩
def code41:AFn:=⟨[.tmp 4],
 .seq (.reg [o 4 (.mv (.c (.int .i64 0)))])
 (.seq (.reg [m 5 0,o 6 (.call false 70 [.t 5])])
 (.seq (.reg [m 7 0,o 8 (.nilchk (.t 7)),o 9 (.faddr 6 (.t 8)),o 10 (.load none (.t 9)),m 11 1,o 12 (.build [.str []] [(0,1,.t 11)]),o 13 (.mkif 86 (.t 12)),o 14 (.call false 18 [.t 10,.t 13]),m 4 14]) (.ret)))⟩
def code42:AFn:=⟨[.tmp 6],
 .seq (.reg [o 6 (.mv (.c (.int .i64 0)))])
 (.seq (.dreg 1 [(m 7 0,[]),(o 8 (.nilchk (.t 7)),[]),(o 9 (.faddr 6 (.t 8)),[]),(o 10 (.load none (.t 9)),[]),(m 11 0,[]),(o 12 (.call false 72 [.t 11]),[3]),(m 13 2,[]),(m 14 1,[]),(o 15 (.build [.int .i64 0,
 .vs true 0 [],.int .i64 0] [(0,1,.t 12),(1,1,.t 13),(2,1,.t 14)]),[]),(⟨some 16,.box 76 (.t 15),none,some 0⟩,[3]),(o 17 (.mkif 70 (.t 16)),[]),(o 18 (.call false 18 [.t 10,.t 17]),[]),(m 6 18,[])]) (.ret))⟩
def code43:AFn:=⟨[.tmp 4],
 .seq (.reg [o 3 (.lbox (.t 1)),o 4 (.mv (.c (.int .i64 0)))])
 (.seq (.dreg 0 [(m 11 0,[]),(o 12 (.nilchk (.t 11)),[]),(o 13 (.faddr 0 (.t 12)),[]),(o 14 (.load none (.t 13)),[]),(o 15 (.faddr 0 (.t 3)),[]),(o 16 (.lload 3 none (.t 15)),[]),(o 17 (.call false 73 [.t 14,.t 16]),
 []),(m 5 17,[])])
 (.seq (.reg [m 19 0,o 20 (.nilchk (.t 19)),o 21 (.faddr 0 (.t 20)),o 22 (.load none (.t 21)),m 23 5,o 24 (.call false 21 [.t 22,.t 23]),o 25 (.tassert 88 (.nilp) true (.t 24)),m 18 25,o 26 (.extract 0 (.t 18)),o 27 (.extract 1 (.t 18)),
 m 6 26,m 7 27])
 (.seq (.seq (.reg [m 28 7,o 29 (.un .not (.t 28))])
 (.cond (.t 29)
 (.seq (.reg [m 30 5,m 4 30]) (.ret)) (.skip)))
 (.seq (.seq (.reg [o 31 (.lload 3 (some 8) (.t 3)),o 32 (.call false 66 [.t 31]),o 33 (.len 1 (.t 32)),o 34 (.mv (.c (.int .i64 0)))])
 (.block 0
 (.loop [0,3,5,6,32,33,34]
 (.seq (.reg [o 35 (.bin .lss (.t 34) (.t 33))])
 (.seq (.cond (.t 35) (.skip) (.exit 0))
 (.seq (.block 1
 (.seq (.reg [m 36 34,o 37 (.iaddr 1 (.t 32) (.t 34)),o 38 (.load none (.t 37)),m 8 36,m 9 38])
 (.seq (.reg [o 10 (.mv (.c (.int .i64 0)))])
 (.seq (.seq (.reg [o 39 (.faddr 0 (.t 3)),o 40 (.lload 3 none (.t 39)),o 41 (.bin .eql (.t 40) (.c (.int .i64 7)))])
 (.cond (.t 41) (.dreg 0 [(m 42 0,[]),(o 43 (.nilchk (.t 42)),[]),(o 44 (.faddr 2 (.t 43)),[]),(o 45 (.load none (.t 44)),[]),(o 46 (.faddr 5 (.t 3)),[]),(o 47 (.lload 3 none (.t 46)),[]),(m 48 8,[]),(o 49 (.bin .mul (.c (.int .i64 2)) (.t 48)),
 []),(o 50 (.bin .add (.t 49) (.c (.int .i64 1))),[]),(o 51 (.iaddr 1 (.t 47) (.t 50)),[]),(o 52 (.load none (.t 51)),[]),(o 53 (.iaddr 1 (.t 45) (.t 52)),[]),(o 54 (.load none (.t 53)),[]),(m 10 54,[])]) (.skip))) (.reg [m 55 0,
 m 56 6,m 57 9,m 58 10,o 59 (.call false 74 [.t 55,.t 56,.t 57,.t 58])]))))) (.reg [o 60 (.bin .add (.t 34) (.c (.int .i64 1))),m 34 60])))))))
 (.seq (.reg [m 61 5,m 4 61]) (.ret))))))⟩
def code44:AFn:=⟨[.tmp 6],
 .seq (.reg [o 6 (.mv (.c (.int .i64 0)))])
 (.seq (.dreg 0 [(m 12 0,[]),(o 13 (.nilchk (.t 12)),[]),(o 14 (.faddr 0 (.t 13)),[]),(o 15 (.faddr 1 (.t 14)),[]),(o 16 (.load none (.t 15)),[]),(m 17 0,[]),(o 18 (.nilchk (.t 17)),[]),(o 19 (.faddr 5 (.t 18)),
 []),(o 20 (.load none (.t 19)),[]),(o 21 (.call false 75 [.t 16,.t 20]),[]),(m 11 21,[]),(o 22 (.extract 0 (.t 11)),[]),(o 23 (.extract 1 (.t 11)),[]),(m 7 22,[]),(m 8 23,[])])
 (.seq (.dreg 0 [(m 25 0,[]),(o 26 (.nilchk (.t 25)),[]),(o 27 (.faddr 0 (.t 26)),[]),(o 28 (.faddr 2 (.t 27)),[]),(o 29 (.load none (.t 28)),[]),(m 30 0,[]),(o 31 (.nilchk (.t 30)),[]),(o 32 (.faddr 0 (.t 31)),
 []),(o 33 (.faddr 1 (.t 32)),[]),(o 34 (.load none (.t 33)),[]),(m 35 0,[]),(o 36 (.nilchk (.t 35)),[]),(o 37 (.faddr 5 (.t 36)),[]),(o 38 (.load none (.t 37)),[]),(o 39 (.call false 76 [.t 29,.t 34,.t 38]),
 []),(m 24 39,[]),(o 40 (.extract 0 (.t 24)),[]),(o 41 (.extract 1 (.t 24)),[]),(m 9 40,[]),(m 10 41,[])])
 (.seq (.dreg 1 [(m 42 0,[]),(o 43 (.nilchk (.t 42)),[]),(o 44 (.faddr 6 (.t 43)),[]),(o 45 (.load none (.t 44)),[]),(m 46 0,[]),(o 47 (.call false 72 [.t 46]),[3]),(m 48 7,[]),(m 49 1,[]),(m 50 2,[]),(m 51 9,
 []),(o 52 (.build [.int .i64 0,.nilp,.str [],.int .i64 0,.nilp,.bool false,.bool false] [(0,1,.t 47),(1,1,.t 48),(2,1,.t 49),(3,1,.t 50),(4,1,.t 51)]),[]),(⟨some 53,.box 124 (.t 52),none,some 0⟩,
 [3]),(o 54 (.mkif 120 (.t 53)),[]),(o 55 (.call false 18 [.t 45,.t 54]),[]),(m 6 55,[])]) (.ret))))⟩
def code45:AFn:=⟨[.tmp 4],
 .seq (.reg [o 4 (.mv (.c (.int .i64 0)))])
 (.seq (.reg [m 8 0,o 9 (.call false 72 [.t 8]),m 10 1,o 11 (.build [.int .i64 0,.nilp,.int .i64 0] [(0,1,.t 9),(2,1,.t 10)]),o 12 (.box 99 (.t 11)),m 5 12])
 (.seq (.seq (.reg [m 14 0,m 15 1,o 16 (.call false 21 [.t 14,.t 15]),o 17 (.tassert 120 (.nilp) true (.t 16)),m 13 17,o 18 (.extract 0 (.t 13)),o 19 (.extract 1 (.t 13)),m 6 18,m 7 19])
 (.seq (.reg [m 20 7])
 (.cond (.t 20) (.reg [m 21 5,m 22 6,o 23 (.nilchk (.t 22)),o 24 (.faddr 4 (.t 23)),o 25 (.load none (.t 24)),o 26 (.call false 77 [.t 25]),o 27 (.nilchk (.t 21)),o 28 (.faddr 1 (.t 27)),⟨none,.store 1 (.t 28) (.t 26),
 none,none⟩]) (.skip))))
 (.seq (.reg [m 29 0,o 30 (.nilchk (.t 29)),o 31 (.faddr 6 (.t 30)),o 32 (.load none (.t 31)),m 33 5,o 34 (.mkif 93 (.t 33)),o 35 (.call false 18 [.t 32,.t 34]),m 4 35]) (.ret))))⟩
def code46:AFn:=⟨[.tmp 6],
 .seq (.reg [o 6 (.mv (.c (.int .i64 0)))])
 (.seq (.dreg 1 [(m 7 0,[]),(o 8 (.nilchk (.t 7)),[]),(o 9 (.faddr 6 (.t 8)),[]),(o 10 (.load none (.t 9)),[]),(m 11 0,[]),(o 12 (.call false 72 [.t 11]),[3]),(m 13 2,[]),(m 14 1,[]),(o 15 (.build [.int .i64 0,
 .int .i64 0,.int .i64 0] [(0,1,.t 12),(1,1,.t 13),(2,1,.t 14)]),[]),(⟨some 16,.box 96 (.t 15),none,some 0⟩,[3]),(o 17 (.mkif 92 (.t 16)),[]),(o 18 (.call false 18 [.t 10,.t 17]),[]),(m 6 18,[])]) (.ret))⟩
def code47:AFn:=⟨[.tmp 4,.tmp 5],
 .seq (.reg [o 4 (.mv (.c (.nili))),o 5 (.mv (.c (.bool false)))])
 (.seq (.seq (.reg [m 6 0,m 7 1,o 8 (.call false 78 [.t 6,.t 7]),o 9 (.un .not (.t 8))])
 (.cond (.t 9)
 (.seq (.reg [o 10 (.lbox (.c (.nili))),o 11 (.nilchk (.t 10)),o 12 (.lload 10 none (.t 11)),m 4 12,o 5 (.mv (.c (.bool false)))]) (.ret)) (.skip)))
 (.seq (.reg [m 13 0,o 14 (.nilchk (.t 13)),o 15 (.faddr 0 (.t 14)),o 16 (.load none (.t 15)),m 17 1,o 18 (.iaddr 1 (.t 16) (.t 17)),o 19 (.load none (.t 18)),m 4 19,o 5 (.mv (.c (.bool true)))]) (.ret)))⟩
def code66:AFn:=⟨[.tmp 2],
 .seq (.reg [o 1 (.lbox (.t 0)),o 2 (.mv (.c (.vs true 0 [])))])
 (.seq (.seq (.reg [o 5 (.faddr 0 (.t 1)),o 6 (.lload 1 none (.t 5))])
 (.block 0
 (.seq (.seq (.reg [o 8 (.bin .eql (.t 6) (.c (.int .i64 8))),m 7 8])
 (.cond (.t 7) (.skip) (.reg [o 9 (.bin .eql (.t 6) (.c (.int .i64 9))),m 7 9])))
 (.cond (.t 7)
 (.seq (.reg [o 10 (.faddr 5 (.t 1)),o 11 (.lload 1 none (.t 10)),m 2 11]) (.ret))
 (.seq (.reg [o 13 (.bin .eql (.t 6) (.c (.int .i64 7))),m 12 13])
 (.cond (.t 12)
 (.seq (.reg [o 3 (.mv (.c (.vs true 0 [])))])
 (.seq (.seq (.reg [o 4 (.mv (.c (.int .i64 0)))])
 (.block 1
 (.loop [1,3,4]
 (.seq (.seq (.reg [m 14 4,o 15 (.faddr 5 (.t 1)),o 16 (.lload 1 none (.t 15)),o 17 (.len 1 (.t 16)),o 18 (.bin .lss (.t 14) (.t 17))])
 (.cond (.t 18) (.skip) (.exit 1)))
 (.seq (.block 2 (.reg [m 21 3,o 22 (.faddr 5 (.t 1)),o 23 (.lload 1 none (.t 22)),m 24 4,o 25 (.iaddr 1 (.t 23) (.t 24)),o 26 (.load none (.t 25)),o 27 (.vslice 1 (.int .i64 0) 1 [(0,.t 26)]),o 28 (.append 1 8 3 (.t 21) (.t 27)),
 m 3 28])) (.reg [m 19 4,o 20 (.bin .add (.t 19) (.c (.int .i64 2))),m 4 20]))))))
 (.seq (.reg [m 29 3,m 2 29]) (.ret)))) (.skip)))))))
 (.seq (.reg [o 2 (.mv (.c (.vs true 0 [])))]) (.ret)))⟩
def code67:AFn:=⟨[.tmp 2],
 .seq (.reg [o 1 (.lbox (.t 0)),o 2 (.mv (.c (.bool false)))])
 (.seq (.reg [o 3 (.faddr 0 (.t 1)),o 4 (.lload 1 none (.t 3)),o 5 (.bin .geq (.t 4) (.c (.int .i64 1))),m 6 5,w 7 (.faddr 0 (.t 1)) (6,true),w 8 (.lload 1 none (.t 7)) (6,true),w 9 (.bin .leq (.t 8) (.c (.int .i64 4))) (6,
 true),o 10 (.pick (.t 6) (.t 9) (.c (.bool false))),m 11 10,w 12 (.faddr 0 (.t 1)) (11,false),w 13 (.lload 1 none (.t 12)) (11,false),w 14 (.bin .eql (.t 13) (.c (.int .i64 14))) (11,false),w 15 (.mv (.t 14)) (11,
 false),w 16 (.faddr 6 (.t 1)) (15,true),w 17 (.lload 1 none (.t 16)) (15,true),w 18 (.mv (.t 17)) (15,true),w 19 (.faddr 7 (.t 1)) (18,false),w 20 (.lload 1 none (.t 19)) (18,false),w 21 (.un .not (.t 20)) (18,
 false),w 22 (.pick (.t 18) (.c (.bool true)) (.t 21)) (15,true),w 23 (.pick (.t 15) (.t 22) (.c (.bool false))) (11,false),o 24 (.pick (.t 11) (.c (.bool true)) (.t 23)),m 2 24]) (.ret))⟩
def code69:AFn:=⟨[.tmp 4],
 .seq (.reg [o 4 (.mv (.c (.str [])))])
 (.seq (.seq (.reg [m 6 0,o 7 (.nilchk (.t 6)),o 8 (.faddr 1 (.t 7)),o 9 (.load none (.t 8)),m 10 1,o 11 (.iaddr 8 (.t 9) (.t 10)),o 12 (.load (some 8) (.t 11)),o 5 (.lbox (.c (.agg [.int .i64 0,.bool false,.bool false,
 .vs true 0 [],.str [],.vs true 0 [],.bool false,.bool false]))),⟨none,.lstore 5 8 (.t 5) (.t 12),none,none⟩])
 (.seq (.reg [o 13 (.faddr 0 (.t 5)),o 14 (.lload 5 none (.t 13))])
 (.block 0
 (.seq (.reg [o 16 (.bin .eql (.t 14) (.c (.int .i64 1))),m 15 16])
 (.cond (.t 15)
 (.seq (.reg [o 4 (.mv (.c (.str [110,111,110,101])))]) (.ret))
 (.seq (.reg [o 18 (.bin .eql (.t 14) (.c (.int .i64 2))),m 17 18])
 (.cond (.t 17)
 (.seq (.seq (.reg [o 19 (.faddr 1 (.t 5)),o 20 (.lload 5 none (.t 19))])
 (.cond (.t 20)
 (.seq (.reg [o 4 (.mv (.c (.str [105,49])))]) (.ret)) (.skip)))
 (.seq (.reg [o 4 (.mv (.c (.str [105,48])))]) (.ret)))
 (.seq (.reg [o 22 (.bin .eql (.t 14) (.c (.int .i64 3))),m 21 22])
 (.cond (.t 21)
 (.seq (.reg [o 23 (.faddr 2 (.t 5)),o 24 (.lload 5 (some 2) (.t 23)),o 25 (.call false 30 [.t 24]),o 26 (.bin .add (.c (.str [105])) (.t 25)),m 4 26]) (.ret))
 (.seq (.reg [o 28 (.bin .eql (.t 14) (.c (.int .i64 4))),m 27 28])
 (.cond (.t 27)
 (.seq (.reg [o 29 (.faddr 4 (.t 5)),o 30 (.lload 5 none (.t 29)),o 31 (.bin .add (.c (.str [115])) (.t 30)),m 4 31]) (.ret)) (.skip))))))))))))
 (.seq (.reg [m 32 1,o 33 (.call false 32 [.t 32]),o 34 (.bin .add (.c (.str [111])) (.t 33)),m 4 34]) (.ret)))⟩
def code70:AFn:=⟨[],
 .seq (.reg [m 2 0,o 3 (.nilchk (.t 2)),o 4 (.faddr 10 (.t 3)),o 5 (.load none (.t 4)),o 6 (.call false 89 [.t 5])])
 (.cond (.t 6) (.reg [m 7 0,o 8 (.nilchk (.t 7)),o 9 (.faddr 11 (.t 8)),⟨none,.store 1 (.t 9) (.c (.bool true)),none,none⟩]) (.skip))⟩
def code72:AFn:=⟨[.cell 2 (some 1)],
 .seq (.reg [o 2 (.lbox (.c (.agg [.int .i64 0])))])
 (.seq (.reg [m 3 0,o 4 (.call false 70 [.t 3])])
 (.seq (.reg [m 5 0,o 6 (.nilchk (.t 5)),o 7 (.faddr 7 (.t 6)),o 8 (.load none (.t 7)),o 9 (.bin .add (.t 8) (.c (.int .i64 1))),o 10 (.nilchk (.t 5)),o 11 (.faddr 7 (.t 10)),⟨none,.store 1 (.t 11) (.t 9),none,none⟩])
 (.seq (.reg [m 12 0,o 13 (.nilchk (.t 12)),o 14 (.faddr 8 (.t 13)),o 15 (.load none (.t 14)),o 16 (.bin .add (.t 15) (.c (.int .i64 1))),o 17 (.nilchk (.t 12)),o 18 (.faddr 8 (.t 17)),⟨none,.store 1 (.t 18) (.t 16),
 none,none⟩])
 (.seq (.reg [m 19 0,o 20 (.nilchk (.t 19)),o 21 (.faddr 7 (.t 20)),o 22 (.load none (.t 21)),o 23 (.build [.int .i64 0] [(0,1,.t 22)]),⟨none,.lstore 2 1 (.t 2) (.t 23),none,none⟩]) (.ret)))))⟩
def code73:AFn:=⟨[.tmp 4],
 .seq (.reg [o 4 (.mv (.c (.int .i64 0)))])
 (.seq (.dreg 0 [(m 8 0,[]),(o 9 (.nilchk (.t 8)),[]),(o 10 (.faddr 0 (.t 9)),[]),(o 11 (.faddr 1 (.t 10)),[]),(o 12 (.load none (.t 11)),[]),(m 13 0,[]),(o 14 (.nilchk (.t 13)),[]),(o 15 (.faddr 5 (.t 14)),[]),
 (o 16 (.load none (.t 15)),[]),(o 17 (.call false 75 [.t 12,.t 16]),[]),(m 7 17,[]),(o 18 (.extract 0 (.t 7)),[]),(o 19 (.extract 1 (.t 7)),[]),(m 5 18,[]),(m 6 19,[])])
 (.seq (.reg [m 20 0,m 21 1,m 22 5,o 23 (.call false 91 [.t 20,.t 21,.t 22]),m 4 23]) (.ret)))⟩
def code74:AFn:=⟨[],
 .seq (.dreg 0 [(m 10 1,[]),(o 11 (.nilchk (.t 10)),[]),(o 12 (.faddr 1 (.t 11)),[]),(o 13 (.load none (.t 12)),[]),(m 14 0,[]),(m 15 2,[]),(o 16 (.call false 93 [.t 14,.t 15]),[3]),(m 17 0,[]),(o 18 (.nilchk (.t 17)),
 []),(o 19 (.faddr 2 (.t 18)),[]),(o 20 (.load none (.t 19)),[6]),(m 21 2,[]),(o 22 (.iaddr 1 (.t 20) (.t 21)),[6]),(o 23 (.load none (.t 22)),[6]),(m 24 3,[]),(o 25 (.call false 92 [.t 13,.c (.int .i64 2),.t 16,
 .t 23,.t 24]),[]),(m 8 25,[])])
 (.seq (.reg [m 26 8,o 27 (.call false 94 [.t 26]),o 9 (.lbox (.c (.agg [.int .i64 0,.int .i64 0,.bool false,.int .i64 0,.int .i64 0]))),⟨none,.lstore 9 5 (.t 9) (.t 27),none,none⟩])
 (.block 0
 (.loop [0,2,8,9]
 (.seq (.seq (.reg [o 28 (.faddr 0 (.t 9)),o 29 (.lload 9 none (.t 28)),o 30 (.bin .eql (.t 29) (.c (.int .i64 1)))])
 (.cond (.t 30) (.skip) (.exit 0)))
 (.block 1
 (.seq (.dreg 0 [(m 31 8,[]),(m 32 0,[]),(o 33 (.nilchk (.t 32)),[]),(o 34 (.faddr 0 (.t 33)),[]),(o 35 (.load none (.t 34)),[]),(o 36 (.faddr 1 (.t 9)),[]),(o 37 (.lload 9 none (.t 36)),[]),(m 38 0,[]),(o 39 (.nilchk (.t 38)),
 []),(o 40 (.faddr 2 (.t 39)),[]),(o 41 (.load none (.t 40)),[]),(m 42 2,[]),(o 43 (.iaddr 1 (.t 41) (.t 42)),[]),(o 44 (.load none (.t 43)),[]),(o 45 (.call false 11 [.t 35,.t 37,.t 44]),[]),(o 46 (.call false 95 [.t 31,
 .t 45]),[])]) (.reg [m 47 8,o 48 (.call false 94 [.t 47]),⟨none,.lstore 9 5 (.t 9) (.t 48),none,none⟩])))))))⟩
def code76:AFn:=⟨[.tmp 6,.tmp 7],
 .seq (.reg [o 6 (.mv (.c (.nilp))),o 7 (.mv (.c (.int .i64 0)))])
 (.seq (.seq (.reg [m 8 0,o 9 (.bin .lss (.t 8) (.c (.int .i64 0))),m 10 9,w 11 (.mv (.t 0)) (10,false),w 12 (.bin .gtr (.t 11) (.c (.int .i64 256))) (10,false),o 13 (.pick (.t 10) (.c (.bool true)) (.t 12)),m 14 13,
 w 15 (.mv (.t 1)) (14,false),w 16 (.bin .lss (.t 15) (.c (.int .i64 0))) (14,false),o 17 (.pick (.t 14) (.c (.bool true)) (.t 16)),m 18 17,w 19 (.mv (.t 1)) (18,false),w 20 (.bin .gtr (.t 19) (.c (.int .i64 65536))) (18,
 false),o 21 (.pick (.t 18) (.c (.bool true)) (.t 20))])
 (.cond (.t 21)
 (.seq (.reg [o 6 (.mv (.c (.nilp))),o 7 (.mv (.c (.int .i64 1)))]) (.ret)) (.skip)))
 (.seq (.reg [m 22 0,m 23 1,m 24 2,m 25 2,o 26 (.call false 96 [.t 25]),o 27 (.mkmap none),o 28 (.build [.int .i64 0,.int .i64 0,.nilp,.nilp,.vs true 0 [],.nilm] [(0,1,.t 22),(1,1,.t 23),(2,1,.t 24),(3,
 1,.t 26),(5,1,.t 27)]),o 29 (.box 209 (.t 28)),m 6 29,o 7 (.mv (.c (.int .i64 0)))]) (.ret)))⟩
def code77:AFn:=⟨[.tmp 2],
 .seq (.reg [o 2 (.mv (.c (.nilp)))])
 (.seq (.seq (.reg [m 3 0,o 4 (.eq (.ptr) false true (.t 3) (.c (.nilp)))])
 (.cond (.t 4)
 (.seq (.reg [o 2 (.mv (.c (.nilp)))]) (.ret)) (.skip)))
 (.seq (.reg [m 5 0,o 6 (.call false 97 [.t 5]),o 7 (.build [.vs true 0 []] []),o 8 (.box 213 (.t 7)),o 9 (.mkif 211 (.t 8)),o 10 (.build [.nilp,.nili,.int .u64 0] [(0,1,.t 6),(1,1,.t 9)]),o 11 (.box 138 (.t 10)),
 m 2 11]) (.ret)))⟩
def code78:AFn:=⟨[.tmp 4],
 .seq (.reg [o 4 (.mv (.c (.bool false)))])
 (.seq (.reg [m 5 0,o 6 (.eq (.ptr) true true (.t 5) (.c (.nilp))),m 7 6,w 8 (.mv (.t 1)) (7,true),w 9 (.bin .geq (.t 8) (.c (.int .i64 0))) (7,true),o 10 (.pick (.t 7) (.t 9) (.c (.bool false))),m 11 10,w 12 (.mv (.t 1)) (11,
 true),w 13 (.mv (.t 0)) (11,true),w 14 (.nilchk (.t 13)) (11,true),w 15 (.faddr 0 (.t 14)) (11,true),w 16 (.load none (.t 15)) (11,true),w 17 (.len 1 (.t 16)) (11,true),w 18 (.bin .lss (.t 12) (.t 17)) (11,true),
 o 19 (.pick (.t 11) (.t 18) (.c (.bool false))),m 20 19,w 21 (.mv (.t 0)) (20,true),w 22 (.nilchk (.t 21)) (20,true),w 23 (.faddr 1 (.t 22)) (20,true),w 24 (.load none (.t 23)) (20,true),w 25 (.mv (.t 1)) (20,true),
 w 26 (.iaddr 1 (.t 24) (.t 25)) (20,true),w 27 (.load none (.t 26)) (20,true),o 28 (.pick (.t 20) (.t 27) (.c (.bool false))),m 4 28]) (.ret))⟩
def code89:AFn:=⟨[.tmp 2],
 .seq (.reg [o 2 (.mv (.c (.bool false)))])
 (.seq (.seq (.reg [m 3 0,o 4 (.eq (.ptr) false true (.t 3) (.c (.nilp)))])
 (.cond (.t 4)
 (.seq (.reg [o 2 (.mv (.c (.bool false)))]) (.ret)) (.skip)))
 (.seq (.reg [m 5 0,o 6 (.nilchk (.t 5)),o 7 (.faddr 1 (.t 6)),o 8 (.load none (.t 7)),o 9 (.bin .add (.t 8) (.c (.int .i64 1))),o 10 (.nilchk (.t 5)),o 11 (.faddr 1 (.t 10)),⟨none,.store 1 (.t 11) (.t 9),none,none⟩])
 (.seq (.dreg 0 [(m 12 0,[]),(o 13 (.nilchk (.t 12)),[]),(o 14 (.faddr 0 (.t 13)),[]),(o 15 (.load none (.t 14)),[]),(m 16 0,[]),(o 17 (.nilchk (.t 16)),[]),(o 18 (.faddr 1 (.t 17)),[]),(o 19 (.load none (.t 18)),
 []),(o 20 (.lookup (.int) (.int .i64 0) false (.t 15) (.t 19)),[]),(o 21 (.bin .gtr (.t 20) (.c (.int .i64 0))),[]),(m 2 21,[])]) (.ret))))⟩
def code91:AFn:=⟨[.tmp 6],
 .seq (.reg [o 6 (.mv (.c (.int .i64 0)))])
 (.seq (.dreg 1 [(m 7 0,[]),(o 8 (.nilchk (.t 7)),[]),(o 9 (.faddr 6 (.t 8)),[]),(o 10 (.load none (.t 9)),[]),(m 11 0,[]),(o 12 (.call false 72 [.t 11]),[3]),(m 13 2,[]),(m 14 1,[]),(o 15 (.build [.int .i64 0,
 .nilp,.int .i64 0] [(0,1,.t 12),(1,1,.t 13),(2,1,.t 14)]),[]),(⟨some 16,.box 91 (.t 15),none,some 0⟩,[3]),(o 17 (.mkif 88 (.t 16)),[]),(o 18 (.call false 18 [.t 10,.t 17]),[]),(m 6 18,[])]) (.ret))⟩
def code93:AFn:=⟨[.tmp 4],
 .seq (.reg [o 4 (.mv (.c (.int .i64 0)))])
 (.seq (.reg [m 8 0,o 9 (.nilchk (.t 8)),o 10 (.faddr 1 (.t 9)),o 11 (.load none (.t 10)),m 12 1,o 13 (.iaddr 8 (.t 11) (.t 12)),o 14 (.load (some 8) (.t 13)),o 5 (.lbox (.c (.agg [.int .i64 0,.bool false,.bool false,
 .vs true 0 [],.str [],.vs true 0 [],.bool false,.bool false]))),⟨none,.lstore 5 8 (.t 5) (.t 14),none,none⟩])
 (.seq (.seq (.reg [o 15 (.faddr 0 (.t 5)),o 16 (.lload 5 none (.t 15))])
 (.block 0
 (.seq (.reg [o 18 (.bin .eql (.t 16) (.c (.int .i64 1))),m 17 18])
 (.cond (.t 17)
 (.seq (.reg [o 19 (.call false 48 [.c (.int .i64 (-7))]),o 20 (.call false 107 [.t 19]),m 4 20]) (.ret))
 (.seq (.reg [o 22 (.bin .eql (.t 16) (.c (.int .i64 4))),m 21 22])
 (.cond (.t 21)
 (.seq (.reg [o 23 (.faddr 4 (.t 5)),o 24 (.lload 5 none (.t 23)),o 25 (.call false 108 [.t 24]),m 4 25]) (.ret))
 (.seq (.reg [o 27 (.bin .eql (.t 16) (.c (.int .i64 14))),m 26 27])
 (.cond (.t 26)
 (.seq (.seq (.reg [o 28 (.faddr 6 (.t 5)),o 29 (.lload 5 none (.t 28))])
 (.cond (.t 29)
 (.seq (.reg [o 30 (.faddr 2 (.t 5)),o 31 (.lload 5 (some 2) (.t 30)),o 32 (.call false 107 [.t 31]),m 4 32]) (.ret)) (.skip)))
 (.seq (.dreg 0 [(m 33 0,[]),(o 34 (.nilchk (.t 33)),[]),(o 35 (.faddr 0 (.t 34)),[]),(o 36 (.load none (.t 35)),[]),(m 37 0,[]),(o 38 (.nilchk (.t 37)),[]),(o 39 (.faddr 2 (.t 38)),[]),(o 40 (.load none (.t 39)),
 []),(m 41 1,[]),(o 42 (.iaddr 1 (.t 40) (.t 41)),[]),(o 43 (.load none (.t 42)),[]),(o 44 (.call false 10 [.t 36,.t 43]),[]),(o 45 (.call false 109 [.t 44]),[]),(m 4 45,[])]) (.ret))) (.skip)))))))))
 (.seq (.dreg 1 [(m 47 0,[]),(o 48 (.nilchk (.t 47)),[]),(o 49 (.faddr 0 (.t 48)),[]),(o 50 (.load none (.t 49)),[]),(m 51 0,[]),(o 52 (.nilchk (.t 51)),[]),(o 53 (.faddr 2 (.t 52)),[]),(o 54 (.load none (.t 53)),
 []),(m 55 1,[]),(o 56 (.iaddr 1 (.t 54) (.t 55)),[]),(o 57 (.load none (.t 56)),[]),(o 58 (.call true 22 [.t 50,.t 57]),[]),(m 46 58,[]),(o 59 (.extract 0 (.t 46)),[]),(o 60 (.extract 1 (.t 46)),[]),(⟨some 6,
 .box 40 (.c (.agg [.bool false,.vs true 0 []])),none,some 0⟩,[3,7,9,10]),(⟨none,.store 2 (.t 6) (.t 59),none,none⟩,[]),(m 7 60,[])])
 (.seq (.reg [o 61 (.load (some 2) (.t 6)),o 62 (.call false 107 [.t 61]),m 4 62]) (.ret)))))⟩
def code97:AFn:=⟨[.tmp 2],
 .seq (.reg [o 2 (.mv (.c (.nilp)))])
 (.seq (.seq (.reg [m 3 0,o 4 (.nilchk (.t 3)),o 5 (.faddr 3 (.t 4)),o 6 (.load none (.t 5)),o 7 (.eq (.ptr) false true (.t 6) (.c (.nilp)))])
 (.cond (.t 7) (.reg [m 8 0,m 9 0,o 10 (.call false 96 [.c (.nilp)]),o 11 (.mkmap none),o 12 (.nilchk (.t 8)),o 13 (.faddr 3 (.t 12)),⟨none,.store 1 (.t 13) (.t 10),none,none⟩,o 14 (.nilchk (.t 9)),o 15 (.faddr 5 (.t 14)),
 ⟨none,.store 1 (.t 15) (.t 11),none,none⟩]) (.skip)))
 (.seq (.reg [m 16 0,m 2 16]) (.ret)))⟩
def yCi:AFn:=⟨[.tmp 2],
 .seq (.reg [o 1 (.lbox (.t 0)),o 2 (.mv (.c (.int .i64 0)))])
 (.seq (.reg [o 2 (.mv (.c (.int .i64 0)))]) (.ret))⟩
def yCh:AFn:=⟨[.tmp 2],
 .seq (.reg [o 1 (.lbox (.t 0)),o 2 (.mv (.c (.int .i64 0)))])
 (.seq (.reg [o 2 (.mv (.c (.int .i64 1)))]) (.ret))⟩
def yCg:AFn:=⟨[.tmp 2],
 .seq (.reg [o 1 (.lbox (.t 0)),o 2 (.mv (.c (.int .i64 0)))])
 (.seq (.reg [o 2 (.mv (.c (.int .i64 2)))]) (.ret))⟩
def yCf:AFn:=⟨[.tmp 2],
 .seq (.reg [o 2 (.mv (.c (.int .i64 0)))])
 (.seq (.reg [m 3 0,o 4 (.nilchk (.t 3)),o 5 (.faddr 2 (.t 4)),o 6 (.load none (.t 5)),m 2 6]) (.ret))⟩
def yCe:AFn:=⟨[.tmp 2],
 .seq (.reg [o 1 (.lbox (.t 0)),o 2 (.mv (.c (.int .i64 0)))])
 (.seq (.reg [o 3 (.faddr 0 (.t 1)),o 4 (.lload 1 none (.t 3)),m 2 4]) (.ret))⟩
def yCd:AFn:=⟨[.tmp 2],
 .seq (.reg [o 1 (.lbox (.t 0)),o 2 (.mv (.c (.int .i64 0)))])
 (.seq (.reg [o 2 (.mv (.c (.int .i64 4)))]) (.ret))⟩
def yCc:AFn:=⟨[.tmp 2],
 .seq (.reg [o 2 (.mv (.c (.int .i64 0)))])
 (.seq (.reg [m 3 0,o 4 (.nilchk (.t 3)),o 5 (.faddr 2 (.t 4)),o 6 (.load none (.t 5)),m 2 6]) (.ret))⟩
def yCb:AFn:=⟨[.tmp 2],
 .seq (.reg [o 2 (.mv (.c (.int .i64 0)))])
 (.seq (.reg [m 3 0,o 4 (.nilchk (.t 3)),o 5 (.faddr 2 (.t 4)),o 6 (.load none (.t 5)),m 2 6]) (.ret))⟩
def yCa:AFn:=⟨[.tmp 2],
 .seq (.reg [o 2 (.mv (.c (.int .i64 0)))])
 (.seq (.reg [o 2 (.mv (.c (.int .i64 14)))]) (.ret))⟩
def yBz:AFn:=⟨[.tmp 2],
 .seq (.reg [o 1 (.lbox (.t 0)),o 2 (.mv (.c (.int .i64 0)))])
 (.seq (.reg [o 2 (.mv (.c (.int .i64 3)))]) (.ret))⟩
def yBy:AFn:=⟨[.tmp 2],
 .seq (.reg [o 2 (.mv (.c (.int .i64 0)))])
 (.seq (.reg [o 2 (.mv (.c (.int .i64 13)))]) (.ret))⟩
structure TS (T:Nat→Option AFn):Prop where
 t4:T 4=some code4
 t6:T 6=some code6
 t7:T 7=some code7
 t8:T 8=some code8
 t9:T 9=some code9
 t10:T 10=some code10
 t11:T 11=some code11
 t12:T 12=some code12
 t16:T 16=some code16
 t17:T 17=some code17
 t18:T 18=some code18
 t19:T 19=some code19
 t20:T 20=some code20
 t21:T 21=some code21
 t22:T 22=some code22
 t24:T 24=some code24
 t25:T 25=some code25
 t26:T 26=some code26
 t34:T 34=some code34
 t35:T 35=some code35
 t36:T 36=some code36
 t37:T 37=some code37
 t38:T 38=some code38
 t39:T 39=some code39
 t41:T 41=some code41
 t42:T 42=some code42
 t43:T 43=some code43
 t44:T 44=some code44
 t45:T 45=some code45
 t46:T 46=some code46
 t47:T 47=some code47
 t66:T 66=some code66
 t67:T 67=some code67
 t69:T 69=some code69
 t70:T 70=some code70
 t72:T 72=some code72
 t73:T 73=some code73
 t74:T 74=some code74
 t76:T 76=some code76
 t77:T 77=some code77
 t78:T 78=some code78
 t89:T 89=some code89
 t91:T 91=some code91
 t93:T 93=some code93
 t97:T 97=some code97
 t197:T 197=some yCi
 t198:T 198=some yCh
 t199:T 199=some yCg
 t200:T 200=some yCf
 t202:T 202=some yCe
 t204:T 204=some yCd
 t206:T 206=some yCc
 t208:T 208=some yCb
 t210:T 210=some yCa
 t213:T 213=some yBz
 t218:T 218=some yBy
end Go.Proofs.YtmcdajnpdekocaaGreatDoor.Tab
