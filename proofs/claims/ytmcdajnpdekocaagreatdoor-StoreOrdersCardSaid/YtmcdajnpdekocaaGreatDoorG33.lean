/- Part. -/
import Derived.Test.YtmcdajnpdekocaaGreatDoorG27
set_option maxRecDepth 100000
namespace Go.Proofs.YtmcdajnpdekocaaGreatDoor.Tab
open Go Go.Ab
def code30:AFn:=⟨[.tmp 2],
 .seq (.reg [o 1 (.lbox (.t 0)),o 2 (.mv (.c (.str [])))])
 (.seq (.reg [o 12 (.faddr 1 (.t 1)),o 13 (.lload 1 none (.t 12)),o 14 (.call false 54 [.t 13]),o 15 (.call false 53 [.t 14]),m 3 15])
 (.seq (.seq (.reg [m 16 3,o 17 (.len 1 (.t 16)),o 18 (.bin .eql (.t 17) (.c (.int .i64 0)))])
 (.cond (.t 18)
 (.seq (.reg [o 2 (.mv (.c (.str [48])))]) (.ret)) (.skip)))
 (.seq (.reg [o 4 (.mv (.c (.vs true 0 [])))])
 (.seq (.block 0
 (.loop [1,2,3,4,9]
 (.seq (.seq (.reg [m 19 3,o 20 (.len 1 (.t 19)),o 21 (.bin .gtr (.t 20) (.c (.int .i64 0)))])
 (.cond (.t 21) (.skip) (.exit 0)))
 (.block 1
 (.seq (.reg [o 5 (.mv (.c (.int .u32 0)))])
 (.seq (.seq (.reg [m 22 3,o 23 (.len 1 (.t 22)),o 24 (.bin .sub (.t 23) (.c (.int .i64 1))),m 6 24])
 (.block 2
 (.loop [1,2,3,4,5,6,9]
 (.seq (.seq (.reg [m 25 6,o 26 (.bin .geq (.t 25) (.c (.int .i64 0)))])
 (.cond (.t 26) (.skip) (.exit 2)))
 (.seq (.block 3 (.reg [m 30 3,m 31 6,m 32 5,m 33 3,m 34 6,o 35 (.iaddr 1 (.t 33) (.t 34)),o 36 (.load none (.t 35)),o 37 (.call false 55 [.t 32,.t 36,.c (.int .u32 1000000000)]),m 29 37,o 38 (.extract 0 (.t 29)),
 o 39 (.extract 1 (.t 29)),o 40 (.iaddr 1 (.t 30) (.t 31)),⟨none,.store 1 (.t 40) (.t 38),none,none⟩,m 5 39])) (.reg [m 27 6,o 28 (.bin .sub (.t 27) (.c (.int .i64 1))),m 6 28]))))))
 (.seq (.reg [m 41 4,m 42 5,o 43 (.vslice 1 (.int .u32 0) 1 [(0,.t 42)]),o 44 (.append 1 4 140 (.t 41) (.t 43)),m 4 44]) (.reg [m 45 3,o 46 (.call false 54 [.t 45]),m 3 46]))))))))
 (.seq (.reg [o 7 (.box 146 (.c (.agg [.nilp,.vs true 0 []])))])
 (.seq (.seq (.reg [m 47 4,o 48 (.call false 56 [.t 47])])
 (.block 4 (.rangef [7,9] (.t 48) [49,50] (.reg [m 9 50])
 (.block 5
 (.seq (.reg [m 51 9,o 52 (.call false 57 [.t 51]),o 10 (.box 150 (.c (.agg [.int .u8 0,.int .u8 0,.int .u8 0,.int .u8 0,.int .u8 0,.int .u8 0,.int .u8 0,.int .u8 0,.int .u8 0]))),⟨none,.store 9 (.t 10) (.t 52),
 none,none⟩]) (.reg [o 53 (.aslice 9 (.t 10)),o 54 (.call false 58 [.t 7,.t 53])]))))))
 (.seq (.reg [o 55 (.call false 60 [.t 7]),o 56 (.call false 59 [.t 55,.c (.str [48])]),m 11 56])
 (.seq (.seq (.reg [o 57 (.faddr 0 (.t 1)),o 58 (.lload 1 none (.t 57))])
 (.cond (.t 58)
 (.seq (.reg [m 59 11,o 60 (.bin .add (.c (.str [45])) (.t 59)),m 2 60]) (.ret)) (.skip)))
 (.seq (.reg [m 61 11,m 2 61]) (.ret))))))))))⟩
def code32:AFn:=⟨[.tmp 2],
 .seq (.reg [o 2 (.mv (.c (.str [])))])
 (.seq (.reg [m 3 0,o 4 (.call false 64 [.t 3]),m 2 4]) (.ret))⟩
def code55:AFn:=⟨[.tmp 6,.tmp 7],
 .seq (.reg [o 6 (.mv (.c (.int .u32 0))),o 7 (.mv (.c (.int .u32 0)))])
 (.seq (.seq (.reg [m 9 2,o 10 (.bin .neq (.t 9) (.c (.int .u32 0))),m 11 10,w 12 (.mv (.t 2)) (11,true),w 13 (.mv (.t 0)) (11,true),w 14 (.bin .leq (.t 12) (.t 13)) (11,true),o 15 (.pick (.t 11) (.t 14) (.c (.bool false)))])
 (.cond (.t 15) (.reg [o 16 (.bad),⟨none,.bad,none,none⟩]) (.skip)))
 (.seq (.reg [m 17 0,o 18 (.toInt .u64 (.t 17)),o 19 (.bin .shl (.t 18) (.c (.int .u64 32))),m 20 1,o 21 (.toInt .u64 (.t 20)),o 22 (.bin .or (.t 19) (.t 21)),m 8 22])
 (.seq (.dreg 0 [(m 23 8,[]),(m 24 2,[]),(o 25 (.toInt .u64 (.t 24)),[]),(o 26 (.bin .quo (.t 23) (.t 25)),[]),(o 27 (.toInt .u32 (.t 26)),[]),(m 28 8,[]),(m 29 2,[]),(o 30 (.toInt .u64 (.t 29)),[]),(o 31 (.bin .rem (.t 28) (.t 30)),
 []),(o 32 (.toInt .u32 (.t 31)),[]),(m 6 27,[]),(m 7 32,[])]) (.ret))))⟩
def code57:AFn:=⟨[.cell 2 (some 9)],
 .seq (.reg [o 2 (.lbox (.c (.agg [.int .u8 0,.int .u8 0,.int .u8 0,.int .u8 0,.int .u8 0,.int .u8 0,.int .u8 0,.int .u8 0,.int .u8 0])))])
 (.seq (.reg [o 3 (.lbox (.c (.agg [.int .u8 0,.int .u8 0,.int .u8 0,.int .u8 0,.int .u8 0,.int .u8 0,.int .u8 0,.int .u8 0,.int .u8 0])))])
 (.seq (.seq (.reg [o 5 (.mv (.c (.int .i64 0)))])
 (.block 0
 (.loop [0,2,3,5]
 (.seq (.reg [o 6 (.bin .lss (.t 5) (.c (.int .i64 9)))])
 (.seq (.cond (.t 6) (.skip) (.exit 0))
 (.seq (.block 1
 (.seq (.reg [m 7 5,m 4 7])
 (.seq (.reg [m 8 4,o 9 (.bin .sub (.c (.int .i64 8)) (.t 8)),m 10 0,o 11 (.bin .rem (.t 10) (.c (.int .u32 10))),o 12 (.bin .add (.c (.int .u32 48)) (.t 11)),o 13 (.toInt .u8 (.t 12)),o 14 (.iaddrA 9 1 (.t 3) (.t 9)),
 ⟨none,.lstore 3 1 (.t 14) (.t 13),none,none⟩]) (.reg [m 15 0,o 16 (.bin .quo (.t 15) (.c (.int .u32 10))),m 0 16])))) (.reg [o 17 (.bin .add (.t 5) (.c (.int .i64 1))),m 5 17])))))))
 (.seq (.reg [o 18 (.lload 3 (some 9) (.t 3)),⟨none,.lstore 2 9 (.t 2) (.t 18),none,none⟩]) (.ret))))⟩
def code58:AFn:=⟨[.tmp 4,.tmp 5],
 .seq (.reg [o 4 (.mv (.c (.int .i64 0))),o 5 (.mv (.c (.nili)))])
 (.seq (.reg [m 6 0,o 7 (.call false 81 [.t 6])])
 (.seq (.reg [m 8 0,m 9 0,o 10 (.nilchk (.t 9)),o 11 (.faddr 1 (.t 10)),o 12 (.load none (.t 11)),m 13 1,o 14 (.append 1 1 5 (.t 12) (.t 13)),o 15 (.nilchk (.t 8)),o 16 (.faddr 1 (.t 15)),⟨none,.store 1 (.t 16) (.t 14),
 none,none⟩])
 (.seq (.reg [m 17 1,o 18 (.len 1 (.t 17)),m 4 18,o 5 (.mv (.c (.nili)))]) (.ret))))⟩
def code59:AFn:=⟨[.tmp 4],
 .seq (.reg [o 4 (.mv (.c (.str [])))])
 (.seq (.seq (.reg [m 7 0,o 8 (.bin .eql (.t 7) (.c (.str []))),m 9 8,w 10 (.mv (.t 1)) (9,false),w 11 (.bin .eql (.t 10) (.c (.str []))) (9,false),o 12 (.pick (.t 9) (.c (.bool true)) (.t 11))])
 (.cond (.t 12)
 (.seq (.reg [m 13 0,m 4 13]) (.ret)) (.skip)))
 (.seq (.seq (.reg [m 14 1,o 15 (.len 0 (.t 14)),o 16 (.bin .eql (.t 15) (.c (.int .i64 1))),m 17 16,w 18 (.mv (.t 1)) (17,true),w 19 (.sidx (.t 18) (.c (.int .i64 0))) (17,true),w 20 (.bin .lss (.t 19) (.c (.int .u8 128))) (17,
 true),o 21 (.pick (.t 17) (.t 20) (.c (.bool false)))])
 (.cond (.t 21)
 (.seq (.reg [m 22 0,m 23 1,o 24 (.sidx (.t 23) (.c (.int .i64 0))),o 25 (.call false 82 [.t 22,.t 24]),m 4 25]) (.ret)) (.skip)))
 (.seq (.seq (.reg [m 27 1,o 28 (.call false 83 [.t 27]),m 26 28,o 29 (.extract 0 (.t 26)),o 30 (.extract 1 (.t 26)),o 5 (.box 187 (.c (.agg [.bool false,.bool false,.bool false,.bool false,.bool false,.bool false,
 .bool false,.bool false,.bool false,.bool false,.bool false,.bool false,.bool false,.bool false,.bool false,.bool false,.bool false,.bool false,.bool false,.bool false,.bool false,.bool false,.bool false,.bool false,
 .bool false,.bool false,.bool false,.bool false,.bool false,.bool false,.bool false,.bool false,.bool false,.bool false,.bool false,.bool false,.bool false,.bool false,.bool false,.bool false,.bool false,.bool false,
 .bool false,.bool false,.bool false,.bool false,.bool false,.bool false,.bool false,.bool false,.bool false,.bool false,.bool false,.bool false,.bool false,.bool false,.bool false,.bool false,.bool false,.bool false,
 .bool false,.bool false,.bool false,.bool false,.bool false,.bool false,.bool false,.bool false,.bool false,.bool false,.bool false,.bool false,.bool false,.bool false,.bool false,.bool false,.bool false,.bool false,
 .bool false,.bool false,.bool false,.bool false,.bool false,.bool false,.bool false,.bool false,.bool false,.bool false,.bool false,.bool false,.bool false,.bool false,.bool false,.bool false,.bool false,.bool false,
 .bool false,.bool false,.bool false,.bool false,.bool false,.bool false,.bool false,.bool false,.bool false,.bool false,.bool false,.bool false,.bool false,.bool false,.bool false,.bool false,.bool false,.bool false,
 .bool false,.bool false,.bool false,.bool false,.bool false,.bool false,.bool false,.bool false,.bool false,.bool false,.bool false,.bool false,.bool false,.bool false,.bool false,.bool false,.bool false,.bool false,
 .bool false,.bool false,.bool false,.bool false,.bool false,.bool false,.bool false,.bool false,.bool false,.bool false,.bool false,.bool false,.bool false,.bool false,.bool false,.bool false,.bool false,.bool false,
 .bool false,.bool false,.bool false,.bool false,.bool false,.bool false,.bool false,.bool false,.bool false,.bool false,.bool false,.bool false,.bool false,.bool false,.bool false,.bool false,.bool false,.bool false,
 .bool false,.bool false,.bool false,.bool false,.bool false,.bool false,.bool false,.bool false,.bool false,.bool false,.bool false,.bool false,.bool false,.bool false,.bool false,.bool false,.bool false,.bool false,
 .bool false,.bool false,.bool false,.bool false,.bool false,.bool false,.bool false,.bool false,.bool false,.bool false,.bool false,.bool false,.bool false,.bool false,.bool false,.bool false,.bool false,.bool false,
 .bool false,.bool false,.bool false,.bool false,.bool false,.bool false,.bool false,.bool false,.bool false,.bool false,.bool false,.bool false,.bool false,.bool false,.bool false,.bool false,.bool false,.bool false,
 .bool false,.bool false,.bool false,.bool false,.bool false,.bool false,.bool false,.bool false,.bool false,.bool false,.bool false,.bool false,.bool false,.bool false,.bool false,.bool false,.bool false,.bool false,
 .bool false,.bool false,.bool false,.bool false,.bool false,.bool false,.bool false,.bool false,.bool false,.bool false,.bool false,.bool false,.bool false,.bool false,.bool false,.bool false]))),⟨none,.store 256 (.t 5) (.t 29),
 none,none⟩,m 6 30])
 (.seq (.reg [m 31 6])
 (.cond (.t 31)
 (.seq (.reg [m 32 0,o 33 (.call false 84 [.t 32,.t 5]),m 4 33]) (.ret)) (.skip))))
 (.seq (.reg [m 34 0,m 35 1,o 36 (.call false 85 [.t 34,.t 35]),m 4 36]) (.ret)))))⟩
def code60:AFn:=⟨[.tmp 2],
 .seq (.reg [o 2 (.mv (.c (.str [])))])
 (.seq (.dreg 0 [(m 3 0,[]),(o 4 (.nilchk (.t 3)),[]),(o 5 (.faddr 1 (.t 4)),[]),(o 6 (.load none (.t 5)),[]),(o 7 (.sldata (.t 6)),[]),(m 8 0,[]),(o 9 (.nilchk (.t 8)),[]),(o 10 (.faddr 1 (.t 9)),[]),(o 11 (.load none (.t 10)),
 []),(o 12 (.len 1 (.t 11)),[]),(o 13 (.ustr 5 (.t 7) (.t 12)),[]),(m 2 13,[])]) (.ret))⟩
def code64:AFn:=⟨[.tmp 2],
 .seq (.reg [o 2 (.mv (.c (.str [])))])
 (.seq (.reg [m 3 0,o 4 (.call false 87 [.t 3,.c (.int .i64 10)]),m 2 4]) (.ret))⟩
def code81:AFn:=⟨[],
 .seq (.reg [m 2 0,o 3 (.nilchk (.t 2)),o 4 (.faddr 0 (.t 3)),o 5 (.load none (.t 4)),o 6 (.eq (.ptr) false true (.t 5) (.c (.nilp)))])
 (.cond (.t 6) (.reg [m 7 0,m 8 0,o 9 (.uptr (.t 8)),o 10 (.ext (.idp) [.t 9]),o 11 (.upto [(146,0,2)] (.t 10)),o 12 (.nilchk (.t 7)),o 13 (.faddr 0 (.t 12)),⟨none,.store 1 (.t 13) (.t 11),none,none⟩])
 (.seq (.reg [m 14 0,o 15 (.nilchk (.t 14)),o 16 (.faddr 0 (.t 15)),o 17 (.load none (.t 16)),m 18 0,o 19 (.eq (.ptr) true false (.t 17) (.t 18))])
 (.cond (.t 19) (.bad) (.skip))))⟩
def code82:AFn:=⟨[.tmp 4],
 .seq (.reg [o 4 (.mv (.c (.str [])))])
 (.seq (.block 0
 (.loop [0,1,3]
 (.seq (.seq (.reg [m 5 0,o 6 (.len 0 (.t 5)),o 7 (.bin .gtr (.t 6) (.c (.int .i64 0))),m 8 7,w 9 (.mv (.t 0)) (8,true),w 10 (.sidx (.t 9) (.c (.int .i64 0))) (8,true),w 11 (.mv (.t 1)) (8,true),w 12 (.bin .eql (.t 10) (.t 11)) (8,
 true),o 13 (.pick (.t 8) (.t 12) (.c (.bool false)))])
 (.cond (.t 13) (.skip) (.exit 0)))
 (.block 1 (.reg [m 14 0,o 15 (.sstr (.t 14) (some (.c (.int .i64 1))) none),m 0 15])))))
 (.seq (.reg [m 16 0,m 4 16]) (.ret)))⟩
def code87:AFn:=⟨[.tmp 4],
 .seq (.reg [o 4 (.mv (.c (.str [])))])
 (.seq (.seq (.reg [m 10 1,o 11 (.bin .eql (.t 10) (.c (.int .i64 10)))])
 (.cond (.t 11)
 (.seq (.seq (.reg [m 12 0,o 13 (.bin .leq (.c (.int .i64 0)) (.t 12)),m 14 13,w 15 (.mv (.t 0)) (14,true),w 16 (.bin .lss (.t 15) (.c (.int .i64 100))) (14,true),o 17 (.pick (.t 14) (.t 16) (.c (.bool false)))])
 (.cond (.t 17)
 (.seq (.reg [m 18 0,o 19 (.call false 102 [.t 18]),m 4 19]) (.ret)) (.skip)))
 (.seq (.reg [o 5 (.box 221 (.c (.agg [.int .u8 0,.int .u8 0,.int .u8 0,.int .u8 0,.int .u8 0,.int .u8 0,.int .u8 0,.int .u8 0,.int .u8 0,.int .u8 0,.int .u8 0,.int .u8 0,.int .u8 0,.int .u8 0,.int .u8 0,.int .u8 0,
 .int .u8 0,.int .u8 0,.int .u8 0,.int .u8 0,.int .u8 0,.int .u8 0,.int .u8 0,.int .u8 0])))])
 (.seq (.reg [m 20 0,o 21 (.toInt .u64 (.t 20)),m 6 21])
 (.seq (.seq (.reg [m 22 0,o 23 (.bin .lss (.t 22) (.c (.int .i64 0)))])
 (.cond (.t 23) (.reg [m 24 6,o 25 (.un .neg (.t 24)),m 6 25]) (.skip)))
 (.seq (.reg [m 26 6,o 27 (.call false 103 [.t 26]),m 7 27])
 (.seq (.reg [m 28 7,o 29 (.bin .add (.c (.int .i64 1)) (.t 28)),o 30 (.bad),m 31 6,o 32 (.call false 104 [.t 30,.t 31])])
 (.seq (.seq (.reg [m 33 0,o 34 (.bin .lss (.t 33) (.c (.int .i64 0)))])
 (.cond (.t 34)
 (.seq (.reg [o 35 (.iaddrA 24 1 (.t 5) (.c (.int .i64 0))),⟨none,.store 1 (.t 35) (.c (.int .u8 45)),none,none⟩])
 (.seq (.reg [m 36 7,o 37 (.bin .add (.c (.int .i64 1)) (.t 36)),o 38 (.bad),o 39 (.bytesToStr (.t 38)),m 4 39]) (.ret))) (.skip)))
 (.seq (.reg [m 40 7,o 41 (.bin .add (.c (.int .i64 1)) (.t 40)),o 42 (.bad),o 43 (.bytesToStr (.t 42)),m 4 43]) (.ret))))))))) (.skip)))
 (.seq (.reg [m 45 0,o 46 (.toInt .u64 (.t 45)),m 47 1,m 48 0,o 49 (.bin .lss (.t 48) (.c (.int .i64 0))),o 50 (.call false 105 [.c (.vs true 0 []),.t 46,.t 47,.t 49,.c (.bool false)]),m 44 50,o 51 (.extract 0 (.t 44)),
 o 52 (.extract 1 (.t 44)),m 8 51,m 9 52])
 (.seq (.reg [m 53 9,m 4 53]) (.ret))))⟩
def yEj:AFn:=⟨[.tmp 2],
 .seq (.reg [o 2 (.mv (.c (.str [])))])
 (.seq (.seq (.reg [m 3 0,o 4 (.bin .lss (.t 3) (.c (.int .i64 10)))])
 (.cond (.t 4)
 (.seq (.reg [m 5 0,m 6 0,o 7 (.bin .add (.t 6) (.c (.int .i64 1))),o 8 (.sstr (.c (.str [48,49,50,51,52,53,54,55,56,57,97,98,99,100,101,102,103,104,105,106,107,108,109,110,111,112,113,114,115,
 116,117,118,119,120,121,122])) (some (.t 5)) (some (.t 7))),m 2 8]) (.ret)) (.skip)))
 (.seq (.reg [m 9 0,o 10 (.bin .mul (.t 9) (.c (.int .i64 2))),m 11 0,o 12 (.bin .mul (.t 11) (.c (.int .i64 2))),o 13 (.bin .add (.t 12) (.c (.int .i64 2))),o 14 (.sstr (.c (.str [48,48,48,49,48,50,48,51,48,52,
 48,53,48,54,48,55,48,56,48,57,49,48,49,49,49,50,49,51,49,52,49,53,49,54,49,55,49,56,49,57,50,48,50,49,50,50,50,51,50,52,50,53,50,54,50,55,50,56,50,57,51,48,51,49,51,50,
 51,51,51,52,51,53,51,54,51,55,51,56,51,57,52,48,52,49,52,50,52,51,52,52,52,53,52,54,52,55,52,56,52,57,53,48,53,49,53,50,53,51,53,52,53,53,53,54,53,55,53,56,53,57,54,48,
 54,49,54,50,54,51,54,52,54,53,54,54,54,55,54,56,54,57,55,48,55,49,55,50,55,51,55,52,55,53,55,54,55,55,55,56,55,57,56,48,56,49,56,50,56,51,56,52,56,53,56,54,56,55,56,56,
 56,57,57,48,57,49,57,50,57,51,57,52,57,53,57,54,57,55,57,56,57,57])) (some (.t 10)) (some (.t 13))),m 2 14]) (.ret)))⟩
structure TX (T:Nat→Option AFn):Prop where
 t30:T 30=some code30
 t32:T 32=some code32
 t55:T 55=some code55
 t57:T 57=some code57
 t58:T 58=some code58
 t59:T 59=some code59
 t60:T 60=some code60
 t64:T 64=some code64
 t81:T 81=some code81
 t82:T 82=some code82
 t87:T 87=some code87
 t102:T 102=some yEj
def code68:AFn:=⟨[.tmp 2],
 .seq (.reg [o 2 (.mv (.c (.bool false)))])
 (.seq (.block 0
 (.loop [0]
 (.seq (.seq (.reg [m 7 0,o 8 (.len 0 (.t 7)),o 9 (.bin .gtr (.t 8) (.c (.int .i64 0)))])
 (.cond (.t 9) (.skip) (.exit 0)))
 (.block 1
 (.seq (.reg [m 10 0,o 11 (.sidx (.t 10) (.c (.int .i64 0))),m 3 11])
 (.seq (.seq (.reg [m 12 3,o 13 (.bin .lss (.t 12) (.c (.int .u8 128)))])
 (.cond (.t 13)
 (.seq (.reg [m 14 0,o 15 (.sstr (.t 14) (some (.c (.int .i64 1))) none),m 0 15])
 (.seq (.seq (.reg [m 16 0,o 17 (.len 0 (.t 16)),o 18 (.bin .gtr (.t 17) (.c (.int .i64 8))),m 19 18,w 20 (.mv (.t 0)) (19,true),w 21 (.call false 88 [.t 20]) (19,true),w 22 (.bin .and (.t 21) (.c (.int .u64 9259542123273814144))) (19,
 true),w 23 (.bin .eql (.t 22) (.c (.int .u64 0))) (19,true),o 24 (.pick (.t 19) (.t 23) (.c (.bool false)))])
 (.cond (.t 24)
 (.seq (.reg [m 25 0,o 26 (.sstr (.t 25) (some (.c (.int .i64 8))) none),m 0 26])
 (.seq (.dreg 0 [(m 27 0,[]),(o 28 (.len 0 (.t 27)),[]),(o 29 (.bin .gtr (.t 28) (.c (.int .i64 16))),[]),(m 30 29,[]),(w 31 (.mv (.t 0)) (30,true),[]),(w 32 (.call false 88 [.t 31]) (30,true),[]),(w 33 (.mv (.t 0)) (30,
 true),[]),(w 34 (.sstr (.t 33) (some (.c (.int .i64 8))) none) (30,true),[]),(w 35 (.call false 88 [.t 34]) (30,true),[]),(w 36 (.bin .or (.t 32) (.t 35)) (30,true),[]),(w 37 (.bin .and (.t 36) (.c (.int .u64 9259542123273814144))) (30,
 true),[]),(w 38 (.bin .eql (.t 37) (.c (.int .u64 0))) (30,true),[]),(o 39 (.pick (.t 30) (.t 38) (.c (.bool false))),[])])
 (.cond (.t 39)
 (.seq (.reg [m 40 0,o 41 (.sstr (.t 40) (some (.c (.int .i64 16))) none),m 0 41])
 (.block 2
 (.loop [0]
 (.seq (.seq (.dreg 0 [(m 42 0,[]),(o 43 (.len 0 (.t 42)),[]),(o 44 (.bin .gtr (.t 43) (.c (.int .i64 32))),[]),(m 45 44,[]),(w 46 (.mv (.t 0)) (45,true),[]),(w 47 (.call false 88 [.t 46]) (45,true),[]),(w 48 (.mv (.t 0)) (45,
 true),[]),(w 49 (.sstr (.t 48) (some (.c (.int .i64 8))) none) (45,true),[]),(w 50 (.call false 88 [.t 49]) (45,true),[]),(w 51 (.bin .or (.t 47) (.t 50)) (45,true),[]),(w 52 (.mv (.t 0)) (45,true),[]),(w 53 (.sstr (.t 52) (some (.c (.int .i64 16))) none) (45,
 true),[]),(w 54 (.call false 88 [.t 53]) (45,true),[]),(w 55 (.mv (.t 0)) (45,true),[]),(w 56 (.sstr (.t 55) (some (.c (.int .i64 24))) none) (45,true),[]),(w 57 (.call false 88 [.t 56]) (45,true),[]),(w 58 (.bin .or (.t 54) (.t 57)) (45,
 true),[]),(w 59 (.bin .or (.t 51) (.t 58)) (45,true),[]),(w 60 (.bin .and (.t 59) (.c (.int .u64 9259542123273814144))) (45,true),[]),(w 61 (.bin .eql (.t 60) (.c (.int .u64 0))) (45,true),[]),(o 62 (.pick (.t 45) (.t 61) (.c (.bool false))),
 [])])
 (.cond (.t 62) (.skip) (.exit 2)))
 (.block 3 (.reg [m 63 0,o 64 (.sstr (.t 63) (some (.c (.int .i64 32))) none),m 0 64])))))) (.skip)))) (.skip))) (.exit 1))) (.skip)))
 (.seq (.reg [m 65 3,o 66 (.iaddrA 256 1 (.c (.vptr firstD 0)) (.t 65)),o 67 (.load none (.t 66)),m 4 67])
 (.seq (.reg [m 68 4,o 69 (.bin .and (.t 68) (.c (.int .u8 7))),o 70 (.toInt .i64 (.t 69)),m 5 70])
 (.seq (.reg [m 71 4,o 72 (.bin .shr (.t 71) (.c (.int .u64 4))),o 73 (.iaddrA 16 2 (.c (.vptr acceptD 0)) (.t 72)),o 74 (.load (some 2) (.t 73)),o 6 (.lbox (.c (.agg [.int .u8 0,.int .u8 0]))),⟨none,.lstore 6 2 (.t 6) (.t 74),
 none,none⟩])
 (.seq (.reg [m 75 5])
 (.block 4
 (.seq (.reg [o 77 (.bin .eql (.t 75) (.c (.int .i64 2))),m 76 77])
 (.cond (.t 76)
 (.seq (.seq (.dreg 0 [(m 78 0,[]),(o 79 (.len 0 (.t 78)),[]),(o 80 (.bin .lss (.t 79) (.c (.int .i64 2))),[]),(m 81 80,[]),(w 82 (.mv (.t 0)) (81,false),[]),(w 83 (.sidx (.t 82) (.c (.int .i64 1))) (81,false),
 []),(w 84 (.faddr 0 (.t 6)) (81,false),[]),(w 85 (.lload 6 none (.t 84)) (81,false),[]),(w 86 (.bin .lss (.t 83) (.t 85)) (81,false),[]),(o 87 (.pick (.t 81) (.c (.bool true)) (.t 86)),[]),(m 88 87,[]),(w 89 (.faddr 1 (.t 6)) (88,
 false),[]),(w 90 (.lload 6 none (.t 89)) (88,false),[]),(w 91 (.mv (.t 0)) (88,false),[]),(w 92 (.sidx (.t 91) (.c (.int .i64 1))) (88,false),[]),(w 93 (.bin .lss (.t 90) (.t 92)) (88,false),[]),(o 94 (.pick (.t 88) (.c (.bool true)) (.t 93)),
 [])])
 (.cond (.t 94)
 (.seq (.reg [o 2 (.mv (.c (.bool false)))]) (.ret)) (.skip))) (.reg [m 95 0,o 96 (.sstr (.t 95) (some (.c (.int .i64 2))) none),m 0 96]))
 (.seq (.reg [o 98 (.bin .eql (.t 75) (.c (.int .i64 3))),m 97 98])
 (.cond (.t 97)
 (.seq (.seq (.dreg 0 [(m 99 0,[]),(o 100 (.len 0 (.t 99)),[]),(o 101 (.bin .lss (.t 100) (.c (.int .i64 3))),[]),(m 102 101,[]),(w 103 (.mv (.t 0)) (102,false),[]),(w 104 (.sidx (.t 103) (.c (.int .i64 1))) (102,
 false),[]),(w 105 (.faddr 0 (.t 6)) (102,false),[]),(w 106 (.lload 6 none (.t 105)) (102,false),[]),(w 107 (.bin .lss (.t 104) (.t 106)) (102,false),[]),(o 108 (.pick (.t 102) (.c (.bool true)) (.t 107)),[]),(m 109 108,
 []),(w 110 (.faddr 1 (.t 6)) (109,false),[]),(w 111 (.lload 6 none (.t 110)) (109,false),[]),(w 112 (.mv (.t 0)) (109,false),[]),(w 113 (.sidx (.t 112) (.c (.int .i64 1))) (109,false),[]),(w 114 (.bin .lss (.t 111) (.t 113)) (109,
 false),[]),(o 115 (.pick (.t 109) (.c (.bool true)) (.t 114)),[]),(m 116 115,[]),(w 117 (.mv (.t 0)) (116,false),[]),(w 118 (.sidx (.t 117) (.c (.int .i64 2))) (116,false),[]),(w 119 (.bin .lss (.t 118) (.c (.int .u8 128))) (116,
 false),[]),(o 120 (.pick (.t 116) (.c (.bool true)) (.t 119)),[]),(m 121 120,[]),(w 122 (.mv (.t 0)) (121,false),[]),(w 123 (.sidx (.t 122) (.c (.int .i64 2))) (121,false),[]),(w 124 (.bin .lss (.c (.int .u8 191)) (.t 123)) (121,
 false),[]),(o 125 (.pick (.t 121) (.c (.bool true)) (.t 124)),[])])
 (.cond (.t 125)
 (.seq (.reg [o 2 (.mv (.c (.bool false)))]) (.ret)) (.skip))) (.reg [m 126 0,o 127 (.sstr (.t 126) (some (.c (.int .i64 3))) none),m 0 127]))
 (.seq (.reg [o 129 (.bin .eql (.t 75) (.c (.int .i64 4))),m 128 129])
 (.cond (.t 128)
 (.seq (.seq (.dreg 0 [(m 130 0,[]),(o 131 (.len 0 (.t 130)),[]),(o 132 (.bin .lss (.t 131) (.c (.int .i64 4))),[]),(m 133 132,[]),(w 134 (.mv (.t 0)) (133,false),[]),(w 135 (.sidx (.t 134) (.c (.int .i64 1))) (133,
 false),[]),(w 136 (.faddr 0 (.t 6)) (133,false),[]),(w 137 (.lload 6 none (.t 136)) (133,false),[]),(w 138 (.bin .lss (.t 135) (.t 137)) (133,false),[]),(o 139 (.pick (.t 133) (.c (.bool true)) (.t 138)),[]),(m 140 139,
 []),(w 141 (.faddr 1 (.t 6)) (140,false),[]),(w 142 (.lload 6 none (.t 141)) (140,false),[]),(w 143 (.mv (.t 0)) (140,false),[]),(w 144 (.sidx (.t 143) (.c (.int .i64 1))) (140,false),[]),(w 145 (.bin .lss (.t 142) (.t 144)) (140,
 false),[]),(o 146 (.pick (.t 140) (.c (.bool true)) (.t 145)),[]),(m 147 146,[]),(w 148 (.mv (.t 0)) (147,false),[]),(w 149 (.sidx (.t 148) (.c (.int .i64 2))) (147,false),[]),(w 150 (.bin .lss (.t 149) (.c (.int .u8 128))) (147,
 false),[]),(o 151 (.pick (.t 147) (.c (.bool true)) (.t 150)),[]),(m 152 151,[]),(w 153 (.mv (.t 0)) (152,false),[]),(w 154 (.sidx (.t 153) (.c (.int .i64 2))) (152,false),[]),(w 155 (.bin .lss (.c (.int .u8 191)) (.t 154)) (152,
 false),[]),(o 156 (.pick (.t 152) (.c (.bool true)) (.t 155)),[]),(m 157 156,[]),(w 158 (.mv (.t 0)) (157,false),[]),(w 159 (.sidx (.t 158) (.c (.int .i64 3))) (157,false),[]),(w 160 (.bin .lss (.t 159) (.c (.int .u8 128))) (157,
 false),[]),(o 161 (.pick (.t 157) (.c (.bool true)) (.t 160)),[]),(m 162 161,[]),(w 163 (.mv (.t 0)) (162,false),[]),(w 164 (.sidx (.t 163) (.c (.int .i64 3))) (162,false),[]),(w 165 (.bin .lss (.c (.int .u8 191)) (.t 164)) (162,
 false),[]),(o 166 (.pick (.t 162) (.c (.bool true)) (.t 165)),[])])
 (.cond (.t 166)
 (.seq (.reg [o 2 (.mv (.c (.bool false)))]) (.ret)) (.skip))) (.reg [m 167 0,o 168 (.sstr (.t 167) (some (.c (.int .i64 4))) none),m 0 168]))
 (.seq (.reg [o 2 (.mv (.c (.bool false)))]) (.ret)))))))))))))))))))
 (.seq (.reg [o 2 (.mv (.c (.bool true)))]) (.ret)))⟩
def code88:AFn:=⟨[.tmp 2],
 .seq (.reg [o 2 (.mv (.c (.int .u64 0)))])
 (.seq (.cond (.c (.bool false))
 (.seq (.dreg 0 [(m 3 0,[]),(o 4 (.sidx (.t 3) (.c (.int .i64 0))),[]),(o 5 (.toInt .u64 (.t 4)),[]),(m 6 0,[]),(o 7 (.sidx (.t 6) (.c (.int .i64 1))),[]),(o 8 (.toInt .u64 (.t 7)),[]),(o 9 (.bin .shl (.t 8) (.c (.int .u64 8))),
 []),(o 10 (.bin .or (.t 5) (.t 9)),[]),(m 11 0,[]),(o 12 (.sidx (.t 11) (.c (.int .i64 2))),[]),(o 13 (.toInt .u64 (.t 12)),[]),(o 14 (.bin .shl (.t 13) (.c (.int .u64 16))),[]),(o 15 (.bin .or (.t 10) (.t 14)),
 []),(m 16 0,[]),(o 17 (.sidx (.t 16) (.c (.int .i64 3))),[]),(o 18 (.toInt .u64 (.t 17)),[]),(o 19 (.bin .shl (.t 18) (.c (.int .u64 24))),[]),(o 20 (.bin .or (.t 15) (.t 19)),[]),(m 2 20,[])]) (.ret)) (.skip))
 (.seq (.dreg 0 [(m 21 0,[]),(o 22 (.sidx (.t 21) (.c (.int .i64 0))),[]),(o 23 (.toInt .u64 (.t 22)),[]),(m 24 0,[]),(o 25 (.sidx (.t 24) (.c (.int .i64 1))),[]),(o 26 (.toInt .u64 (.t 25)),[]),(o 27 (.bin .shl (.t 26) (.c (.int .u64 8))),
 []),(o 28 (.bin .or (.t 23) (.t 27)),[]),(m 29 0,[]),(o 30 (.sidx (.t 29) (.c (.int .i64 2))),[]),(o 31 (.toInt .u64 (.t 30)),[]),(o 32 (.bin .shl (.t 31) (.c (.int .u64 16))),[]),(o 33 (.bin .or (.t 28) (.t 32)),
 []),(m 34 0,[]),(o 35 (.sidx (.t 34) (.c (.int .i64 3))),[]),(o 36 (.toInt .u64 (.t 35)),[]),(o 37 (.bin .shl (.t 36) (.c (.int .u64 24))),[]),(o 38 (.bin .or (.t 33) (.t 37)),[]),(m 39 0,[]),(o 40 (.sidx (.t 39) (.c (.int .i64 4))),
 []),(o 41 (.toInt .u64 (.t 40)),[]),(o 42 (.bin .shl (.t 41) (.c (.int .u64 32))),[]),(o 43 (.bin .or (.t 38) (.t 42)),[]),(m 44 0,[]),(o 45 (.sidx (.t 44) (.c (.int .i64 5))),[]),(o 46 (.toInt .u64 (.t 45)),[]),
 (o 47 (.bin .shl (.t 46) (.c (.int .u64 40))),[]),(o 48 (.bin .or (.t 43) (.t 47)),[]),(m 49 0,[]),(o 50 (.sidx (.t 49) (.c (.int .i64 6))),[]),(o 51 (.toInt .u64 (.t 50)),[]),(o 52 (.bin .shl (.t 51) (.c (.int .u64 48))),
 []),(o 53 (.bin .or (.t 48) (.t 52)),[]),(m 54 0,[]),(o 55 (.sidx (.t 54) (.c (.int .i64 7))),[]),(o 56 (.toInt .u64 (.t 55)),[]),(o 57 (.bin .shl (.t 56) (.c (.int .u64 56))),[]),(o 58 (.bin .or (.t 53) (.t 57)),
 []),(m 2 58,[])]) (.ret)))⟩
structure TU (T:Nat→Option AFn):Prop where
 t68:T 68=some code68
 t88:T 88=some code88
def code3:AFn:=⟨[.tmp 2],
 .seq (.reg [o 2 (.mv (.c (.bool false)))])
 (.seq (.seq (.reg [m 13 0,o 14 (.call false 4 [.t 13]),m 15 14,w 16 (.mv (.t 0)) (15,false),w 17 (.len 1 (.t 16)) (15,false),w 18 (.bin .gtr (.t 17) (.c (.int .i64 40))) (15,false),o 19 (.pick (.t 15) (.c (.bool true)) (.t 18))])
 (.cond (.t 19)
 (.seq (.reg [o 20 (.call false 5 []),m 2 20]) (.ret)) (.skip)))
 (.seq (.reg [o 22 (.call false 7 [.c (.int .i64 1000),.c (.int .i64 5)]),o 23 (.call false 6 [.t 22,.c (.nilp)]),m 21 23,o 24 (.extract 0 (.t 21)),o 25 (.extract 1 (.t 21)),m 3 24,m 4 25])
 (.seq (.seq (.reg [m 26 4,o 27 (.bin .neq (.t 26) (.c (.int .i64 0))),m 28 27,w 29 (.mv (.t 3)) (28,false),w 30 (.eq (.ptr) false true (.t 29) (.c (.nilp))) (28,false),o 31 (.pick (.t 28) (.c (.bool true)) (.t 30))])
 (.cond (.t 31)
 (.seq (.reg [o 2 (.mv (.c (.bool false)))]) (.ret)) (.skip)))
 (.seq (.reg [m 33 3,m 34 0,o 35 (.call false 8 [.t 33,.t 34]),m 32 35,o 36 (.extract 0 (.t 32)),o 37 (.extract 1 (.t 32)),m 5 36,m 4 37])
 (.seq (.seq (.reg [m 38 4,o 39 (.bin .neq (.t 38) (.c (.int .i64 0)))])
 (.cond (.t 39)
 (.seq (.reg [m 40 5,o 41 (.len 1 (.t 40)),o 42 (.bin .eql (.t 41) (.c (.int .i64 0))),m 43 42,w 44 (.mv (.t 3)) (43,true),w 45 (.call false 9 [.t 44]) (43,true),w 46 (.bin .eql (.t 45) (.c (.int .i64 0))) (43,true),
 o 47 (.pick (.t 43) (.t 46) (.c (.bool false))),m 48 47,w 49 (.call false 5 []) (48,true),o 50 (.pick (.t 48) (.t 49) (.c (.bool false))),m 2 50]) (.ret)) (.skip)))
 (.seq (.reg [o 6 (.mv (.c (.int .i64 0)))])
 (.seq (.seq (.reg [o 7 (.mv (.c (.int .i64 0)))])
 (.block 0
 (.loop [0,3,5,6,7]
 (.seq (.seq (.reg [m 51 7,m 52 5,o 53 (.len 1 (.t 52)),o 54 (.bin .lss (.t 51) (.t 53))])
 (.cond (.t 54) (.skip) (.exit 0)))
 (.seq (.block 1
 (.seq (.reg [m 57 3,m 58 5,m 59 7,o 60 (.iaddr 1 (.t 58) (.t 59)),o 61 (.load none (.t 60)),o 62 (.call false 10 [.t 57,.t 61]),m 8 62])
 (.seq (.seq (.reg [m 63 8,o 64 (.bin .gtr (.t 63) (.c (.int .i64 0)))])
 (.cond (.t 64)
 (.seq (.seq (.reg [m 65 8,m 66 6,o 67 (.bin .leq (.t 65) (.t 66)),m 68 67,w 69 (.mv (.t 8)) (68,false),w 70 (.mv (.t 6)) (68,false),w 71 (.bin .add (.t 70) (.c (.int .i64 2))) (68,false),w 72 (.bin .gtr (.t 69) (.t 71)) (68,
 false),o 73 (.pick (.t 68) (.c (.bool true)) (.t 72)),m 74 73,w 75 (.mv (.t 8)) (74,false),w 76 (.mv (.t 6)) (74,false),w 77 (.bin .add (.t 76) (.c (.int .i64 2))) (74,false),w 78 (.bin .eql (.t 75) (.t 77)) (74,
 false),w 79 (.mv (.t 78)) (74,false),w 80 (.mv (.t 0)) (79,true),w 81 (.mv (.t 7)) (79,true),w 82 (.iaddr 8 (.t 80) (.t 81)) (79,true),w 83 (.faddr 0 (.t 82)) (79,true),w 84 (.load none (.t 83)) (79,true),w 85 (.bin .neq (.t 84) (.c (.int .i64 14))) (79,
 true),w 86 (.pick (.t 79) (.t 85) (.c (.bool false))) (74,false),o 87 (.pick (.t 74) (.c (.bool true)) (.t 86))])
 (.cond (.t 87)
 (.seq (.reg [o 2 (.mv (.c (.bool false)))]) (.ret)) (.skip))) (.reg [m 88 8,m 6 88])) (.skip)))
 (.seq (.reg [o 9 (.mv (.c (.int .i64 0)))])
 (.block 2
 (.loop [0,3,5,6,7,8,9]
 (.seq (.seq (.reg [m 89 9,m 90 5,o 91 (.len 1 (.t 90)),o 92 (.bin .lss (.t 89) (.t 91))])
 (.cond (.t 92) (.skip) (.exit 2)))
 (.seq (.block 3
 (.seq (.dreg 0 [(m 95 3,[]),(m 96 5,[]),(m 97 7,[]),(o 98 (.iaddr 1 (.t 96) (.t 97)),[]),(o 99 (.load none (.t 98)),[]),(m 100 5,[]),(m 101 9,[]),(o 102 (.iaddr 1 (.t 100) (.t 101)),[]),(o 103 (.load none (.t 102)),
 []),(o 104 (.call false 11 [.t 95,.t 99,.t 103]),[]),(m 10 104,[])])
 (.seq (.dreg 0 [(m 105 3,[]),(m 106 5,[]),(m 107 7,[]),(o 108 (.iaddr 1 (.t 106) (.t 107)),[]),(o 109 (.load none (.t 108)),[]),(m 110 5,[]),(m 111 9,[]),(o 112 (.iaddr 1 (.t 110) (.t 111)),[]),(o 113 (.load none (.t 112)),
 []),(o 114 (.call false 12 [.t 105,.t 109,.t 113]),[]),(m 11 114,[])])
 (.seq (.seq (.dreg 0 [(m 115 11,[]),(m 116 115,[]),(w 117 (.mv (.t 10)) (116,true),[]),(w 118 (.un .not (.t 117)) (116,true),[]),(o 119 (.pick (.t 116) (.t 118) (.c (.bool false))),[]),(m 120 119,[]),(w 121 (.mv (.t 10)) (120,
 false),[]),(w 122 (.mv (.t 3)) (120,false),[]),(w 123 (.mv (.t 5)) (120,false),[]),(w 124 (.mv (.t 9)) (120,false),[]),(w 125 (.iaddr 1 (.t 123) (.t 124)) (120,false),[]),(w 126 (.load none (.t 125)) (120,false),
 []),(w 127 (.mv (.t 5)) (120,false),[]),(w 128 (.mv (.t 7)) (120,false),[]),(w 129 (.iaddr 1 (.t 127) (.t 128)) (120,false),[]),(w 130 (.load none (.t 129)) (120,false),[]),(w 131 (.call false 11 [.t 122,.t 126,
 .t 130]) (120,false),[]),(w 132 (.eq (.bool) true false (.t 121) (.t 131)) (120,false),[]),(o 133 (.pick (.t 120) (.c (.bool true)) (.t 132)),[]),(m 134 133,[]),(w 135 (.mv (.t 11)) (134,false),[]),(w 136 (.mv (.t 3)) (134,
 false),[]),(w 137 (.mv (.t 5)) (134,false),[]),(w 138 (.mv (.t 9)) (134,false),[]),(w 139 (.iaddr 1 (.t 137) (.t 138)) (134,false),[]),(w 140 (.load none (.t 139)) (134,false),[]),(w 141 (.mv (.t 5)) (134,false),
 []),(w 142 (.mv (.t 7)) (134,false),[]),(w 143 (.iaddr 1 (.t 141) (.t 142)) (134,false),[]),(w 144 (.load none (.t 143)) (134,false),[]),(w 145 (.call false 12 [.t 136,.t 140,.t 144]) (134,false),[]),(w 146 (.eq (.bool) true false (.t 135) (.t 145)) (134,
 false),[]),(o 147 (.pick (.t 134) (.c (.bool true)) (.t 146)),[]),(m 148 147,[]),(w 149 (.mv (.t 7)) (148,false),[]),(w 150 (.mv (.t 9)) (148,false),[]),(w 151 (.bin .eql (.t 149) (.t 150)) (148,false),[]),(w 152 (.mv (.t 151)) (148,
 false),[]),(w 153 (.mv (.t 11)) (152,true),[]),(w 154 (.un .not (.t 153)) (152,true),[]),(w 155 (.pick (.t 152) (.t 154) (.c (.bool false))) (148,false),[]),(o 156 (.pick (.t 148) (.c (.bool true)) (.t 155)),[]),
 (m 157 156,[]),(w 158 (.mv (.t 8)) (157,false),[]),(w 159 (.bin .gtr (.t 158) (.c (.int .i64 0))) (157,false),[]),(w 160 (.mv (.t 159)) (157,false),[]),(w 161 (.mv (.t 3)) (160,false),[]),(w 162 (.mv (.t 5)) (160,
 false),[]),(w 163 (.mv (.t 9)) (160,false),[]),(w 164 (.iaddr 1 (.t 162) (.t 163)) (160,false),[]),(w 165 (.load none (.t 164)) (160,false),[]),(w 166 (.call false 10 [.t 161,.t 165]) (160,false),[]),(w 167 (.bin .gtr (.t 166) (.c (.int .i64 0))) (160,
 false),[]),(w 168 (.pick (.t 160) (.c (.bool true)) (.t 167)) (157,false),[]),(w 169 (.mv (.t 168)) (157,false),[]),(w 170 (.mv (.t 10)) (169,true),[]),(w 171 (.mv (.t 5)) (169,true),[]),(w 172 (.mv (.t 7)) (169,
 true),[]),(w 173 (.iaddr 1 (.t 171) (.t 172)) (169,true),[]),(w 174 (.load none (.t 173)) (169,true),[]),(w 175 (.mv (.t 5)) (169,true),[]),(w 176 (.mv (.t 9)) (169,true),[]),(w 177 (.iaddr 1 (.t 175) (.t 176)) (169,
 true),[]),(w 178 (.load none (.t 177)) (169,true),[]),(w 179 (.bin .eql (.t 174) (.t 178)) (169,true),[]),(w 180 (.eq (.bool) true false (.t 170) (.t 179)) (169,true),[]),(w 181 (.pick (.t 169) (.t 180) (.c (.bool false))) (157,
 false),[]),(o 182 (.pick (.t 157) (.c (.bool true)) (.t 181)),[])])
 (.cond (.t 182)
 (.seq (.reg [o 2 (.mv (.c (.bool false)))]) (.ret)) (.skip)))
 (.seq (.reg [o 12 (.mv (.c (.int .i64 0)))])
 (.block 4
 (.loop [0,3,5,6,7,8,9,10,12]
 (.seq (.seq (.reg [m 183 12,m 184 5,o 185 (.len 1 (.t 184)),o 186 (.bin .lss (.t 183) (.t 185)),m 187 186,w 188 (.mv (.t 10)) (187,true),o 189 (.pick (.t 187) (.t 188) (.c (.bool false)))])
 (.cond (.t 189) (.skip) (.exit 4)))
 (.seq (.block 5
 (.seq (.dreg 0 [(m 192 3,[]),(m 193 5,[]),(m 194 9,[]),(o 195 (.iaddr 1 (.t 193) (.t 194)),[]),(o 196 (.load none (.t 195)),[]),(m 197 5,[]),(m 198 12,[]),(o 199 (.iaddr 1 (.t 197) (.t 198)),[]),(o 200 (.load none (.t 199)),
 []),(o 201 (.call false 11 [.t 192,.t 196,.t 200]),[]),(m 202 201,[]),(w 203 (.mv (.t 3)) (202,true),[]),(w 204 (.mv (.t 5)) (202,true),[]),(w 205 (.mv (.t 7)) (202,true),[]),(w 206 (.iaddr 1 (.t 204) (.t 205)) (202,
 true),[]),(w 207 (.load none (.t 206)) (202,true),[]),(w 208 (.mv (.t 5)) (202,true),[]),(w 209 (.mv (.t 12)) (202,true),[]),(w 210 (.iaddr 1 (.t 208) (.t 209)) (202,true),[]),(w 211 (.load none (.t 210)) (202,
 true),[]),(w 212 (.call false 11 [.t 203,.t 207,.t 211]) (202,true),[]),(w 213 (.un .not (.t 212)) (202,true),[]),(o 214 (.pick (.t 202) (.t 213) (.c (.bool false))),[])])
 (.cond (.t 214)
 (.seq (.reg [o 2 (.mv (.c (.bool false)))]) (.ret)) (.skip)))) (.reg [m 190 12,o 191 (.bin .add (.t 190) (.c (.int .i64 1))),m 12 191])))))))))) (.reg [m 93 9,o 94 (.bin .add (.t 93) (.c (.int .i64 1))),m 9 94]))))))))) (.reg [m 55 7,
 o 56 (.bin .add (.t 55) (.c (.int .i64 1))),m 7 56]))))))
 (.seq (.reg [m 215 3,o 216 (.call false 9 [.t 215]),m 217 6,o 218 (.bin .eql (.t 216) (.t 217)),m 219 218,w 220 (.call false 5 []) (219,true),o 221 (.pick (.t 219) (.t 220) (.c (.bool false))),m 2 221]) (.ret)))))))))⟩
structure TL (T:Nat→Option AFn):Prop where
 t3:T 3=some code3
end Go.Proofs.YtmcdajnpdekocaaGreatDoor.Tab
