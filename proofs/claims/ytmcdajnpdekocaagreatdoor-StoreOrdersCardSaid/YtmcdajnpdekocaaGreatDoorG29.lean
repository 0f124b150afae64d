/- Part. -/
import Derived.Test.YtmcdajnpdekocaaGreatDoorG28
import Derived.Test.YtmcdajnpdekocaaGreatDoorChecked
import Derived.KernelRfl
set_option linter.unusedSectionVars false
set_option linter.unusedSimpArgs false
set_option maxRecDepth 100000
namespace Go.Proofs.YtmcdajnpdekocaaGreatDoor.Tab
open Go Go.Ab Go.Proofs
variable [Vals]
abbrev Lf (i:Nat)(af:Option AFn):Prop:=zQk Tryz.prog gl exts (fun n=>bif Nat.beq n i then af else none)
theorem ok3:Lf 3 af3:= .leaf Tryz.func3 (by kernel_rfl) rfl
theorem ok4:Lf 4 af4:= .leaf Tryz.func4 (by kernel_rfl) rfl
theorem ok5:Lf 5 af5:= .leaf Tryz.func5 (by kernel_rfl) rfl
theorem ok6:Lf 6 af6:= .leaf Tryz.func6 (by kernel_rfl) rfl
theorem ok7:Lf 7 af7:= .leaf Tryz.func7 (by kernel_rfl) rfl
theorem ok8:Lf 8 af8:= .leaf Tryz.func8 (by kernel_rfl) rfl
theorem ok9:Lf 9 af9:= .leaf Tryz.func9 (by kernel_rfl) rfl
theorem ok10:Lf 10 af10:= .leaf Tryz.func10 (by kernel_rfl) rfl
theorem ok11:Lf 11 af11:= .leaf Tryz.func11 (by kernel_rfl) rfl
theorem ok12:Lf 12 af12:= .leaf Tryz.func12 (by kernel_rfl) rfl
theorem ok13:Lf 13 af13:= .leaf Tryz.func13 (by kernel_rfl) rfl
theorem ok14:Lf 14 af14:= .leaf Tryz.func14 (by kernel_rfl) rfl
theorem ok15:Lf 15 af15:= .leaf Tryz.func15 (by kernel_rfl) rfl
theorem ok16:Lf 16 af16:= .leaf Tryz.func16 (by kernel_rfl) rfl
theorem ok17:Lf 17 af17:= .leaf Tryz.func17 (by kernel_rfl) rfl
theorem ok18:Lf 18 af18:= .leaf Tryz.func18 (by kernel_rfl) rfl
theorem ok19:Lf 19 af19:= .leaf Tryz.func19 (by kernel_rfl) rfl
theorem ok20:Lf 20 af20:= .leaf Tryz.func20 (by kernel_rfl) rfl
theorem ok21:Lf 21 af21:= .leaf Tryz.func21 (by kernel_rfl) rfl
theorem ok22:Lf 22 af22:= .leaf Tryz.func22 (by kernel_rfl) rfl
theorem ok23:Lf 23 af23:= .leaf Tryz.func23 (by kernel_rfl) rfl
theorem ok24:Lf 24 af24:= .leaf Tryz.func24 (by kernel_rfl) rfl
theorem ok25:Lf 25 af25:= .leaf Tryz.func25 (by kernel_rfl) rfl
theorem ok26:Lf 26 af26:= .leaf Tryz.func26 (by kernel_rfl) rfl
theorem ok27:Lf 27 af27:= .leaf Tryz.func27 (by kernel_rfl) rfl
theorem ok30:Lf 30 af30:= .leaf Tryz.func30 (by kernel_rfl) rfl
theorem ok31:Lf 31 af31:= .leaf Tryz.func31 (by kernel_rfl) rfl
theorem ok32:Lf 32 af32:= .leaf Tryz.func32 (by kernel_rfl) rfl
theorem ok34:Lf 34 af34:= .leaf Tryz.func34 (by kernel_rfl) rfl
theorem ok35:Lf 35 af35:= .leaf Tryz.func35 (by kernel_rfl) rfl
theorem ok36:Lf 36 af36:= .leaf Tryz.func36 (by kernel_rfl) rfl
theorem ok37:Lf 37 af37:= .leaf Tryz.func37 (by kernel_rfl) rfl
theorem ok38:Lf 38 af38:= .leaf Tryz.func38 (by kernel_rfl) rfl
theorem ok39:Lf 39 af39:= .leaf Tryz.func39 (by kernel_rfl) rfl
theorem ok40:Lf 40 af40:= .leaf Tryz.func40 (by kernel_rfl) rfl
theorem ok41:Lf 41 af41:= .leaf Tryz.func41 (by kernel_rfl) rfl
theorem ok42:Lf 42 af42:= .leaf Tryz.func42 (by kernel_rfl) rfl
theorem ok43:Lf 43 af43:= .leaf Tryz.func43 (by kernel_rfl) rfl
theorem ok44:Lf 44 af44:= .leaf Tryz.func44 (by kernel_rfl) rfl
theorem ok45:Lf 45 af45:= .leaf Tryz.func45 (by kernel_rfl) rfl
theorem ok46:Lf 46 af46:= .leaf Tryz.func46 (by kernel_rfl) rfl
theorem ok47:Lf 47 af47:= .leaf Tryz.func47 (by kernel_rfl) rfl
theorem ok48:Lf 48 af48:= .leaf Tryz.func48 (by kernel_rfl) rfl
theorem ok49:Lf 49 af49:= .leaf Tryz.func49 (by kernel_rfl) rfl
theorem ok50:Lf 50 af50:= .leaf Tryz.func50 (by kernel_rfl) rfl
theorem ok51:Lf 51 af51:= .leaf Tryz.func51 (by kernel_rfl) rfl
theorem ok53:Lf 53 af53:= .leaf Tryz.func53 (by kernel_rfl) rfl
theorem ok54:Lf 54 af54:= .leaf Tryz.func54 (by kernel_rfl) rfl
theorem ok55:Lf 55 af55:= .leaf Tryz.func55 (by kernel_rfl) rfl
theorem ok56:Lf 56 af56:= .leaf Tryz.func56 (by kernel_rfl) rfl
theorem ok57:Lf 57 af57:= .leaf Tryz.func57 (by kernel_rfl) rfl
theorem ok58:Lf 58 af58:= .leaf Tryz.func58 (by kernel_rfl) rfl
theorem ok59:Lf 59 af59:= .leaf Tryz.func59 (by kernel_rfl) rfl
theorem ok60:Lf 60 af60:= .leaf Tryz.func60 (by kernel_rfl) rfl
theorem ok61:Lf 61 af61:= .leaf Tryz.func61 (by kernel_rfl) rfl
theorem ok62:Lf 62 af62:= .leaf Tryz.func62 (by kernel_rfl) rfl
theorem ok63:Lf 63 af63:= .leaf Tryz.func63 (by kernel_rfl) rfl
theorem ok64:Lf 64 af64:= .leaf Tryz.func64 (by kernel_rfl) rfl
theorem ok66:Lf 66 af66:= .leaf Tryz.func66 (by kernel_rfl) rfl
theorem ok67:Lf 67 af67:= .leaf Tryz.func67 (by kernel_rfl) rfl
theorem ok68:Lf 68 af68:= .leaf Tryz.func68 (by kernel_rfl) rfl
theorem ok69:Lf 69 af69:= .leaf Tryz.func69 (by kernel_rfl) rfl
theorem ok70:Lf 70 af70:= .leaf Tryz.func70 (by kernel_rfl) rfl
theorem ok71:Lf 71 af71:= .leaf Tryz.func71 (by kernel_rfl) rfl
theorem ok72:Lf 72 af72:= .leaf Tryz.func72 (by kernel_rfl) rfl
theorem ok73:Lf 73 af73:= .leaf Tryz.func73 (by kernel_rfl) rfl
theorem ok74:Lf 74 af74:= .leaf Tryz.func74 (by kernel_rfl) rfl
theorem ok75:Lf 75 af75:= .leaf Tryz.func75 (by kernel_rfl) rfl
theorem ok76:Lf 76 af76:= .leaf Tryz.func76 (by kernel_rfl) rfl
theorem ok77:Lf 77 af77:= .leaf Tryz.func77 (by kernel_rfl) rfl
theorem ok78:Lf 78 af78:= .leaf Tryz.func78 (by kernel_rfl) rfl
theorem ok79:Lf 79 af79:= .leaf Tryz.func79 (by kernel_rfl) rfl
theorem ok80:Lf 80 af80:= .leaf Tryz.func80 (by kernel_rfl) rfl
theorem ok81:Lf 81 af81:= .leaf Tryz.func81 (by kernel_rfl) rfl
theorem ok82:Lf 82 af82:= .leaf Tryz.func82 (by kernel_rfl) rfl
theorem ok87:Lf 87 af87:= .leaf Tryz.func87 (by kernel_rfl) rfl
theorem ok88:Lf 88 af88:= .leaf Tryz.func88 (by kernel_rfl) rfl
theorem ok89:Lf 89 af89:= .leaf Tryz.func89 (by kernel_rfl) rfl
theorem ok90:Lf 90 af90:= .leaf Tryz.func90 (by kernel_rfl) rfl
theorem ok91:Lf 91 af91:= .leaf Tryz.func91 (by kernel_rfl) rfl
theorem ok92:Lf 92 af92:= .leaf Tryz.func92 (by kernel_rfl) rfl
theorem ok93:Lf 93 af93:= .leaf Tryz.func93 (by kernel_rfl) rfl
theorem ok94:Lf 94 af94:= .leaf Tryz.func94 (by kernel_rfl) rfl
theorem ok95:Lf 95 af95:= .leaf Tryz.func95 (by kernel_rfl) rfl
theorem ok96:Lf 96 af96:= .leaf Tryz.func96 (by kernel_rfl) rfl
theorem ok97:Lf 97 af97:= .leaf Tryz.func97 (by kernel_rfl) rfl
theorem xok98:zQi Tryz.prog 98 (.idp):=⟨⟨Tryz.f98,Extern.AbiNoEscape.same,Tryz.func98,by kernel_rfl,by kernel_rfl,by kernel_rfl,by kernel_rfl,rfl⟩⟩
theorem ok102:Lf 102 af102:= .leaf Tryz.func102 (by kernel_rfl) rfl
theorem ok106:Lf 106 af106:= .leaf Tryz.func106 (by kernel_rfl) rfl
theorem ok107:Lf 107 af107:= .leaf Tryz.func107 (by kernel_rfl) rfl
theorem ok108:Lf 108 af108:= .leaf Tryz.func108 (by kernel_rfl) rfl
theorem ok109:Lf 109 af109:= .leaf Tryz.func109 (by kernel_rfl) rfl
theorem ok110:Lf 110 af110:= .leaf Tryz.func110 (by kernel_rfl) rfl
theorem ok111:Lf 111 af111:= .leaf Tryz.func111 (by kernel_rfl) rfl
theorem ok112:Lf 112 af112:= .leaf Tryz.func112 (by kernel_rfl) rfl
theorem ok113:Lf 113 af113:= .leaf Tryz.func113 (by kernel_rfl) rfl
theorem ok114:Lf 114 af114:= .leaf Tryz.func114 (by kernel_rfl) rfl
theorem ok115:Lf 115 af115:= .leaf Tryz.func115 (by kernel_rfl) rfl
theorem ok116:Lf 116 af116:= .leaf Tryz.func116 (by kernel_rfl) rfl
theorem ok120:Lf 120 af120:= .leaf Tryz.func120 (by kernel_rfl) rfl
theorem ok124:Lf 124 af124:= .leaf Tryz.func124 (by kernel_rfl) rfl
theorem ok125:Lf 125 af125:= .leaf Tryz.func125 (by kernel_rfl) rfl
theorem ok126:Lf 126 af126:= .leaf Tryz.func126 (by kernel_rfl) rfl
theorem ok127:Lf 127 af127:= .leaf Tryz.func127 (by kernel_rfl) rfl
theorem ok128:Lf 128 af128:= .leaf Tryz.func128 (by kernel_rfl) rfl
theorem ok131:Lf 131 af131:= .leaf Tryz.func131 (by kernel_rfl) rfl
theorem ok132:Lf 132 af132:= .leaf Tryz.func132 (by kernel_rfl) rfl
theorem ok133:Lf 133 af133:= .leaf Tryz.func133 (by kernel_rfl) rfl
theorem ok134:Lf 134 af134:= .leaf Tryz.func134 (by kernel_rfl) rfl
theorem ok135:Lf 135 af135:= .leaf Tryz.func135 (by kernel_rfl) rfl
theorem ok136:Lf 136 af136:= .leaf Tryz.func136 (by kernel_rfl) rfl
theorem ok137:Lf 137 af137:= .leaf Tryz.func137 (by kernel_rfl) rfl
theorem ok138:Lf 138 af138:= .leaf Tryz.func138 (by kernel_rfl) rfl
theorem ok139:Lf 139 af139:= .leaf Tryz.func139 (by kernel_rfl) rfl
theorem ok140:Lf 140 af140:= .leaf Tryz.func140 (by kernel_rfl) rfl
theorem ok141:Lf 141 af141:= .leaf Tryz.func141 (by kernel_rfl) rfl
theorem ok142:Lf 142 af142:= .leaf Tryz.func142 (by kernel_rfl) rfl
theorem ok143:Lf 143 af143:= .leaf Tryz.func143 (by kernel_rfl) rfl
theorem ok144:Lf 144 af144:= .leaf Tryz.func144 (by kernel_rfl) rfl
theorem ok145:Lf 145 af145:= .leaf Tryz.func145 (by kernel_rfl) rfl
theorem ok146:Lf 146 af146:= .leaf Tryz.func146 (by kernel_rfl) rfl
theorem ok153:Lf 153 af153:= .leaf Tryz.func153 (by kernel_rfl) rfl
theorem ok154:Lf 154 af154:= .leaf Tryz.func154 (by kernel_rfl) rfl
theorem ok155:Lf 155 af155:= .leaf Tryz.func155 (by kernel_rfl) rfl
theorem ok156:Lf 156 af156:= .leaf Tryz.func156 (by kernel_rfl) rfl
theorem ok157:Lf 157 af157:= .leaf Tryz.func157 (by kernel_rfl) rfl
theorem ok158:Lf 158 af158:= .leaf Tryz.func158 (by kernel_rfl) rfl
theorem ok159:Lf 159 af159:= .leaf Tryz.func159 (by kernel_rfl) rfl
theorem ok160:Lf 160 af160:= .leaf Tryz.func160 (by kernel_rfl) rfl
theorem ok161:Lf 161 af161:= .leaf Tryz.func161 (by kernel_rfl) rfl
theorem ok162:Lf 162 af162:= .leaf Tryz.func162 (by kernel_rfl) rfl
theorem ok163:Lf 163 af163:= .leaf Tryz.func163 (by kernel_rfl) rfl
theorem ok164:Lf 164 af164:= .leaf Tryz.func164 (by kernel_rfl) rfl
theorem ok165:Lf 165 af165:= .leaf Tryz.func165 (by kernel_rfl) rfl
theorem ok166:Lf 166 af166:= .leaf Tryz.func166 (by kernel_rfl) rfl
theorem ok168:Lf 168 af168:= .leaf Tryz.func168 (by kernel_rfl) rfl
theorem ok169:Lf 169 af169:= .leaf Tryz.func169 (by kernel_rfl) rfl
theorem ok170:Lf 170 af170:= .leaf Tryz.func170 (by kernel_rfl) rfl
theorem ok171:Lf 171 af171:= .leaf Tryz.func171 (by kernel_rfl) rfl
theorem ok174:Lf 174 af174:= .leaf Tryz.func174 (by kernel_rfl) rfl
theorem ok197:Lf 197 af197:= .leaf Tryz.func197 (by kernel_rfl) rfl
theorem ok198:Lf 198 af198:= .leaf Tryz.func198 (by kernel_rfl) rfl
theorem ok199:Lf 199 af199:= .leaf Tryz.func199 (by kernel_rfl) rfl
theorem ok200:Lf 200 af200:= .leaf Tryz.func200 (by kernel_rfl) rfl
theorem ok202:Lf 202 af202:= .leaf Tryz.func202 (by kernel_rfl) rfl
theorem ok204:Lf 204 af204:= .leaf Tryz.func204 (by kernel_rfl) rfl
theorem ok206:Lf 206 af206:= .leaf Tryz.func206 (by kernel_rfl) rfl
theorem ok208:Lf 208 af208:= .leaf Tryz.func208 (by kernel_rfl) rfl
theorem ok210:Lf 210 af210:= .leaf Tryz.func210 (by kernel_rfl) rfl
theorem ok213:Lf 213 af213:= .leaf Tryz.func213 (by kernel_rfl) rfl
theorem ok218:Lf 218 af218:= .leaf Tryz.func218 (by kernel_rfl) rfl
theorem ok230:Lf 230 af230:= .leaf Tryz.func230 (by kernel_rfl) rfl
theorem ok231:Lf 231 af231:= .leaf Tryz.func231 (by kernel_rfl) rfl
theorem ok232:Lf 232 af232:= .leaf Tryz.func232 (by kernel_rfl) rfl
theorem ok234:Lf 234 af234:= .leaf Tryz.func234 (by kernel_rfl) rfl
theorem ok235:Lf 235 af235:= .leaf Tryz.func235 (by kernel_rfl) rfl
theorem ok236:Lf 236 af236:= .leaf Tryz.func236 (by kernel_rfl) rfl
theorem tab_ok:zQk Tryz.prog gl exts tab0:=(.node (m:=90) (.node (m:=45) (.node (m:=22) (.node (m:=12) (.node (m:=7) (.node (m:=5) (.node (m:=4) ok3 ok4) (.node (m:=6) ok5 ok6)) (.node (m:=9) (.node (m:=8) ok7 ok8) (.node (m:=10) ok9 (.node (m:=11) ok10 ok11)))) (.node (m:=17) (.node (m:=14) (.node (m:=13) ok12 ok13) (.node (m:=15) ok14 (.node (m:=16) ok15 ok16))) (.node (m:=19) (.node (m:=18) ok17 ok18) (.node (m:=20) ok19 (.node (m:=21) ok20 ok21))))) (.node (m:=35) (.node (m:=27) (.node (m:=24) (.node (m:=23) ok22 ok23) (.node (m:=25) ok24 (.node (m:=26) ok25 ok26))) (.node (m:=31) (.node (m:=30) ok27 ok30) (.node (m:=32) ok31 (.node (m:=34) ok32 ok34)))) (.node (m:=40) (.node (m:=37) (.node (m:=36) ok35 ok36) (.node (m:=38) ok37 (.node (m:=39) ok38 ok39))) (.node (m:=42) (.node (m:=41) ok40 ok41) (.node (m:=43) ok42 (.node (m:=44) ok43 ok44)))))) (.node (m:=66) (.node (m:=55) (.node (m:=49) (.node (m:=47) (.node (m:=46) ok45 ok46) (.node (m:=48) ok47 ok48)) (.node (m:=51) (.node (m:=50) ok49 ok50) (.node (m:=53) ok51 (.node (m:=54) ok53 ok54)))) (.node (m:=60) (.node (m:=57) (.node (m:=56) ok55 ok56) (.node (m:=58) ok57 (.node (m:=59) ok58 ok59))) (.node (m:=62) (.node (m:=61) ok60 ok61) (.node (m:=63) ok62 (.node (m:=64) ok63 ok64))))) (.node (m:=76) (.node (m:=71) (.node (m:=68) (.node (m:=67) ok66 ok67) (.node (m:=69) ok68 (.node (m:=70) ok69 ok70))) (.node (m:=73) (.node (m:=72) ok71 ok72) (.node (m:=74) ok73 (.node (m:=75) ok74 ok75)))) (.node (m:=81) (.node (m:=78) (.node (m:=77) ok76 ok77) (.node (m:=79) ok78 (.node (m:=80) ok79 ok80))) (.node (m:=87) (.node (m:=82) ok81 ok82) (.node (m:=88) ok87 (.node (m:=89) ok88 ok89))))))) (.node (m:=144) (.node (m:=116) (.node (m:=106) (.node (m:=94) (.node (m:=92) (.node (m:=91) ok90 ok91) (.node (m:=93) ok92 ok93)) (.node (m:=96) (.node (m:=95) ok94 ok95) (.node (m:=97) ok96 (.node (m:=102) ok97 ok102)))) (.node (m:=111) (.node (m:=108) (.node (m:=107) ok106 ok107) (.node (m:=109) ok108 (.node (m:=110) ok109 ok110))) (.node (m:=113) (.node (m:=112) ok111 ok112) (.node (m:=114) ok113 (.node (m:=115) ok114 ok115))))) (.node (m:=134) (.node (m:=127) (.node (m:=124) (.node (m:=120) ok116 ok120) (.node (m:=125) ok124 (.node (m:=126) ok125 ok126))) (.node (m:=131) (.node (m:=128) ok127 ok128) (.node (m:=132) ok131 (.node (m:=133) ok132 ok133)))) (.node (m:=139) (.node (m:=136) (.node (m:=135) ok134 ok135) (.node (m:=137) ok136 (.node (m:=138) ok137 ok138))) (.node (m:=141) (.node (m:=140) ok139 ok140) (.node (m:=142) ok141 (.node (m:=143) ok142 ok143)))))) (.node (m:=170) (.node (m:=159) (.node (m:=154) (.node (m:=146) (.node (m:=145) ok144 ok145) (.node (m:=153) ok146 ok153)) (.node (m:=156) (.node (m:=155) ok154 ok155) (.node (m:=157) ok156 (.node (m:=158) ok157 ok158)))) (.node (m:=164) (.node (m:=161) (.node (m:=160) ok159 ok160) (.node (m:=162) ok161 (.node (m:=163) ok162 ok163))) (.node (m:=166) (.node (m:=165) ok164 ok165) (.node (m:=168) ok166 (.node (m:=169) ok168 ok169))))) (.node (m:=208) (.node (m:=199) (.node (m:=174) (.node (m:=171) ok170 ok171) (.node (m:=197) ok174 (.node (m:=198) ok197 ok198))) (.node (m:=202) (.node (m:=200) ok199 ok200) (.node (m:=204) ok202 (.node (m:=206) ok204 ok206)))) (.node (m:=231) (.node (m:=213) (.node (m:=210) ok208 ok210) (.node (m:=218) ok213 (.node (m:=230) ok218 ok230))) (.node (m:=234) (.node (m:=232) ok231 ok232) (.node (m:=235) ok234 (.node (m:=236) ok235 ok236))))))))
theorem yBn:∀f k,exts f=some k→zQi Tryz.prog f k:=by
 intro f k h
 unfold exts at h
 cases hb:Nat.beq f 98
 case true=>
  obtain rfl:=Nat.eq_of_beq_eq_true hb
  simp only [hb,cond,Option.some.injEq]at h; subst h
  exact xok98
 simp only [hb,cond]at h
 cases h
theorem mixed:Tryz.prog.follows .mixedOrders=true:=by kernel_rfl
end Go.Proofs.YtmcdajnpdekocaaGreatDoor.Tab
namespace Go.Proofs.YtmcdajnpdekocaaGreatDoor.Tab
open Go Go.Ab
def code40:AFn:=⟨[.cell 2 (some 2)],
 .seq (.reg [o 1 (.lbox (.t 0)),o 2 (.lbox (.c (.agg [.bool false,.vs true 0 []])))])
 (.seq (.reg [o 3 (.lload 1 (some 2) (.t 1)),o 4 (.call false 71 [.t 3]),o 5 (.call false 71 [.t 4]),⟨none,.lstore 2 2 (.t 2) (.t 5),none,none⟩]) (.ret))⟩
def code53:AFn:=⟨[.tmp 2],
 .seq (.reg [o 2 (.mv (.c (.vs true 0 [])))])
 (.seq (.seq (.reg [m 3 0,o 4 (.eq (.slice) false true (.t 3) (.c (.vs true 0 [])))])
 (.cond (.t 4)
 (.seq (.reg [o 2 (.mv (.c (.vs true 0 [])))]) (.ret)) (.skip)))
 (.seq (.reg [o 5 (.bslice 1 140 (.int .u32 0) 0 []),m 6 0,o 7 (.append 1 4 140 (.t 5) (.t 6)),m 2 7]) (.ret)))⟩
def code54:AFn:=⟨[.tmp 2],
 .seq (.reg [o 2 (.mv (.c (.vs true 0 [])))])
 (.seq (.block 0
 (.loop [0]
 (.seq (.seq (.reg [m 3 0,o 4 (.len 1 (.t 3)),o 5 (.bin .gtr (.t 4) (.c (.int .i64 0))),m 6 5,w 7 (.mv (.t 0)) (6,true),w 8 (.mv (.t 0)) (6,true),w 9 (.len 1 (.t 8)) (6,true),w 10 (.bin .sub (.t 9) (.c (.int .i64 1))) (6,
 true),w 11 (.iaddr 1 (.t 7) (.t 10)) (6,true),w 12 (.load none (.t 11)) (6,true),w 13 (.bin .eql (.t 12) (.c (.int .u32 0))) (6,true),o 14 (.pick (.t 6) (.t 13) (.c (.bool false)))])
 (.cond (.t 14) (.skip) (.exit 0)))
 (.block 1 (.reg [m 15 0,m 16 0,o 17 (.len 1 (.t 16)),o 18 (.bin .sub (.t 17) (.c (.int .i64 1))),o 19 (.ssl 1 (.t 15) none (some (.t 18)) none),m 0 19])))))
 (.seq (.reg [m 20 0,m 2 20]) (.ret)))⟩
def code71:AFn:=⟨[.cell 2 (some 2)],
 .seq (.reg [o 1 (.lbox (.t 0)),o 2 (.lbox (.c (.agg [.bool false,.vs true 0 []])))])
 (.seq (.reg [o 4 (.lload 1 (some 2) (.t 1)),o 5 (.call false 90 [.t 4]),o 3 (.lbox (.c (.agg [.bool false,.vs true 0 []]))),⟨none,.lstore 3 2 (.t 3) (.t 5),none,none⟩])
 (.seq (.reg [o 6 (.faddr 0 (.t 3)),o 7 (.lload 3 none (.t 6)),o 8 (.un .not (.t 7)),o 9 (.faddr 1 (.t 3)),o 10 (.lload 3 none (.t 9)),o 11 (.call false 79 [.t 8,.t 10]),⟨none,.lstore 2 2 (.t 2) (.t 11),none,none⟩]) (.ret)))⟩
def code79:AFn:=⟨[.cell 4 (some 2)],
 .seq (.reg [o 4 (.lbox (.c (.agg [.bool false,.vs true 0 []])))])
 (.seq (.reg [m 5 1,o 6 (.call false 54 [.t 5]),m 1 6])
 (.seq (.seq (.reg [m 7 1,o 8 (.len 1 (.t 7)),o 9 (.bin .eql (.t 8) (.c (.int .i64 0)))])
 (.cond (.t 9)
 (.seq (.reg [o 10 (.build [.bool false,.vs true 0 []] []),⟨none,.lstore 4 2 (.t 4) (.t 10),none,none⟩]) (.ret)) (.skip)))
 (.seq (.reg [m 11 0,m 12 1,o 13 (.build [.bool false,.vs true 0 []] [(0,1,.t 11),(1,1,.t 12)]),⟨none,.lstore 4 2 (.t 4) (.t 13),none,none⟩]) (.ret))))⟩
def code90:AFn:=⟨[.cell 2 (some 2)],
 .seq (.reg [o 1 (.lbox (.t 0)),o 2 (.lbox (.c (.agg [.bool false,.vs true 0 []])))])
 (.seq (.dreg 0 [(o 3 (.faddr 0 (.t 1)),[]),(o 4 (.lload 1 none (.t 3)),[]),(o 5 (.faddr 1 (.t 1)),[]),(o 6 (.lload 1 none (.t 5)),[]),(o 7 (.call false 54 [.t 6]),[]),(o 8 (.call false 53 [.t 7]),[]),(o 9 (.call false 79 [.t 4,
 .t 8]),[]),(⟨none,.lstore 2 2 (.t 2) (.t 9),none,none⟩,[])]) (.ret))⟩
structure TW (T:Nat→Option AFn):Prop where
 t40:T 40=some code40
 t53:T 53=some code53
 t54:T 54=some code54
 t71:T 71=some code71
 t79:T 79=some code79
 t90:T 90=some code90
def code23:AFn:=⟨[.tmp 4],
 .seq (.reg [o 2 (.lbox (.t 0)),o 3 (.lbox (.t 1)),o 4 (.mv (.c (.int .i64 0)))])
 (.seq (.dreg 0 [(o 7 (.lload 2 (some 2) (.t 2)),[]),(o 8 (.call false 49 [.t 7]),[]),(o 9 (.lload 3 (some 2) (.t 3)),[]),(o 10 (.call false 49 [.t 9]),[]),(m 5 8,[]),(m 6 10,[])])
 (.seq (.block 0
 (.seq (.reg [m 12 5,m 13 6,o 14 (.bin .lss (.t 12) (.t 13)),m 11 14])
 (.cond (.t 11)
 (.seq (.reg [o 4 (.mv (.c (.int .i64 (-1))))]) (.ret))
 (.seq (.reg [m 16 5,m 17 6,o 18 (.bin .gtr (.t 16) (.t 17)),m 15 18])
 (.cond (.t 15)
 (.seq (.reg [o 4 (.mv (.c (.int .i64 1)))]) (.ret)) (.skip))))))
 (.seq (.reg [m 19 5,o 20 (.faddr 1 (.t 2)),o 21 (.lload 2 none (.t 20)),o 22 (.faddr 1 (.t 3)),o 23 (.lload 3 none (.t 22)),o 24 (.call false 50 [.t 21,.t 23]),o 25 (.bin .mul (.t 19) (.t 24)),m 4 25]) (.ret))))⟩
def code48:AFn:=⟨[.cell 2 (some 2)],
 .seq (.reg [o 2 (.lbox (.c (.agg [.bool false,.vs true 0 []])))])
 (.seq (.reg [m 4 0,o 5 (.toInt .u64 (.t 4)),m 3 5])
 (.seq (.seq (.reg [m 6 0,o 7 (.bin .lss (.t 6) (.c (.int .i64 0)))])
 (.cond (.t 7) (.reg [m 8 3,o 9 (.un .neg (.t 8)),m 3 9]) (.skip)))
 (.seq (.reg [m 10 0,o 11 (.bin .lss (.t 10) (.c (.int .i64 0))),m 12 3,o 13 (.toInt .u32 (.t 12)),m 14 3,o 15 (.bin .shr (.t 14) (.c (.int .u64 32))),o 16 (.toInt .u32 (.t 15)),o 17 (.vslice 1 (.int .u32 0) 2 [(0,.t 13),
 (1,.t 16)]),o 18 (.call false 79 [.t 11,.t 17]),⟨none,.lstore 2 2 (.t 2) (.t 18),none,none⟩]) (.ret))))⟩
def code49:AFn:=⟨[.tmp 2],
 .seq (.reg [o 1 (.lbox (.t 0)),o 2 (.mv (.c (.int .i64 0)))])
 (.seq (.block 0
 (.seq (.reg [o 4 (.faddr 1 (.t 1)),o 5 (.lload 1 none (.t 4)),o 6 (.call false 54 [.t 5]),o 7 (.len 1 (.t 6)),o 8 (.bin .eql (.t 7) (.c (.int .i64 0))),m 3 8])
 (.cond (.t 3)
 (.seq (.reg [o 2 (.mv (.c (.int .i64 0)))]) (.ret))
 (.seq (.reg [o 10 (.faddr 0 (.t 1)),o 11 (.lload 1 none (.t 10)),m 9 11])
 (.cond (.t 9)
 (.seq (.reg [o 2 (.mv (.c (.int .i64 (-1))))]) (.ret)) (.skip))))))
 (.seq (.reg [o 2 (.mv (.c (.int .i64 1)))]) (.ret)))⟩
def code50:AFn:=⟨[.tmp 4],
 .seq (.reg [o 4 (.mv (.c (.int .i64 0)))])
 (.seq (.reg [m 6 0,o 7 (.call false 54 [.t 6]),m 8 1,o 9 (.call false 54 [.t 8]),m 0 7,m 1 9])
 (.seq (.seq (.reg [m 10 0,o 11 (.len 1 (.t 10)),m 12 1,o 13 (.len 1 (.t 12)),o 14 (.bin .neq (.t 11) (.t 13))])
 (.cond (.t 14)
 (.seq (.seq (.reg [m 15 0,o 16 (.len 1 (.t 15)),m 17 1,o 18 (.len 1 (.t 17)),o 19 (.bin .lss (.t 16) (.t 18))])
 (.cond (.t 19)
 (.seq (.reg [o 4 (.mv (.c (.int .i64 (-1))))]) (.ret)) (.skip)))
 (.seq (.reg [o 4 (.mv (.c (.int .i64 1)))]) (.ret))) (.skip)))
 (.seq (.seq (.reg [m 20 0,o 21 (.len 1 (.t 20)),o 22 (.bin .sub (.t 21) (.c (.int .i64 1))),m 5 22])
 (.block 0
 (.loop [0,1,5]
 (.seq (.seq (.reg [m 23 5,o 24 (.bin .geq (.t 23) (.c (.int .i64 0)))])
 (.cond (.t 24) (.skip) (.exit 0)))
 (.seq (.block 1
 (.block 2
 (.seq (.dreg 0 [(m 28 0,[]),(m 29 5,[]),(o 30 (.iaddr 1 (.t 28) (.t 29)),[]),(o 31 (.load none (.t 30)),[]),(m 32 1,[]),(m 33 5,[]),(o 34 (.iaddr 1 (.t 32) (.t 33)),[]),(o 35 (.load none (.t 34)),[]),(o 36 (.bin .lss (.t 31) (.t 35)),
 []),(m 27 36,[])])
 (.cond (.t 27)
 (.seq (.reg [o 4 (.mv (.c (.int .i64 (-1))))]) (.ret))
 (.seq (.dreg 0 [(m 38 0,[]),(m 39 5,[]),(o 40 (.iaddr 1 (.t 38) (.t 39)),[]),(o 41 (.load none (.t 40)),[]),(m 42 1,[]),(m 43 5,[]),(o 44 (.iaddr 1 (.t 42) (.t 43)),[]),(o 45 (.load none (.t 44)),[]),(o 46 (.bin .gtr (.t 41) (.t 45)),
 []),(m 37 46,[])])
 (.cond (.t 37)
 (.seq (.reg [o 4 (.mv (.c (.int .i64 1)))]) (.ret)) (.skip))))))) (.reg [m 25 5,o 26 (.bin .sub (.t 25) (.c (.int .i64 1))),m 5 26]))))))
 (.seq (.reg [o 4 (.mv (.c (.int .i64 0)))]) (.ret)))))⟩
def code56:AFn:=⟨[.tmp 2],
 .seq (.reg [o 1 (.box 38 (.t 0)),o 2 (.mv (.c (.nilf)))])
 (.seq (.reg [o 3 (.mkfn (.func 80) [] [.t 1]),m 2 3]) (.ret))⟩
def code80:AFn:=⟨[],
 .seq (.reg [o 4 (.load none (.t 1)),o 5 (.len 1 (.t 4)),o 6 (.bin .sub (.t 5) (.c (.int .i64 1))),m 3 6])
 (.block 0
 (.loop [0,1,3]
 (.seq (.seq (.reg [m 7 3,o 8 (.bin .geq (.t 7) (.c (.int .i64 0)))])
 (.cond (.t 8) (.skip) (.exit 0)))
 (.seq (.block 1
 (.seq (.reg [m 11 0,m 12 3,o 13 (.load none (.t 1)),m 14 3,o 15 (.iaddr 1 (.t 13) (.t 14)),o 16 (.load none (.t 15)),o 17 (.callv (.t 11) [.t 12,.t 16]),o 18 (.un .not (.t 17))])
 (.cond (.t 18) (.ret) (.skip)))) (.reg [m 9 3,o 10 (.bin .sub (.t 9) (.c (.int .i64 1))),m 3 10])))))⟩
def yEh:AFn:=⟨[.tmp 2],
 .seq (.reg [o 1 (.lbox (.t 0)),o 2 (.mv (.c (.int .i64 0)))])
 (.seq (.reg [o 6 (.faddr 1 (.t 1)),o 7 (.lload 1 none (.t 6)),o 8 (.build [.bool false,.vs true 0 []] [(1,1,.t 7)]),o 9 (.call false 134 [.t 8,.c (.int .i64 2305843009213693951)]),m 5 9,o 10 (.extract 0 (.t 5)),o 11 (.extract 1 (.t 5)),
 m 3 10,m 4 11])
 (.seq (.seq (.reg [o 12 (.faddr 0 (.t 1)),o 13 (.lload 1 none (.t 12))])
 (.cond (.t 13) (.reg [m 14 3,o 15 (.un .neg (.t 14)),m 3 15]) (.skip)))
 (.seq (.reg [m 16 3,o 17 (.toInt .u64 (.t 16)),o 18 (.call false 136 [.c (.int .i64 (-2))]),o 19 (.call false 135 [.t 17,.t 18]),m 2 19]) (.ret))))⟩
def yEg:AFn:=⟨[.tmp 2],
 .seq (.reg [o 2 (.mv (.c (.int .i64 0)))])
 (.seq (.reg [o 3 (.mv (.c (.int .u64 14695981039346656037)))])
 (.seq (.seq (.reg [m 5 0,o 6 (.len 0 (.t 5)),o 7 (.mv (.c (.int .i64 0)))])
 (.block 0
 (.loop [0,3,6,7]
 (.seq (.reg [o 8 (.bin .lss (.t 7) (.t 6))])
 (.seq (.cond (.t 8) (.skip) (.exit 0))
 (.seq (.block 1
 (.seq (.reg [m 9 7,m 4 9]) (.reg [m 10 3,m 11 0,m 12 4,o 13 (.sidx (.t 11) (.t 12)),o 14 (.toInt .u64 (.t 13)),o 15 (.bin .xor (.t 10) (.t 14)),o 16 (.bin .mul (.t 15) (.c (.int .u64 1099511628211))),m 3 16]))) (.reg [o 17 (.bin .add (.t 7) (.c (.int .i64 1))),
 m 7 17])))))))
 (.seq (.reg [m 18 3,o 19 (.call false 136 [.c (.int .i64 (-2))]),o 20 (.call false 135 [.t 18,.t 19]),m 2 20]) (.ret))))⟩
def yEf:AFn:=⟨[.tmp 2],
 .seq (.reg [o 2 (.mv (.c (.int .i64 0)))])
 (.seq (.reg [m 3 0,o 4 (.toInt .u64 (.t 3)),o 5 (.call false 137 [.t 4,.c (.int .i64 (-4))]),o 6 (.call false 136 [.c (.int .i64 (-2))]),o 7 (.call false 135 [.t 5,.t 6]),m 2 7]) (.ret))⟩
def yDx:AFn:=⟨[.tmp 2],
 .seq (.reg [o 2 (.mv (.c (.int .i64 0)))])
 (.seq (.seq (.reg [m 3 0,o 4 (.bin .geq (.t 3) (.c (.int .u64 4294967296)))])
 (.cond (.t 4)
 (.seq (.reg [m 5 0,o 6 (.bin .shr (.t 5) (.c (.int .u64 32))),m 0 6]) (.reg [o 2 (.mv (.c (.int .i64 32)))])) (.skip)))
 (.seq (.seq (.reg [m 7 0,o 8 (.bin .geq (.t 7) (.c (.int .u64 65536)))])
 (.cond (.t 8)
 (.seq (.reg [m 9 0,o 10 (.bin .shr (.t 9) (.c (.int .u64 16))),m 0 10]) (.reg [m 11 2,o 12 (.bin .add (.t 11) (.c (.int .i64 16))),m 2 12])) (.skip)))
 (.seq (.seq (.reg [m 13 0,o 14 (.bin .geq (.t 13) (.c (.int .u64 256)))])
 (.cond (.t 14)
 (.seq (.reg [m 15 0,o 16 (.bin .shr (.t 15) (.c (.int .u64 8))),m 0 16]) (.reg [m 17 2,o 18 (.bin .add (.t 17) (.c (.int .i64 8))),m 2 18])) (.skip)))
 (.seq (.reg [m 19 2,m 20 0,o 21 (.toInt .u8 (.t 20)),o 22 (.sidx (.c (.str [0,1,2,2,3,3,3,3,4,4,4,4,4,4,4,4,5,5,5,5,5,5,5,5,5,5,5,5,5,5,5,5,6,6,6,6,6,6,6,6,6,6,6,6,6,6,6,6,
 6,6,6,6,6,6,6,6,6,6,6,6,6,6,6,6,7,7,7,7,7,7,7,7,7,7,7,7,7,7,7,7,7,7,7,7,7,7,7,7,7,7,7,7,7,7,7,7,7,7,7,7,7,7,7,7,7,7,7,7,7,7,7,7,7,7,7,7,7,7,7,7,7,7,
 7,7,7,7,7,7,8,8,8,8,8,8,8,8,8,8,8,8,8,8,8,8,8,8,8,8,8,8,8,8,8,8,8,8,8,8,8,8,8,8,8,8,8,8,8,8,8,8,8,8,8,8,8,8,8,8,8,8,8,8,8,8,8,8,8,8,8,8,8,8,8,8,8,8,
 8,8,8,8,8,8,8,8,8,8,8,8,8,8,8,8,8,8,8,8,8,8,8,8,8,8,8,8,8,8,8,8,8,8,8,8,8,8,8,8,8,8,8,8,8,8,8,8,8,8,8,8,8,8,8,8,8,8,8,8])) (.t 21)),o 23 (.toInt .i64 (.t 22)),o 24 (.bin .add (.t 19) (.t 23)),
 m 2 24]) (.ret)))))⟩
def yDo:AFn:=⟨[.tmp 4,.tmp 5],
 .seq (.reg [o 2 (.lbox (.t 0)),o 3 (.box 3 (.t 1)),o 4 (.mv (.c (.int .i64 0))),o 5 (.mv (.c (.int .i64 0)))])
 (.seq (.seq (.reg [o 9 (.load none (.t 3)),o 10 (.bin .lss (.t 9) (.c (.int .i64 1))),m 11 10,w 12 (.load none (.t 3)) (11,false),w 13 (.bin .gtr (.t 12) (.c (.int .i64 4611686018427387904))) (11,false),o 14 (.pick (.t 11) (.c (.bool true)) (.t 13))])
 (.cond (.t 14)
 (.seq (.reg [o 4 (.mv (.c (.int .i64 0))),o 5 (.mv (.c (.int .i64 1)))]) (.ret)) (.skip)))
 (.seq (.reg [o 6 (.box 132 (.c (.int .u64 0))),⟨none,.store 1 (.t 6) (.c (.int .u64 0)),none,none⟩])
 (.seq (.seq (.reg [o 15 (.faddr 1 (.t 2)),o 16 (.lload 2 none (.t 15)),o 17 (.call false 54 [.t 16]),o 18 (.call false 56 [.t 17])])
 (.block 0 (.rangef [3,6,8] (.t 18) [19,20] (.reg [m 8 20])
 (.block 1 (.reg [o 21 (.load none (.t 6)),o 22 (.bin .shr (.t 21) (.c (.int .u64 32))),o 23 (.load none (.t 6)),o 24 (.bin .shl (.t 23) (.c (.int .u64 32))),m 25 8,o 26 (.toInt .u64 (.t 25)),o 27 (.bin .or (.t 24) (.t 26)),
 o 28 (.load none (.t 3)),o 29 (.toInt .u64 (.t 28)),o 30 (.call false 161 [.t 22,.t 27,.t 29]),⟨none,.store 1 (.t 6) (.t 30),none,none⟩])))))
 (.seq (.seq (.reg [o 31 (.faddr 0 (.t 2)),o 32 (.lload 2 none (.t 31)),m 33 32,w 34 (.load none (.t 6)) (33,true),w 35 (.bin .gtr (.t 34) (.c (.int .u64 0))) (33,true),o 36 (.pick (.t 33) (.t 35) (.c (.bool false)))])
 (.cond (.t 36) (.reg [o 37 (.load none (.t 3)),o 38 (.toInt .u64 (.t 37)),o 39 (.load none (.t 6)),o 40 (.bin .sub (.t 38) (.t 39)),⟨none,.store 1 (.t 6) (.t 40),none,none⟩]) (.skip)))
 (.seq (.reg [o 41 (.load none (.t 6)),o 42 (.toInt .i64 (.t 41)),m 4 42,o 5 (.mv (.c (.int .i64 0)))]) (.ret))))))⟩
def yDn:AFn:=⟨[.tmp 4],
 .seq (.reg [o 4 (.mv (.c (.int .i64 0)))])
 (.seq (.seq (.reg [m 5 0,o 6 (.toInt .i64 (.t 5)),o 7 (.bin .eql (.t 6) (.c (.int .i64 (-1))))])
 (.cond (.t 7)
 (.seq (.reg [m 8 1,o 9 (.callv (.t 8) []),m 4 9]) (.ret)) (.skip)))
 (.seq (.reg [m 10 0,o 11 (.toInt .i64 (.t 10)),m 4 11]) (.ret)))⟩
def yDm:AFn:=⟨[.tmp 2],
 .seq (.reg [o 1 (.box 3 (.t 0)),o 2 (.mv (.c (.nilf)))])
 (.seq (.reg [o 3 (.mkfn (.func 162) [] [.t 1]),m 2 3]) (.ret))⟩
def yDl:AFn:=⟨[.tmp 4],
 .seq (.reg [o 4 (.mv (.c (.int .u64 0)))])
 (.seq (.reg [m 6 1,o 7 (.toInt .u64 (.t 6)),o 8 (.bin .and (.t 7) (.c (.int .u64 63))),m 5 8])
 (.seq (.reg [m 9 0,m 10 5,o 11 (.bin .shl (.t 9) (.t 10)),m 12 0,m 13 5,o 14 (.bin .sub (.c (.int .u64 64)) (.t 13)),o 15 (.bin .shr (.t 12) (.t 14)),o 16 (.bin .or (.t 11) (.t 15)),m 4 16]) (.ret)))⟩
def yCt:AFn:=⟨[.tmp 6],
 .seq (.reg [o 6 (.mv (.c (.int .u64 0)))])
 (.seq (.reg [m 10 0,m 11 2,o 12 (.bin .rem (.t 10) (.t 11)),m 13 1,m 14 2,o 15 (.call false 171 [.t 12,.t 13,.t 14]),m 9 15,o 16 (.extract 0 (.t 9)),o 17 (.extract 1 (.t 9)),m 7 16,m 8 17])
 (.seq (.reg [m 18 8,m 6 18]) (.ret)))⟩
def yCs:AFn:=⟨[.tmp 1],
 .seq (.reg [o 1 (.mv (.c (.int .i64 0)))])
 (.seq (.reg [o 2 (.load none (.t 0)),m 1 2]) (.ret))⟩
def yCk:AFn:=⟨[.tmp 6,.tmp 7],
 .seq (.reg [o 6 (.mv (.c (.int .u64 0))),o 7 (.mv (.c (.int .u64 0)))])
 (.seq (.seq (.reg [m 19 2,o 20 (.bin .eql (.t 19) (.c (.int .u64 0)))])
 (.cond (.t 20) (.reg [o 21 (.bad),⟨none,.bad,none,none⟩]) (.skip)))
 (.seq (.seq (.reg [m 22 2,m 23 0,o 24 (.bin .leq (.t 22) (.t 23))])
 (.cond (.t 24) (.reg [o 25 (.bad),⟨none,.bad,none,none⟩]) (.skip)))
 (.seq (.seq (.reg [m 26 0,o 27 (.bin .eql (.t 26) (.c (.int .u64 0)))])
 (.cond (.t 27)
 (.seq (.dreg 0 [(m 28 1,[]),(m 29 2,[]),(o 30 (.bin .quo (.t 28) (.t 29)),[]),(m 31 1,[]),(m 32 2,[]),(o 33 (.bin .rem (.t 31) (.t 32)),[]),(m 6 30,[]),(m 7 33,[])]) (.ret)) (.skip)))
 (.seq (.reg [m 34 2,o 35 (.call false 174 [.t 34]),o 36 (.toInt .u64 (.t 35)),m 8 36])
 (.seq (.reg [m 37 2,m 38 8,o 39 (.bin .shl (.t 37) (.t 38)),m 2 39])
 (.seq (.reg [m 40 2,o 41 (.bin .shr (.t 40) (.c (.int .u64 32))),m 9 41])
 (.seq (.reg [m 42 2,o 43 (.bin .and (.t 42) (.c (.int .u64 4294967295))),m 10 43])
 (.seq (.reg [m 44 0,m 45 8,o 46 (.bin .shl (.t 44) (.t 45)),m 47 1,m 48 8,o 49 (.bin .sub (.c (.int .u64 64)) (.t 48)),o 50 (.bin .shr (.t 47) (.t 49)),o 51 (.bin .or (.t 46) (.t 50)),m 11 51])
 (.seq (.reg [m 52 1,m 53 8,o 54 (.bin .shl (.t 52) (.t 53)),m 12 54])
 (.seq (.reg [m 55 12,o 56 (.bin .shr (.t 55) (.c (.int .u64 32))),m 13 56])
 (.seq (.reg [m 57 12,o 58 (.bin .and (.t 57) (.c (.int .u64 4294967295))),m 14 58])
 (.seq (.reg [m 59 11,m 60 9,o 61 (.bin .quo (.t 59) (.t 60)),m 15 61])
 (.seq (.reg [m 62 11,m 63 15,m 64 9,o 65 (.bin .mul (.t 63) (.t 64)),o 66 (.bin .sub (.t 62) (.t 65)),m 16 66])
 (.seq (.block 0
 (.loop [2,8,9,10,11,13,14,15,16]
 (.seq (.seq (.reg [m 67 15,o 68 (.bin .geq (.t 67) (.c (.int .u64 4294967296))),m 69 68,w 70 (.mv (.t 15)) (69,false),w 71 (.mv (.t 10)) (69,false),w 72 (.bin .mul (.t 70) (.t 71)) (69,false),w 73 (.mv (.t 16)) (69,
 false),w 74 (.bin .mul (.c (.int .u64 4294967296)) (.t 73)) (69,false),w 75 (.mv (.t 13)) (69,false),w 76 (.bin .add (.t 74) (.t 75)) (69,false),w 77 (.bin .gtr (.t 72) (.t 76)) (69,false),o 78 (.pick (.t 69) (.c (.bool true)) (.t 77))])
 (.cond (.t 78) (.skip) (.exit 0)))
 (.block 1
 (.seq (.reg [m 79 15,o 80 (.bin .sub (.t 79) (.c (.int .u64 1))),m 15 80])
 (.seq (.reg [m 81 16,m 82 9,o 83 (.bin .add (.t 81) (.t 82)),m 16 83])
 (.seq (.reg [m 84 16,o 85 (.bin .geq (.t 84) (.c (.int .u64 4294967296)))])
 (.cond (.t 85) (.exit 0) (.skip)))))))))
 (.seq (.reg [m 86 11,o 87 (.bin .mul (.t 86) (.c (.int .u64 4294967296))),m 88 13,o 89 (.bin .add (.t 87) (.t 88)),m 90 15,m 91 2,o 92 (.bin .mul (.t 90) (.t 91)),o 93 (.bin .sub (.t 89) (.t 92)),m 17 93])
 (.seq (.reg [m 94 17,m 95 9,o 96 (.bin .quo (.t 94) (.t 95)),m 18 96])
 (.seq (.reg [m 97 17,m 98 18,m 99 9,o 100 (.bin .mul (.t 98) (.t 99)),o 101 (.bin .sub (.t 97) (.t 100)),m 16 101])
 (.seq (.block 2
 (.loop [2,8,9,10,14,15,16,17,18]
 (.seq (.seq (.reg [m 102 18,o 103 (.bin .geq (.t 102) (.c (.int .u64 4294967296))),m 104 103,w 105 (.mv (.t 18)) (104,false),w 106 (.mv (.t 10)) (104,false),w 107 (.bin .mul (.t 105) (.t 106)) (104,false),w 108 (.mv (.t 16)) (104,
 false),w 109 (.bin .mul (.c (.int .u64 4294967296)) (.t 108)) (104,false),w 110 (.mv (.t 14)) (104,false),w 111 (.bin .add (.t 109) (.t 110)) (104,false),w 112 (.bin .gtr (.t 107) (.t 111)) (104,false),o 113 (.pick (.t 104) (.c (.bool true)) (.t 112))])
 (.cond (.t 113) (.skip) (.exit 2)))
 (.block 3
 (.seq (.reg [m 114 18,o 115 (.bin .sub (.t 114) (.c (.int .u64 1))),m 18 115])
 (.seq (.reg [m 116 16,m 117 9,o 118 (.bin .add (.t 116) (.t 117)),m 16 118])
 (.seq (.reg [m 119 16,o 120 (.bin .geq (.t 119) (.c (.int .u64 4294967296)))])
 (.cond (.t 120) (.exit 2) (.skip)))))))))
 (.seq (.reg [m 121 15,o 122 (.bin .mul (.t 121) (.c (.int .u64 4294967296))),m 123 18,o 124 (.bin .add (.t 122) (.t 123)),m 125 17,o 126 (.bin .mul (.t 125) (.c (.int .u64 4294967296))),m 127 14,o 128 (.bin .add (.t 126) (.t 127)),
 m 129 18,m 130 2,o 131 (.bin .mul (.t 129) (.t 130)),o 132 (.bin .sub (.t 128) (.t 131)),m 133 8,o 134 (.bin .shr (.t 132) (.t 133)),m 6 124,m 7 134]) (.ret))))))))))))))))))))⟩
def yCj:AFn:=⟨[.tmp 2],
 .seq (.reg [o 2 (.mv (.c (.int .i64 0)))])
 (.seq (.reg [m 3 0,o 4 (.call false 120 [.t 3]),o 5 (.bin .sub (.c (.int .i64 64)) (.t 4)),m 2 5]) (.ret))⟩
structure TV (T:Nat→Option AFn):Prop where
 t23:T 23=some code23
 t48:T 48=some code48
 t49:T 49=some code49
 t50:T 50=some code50
 t56:T 56=some code56
 t80:T 80=some code80
 t107:T 107=some yEh
 t108:T 108=some yEg
 t109:T 109=some yEf
 t120:T 120=some yDx
 t134:T 134=some yDo
 t135:T 135=some yDn
 t136:T 136=some yDm
 t137:T 137=some yDl
 t161:T 161=some yCt
 t162:T 162=some yCs
 t171:T 171=some yCk
 t174:T 174=some yCj
end Go.Proofs.YtmcdajnpdekocaaGreatDoor.Tab
