/- Part. -/
import Derived.Test.YtmcdajnpdekocaaGreatDoorG51
import Derived.Test.YtmcdajnpdekocaaGreatDoorRows
set_option linter.unusedSectionVars false
set_option linter.unusedSimpArgs false
set_option linter.unusedVariables false
set_option maxRecDepth 100000
set_option maxHeartbeats 1000000
namespace Go.Proofs.YtmcdajnpdekocaaGreatDoor.Tab
open Go Go.Ab Go.Ab.Sm
section
variable {T:Nat→Option AFn}{H:zAa}{P Sh:Nat}{s:St}{so o la ta pl mp n tk q st:Nat}{Ds:List D}{tms:List Tm}{R:List Nat}{V:Nat→Val}{c:Nat→Nat}{nl:Bool}
theorem lawM (hS:TS T)(hW:TW T)(hV:TV T)(h:zSv P Sh s so o la ta pl mp n tk q st Ds tms R V c){last i ri:Nat}(hi:R[i]? =some ri){k:List Kont}{Q:QP}{E:Env}
  (hE:E.keep [0,3,5,6,7,8,9]=FM nl so q tms R.length last i (V ri).num 0)
  (hd:∀d1 d2 d3 d4:D,Ret T H .normal k ⟨(92,d1)::(91,d2)::(90,d3)::(89,d4)::FM nl so q tms R.length last i (V ri).num tms.length,[]⟩ s Q):
  Run T H (lawL 2) (.block 2::k) ⟨E,[]⟩ s Q:=by
 have hs:=h.ok
 have l40:=h.l40
 have hln:=h.ln
 show Run T H (.loop _ _) (.block 2::k) ⟨E,[]⟩ s Q
 refine zAh tms.length (FM nl so q tms R.length last i (V ri).num) (fun _ s1=>s1=s) rfl ?_ rfl hE
 rintro j s1 hj rfl
 by_cases hlt:j < tms.length
 ·obtain⟨rj,t,hrj,htm,he⟩:=h.elt hlt
  have w1:IntKind.wrap .i64 ((j:Int)+1)=((j+1:Nat):Int):=by rw [wrap_small (by omega) (by omega)]; omega
  refine roundM hS hW hV h hi hrj rfl rfl fun E hE=> ?_
  refine lawI hS hW hV h hi hrj rfl hE fun d1 d2 d3 d4 d5 d6 d7 d8=> ?_
  simp only [lawS2]
  try refine go ?_
  exact rtC hlt rfl
 ·have hdd:decide ((j:Int) < (R.length:Nat))=false:=decide_eq_false (by omega)
  have hjl:j=tms.length:=by omega
  subst hjl
  show Run T H _ _ ⟨[(0,.vs nl 8 (tms.map Tm.d)),(3,.ptr so 0),(5,.sl q 0 R.length R.length),(6,.int .i64 (last:Nat)),(7,.int .i64 (i:Nat)),(8,.int .i64 ((V ri).num:Nat)),(9,.int .i64 (tms.length:Nat))],[]⟩ _ _
  try refine go ?_
  exact hd _ _ _ _
def FO (nl:Bool)(so q:Nat)(tms:List Tm)(N:Nat)(c:Nat→Nat)(i:Nat):Env:=[(0,.vs nl 8 (tms.map Tm.d)),(3,.ptr so 0),(5,.sl q 0 N N),(6,.int .i64 (c i:Nat)),(7,.int .i64 (i:Nat))]
theorem zSv.le (h:zSv P Sh s so o la ta pl mp n tk q st Ds tms R V c):∀i,i≤tms.length→c i≤2 * i
 | 0,_=>by rw [h.c0]; exact Nat.zero_le _
 | i+1,hi=>by
  have ih:=h.le i (by omega)
  obtain⟨r,t,hr,ht,_⟩:=h.elt (i:=i) (by omega)
  have:=h.num i r t hr ht
  unfold zJr at this
  omega
theorem lawO (hS:TS T)(hW:TW T)(hV:TV T)(h:zSv P Sh s so o la ta pl mp n tk q st Ds tms R V c){k:List Kont}{Q:QP}{E:Env}
  (hE:E.keep [0,3,5,6,7]=FO nl so q tms R.length c 0)
  (hd:∀d1 d2 d3 d4:D,Ret T H .normal k ⟨(54,d1)::(53,d2)::(52,d3)::(51,d4)::FO nl so q tms R.length c tms.length,[]⟩ s Q):
  Run T H (lawL 1) (.block 0::k) ⟨E,[]⟩ s Q:=by
 have hs:=h.ok
 have l40:=h.l40
 have hln:=h.ln
 have hrl:=zBt R
 have gq:=h.gq
 have hsl:=h.sl
 show Run T H (.loop _ _) (.block 0::k) ⟨E,[]⟩ s Q
 refine zAh tms.length (FO nl so q tms R.length c) (fun _ s1=>s1=s) rfl ?_ rfl hE
 rintro i s1 hi rfl
 by_cases hlt:i < tms.length
 ·obtain⟨ri,t,hri,htm,he⟩:=h.elt hlt
  have hci:=h.le i hi
  have ha:=zPx htm
  have hns:=h.num i ri t hri htm
  obtain⟨p1,d1,F1,x1,y1⟩:=h.vals i ri hri
  have en:=zZo (H:=H) hS h.sa x1 y1
  have hdd:decide ((i:Int) < (R.length:Nat))=true:=decide_eq_true (by omega)
  have w1:IntKind.wrap .i64 ((i:Int)+1)=((i+1:Nat):Int):=by rw [wrap_small (by omega) (by omega)]; omega
  have w2:IntKind.wrap .i64 ((c i:Int)+2)=((c i+2:Nat):Int):=by rw [wrap_small (by omega) (by omega)]; omega
  show Run T H _ _ ⟨[(0,.vs nl 8 (tms.map Tm.d)),(3,.ptr so 0),(5,.sl q 0 R.length R.length),(6,.int .i64 (c i:Nat)),(7,.int .i64 (i:Nat))],[]⟩ _ _
  have key:∀E:Env,E.keep [0,3,5,6,7,8,9]=FM nl so q tms R.length (c (i+1)) i (V ri).num 0→Run T H (lawL 2) (.block 2:: .block 1:: .seq (.reg [Ab.o 55 (.mv (.t 7)),Ab.o 56 (.bin .add (.t 55) (.c (.int .i64 1))),Ab.o 7 (.mv (.t 56))]):: .loop (cntI tms.length (FO nl so q tms R.length c) fun _ s2=>s2=s1) [0,3,5,6,7] (tms.length - i):: .block 0::k) ⟨E,[]⟩ s1 Q:=fun E hE=>by
   refine lawM hS hW hV h hri hE fun d1 d2 d3 d4=> ?_
   simp only [FM]
   try refine go ?_
   exact rtC hlt rfl
  by_cases hn0:0 < (V ri).num
  ·have hgt:decide (((V ri).num:Int) > 0)=true:=decide_eq_true (by omega)
   rcases hns with ⟨z,_⟩ | ⟨z1,z2⟩ | ⟨z1,z2,z3⟩
   ·omega
   ·have q1:decide (((V ri).num:Int)≤(c i:Nat))=false:=decide_eq_false (by omega)
    have q2:decide (((V ri).num:Int) > ((c i+2:Nat):Int))=false:=decide_eq_false (by omega)
    have q3:(((V ri).num:Int)==((c i+2:Nat):Int))=false:=by rw [beq_eq_false_iff_ne]; omega
    try refine go ?_
    refine clE en ?_
    rintro d s2 ⟨rfl,rfl⟩
    try refine go ?_
    try simp only [w2,q2,q3]
    try refine go ?_
    refine key _ ?_
    rw [z2,← z1]; rfl
   ·have q1:decide (((V ri).num:Int)≤(c i:Nat))=false:=decide_eq_false (by omega)
    have q2:decide (((V ri).num:Int) > ((c i+2:Nat):Int))=false:=decide_eq_false (by omega)
    have q3:(((V ri).num:Int)==((c i+2:Nat):Int))=true:=by rw [beq_iff_eq]; omega
    have q4:(t.kd !=14)=false:=by simp [z3]
    try refine go ?_
    refine clE en ?_
    rintro d s2 ⟨rfl,rfl⟩
    try refine go ?_
    try simp only [w2,q2,q3]
    try refine go ?_
    try simp only [q4]
    try refine go ?_
    refine key _ ?_
    rw [z2,← z1]; rfl
  ·have hgt:decide (((V ri).num:Int) > 0)=false:=decide_eq_false (by omega)
   have z:c (i+1)=c i:=by
    rcases hns with ⟨_,z⟩ | ⟨z1,_⟩ | ⟨z1,_,_⟩ <;> omega
   try refine go ?_
   refine clE en ?_
   rintro d s2 ⟨rfl,rfl⟩
   try refine go ?_
   try simp only [hgt]
   try refine go ?_
   refine key _ ?_
   rw [z]; rfl
 ·have hdd:decide ((i:Int) < (R.length:Nat))=false:=decide_eq_false (by omega)
  have hjl:i=tms.length:=by omega
  subst hjl
  show Run T H _ _ ⟨[(0,.vs nl 8 (tms.map Tm.d)),(3,.ptr so 0),(5,.sl q 0 R.length R.length),(6,.int .i64 (c tms.length:Nat)),(7,.int .i64 (tms.length:Nat))],[]⟩ _ _
  try refine go ?_
  exact hd _ _ _ _
end
structure TmsIn (nl:Bool)(tms:List Tm):Prop where
 len:tms.length≤1000000000000000000
 nil:nl=true→tms=[]
 n1:∀t∈tms,t.n1=true→t.mag=[]
 n2:∀t∈tms,t.n2=true→t.kids=[]
 wd:∀t∈tms,∀w∈t.mag,w < 4294967296
 ls:∀t∈tms,Lens 1000000000000000000 t
section
variable {T:Nat→Option AFn}{H:zAa}{s s1:St}{so bo i:Nat}{x:D}{tms:List Tm}{t:Tm}{o la ta pl mp P Sh n lv tk q st:Nat}{Ds:List D}{Vs:List Val}{F:Nat→Nat→Prop}{R:List Nat}
theorem yBf (hS:TS T)(h:StA s so o la ta pl mp P Sh Ds n lv tk):EvP T H 9 [.ptr so 0] s fun d s1=>d= .int .i64 (lv:Nat)∧s1=s:=by
 have g:=h.go
 refine evI hS.t9 ?_
 try refine go ?_
 exact rtF ⟨rfl,rfl⟩
theorem yHg (hS:TS T)(hs:s.Ok)(hst:StA s so o la ta pl mp P Sh three 0 0 0):
  EvP T H 8 [.ptr so 0,.vs true 8 []] s (zXf P Sh s so o la ta pl mp []):=by
 have lso:=hst.lt hs (j:=so) (.inl (.inl rfl))
 have bB:Beh Nil s (s.push0 (.var 67 (.agg [.ptr so 0,.vs true 8 [],.vs true 0 []]))):=(Beh.refl hs).push _
 have gB:(s.push0 (.var 67 (.agg [.ptr so 0,.vs true 8 [],.vs true 0 []]))).get s.n=some (.var 67 (.agg [.ptr so 0,.vs true 8 [],.vs true 0 []])):=St.gpE
 generalize hsB:s.push0 (.var 67 (.agg [.ptr so 0,.vs true 8 [],.vs true 0 []]))=sB at bB gB
 have okB:=bB.ok
 have lB:=okB.lt gB
 have fin:∀ {s4:St} {q st:Nat},Beh Nil sB s4→s4.get q=some (.arr 1 3 (ints (([]:List Nat).map Int.ofNat)) st)→st≤0→zXf P Sh s so o la ta pl mp [] (.tup [.sl q 0 0 0,.int .i64 0]) s4:=by
  intro s4 q st b4 g4 h4
  have d3:=(hst.beh hs bB fun _ _ h=>h).beh okB b4 fun _ _ h=>h
  have n4:=b4.n
  have n5:=bB.n
  exact⟨b4.ok,by omega,.inr ⟨q,st,three,yHv,0,0,fun _ _=>False,[],rfl,g4,h4,d3,by omega,by decide,by omega,vals3,.nil,rfl,(fun k r t h=>by simp at h),(fun i t h=>by simp at h)⟩⟩
 refine evI hS.t8 ?_
 try refine go ?_
 show Run T H _ _ _ (s.push0 (.var 67 (.agg [.ptr so 0,.vs true 8 [],.vs true 0 []]))) _
 rw [hsB]
 refine zAh 0 (fun j=> [(0,.ptr so 0),(1,.vs true 8 []),(6,.ptr s.n 0),(24,.int .i64 0),(25,.int .i64 0)]) (fun j s' =>s' =sB) rfl ?_
 rintro j s' hj rfl
 try refine go ?_
 refine zAh 0 (fun j=> [(0,.ptr so 0),(1,.vs true 8 []),(6,.ptr s.n 0),(35,.vs true 8 []),(36,.int .i64 0),(37,.int .i64 0)]) (fun j s'' =>s'' =s') rfl ?_
 rintro j s' hj rfl
 try refine go ?_
 refine zAh 0 (fun j=> [(0,.ptr so 0),(6,.ptr s.n 0),(54,.vs true 8 []),(55,.int .i64 0),(56,.int .i64 0)]) (fun j s'' =>s'' =s') rfl ?_
 rintro j s' hj rfl
 try refine go ?_
 have h0:s'.get (s'.n+0)=none:=okB.fresh _ (Nat.le_refl _)
 refine zDs (dl:= .int .i64 ((0:Nat):Int)) (dc:= .int .i64 ((0:Nat):Int)) zPz zPz (Nat.le_refl _) (by omega) (by simp only [mxE]; omega) ?_
 try refine go ?_
 refine zWr (yd:= .vs true 0 []) rfl ?_
 try refine go ?_
 refine rtF (fin (st:=0) ?_ (gI) (Nat.le_refl _))
 exact bI
end
section
variable {T:Nat→Option AFn}{H:zAa}{s s1:St}{so bo i:Nat}{x:D}{tms:List Tm}{t:Tm}{o la ta pl mp P Sh n lv tk q st:Nat}{Ds:List D}{Vs:List Val}{F:Nat→Nat→Prop}{R:List Nat}
theorem zXf.law (h:zXf P Sh s so o la ta pl mp tms x s1)(h40:tms.length≤40):
  (∃e:Int,e≠0∧x= .tup [.vs true 0 [],.int .i64 e]∧StA s1 so o la ta pl mp P Sh three 0 0 0)∨
  (∃q st Ds n tk R V c,x= .tup [.sl q 0 R.length R.length,.int .i64 0]∧zSv P Sh s1 so o la ta pl mp n tk q st Ds tms R V c):=by
 obtain⟨ok,_,h1 | ⟨q,st,Ds,Vs,n,tk,F,R,e1,e2,e3,e4,e5,e6,e7,e8,e9,e10,e11,e12⟩⟩:=h
 ·exact .inl h1
 ·obtain⟨c,c1,c2,c3⟩:=e9.nums ⟨rfl,rfl,rfl⟩
  refine .inr ⟨q,st,Ds,n,tk,R,fun r=>((zDx R tms Vs tms.length)[r]?).getD .none,c,e1,⟨ok,e4,e2,e3,e10,h40,fun i r hr=> ?_,c1,c2,fun i r t hr ht=> ?_⟩⟩
  ·have hi:i < tms.length:=by rw [← e10]; exact (List.getElem?_eq_some_iff.mp hr).1
   obtain⟨w,h1,h2⟩:=e11 i r tms[i] hr (List.getElem?_eq_getElem hi)
   obtain⟨d,h3,h4⟩:=e8.get h1
   simp only [h1,Option.getD_some]
   exact⟨h2.plain,d,_,h3,h4⟩
  ·obtain⟨v,h1,h2⟩:=c3 i r t hr ht
   obtain⟨w,h3,h4⟩:=zMo (R:=R) (tms:=tms) h1 tms.length
   simp only [h3,Option.getD_some]
   rw [h4]; exact h2
theorem rules_ev (hS:TS T){a b:Int}:EvP T H 7 [.int .i64 a,.int .i64 b] s fun d s1=>d= .agg [.int .i64 0,.int .i64 a,.int .i64 b,.vs true 0 [],.vs true 0 []]∧s1=s:=by
 refine evI hS.t7 ?_
 try refine go ?_
 exact rtF ⟨rfl,rfl⟩
theorem law_ev (hL:TL T)(hS:TS T)(hTt:TT T)(hP:TP T)(hW:TW T)(hV:TV T)(hX:TX T)(hU:TU T)(haw:∀s,EvP T H 5 [] s fun d s1=>d= .bool true∧s1=s)(hs:s.Ok){nl:Bool}(hI:TmsIn nl tms):
  EvP T H 3 [.vs nl 8 (tms.map Tm.d)] s fun d _=>d= .bool true:=by
 have hml:(tms.map Tm.d).length=tms.length:=List.length_map _
 refine evI hL.t3 ?_
 try refine go ?_
 refine clE (large_ev hS hs hI.len hI.ls) ?_
 rintro d s1 ⟨rfl,b,rfl,hb⟩
 cases b
 rotate_left
 ·try refine go ?_
  refine clE (haw _) ?_
  rintro d s2 ⟨rfl,rfl⟩
  try refine go ?_
  exact rtF rfl
 obtain⟨_,hls⟩:=hb rfl
 by_cases h40:40 < tms.length
 ·have hd:decide (((tms.map Tm.d).length:Int) > 40)=true:=decide_eq_true (by omega)
  try refine go ?_
  refine clE (haw _) ?_
  rintro d s2 ⟨rfl,rfl⟩
  try refine go ?_
  exact rtF rfl
 have hd:decide (((tms.map Tm.d).length:Int) > 40)=false:=decide_eq_false (by omega)
 have hT:TmsOk tms:=⟨by omega,fun u hu=>⟨⟨hI.n1 u hu,hI.n2 u hu,by have:=(hls u hu).2.2; omega,by have:=(hls u hu).2.1; omega,by have:=(hls u hu).1; omega⟩,hI.wd u hu⟩⟩
 try refine go ?_
 refine clE (rules_ev hS) ?_
 rintro d s2 ⟨rfl,rfl⟩
 try refine go ?_
 refine clE (new_ev (P:=1000) (Sh:=5) hS hs (by omega) (by omega)) ?_
 rintro d s3 ⟨so,o,la,ta,pl,mp,rfl,hst,hge,b3⟩
 have ok3:=b3.ok
 have hB:EvP T H 8 [.ptr so 0,.vs nl 8 (tms.map Tm.d)] s3 (zXf 1000 5 s3 so o la ta pl mp tms):=by
  cases nl
  ·exact build_ev hS hTt hP hW hV hX hU ok3 hst hT (by omega) (by omega)
  ·have:=hI.nil rfl
   subst this
   exact yHg hS ok3 hst
 try refine go ?_
 refine clE hB ?_
 intro d s4 hb4
 have ok4:=hb4.1
 rcases hb4.law (by omega) with ⟨e,he,rfl,hst4⟩ | ⟨q,st,Ds,n,tk,R,V,c,rfl,cx⟩
 ·have hne:(e !=0)=true:=by simpa using he
  try refine go ?_
  try simp only [hne]
  try refine go ?_
  refine clE (yBf hS hst4) ?_
  rintro d s5 ⟨rfl,rfl⟩
  try refine go ?_
  refine clE (haw _) ?_
  rintro d s6 ⟨rfl,rfl⟩
  try refine go ?_
  exact rtF rfl
 ·have hcn:=cx.cn
  have hc0:=cx.c0
  try refine go ?_
  refine lawO (nl:=nl) hS hW hV cx ?_ ?_
  ·simp only [FO,hc0]
   rfl
  ·intro d1 d2 d3 d4
   simp only [FO]
   try refine go ?_
   refine clE (yBf hS cx.sa) ?_
   rintro d s5 ⟨rfl,rfl⟩
   have hcc:((n:Int)==(c tms.length:Nat))=true:=by rw [beq_iff_eq,← cx.ln,hcn]
   try refine go ?_
   try simp only [hcc]
   try refine go ?_
   refine clE (haw _) ?_
   rintro d s6 ⟨rfl,rfl⟩
   try refine go ?_
   exact rtF rfl
end
def zLm:Sh:= .st [.int .i64,.bool,.st [.bool,.slice 1 true (.int .u32)],.str,.slice 1 true (.int .i64),.bool,.bool]
theorem wf_u32 {a:Int}(h:(Lit.int .u32 a).wf=true):0≤a∧a < 4294967296:=by
 simp only [Lit.wf,Bool.and_eq_true,decide_eq_true_eq]at h
 have h1:IntKind.min .u32=0:=by decide
 have h2:IntKind.max .u32=4294967295:=by decide
 omega
theorem zZv:∀m:List D,(∀d,d∈m→∃l,d=mkE true l∧∃n,l=[.int .u32 n]∧(Lit.int .u32 n).wf=true)→∃M:List Nat,m=u32s M∧∀v∈M,v < 4294967296
 | [],_=>⟨[],rfl,fun v h=>by cases h⟩
 | d::m,h=>by
  obtain⟨M,e1,e2⟩:=zZv m fun x hx=>h x (List.mem_cons_of_mem _ hx)
  obtain⟨l,rfl,n,rfl,hw⟩:=h d (by simp)
  obtain⟨h1,h2⟩:=wf_u32 hw
  refine⟨n.toNat::M, ?_,fun v hv=> ?_⟩
  ·simp only [u32s,List.map_cons,mkE,List.headD_cons]
   rw [e1,u32s,show ((n.toNat:Nat):Int)=n by omega]
  ·rcases List.mem_cons.1 hv with rfl | hv
   ·omega
   ·exact e2 v hv
theorem yBi:∀m:List D,(∀d,d∈m→∃l,d=mkE true l∧∃n,l=[.int .i64 n]∧(Lit.int .i64 n).wf=true)→∃M:List Int,m=ints M
 | [],_=>⟨[],rfl⟩
 | d::m,h=>by
  obtain⟨M,e1⟩:=yBi m fun x hx=>h x (List.mem_cons_of_mem _ hx)
  obtain⟨l,rfl,n,rfl,hw⟩:=h d (by simp)
  exact⟨n::M,by simp only [ints,List.map_cons,mkE,List.headD_cons]; rw [e1,ints]⟩
def GoodTm (t:Tm):Prop:=(t.n1=true→t.mag=[])∧(t.n2=true→t.kids=[])∧(∀w∈t.mag,w < 4294967296)∧Lens 1000000000000000000 t
theorem term_tm {d:D}(h:∃l,d=mkE false l∧zQp zLm l):∃t:Tm,d=t.d∧GoodTm t:=by
 have hr:reachBytes≤1000000000000000000:=by decide
 obtain⟨l,rfl,h⟩:=h
 simp only [zLm,zQp,zUu]at h
 obtain⟨a1,r1,rfl,⟨k,rfl,_⟩,a2,r2,rfl,⟨b,rfl⟩,a3,r3,rfl,⟨c1,q1,rfl,⟨ng,rfl⟩,c2,q2,rfl,⟨n1,m,rfl,hn1,hm1,hm⟩,rfl⟩,a4,r4,rfl,⟨tx,rfl,htx⟩,a5,r5,rfl,⟨n2,ks,rfl,hn2,hk1,hk⟩,a6,r6,rfl,⟨hs,rfl⟩,a7,r7,rfl,⟨sm,rfl⟩,rfl⟩:=h
 obtain⟨M,rfl,hM⟩:=zZv m hm
 obtain⟨K,rfl⟩:=yBi ks hk
 have e1:(u32s M).length=M.length:=List.length_map _
 have e2:=zAp K
 refine⟨⟨k,b,ng,n1,M,tx,n2,K,hs,sm⟩,rfl,fun h=> ?_,fun h=> ?_,hM,by show K.length≤_; omega,by show tx.length≤_; omega,by show M.length≤_; omega⟩
 ·have:=hn1 h; exact List.eq_nil_of_length_eq_zero (by rw [← e1,this]; rfl)
 ·have:=hn2 h; exact List.eq_nil_of_length_eq_zero (by rw [← e2,this]; rfl)
theorem zUz:∀L:List D,(∀d,d∈L→∃l,d=mkE false l∧zQp zLm l)→∃tms:List Tm,L=tms.map Tm.d∧∀t∈tms,GoodTm t
 | [],_=>⟨[],rfl,fun t h=>by cases h⟩
 | d::L,h=>by
  obtain⟨tms,e1,e2⟩:=zUz L fun x hx=>h x (List.mem_cons_of_mem _ hx)
  obtain⟨t,rfl,ht⟩:=term_tm (h d (by simp))
  exact⟨t::tms,by rw [List.map_cons,e1],fun u hu=>by
   rcases List.mem_cons.1 hu with rfl | hu
   ·exact ht
   ·exact e2 u hu⟩
theorem args_in {nl:Bool}{L:List D}(h:zQp (.slice 8 false zLm) [.vs nl 8 L]):∃tms:List Tm,L=tms.map Tm.d∧TmsIn nl tms:=by
 have hr:reachBytes≤1000000000000000000:=by decide
 simp only [zQp]at h
 obtain⟨nl',L',he,hn,hl,hx⟩:=h
 simp only [List.cons.injEq,D.vs.injEq,and_true,true_and]at he
 obtain⟨rfl,rfl⟩:=he
 obtain⟨tms,rfl,ht⟩:=zUz L hx
 rw [List.length_map]at hl
 exact⟨tms,rfl,⟨by omega,fun h=>List.map_eq_nil_iff.mp (hn h),fun t h=>(ht t h).1,fun t h=>(ht t h).2.1,fun t h=>(ht t h).2.2.1,fun t h=>(ht t h).2.2.2⟩⟩
def firstZ:List Int:=Go.Pinned.utf8FirstZ.map Int.ofNat
def acceptZ:List (Int×Int):=[(128,191),(160,191),(128,159),(144,191),(128,143),(0,0),(0,0),(0,0),(0,0),(0,0),(0,0),(0,0),(0,0),(0,0),(0,0),(0,0)]
theorem yGl:zOo=firstZ.map (D.int .u8):=by kernel_rfl
theorem zZb:zGj=(acceptZ.flatMap fun z=> [z.1,z.2]).map (D.int .u8):=by kernel_rfl
theorem first_eq:Rows.laid_unicode_utf8_first= .agg (firstZ.map fun z=> .lit (.int .u8 z)):=by kernel_rfl
theorem yHn:(Rows.laid_unicode_utf8_acceptRanges:DataW Unit)= .agg (acceptZ.map fun z=> .agg [.lit (.int .u8 z.1),.lit (.int .u8 z.2)]):=by kernel_rfl
theorem flat2_eq {k:IntKind}(Z:List (Int×Int)):yHu k Z=(Z.flatMap fun z=> [z.1,z.2]).map (Value.int k):=by
 induction Z with
 | nil=>rfl
 | cons z Z ih=>simp only [yHu,List.flatMap_cons,List.map_append,List.map_cons,List.map_nil]at ih ⊢; rw [ih]
theorem zUx {P:Program}{w:World}{n:String}{g:Nat}{cs:Array Value}(hg:P.globalNamed n=some g)(h:w.var? P n=some cs):∃ty fz,w.heap[g]? =some (.cells cs ty fz):=by
 unfold World.var? at h
 rw [hg]at h
 simp only [Option.bind_some]at h
 split at h
 ·rename_i c t f hh
  cases h
  exact⟨_,_,hh⟩
 ·cases h
theorem gl_ok [Go.Ab.Vals]{w:World}(h:laidMetH Tryz.prog Rows.storeOrdersRow.laid w):∀g d,gl g=some d→Rep rho0 w (.vptr d 0) (.pointer (some ⟨g,0,none⟩)):=by
 have hm:laidMet Tryz.prog Rows.storeOrdersRow.laid w:=by
  unfold laidMetH at h
  have e:(Rows.storeOrdersRow.laid.filter fun x=>x.2.handleName?.isSome)=[]:=by kernel_rfl
  rw [e]at h
  exact h
 obtain⟨ps,hv,_⟩:=hm
 obtain⟨_,_,_,_,_,_,_,_,_,_,hv,_⟩:=hv
 obtain⟨_,_,_,_,_,_,_,_,_,_,hv,_⟩:=hv
 obtain⟨_,_,_,_,_,_,_,_,_,_,hv,_⟩:=hv
 obtain⟨g2,t2,cs2,f2,p2,q2,a1,a2,a3,a4,hv,_⟩:=hv
 obtain⟨g1,t1,cs1,f1,p1,q1,b1,b2,b3,b4,hv,_⟩:=hv
 have hg2 : Tryz.prog.globalNamed "unicode/utf8.acceptRanges" = some 2 := by kernel_rfl
 have hg1 : Tryz.prog.globalNamed "unicode/utf8.first" = some 1 := by kernel_rfl
 have ht2:(Tryz.prog.globals[2]?).map (·.type)=some 199:=by kernel_rfl
 have ht1:(Tryz.prog.globals[1]?).map (·.type)=some 196:=by kernel_rfl
 have a1:=hg2.symm.trans a1
 have b1:=hg1.symm.trans b1
 cases a1; cases b1
 have a2:=ht2.symm.trans a2
 have b2:=ht1.symm.trans b2
 cases a2; cases b2
 obtain⟨ty2,fz2,hh2⟩:=zUx hg2 a3
 obtain⟨ty1,fz1,hh1⟩:=zUx hg1 b3
 rw [yHn]at a4
 rw [first_eq]at b4
 have c1:=row_ints Tryz.underlying196 Tryz.underlying5 (by kernel_rfl) (by kernel_rfl) b4
 have c2:=yFa Tryz.underlying199 Tryz.underlying198 rfl rfl (by kernel_rfl) (by kernel_rfl) Tryz.underlying5 Tryz.underlying5 (by kernel_rfl) (by kernel_rfl) a4
 rw [flat2_eq]at c2
 intro g d hd
 unfold gl at hd
 cases e1:Nat.beq g 1 with
 | true=>
  obtain rfl:=Nat.eq_of_beq_eq_true e1
  simp only [e1,cond,Option.some.injEq]at hd
  subst hd
  show Rep rho0 w (.vptr (.agg zOo) 0) _
  rw [yGl]
  exact zWc hh1 c1 (by decide)
 | false=>
  simp only [e1,cond]at hd
  cases e2:Nat.beq g 2 with
  | true=>
   obtain rfl:=Nat.eq_of_beq_eq_true e2
   simp only [e2,cond,Option.some.injEq]at hd
   subst hd
   show Rep rho0 w (.vptr (.agg zGj) 0) _
   rw [zZb]
   exact zWc hh2 c2 (by decide)
  | false=>simp only [e2,cond]at hd; cases hd
theorem gl_im:∀g d,gl g=some d→d.im=true:=by
 intro g d hd
 unfold gl at hd
 cases e1:Nat.beq g 1 with
 | true=>simp only [e1,cond,Option.some.injEq]at hd; subst hd; decide
 | false=>
  simp only [e1,cond]at hd
  cases e2:Nat.beq g 2 with
  | true=>simp only [e2,cond,Option.some.injEq]at hd; subst hd; decide
  | false=>simp only [e2,cond]at hd; cases hd
theorem st0_ok:st0.Ok:=⟨rfl,rfl,fun o _=>rfl⟩
theorem run_law {nl:Bool}{tms:List Tm}(h:TmsIn nl tms):∃n,Ab.isTrue (zPn tabA aw n 3 [.vs nl 8 (tms.map Tm.d)] st0)=true:=by
 obtain⟨d,s1,⟨n,hn⟩,rfl⟩:=law_ev (H:=aw) isTL isTS isTT isTP isTW isTV isTX isTU yHk st0_ok h
 exact⟨n,by rw [hn]; rfl⟩
end Go.Proofs.YtmcdajnpdekocaaGreatDoor.Tab
