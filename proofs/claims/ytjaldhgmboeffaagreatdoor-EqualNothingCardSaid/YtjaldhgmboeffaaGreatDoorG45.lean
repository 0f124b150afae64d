/- Part. -/
import Derived.Test.YtjaldhgmboeffaaGreatDoorG44
set_option linter.unusedSimpArgs false
set_option linter.unusedVariables false
set_option linter.unusedSectionVars false
set_option maxRecDepth 100000
set_option maxHeartbeats 4000000
namespace Go.Proofs.Tab
open Go Go.Ab Go.Ab.Sm
theorem zr.pos {t:Tm}{v:gP}(h:zr t v):1<=v.kind:=by
 unfold zr at h;rcases h with ⟨_,rfl⟩ | ⟨_,rfl⟩ | ⟨_,rfl⟩ | ⟨_,rfl⟩ | ⟨h1,_,_,_,rfl,h2,_⟩ | ⟨h1,_,_,_,rfl,h2⟩ | ⟨_,_,_,rfl⟩ | ⟨h1,_,_,_,rfl,h2⟩;all_goals simp only [gP.kind]
 all_goals omega
structure BN (s:St)(to so o la ta pl mp n tk q st wo:Nat)(x:D)(Ds:List D)(R:List Nat):Prop where
 ok:s.Ok
 gt:s.get to=some (.var 42 (.agg [.ptr so 0,.sl q 0 R.length R.length,.ptr wo 0,x]))
 gq:s.get q=some (.arr 1 3 (ints (R.map Int.ofNat)) st)
 sl:st<=R.length
 l:R.length<=100
 sa:bc s so o la ta pl mp 1000 4 Ds n n tk
 zS:∀(i r:Nat),R[i]? =some r->∃d w F,Ds[r]? =some d/\eY 1000 F s d w/\(∀j,F j->j < s.n)/\1<=w.kind
theorem BN.dK {s s1:St}{to so o la ta pl mp n tk q st wo:Nat}{x:D}{Ds:List D}{R:List Nat}(h:BN s to so o la ta pl mp n tk q st wo x Ds R)(hb:aF Nil s s1):BN s1 to so o la ta pl mp n tk q st wo x Ds R:=
 ⟨hb.ok,hb.get h.ok h.gt id,hb.get h.ok h.gq id,h.sl,h.l,h.sa.dK h.ok hb fun _ _ h=>h,fun i r hr=>by
  obtain⟨d,w,F,h1,h2,h3,h4⟩:=h.zS i r hr;exact⟨d,w,F,h1,h2.dK h.ok hb fun _ _ _ h=>h,fun j hj=>eK (h3 j hj) hb.n,h4⟩⟩
noncomputable def enL:AC:=match cd3.1.body with
 | .seq _ (.seq _ (.seq _ (.seq _ (.seq _ (.seq _ (.seq _ (.seq (.seq _ (.block _ (.loop _ a))) _)))))))=>a
 | _=> .skip
noncomputable def enB:AC:=match enL with
 | .seq _ (.seq (.block _ b) _)=>b
 | _=> .skip
noncomputable def enI:AC:=match enL with
 | .seq _ (.seq _ b)=>b
 | _=> .skip
noncomputable def enH:AC:=match enL with
 | .seq a _=>a
 | _=> .skip
def FE (v goal:Int)(to i:Nat):Env:=[(1,.int .i64 v),(2,.int .i64 goal),(8,.ptr to 0),(10,.int .i64 (i:Nat))]
section
variable {T:Nat->Option dU}{H:ay}{s:St}{to so o la ta pl mp n tk q st wo:Nat}{x:D}{Ds:List D}{R:List Nat}{v goal:Int}
theorem Vm (h:BN s to so o la ta pl mp n tk q st wo x Ds R){i:Nat}{tl tl2:AC}(hi:i < R.length){k:List iT}{Q:QP}
  (hd:∀d1 d2 d3 d4 d5 d6 d7:D,eH T H tl (.block 1:: .seq tl2::k) ⟨(68,d1)::(67,d2)::(66,d3)::(65,d4)::(64,d5)::(63,d6)::(62,d7)::FE v goal to i,[]⟩ s Q):
  eH T H (.seq enH (.seq (.block 1 tl) tl2)) k ⟨FE v goal to i,[]⟩ s Q:=by
 have gt:=h.gt;have gq:=h.gq;have hs:=h.ok;have Y9:=eJ ((i:Int) < (R.length:Nat));show eH T H _ _ ⟨[(1,.int .i64 v),(2,.int .i64 goal),(8,.ptr to 0),(10,.int .i64 (i:Nat))],[]⟩ _ _;try refine go ?_
 exact hd _ _ _ _ _ _ _
theorem OZ (hQ:TQ T)(hS:TS T)(h:BN s to so o la ta pl mp n tk q st wo x Ds R){i r:Nat}(hi:R[i]? =some r)(hv:v < 0){k:List iT}{Q:QP}{d1 d2 d3 d4 d5 d6 d7:D}
  (hd:∀(E:Env) (s1:St),E.bV [1,2,8,10]=FE v goal to (i+1)->BN s1 to so o la ta pl mp n tk q st wo x Ds R->lg T H .normal k ⟨E,[]⟩ s1 Q):
  eH T H enB (.block 1:: .seq enI::k) ⟨(68,d1)::(67,d2)::(66,d3)::(65,d4)::(64,d5)::(63,d6)::(62,d7)::FE v goal to i,[]⟩ s Q:=by
 have acz:=h.l;have sO:=h.sl;have ja:=(aj.mp hi).1;have w1:IntKind.wrap .i64 ((i:Int)+1)=((i+1:Nat):Int):=by rw [wrap_small (by omega) (by omega)]; omega
 have he:(ints (R.map Int.ofNat))[0+i]? =some (.int .i64 (r:Nat)):=by simp only [ints,aN,aC,hi,da]; rfl
 have ur:=gT R;have gt:=h.gt;have gq:=h.gq;have hs:=h.ok;show eH T H _ _ ⟨[(68,d1),(67,d2),(66,d3),(65,d4),(64,d5),(63,d6),(62,d7),(1,.int .i64 v),(2,.int .i64 goal),(8,.ptr to 0),(10,.int .i64 (i:Nat))],[]⟩ _ _;try refine go ?_
 refine aX (N0 hQ hS h.ok h.sa hv) ?_;rintro d s1 ⟨rfl,b1⟩;replace h:=h.dK b1;clear b1 gt gq hs;have gt:=h.gt;have gq:=h.gq;have hs:=h.ok;refine⟨rfl,by rfl, ?_⟩;try refine go ?_
 obtain⟨dv,w,F,x1,x2,x3,x4⟩:=h.zS i r hi;refine aX (KZ hQ hS h.ok h.sa x1 x2 x3 x4 hv) ?_;rintro d s2 ⟨rfl,b1⟩;replace h:=h.dK b1;clear b1 gt gq hs x1 x2 x3;have gt:=h.gt;have gq:=h.gq;have hs:=h.ok;refine⟨rfl,by rfl, ?_⟩;try refine go ?_
 refine aX (I9 hQ hS h.ok h.sa hv) ?_;rintro d s3 ⟨rfl,b1⟩;replace h:=h.dK b1;clear b1 gt gq hs;have gt:=h.gt;have gq:=h.gq;have hs:=h.ok;refine⟨rfl,by rfl, ?_⟩;try refine go ?_
 obtain⟨dv,w,F,x1,x2,x3,x4⟩:=h.zS i r hi;refine aX (JS hQ hS h.ok h.sa x1 x2 x4 hv) ?_;rintro d s4 ⟨rfl,b1⟩;replace h:=h.dK b1;clear b1 gt gq hs x1 x2 x3;have gt:=h.gt;have gq:=h.gq;have hs:=h.ok;refine⟨rfl,by rfl, ?_⟩;try refine go ?_
 refine aX (Jw hQ hS h.ok h.sa hv) ?_;rintro d s5 ⟨rfl,b1⟩;replace h:=h.dK b1;clear b1 gt gq hs;have gt:=h.gt;have gq:=h.gq;have hs:=h.ok;refine⟨rfl,by rfl, ?_⟩;try refine go ?_
 obtain⟨dv,w,F,x1,x2,x3,x4⟩:=h.zS i r hi;refine aX (LU hQ hS h.ok h.sa x1 x2 x4 hv) ?_;rintro d s6 ⟨rfl,b1⟩;replace h:=h.dK b1;clear b1 gt gq hs x1 x2 x3;have gt:=h.gt;have gq:=h.gq;have hs:=h.ok;refine⟨rfl,by rfl, ?_⟩;try refine go ?_
 refine aX (MT hQ hS h.ok h.sa hv) ?_;rintro d s7 ⟨rfl,b1⟩;replace h:=h.dK b1;clear b1 gt gq hs;refine⟨rfl,by rfl, ?_⟩;try refine go ?_
 refine hd _ _ ?_ h;rfl
end
theorem Ti {s:St}{to so o la ta pl mp q st wo n tk:Nat}{x:D}{Ds:List D}{Vs:List gP}{F:Nat->Nat->Prop}{R:List Nat}{tms:List Tm}(ok:s.Ok)(gt:s.get to=some (.var 42 (.agg [.ptr so 0,.sl q 0 R.length R.length,.ptr wo 0,x])))(gq:s.get q=some (.arr 1 3 (ints (R.map Int.ofNat)) st))(dN:st<=R.length)(sa:bc s so o la ta pl mp 1000 4 Ds n n tk)(zJ:eV 1000 s F Ds Vs)(AO:Mk tms R Vs)(Lb:R.length=tms.length)(hR1:R.length<=100):BN s to so o la ta pl mp n tk q st wo x Ds R:=
 ⟨ok,gt,gq,dN,hR1,sa,fun i r hr=>by
  have hi:i < tms.length:=by rw [← Lb]; exact (aj.mp hr).1
  obtain⟨w,y1,y2⟩:=AO i r tms[i] hr (ab hi);obtain⟨d,h3,h4⟩:=zJ.get y1;exact⟨d,w,_,h3,h4,fun j hj=>(zJ.lt _ j hj).1,y2.pos⟩⟩
section
variable {T:Nat->Option dU}{H:ay}{s s1:St}{tms:List Tm}{v goal:Int}
theorem XT (hQ:TQ T)(hS:TS T)(Yb:TT T)(hP:TP T)(hW:TW T)(hV:TV T)(hX:TX T)(hU:TU T H)(hRW:nB T)(hRT:nK T)(YR:mz T)(haw:∀s,cu T H 5 [] s fun d s1=>d= .bool true/\s1=s)(hs:s.Ok){nl:Bool}(hI:Bh nl tms)(qq: -9223372036854775808<=v)(P0:v<=9223372036854775807):
  cu T H 3 [.vs nl 8 (tms.map Tm.d),.int .i64 v,.int .i64 goal] s fun d _=>d= .bool true:=by
 refine ax hQ.t3 ?_;try refine go ?_
 refine ak (Hm hQ hs hI.len hI.ls) ?_;rintro d s1 ⟨rfl,b,rfl,hb⟩;cases b;rotate_left
 ·try refine go ?_
  refine ak (haw _) ?_;rintro d s2 ⟨rfl,rfl⟩;try refine go ?_
  exact ai rfl
 obtain⟨h1,h2⟩:=hb rfl;by_cases xY:v >= 0
 ·have hd:decide (v >= 0)=true:=cO xY;have hw:IntKind.wrap .i64 (-1 - v)= -1 - v:=wrap_small (by omega) (by omega);have hu: -1 - v < 0:=by omega
  try refine go ?_
  rw [hw];clear hw hd xY qq P0;generalize -1 - v=u at hu ⊢;refine ak (Dw hQ) ?_;rintro d s2 ⟨rfl,rfl⟩;try refine go ?_
  refine ak (E4 hQ) ?_;rintro d s2 ⟨rfl,rfl⟩;try refine go ?_
  refine ak (AF hQ) ?_;rintro d s2 ⟨rfl,rfl⟩;try refine go ?_
  refine ak (CB hQ hs) ?_;rintro d s2 ⟨rfl,b2⟩;have hs:=b2.ok;try refine go ?_
  refine ak (CU hQ hs) ?_;rintro d s3 ⟨rfl,b3⟩;have hs:=b3.ok;try refine go ?_
  refine ak (look_nil hQ hs) ?_;rintro d s4 ⟨rfl,b4⟩;have hs:=b4.ok;try refine go ?_
  refine ak (IE hQ hs) ?_;rintro d s5 ⟨rfl,b5⟩;have hs:=b5.ok;clear b2 b3 b4 b5;try refine go ?_
  refine ak (E6 hQ hS Yb hP hW hV hX hU hRW hRT YR hs hI (hI.ok h1 h2) h2) ?_;rintro d s6 ⟨hB,ok6⟩;rcases hB with rfl | ⟨to,so,o,la,ta,pl,mp,q,st,wo,x,Ds,Vs,n,tk,F,R,rfl,gt,gq,dN,sa,zJ,AO,Lb,hR1,OY⟩
  ·try refine go ?_
   refine ak (haw _) ?_;rintro d s7 ⟨rfl,rfl⟩;try refine go ?_
   exact ai rfl
  have cx:=Ti ok6 gt gq dN sa zJ AO Lb hR1;clear gt gq sa zJ;try refine go ?_
  refine ee R.length (FE u goal to) (fun _ s1=>BN s1 to so o la ta pl mp n tk q st wo x Ds R) cx ?_;clear cx;rintro i s7 hi cx;by_cases dM:i < R.length
  ·obtain⟨r,hr⟩:∃r,R[i]? =some r:=⟨_,ab dM⟩;show eH T H (.seq enH (.seq (.block 1 enB) enI)) _ _ _ _;refine Vm cx dM fun d1 d2 d3 d4 d5 d6 d7=> ?_;exact OZ hQ hS cx hr hu fun E s8 hE hc=>dw dM hc rfl hE
  ·have Y9:=cN ((i:Int) < (R.length:Nat));have gt:=cx.gt;have gq:=cx.gq;have hs:=cx.ok;show eH T H _ _ ⟨[(1,.int .i64 u),(2,.int .i64 goal),(8,.ptr to 0),(10,.int .i64 (i:Nat))],[]⟩ _ _;try refine go ?_
   refine ak (haw _) ?_;rintro d s8 ⟨rfl,rfl⟩;try refine go ?_
   exact ai rfl
 ·have hd:decide (v >= 0)=false:=bk xY;have hu:v < 0:=by omega
  try refine go ?_
  clear hd xY qq P0;refine ak (Dw hQ) ?_;rintro d s2 ⟨rfl,rfl⟩;try refine go ?_
  refine ak (E4 hQ) ?_;rintro d s2 ⟨rfl,rfl⟩;try refine go ?_
  refine ak (AF hQ) ?_;rintro d s2 ⟨rfl,rfl⟩;try refine go ?_
  refine ak (CB hQ hs) ?_;rintro d s2 ⟨rfl,b2⟩;have hs:=b2.ok;try refine go ?_
  refine ak (CU hQ hs) ?_;rintro d s3 ⟨rfl,b3⟩;have hs:=b3.ok;try refine go ?_
  refine ak (look_nil hQ hs) ?_;rintro d s4 ⟨rfl,b4⟩;have hs:=b4.ok;try refine go ?_
  refine ak (IE hQ hs) ?_;rintro d s5 ⟨rfl,b5⟩;have hs:=b5.ok;clear b2 b3 b4 b5;try refine go ?_
  refine ak (E6 hQ hS Yb hP hW hV hX hU hRW hRT YR hs hI (hI.ok h1 h2) h2) ?_;rintro d s6 ⟨hB,ok6⟩;rcases hB with rfl | ⟨to,so,o,la,ta,pl,mp,q,st,wo,x,Ds,Vs,n,tk,F,R,rfl,gt,gq,dN,sa,zJ,AO,Lb,hR1,OY⟩
  ·try refine go ?_
   refine ak (haw _) ?_;rintro d s7 ⟨rfl,rfl⟩;try refine go ?_
   exact ai rfl
  have cx:=Ti ok6 gt gq dN sa zJ AO Lb hR1;clear gt gq sa zJ;try refine go ?_
  refine ee R.length (FE v goal to) (fun _ s1=>BN s1 to so o la ta pl mp n tk q st wo x Ds R) cx ?_;clear cx;rintro i s7 hi cx;by_cases dM:i < R.length
  ·obtain⟨r,hr⟩:∃r,R[i]? =some r:=⟨_,ab dM⟩;show eH T H (.seq enH (.seq (.block 1 enB) enI)) _ _ _ _;refine Vm cx dM fun d1 d2 d3 d4 d5 d6 d7=> ?_;exact OZ hQ hS cx hr hu fun E s8 hE hc=>dw dM hc rfl hE
  ·have Y9:=cN ((i:Int) < (R.length:Nat));have gt:=cx.gt;have gq:=cx.gq;have hs:=cx.ok;show eH T H _ _ ⟨[(1,.int .i64 v),(2,.int .i64 goal),(8,.ptr to 0),(10,.int .i64 (i:Nat))],[]⟩ _ _;try refine go ?_
   refine ak (haw _) ?_;rintro d s8 ⟨rfl,rfl⟩;try refine go ?_
   exact ai rfl
end
end Go.Proofs.Tab
