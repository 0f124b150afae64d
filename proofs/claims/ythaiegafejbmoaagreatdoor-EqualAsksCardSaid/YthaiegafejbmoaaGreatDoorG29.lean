/- Part. -/
import Derived.Test.YthaiegafejbmoaaGreatDoorG28
set_option linter.unusedSectionVars false
set_option maxRecDepth 100000
set_option maxHeartbeats 4000000
set_option linter.unusedSimpArgs false
set_option linter.unusedVariables false
namespace Go.Proofs.Tab
open Go Go.Ab Go.Ab.Sm
structure oB (W:Nat->Prop)(s:St)(mo dv so most:Nat)(E:List dY)(h k v state entry told:Int):Prop where
 ex:∃to eo co ro log b st x C ver J scans t0 t1 t2 t3 t4,s.get dv=some (.var 229 (sW to (most:Nat) ver))/\jW s to eo co ro log b st x E C/\W dv/\W to/\W eo/\W co/\W ro/\E.length<=20000/\
  s.get mo=some (.var 226 (tg (.ptr so 0) dv h k v state entry scans ver t0 t1 t2 t3 t4))/\s.get so=some (.var 281 (qe to h log J (E.length:Nat) (J:Nat) told false))/\Seen log h E C J told
 nm: ¬ W mo
 ns: ¬ W so
 nq:mo≠so
theorem oB.NN {W:Nat->Prop}{s:St}{mo dv so most:Nat}{E:List dY}{h k v state entry told:Int}(hm:oB W s mo dv so most E h k v state entry told):dQ W s dv most E:=by
 obtain⟨to,eo,co,ro,log,b,st,x,C,ver,J,scans,t0,t1,t2,t3,t4,h1,h2,w1,w2,w3,w4,w5,h3,_⟩:=hm.ex;exact⟨to,eo,co,ro,log,b,st,x,C,ver,h1,h2,w1,w2,w3,w4,w5,h3⟩
section
variable {T:Nat->Option dJ}{H Y:au}
noncomputable def Qy:AC:=match RT.1.body with
 | .seq _ (.seq _ (.seq _ (.seq _ (.block _ c))))=>c
 | _=> .skip
noncomputable def BU:AC:=match Qy with
 | .loop _ a=>a
 | _=> .skip
def Stepped (W:Nat->Prop)(s:St)(mo dv so most:Nat)(E:List dY)(h k v told:Int)(d:D)(s1:St):Prop:=
 (∃(n:Nat) (e:dY),mg E h told (some n)/\E[n]? =some e/\e.k≠k/\d=fM 1 e.k false 0 0/\oB W s1 mo dv so most E h k v 2 (n:Nat) (n:Nat)/\aH (fun j=>j=mo\/j=so) s s1)\/
 (∃(n:Nat) (e:dY),mg E h told (some n)/\E[n]? =some e/\e.k=k/\d=fM 2 0 true e.v (n:Nat)/\dQ W s1 dv most (E.set n { e with v:=v})/\aH (fun j=>W j\/j=mo\/j=so) s s1)\/
 (mg E h told none/\E.length < most/\d=fM 2 0 false v (E.length:Nat)/\dQ (Own s.n W) s1 dv most (E++ [dY.mk h k v (E.length:Nat)])/\aH (fun j=>W j\/j=mo\/j=so) s s1)\/
 (mg E h told none/\most<=E.length/\d=fM 3 0 false 0 0/\dQ W s1 dv most E/\aH (fun j=>W j\/j=mo\/j=so) s s1)
theorem Ac (hT:TT T)(hP:TP T){W:Nat->Prop}{s:St}{mo dv so most:Nat}{E:List dY}{h k v state entry told:Int}{z:D}{K:List iI}{Q:QP}(hs:s.Ok)(gR:E.length < 20000)(te: -1<=told/\told < 30000)(hm:oB W s mo dv so most E h k v state entry told)
  (hz:z= .agg [.int .i64 0,.int .i64 0,.bool false,.int .i64 0,.int .i64 0])
  (hQ:∀d s1 env,Stepped W s mo dv so most E h k v told d s1->Env.get env 2=some (.lv d)->lB T H .ret K ⟨env,[]⟩ s1 Q):
  dR T H BU K ⟨[(0,.ptr mo 0),(2,.lv z)],[]⟩ s Q:=by
 subst hz;obtain⟨to,eo,co,ro,log,b,st,x,C,ver,J,scans,t0,t1,t2,t3,t4,h1,h2,w1,w2,w3,w4,w5,h3,gm,gs,Rg⟩:=hm.ex;have lm:=hs.lt gm;have ls:=hs.lt gs;have OO:=HB (H:=H) hT hs h2 (by omega) te gs Rg (fun _=>by rintro rfl; exact hm.ns w3);show dR T H (.block _ _) _ _ s _;try refine go ?_
 refine af OO ?_;rintro d s1 ⟨b1,o8⟩;have ok1:=b1.ok;have ne:∀o,W o->o≠so:=by rintro o ho rfl; exact hm.ns ho
 have xo:=b1.get hs gm hm.nq;have Cl:=b1.get hs h1 (ne _ w1);have KY:=h2.dT hs b1 (ne _ w2) (fun _ _ _=>ne _ w3) (ne _ w4) (ne _ w5);have gt1:=KY.go;have Et:=ok1.lt xo;have Oz:dQ W s1 dv most E:=⟨to,eo,co,ro,log,b,st,x,C,ver,Cl,KY,w1,w2,w3,w4,w5,h3⟩;rcases o8 with ⟨n,rfl,q1,J',g1,q2⟩ | ⟨rfl,q1⟩
 ·obtain⟨_,⟨e,he,heh⟩,_⟩:=id q1;have Ax:∃kX,x= .sl eo 0 E.length E.length/\s1.get eo=some (.arr 5 236 (E.map dw) kX)/\kX<=E.length:=by
   have Ax:=KY.en;rcases Ax with _ | ⟨_,kX,E,g,cG⟩
   ·simp at he
   ·exact⟨kX,rfl,g,cG⟩
  obtain⟨kX,rfl,Q2,cG⟩:=Ax;have uy:=HA (H:=H) hT gt1 Q2 cG he (by omega);have GG:=OC (H:=H) hT hP ok1 xo hm.nm Oz he;have xu:n < E.length:=(aj.mp he).1;try refine go ?_
  refine af uy ?_;rintro d s2 ⟨rfl,rfl⟩
  repeat' first | refine go ?_ | refine fW ?_
  refine eF (fun hc=> ?_) (fun hc=> ?_)
  ·have hk:e.k=k:=by simpa using hc
   try refine go ?_
   refine af GG ?_;rintro d s3 ⟨rfl,y1,y2⟩;try refine go ?_
   exact hQ _ _ _ (.inr (.inl ⟨n,e,q1,he,hk,rfl,y1,(b1.mono fun j hj=> .inr (.inr hj)).trans (y2.mono fun j hj=>hj.imp id .inl)⟩)) rfl
  ·have hk:e.k≠k:=by simpa using hc
   try refine go ?_
   have bm:∀d1 d2 d3:D,aH (fun j=>j=mo) s2 (((s2.bn mo (.var 226 d1)).bn mo (.var 226 d2)).bn mo (.var 226 d3)):=fun d1 d2 d3=>
    aH.set (W:=fun j=>j=mo) (aH.set (W:=fun j=>j=mo) (aH.set (W:=fun j=>j=mo) (aH.refl ok1) _ Et (fun _=>rfl)) _ Et (fun _=>rfl)) _ Et (fun _=>rfl)
   have nm:∀o,W o->o≠mo:=by rintro o ho rfl; exact hm.nm ho
   refine hQ (fM 1 e.k false 0 0) _ _ (.inl ⟨n,e,q1,he,hk,rfl,⟨⟨to,eo,co,ro,log,b,st,_,C,ver,J',scans,1,e.k,false,0,0,(bm _ _ _).get ok1 Cl (nm _ w1),KY.dT ok1 (bm _ _ _) (nm _ w2) (fun _ _ _=>nm _ w3) (nm _ w4) (nm _ w5),w1,w2,w3,w4,w5,h3,St.aG,(bm _ _ _).get ok1 g1 (bE hm.nq),q2⟩,hm.nm,hm.ns,hm.nq⟩,(b1.mono fun j hj=> .inr hj).trans ((bm _ _ _).mono fun j hj=> .inl hj)⟩) rfl
 ·have Oq:=Ry (H:=H) hT hP ok1 xo hm.nm Oz gR;try refine go ?_
  refine af Oq ?_;rintro d s3 ⟨y5,hy⟩;have CZ:=y5.get ok1 xo hm.nm;have nmW:∀o,o < s3.n->Own s1.n W o->o≠mo:=by
   rintro o ho (hw | hw) rfl
   ·exact hm.nm hw
   ·exact absurd Et (by omega)
  rcases hy with ⟨u1,rfl,u2⟩ | ⟨u1,rfl,u2⟩
  ·have rH:=Gt (H:=H) (u0:=2) (u1:=0) (u2:=false) (u3:=v) (u4:=(E.length:Nat)) hP y5.ok CZ;try refine go ?_
   refine af rH ?_;rintro d s4 ⟨rfl,y6⟩;try refine go ?_
   refine hQ _ _ _ (.inr (.inr (.inl ⟨q1,u1,rfl, ?_,((b1.mono fun j hj=> .inr (.inr hj)).trans (y5.mono fun j hj=> .inl hj)).trans (y6.mono fun j hj=> .inr (.inl hj))⟩))) rfl;have u3:=u2.dT y5.ok y6 nmW;have Li:=b1.n;obtain⟨to',eo',co',ro',log',b',st',x',C',ver',p1,p2,v1,v2,v3,v4,v5,p3⟩:=u3;have up:∀o,Own s1.n W o->Own s.n W o:=fun o ho=>ho.imp id fun h=>bW Li h;exact⟨to',eo',co',ro',log',b',st',x',C',ver',p1,p2,up _ v1,up _ v2,up _ v3,up _ v4,up _ v5,p3⟩
  ·subst u2;have rH:=Gt (H:=H) (u0:=3) (u1:=0) (u2:=false) (u3:=0) (u4:=0) hP ok1 xo;try refine go ?_
   refine af rH ?_;rintro d s4 ⟨rfl,y6⟩;try refine go ?_
   exact hQ _ _ _ (.inr (.inr (.inr ⟨q1,u1,rfl,Oz.dT ok1 y6 (by rintro o ho hw rfl; exact hm.nm hw),(b1.mono fun j hj=> .inr (.inr hj)).trans (y6.mono fun j hj=> .inr (.inl hj))⟩))) rfl
end
section
variable {T:Nat->Option dJ}{H Y:au}
@[reducible] def I7:D:= .agg [.int .i64 0,.int .i64 0,.bool false,.int .i64 0,.int .i64 0]
theorem KU (hT:TT T)(hP:TP T){W:Nat->Prop}{s:St}{mo dv so most:Nat}{E:List dY}{h k v entry told:Int}(hs:s.Ok)(gR:E.length < 20000)(te: -1<=told/\told < 30000)(hm:oB W s mo dv so most E h k v 1 entry told):
  bY T H 75 [.ptr mo 0] s fun d s1=>Stepped W s mo dv so most E h k v told d s1:=by
 have hr:=fun K Q hQ=>Ac (H:=H) (z:=I7) (K:=K) (Q:=Q) hT hP hs gR te hm rfl hQ;obtain⟨to,eo,co,ro,log,b,st,x,C,ver,J,scans,t0,t1,t2,t3,t4,h1,h2,w1,w2,w3,w4,w5,h3,gm,gs,Rg⟩:=hm.ex;have GC:(ver !=ver)=false:=bne_self_eq_false _;refine aD hP.t75 ?_;try refine go ?_
 simp only [GC];try refine go ?_
 refine jw ?_;refine hr _ _ fun d s1 env hS he=> ?_;try refine go ?_
 have JY:∃x0 x1 x2 x3 x4,d=fM x0 x1 x2 x3 x4:=by
  rcases hS with ⟨n,e,_,_,_,rfl,_⟩ | ⟨n,e,_,_,_,rfl,_⟩ | ⟨_,_,rfl,_⟩ | ⟨_,_,rfl,_⟩ <;> exact ⟨_,_,_,_,_,rfl⟩
 obtain⟨x0,x1,x2,x3,x4,rfl⟩:=JY;refine ai (r:=[fM x0 x1 x2 x3 x4]) hS rfl ?_ rfl;show jH env s1 [.cell 2 (some 5)]=_;simp only [jH,he];rfl
theorem KV (hT:TT T)(hP:TP T){W:Nat->Prop}{s:St}{mo dv so most n:Nat}{E:List dY}{e:dY}{h k v told:Int}(hs:s.Ok)(hm:oB W s mo dv so most E h k v 3 (n:Nat) told)(he:E[n]? =some e):
  bY T H 75 [.ptr mo 0] s fun d s1=>d=fM 2 0 true e.v (n:Nat)/\dQ W s1 dv most (E.set n { e with v:=v})/\aH (fun j=>W j\/j=mo) s s1:=by
 have hd:=hm.NN;obtain⟨to,eo,co,ro,log,b,st,x,C,ver,J,scans,t0,t1,t2,t3,t4,h1,h2,w1,w2,w3,w4,w5,h3,gm,gs,Rg⟩:=hm.ex;have GG:=OC (H:=H) hT hP hs gm hm.nm hd he;have GC:(ver !=ver)=false:=bne_self_eq_false _;refine aD hP.t75 ?_;try refine go ?_
 simp only [GC];try refine go ?_
 refine af GG ?_;rintro d s1 ⟨rfl,y1,y2⟩;try refine go ?_
 exact ai ⟨rfl,y1,y2⟩
theorem Fl (hT:TT T)(hP:TP T){W:Nat->Prop}{s:St}{mo dv most:Nat}{E:List dY}{h k v:Int}(hs:s.Ok)(gR:E.length < 20000)(hd:dQ W s dv most E)(UN: ¬ W mo)(hW: ¬ W s.n)
  (gm:s.get mo=some (.var 226 (tg .dU dv h k v 0 0 0 0 0 0 false 0 0))):
  bY T H 75 [.ptr mo 0] s fun d s1=>∃s0,aH (fun j=>j=mo) s s0/\s.n < s0.n/\Stepped W s0 mo dv s.n most E h k v (-1) d s1:=by
 have lm:=hs.lt gm;obtain⟨to,eo,co,ro,log,b,st,x,C,ver,h1,h2,w1,w2,w3,w4,w5,h3⟩:=hd;have gt:=h2.go;have yV :∀o,W o->o≠mo:=by rintro o ho rfl; exact UN ho
 have Xy:=A6 (H:=H) (s:= { s with ro:=true}) hP h1;have OW:=HD (H:=H) (h:=h) hT hs h2;refine aD hP.t75 ?_;try refine go ?_
 refine qv Xy ?_;rintro d s1 ⟨rfl,rfl⟩;refine⟨rfl, ?_⟩;try refine go ?_
 refine aV OW ?_;rintro d s1 ⟨rfl,g1,b1⟩;have ok1:=b1.ok;have xo:=b1.get hs gm (fun h=>h);have Cl:=b1.get hs h1 (fun h=>h);have Et:=ok1.lt xo;have nd:dv≠mo:=yV _ w1;have nms:mo≠s.n:=by omega
 have bm:∀d1 d2 d3:D,aH (fun j=>j=mo) s1 (((s1.bn mo (.var 226 d1)).bn mo (.var 226 d2)).bn mo (.var 226 d3)):=fun d1 d2 d3=>
  aH.set (W:=fun j=>j=mo) (aH.set (W:=fun j=>j=mo) (aH.set (W:=fun j=>j=mo) (aH.refl ok1) _ Et (fun _=>rfl)) _ Et (fun _=>rfl)) _ Et (fun _=>rfl)
 have KY:=h2.dT hs b1 (fun h=>h) (fun _ _ _ h=>h) (fun h=>h) (fun h=>h)
 have mk:∀d1 d2:D,∀scans:Int,oB W (((s1.bn mo (.var 226 d1)).bn mo (.var 226 d2)).bn mo (.var 226 (tg (.ptr s.n 0) dv h k v 0 0 scans ver 0 0 false 0 0))) mo dv s.n most E h k v 0 0 (-1):=fun d1 d2 scans=>
  ⟨⟨to,eo,co,ro,log,b,st,x,C,ver,0,scans,0,0,false,0,0,(bm _ _ _).get ok1 Cl nd,KY.dT ok1 (bm _ _ _) (yV _ w2) (fun _ _ _=>yV _ w3) (yV _ w4) (yV _ w5),w1,w2,w3,w4,w5,h3,St.aG,(bm _ _ _).get ok1 g1 (bE nms),Seen.start⟩,UN,hW,nms⟩
 have ls:=ok1.lt g1;refine⟨rfl,by simp [lost,eE.kind,cF,dG,cl,aJ,bD,bD.cL,gF,bO.ev,Env.get,cQ,D.flat,D.isAgg,cK,D.fC,D.beq,aA,Obj.a8,bH,bC,D.bU,D.a8,gm,xo,h1,Cl], ?_⟩;try refine go ?_
 refine jw ?_;refine Ac (H:=H) (z:=I7) hT hP (bm _ _ _).ok gR (by omega) (mk _ _ _) rfl fun d s2 env hS he=> ?_;try refine go ?_
 have JY:∃x0 x1 x2 x3 x4,d=fM x0 x1 x2 x3 x4:=by
  rcases hS with ⟨n,e,_,_,_,rfl,_⟩ | ⟨n,e,_,_,_,rfl,_⟩ | ⟨_,_,rfl,_⟩ | ⟨_,_,rfl,_⟩ <;> exact ⟨_,_,_,_,_,rfl⟩
 obtain⟨x0,x1,x2,x3,x4,rfl⟩:=JY;refine ai (r:=[fM x0 x1 x2 x3 x4]) ⟨_,(b1.mono fun j hj=>hj.elim).trans (bm _ _ _),ls,hS⟩ rfl ?_ rfl;show jH env s2 [.cell 2 (some 5)]=_;simp only [jH,he];rfl
end
open Go Go.Ab
noncomputable section
def Wd:=RK.mk (a:=cf Tryz.f68 68)
def Wf:=RK.mk (a:=cf Tryz.f70 70)
def Wg:=RK.mk (a:=cf Tryz.f71 71)
def Wy:=RK.mk (a:=cf Tryz.f95 95)
def HL:=RK.mk (a:=cf Tryz.f105 105)
def Ml:=RK.mk (a:=cf Tryz.f106 106)
def Mm:=RK.mk (a:=cf Tryz.f107 107)
def Mo:=RK.mk (a:=cf Tryz.f114 114)
def MC:=RK.mk (a:=cf Tryz.f132 132)
def pS:=RK.mk (a:=cf Tryz.f133 133)
def ME:=RK.mk (a:=cf Tryz.f149 149)
def MG:=RK.mk (a:=cf Tryz.f151 151)
def MH:=RK.mk (a:=cf Tryz.f152 152)
def MI:=RK.mk (a:=cf Tryz.f158 158)
def M4:=RK.mk (a:=cf Tryz.f192 192)
def yn:=RK.mk (a:=cf Tryz.f193 193)
def Nh:=RK.mk (a:=cf Tryz.f218 218)
def Nn:=RK.mk (a:=cf Tryz.f234 234)
end
structure TV (T:Nat->Option dJ):Prop where
 t68:T 68=some Wd.1
 t70:T 70=some Wf.1
 t71:T 71=some Wg.1
 t95:T 95=some Wy.1
 t105:T 105=some HL.1
 t106:T 106=some Ml.1
 t107:T 107=some Mm.1
 t114:T 114=some Mo.1
 t132:T 132=some MC.1
 t133:T 133=some pS.1
 t149:T 149=some ME.1
 t151:T 151=some MG.1
 t152:T 152=some MH.1
 t158:T 158=some MI.1
 t192:T 192=some M4.1
 t193:T 193=some yn.1
 t218:T 218=some Nh.1
 t234:T 234=some Nn.1
section
variable {T:Nat->Option dJ}{H Y:au}
def Eb (w:Int):Int:=if (IntKind.wrap .i64 w== -1)=true then -2 else IntKind.wrap .i64 w
def Vi (w:Int)(c:UInt8):Int:=IntKind.wrap .u64 (IntKind.wrap .u64 (BitVec.ofInt (IntKind.bits .u64) w ^^^ BitVec.ofInt (IntKind.bits .u64) (IntKind.wrap .u64 (c.toNat:Nat))).toNat * 1099511628211)
def Fu (l:List UInt8)(j:Nat):Int:=(l.take j).foldl Vi 14695981039346656037
theorem Hr {l:List UInt8}{j:Nat}{c:UInt8}(h:l[j]? =some c):Fu l (j+1)=Vi (Fu l j) c:=by
 rw [Fu,gH,h,List.foldl_append]; rfl
def QE (l:List UInt8):Int:=Eb (Fu l l.length)
theorem od (hV:TV T){s:St}{n:Int}(hs:s.Ok):bY T H 107 [.int .i64 n] s fun d s1=>d= .fn (.func 152) [] [.ptr s.n 0]/\s1.get s.n=some (.var 3 (.int .i64 n))/\aH Nil s s1:=by
 refine aD hV.t107 ?_;try refine go ?_
 exact ai ⟨rfl,St.bq,aH.push (aH.refl hs) _⟩
theorem Hi (hV:TV T){s:St}{o:Nat}{n:Int}(hg:s.get o=some (.var 3 (.int .i64 n))):bY T H 152 [.ptr o 0] s fun d s1=>d= .int .i64 n/\s1=s:=by
 refine aD hV.t152 ?_;try refine go ?_
 exact ai ⟨rfl,rfl⟩
theorem pU (hV:TV T){s:St}{o:Nat}{w:Int}(hg:s.get o=some (.var 3 (.int .i64 (-2)))):bY T H 106 [.int .u64 w,.fn (.func 152) [] [.ptr o 0]] s fun d s1=>d= .int .i64 (Eb w)/\s1=s:=by
 have cG:=Hi (H:=H) hV hg;refine aD hV.t106 ?_;try refine go ?_
 refine eF (fun hc=> ?_) (fun hc=> ?_)
 ·try refine go ?_
  refine af cG ?_;rintro d s1 ⟨rfl,rfl⟩;try refine go ?_
  exact ai ⟨by rw [Eb,bQ hc],rfl⟩
 ·try refine go ?_
  exact ai ⟨by rw [Eb,aI (by rw [hc]; decide)],rfl⟩
theorem TH {s:St}{env:Env}{x i:bO}{l:List UInt8}{j:Nat}{c:UInt8}(hx:x.ev env=some (.str l))(hi:i.ev env=some (.int .i64 (j:Nat)))(hb:l[j]? =some c):cg fm env s none (.KR x i)=some (.int .u8 (c.toNat:Nat),s):=by
 have e:idx (.int .i64 (j:Nat))=some j:=ll;simp only [cg,hx,hi,e,hb]
theorem NM (hV:TV T){s:St}{l:List UInt8}(hs:s.Ok)(hl:l.length<=1000000000):bY T H 70 [.str l] s fun d s1=>d= .int .i64 (QE l)/\aH Nil s s1:=by
 refine aD hV.t70 ?_;try refine go ?_
 refine fY (fun m env s' =>s' =s/\∃j:Nat,j<=l.length/\m=l.length - j/\env=[(0,.str l),(3,.int .u64 (Fu l j)),(6,.int .i64 (l.length:Nat)),(7,.int .i64 (j:Nat))]) l.length rfl ⟨rfl,0,cH _,rfl,rfl⟩ ?_;rintro m env s' ⟨rfl,j,hj,rfl,rfl⟩;rcases aP j l.length with h1 | h1
 ·have hb:l[j]? =some l[j]:=ak h1;try refine go ?_
  refine lR (d:= .int .u8 (l[j].toNat:Nat)) ?_ rfl (TH rfl rfl hb);try refine go ?_
  exact ec (l.length - (j+1)) (by omega) rfl ⟨rfl,j+1,by omega,rfl,by rw [Hr hb]; rfl⟩
 ·have:j=l.length:=by omega
  subst this;try refine go ?_
  refine af (od hV hs) ?_;rintro d s1 ⟨rfl,g1,b1⟩;try refine go ?_
  refine af (pU hV g1) ?_;rintro d s2 ⟨rfl,rfl⟩;try refine go ?_
  exact ai ⟨rfl,b1⟩
theorem yt (n:Int):∃h:Int,∀ {T:Nat->Option dJ} {H:au} {s:St},TV T->s.Ok->bY T H 114 [.int .i64 n] s fun d s1=>d= .int .i64 h/\aH Nil s s1:=by
 apply Exists.intro;intro T H s hV hs;refine aD hV.t114 ?_
 repeat' first | refine go ?_ | refine eD hV.t158 ?_
 refine af (od hV hs) ?_;rintro d s1 ⟨rfl,g1,b1⟩;try refine go ?_
 refine af (pU hV g1) ?_;rintro d s2 ⟨rfl,rfl⟩;try refine go ?_
 exact ai ⟨rfl,b1⟩
noncomputable def XR (n:Int):Int:=(yt n).choose
theorem Gp (hV:TV T){s:St}{n:Int}(hs:s.Ok):bY T H 114 [.int .i64 n] s fun d s1=>d= .int .i64 (XR n)/\aH Nil s s1:=(yt n).choose_spec hV hs
end
section
variable {T:Nat->Option dJ}{H Y:au}
theorem Pf (hV:TV T){s:St}:bY T H 234 [.int .u64 2305843009213693951] s fun d s1=>d= .int .i64 61/\s1=s:=by
 refine aD hV.t234 ?_;try refine go ?_
 exact ai ⟨rfl,rfl⟩
theorem S1 (hV:TV T){s:St}:bY T H 218 [.int .u64 2305843009213693951] s fun d s1=>d= .int .i64 3/\s1=s:=by
 refine aD hV.t218 ?_;try refine go ?_
 refine af (Pf hV) ?_;rintro d s1 ⟨rfl,rfl⟩;try refine go ?_
 exact ai ⟨rfl,rfl⟩
def yb (n:Int):Prop:=0<=n/\n < 18446744073709551616
instance (n:Int):Decidable (yb n):=inferInstanceAs (Decidable (_/\_))
theorem oR (n:Int):yb (IntKind.wrap .u64 n):=by rw [wrap_u64]; unfold yb; omega
theorem SO (n:Int):yb (Int.fdiv (IntKind.wrap .u64 n) (2 ^ min (Int.toNat 3) (IntKind.bits .u64))):=by
 have e:(2:Int) ^ min (Int.toNat 3) (IntKind.bits .u64)=8:=rfl;obtain⟨h1,h2⟩:=oR n;rw [e,j6 _ (by decide)];unfold yb; omega
theorem xU {u:Int}(hu:yb u):0<=IntKind.wrap .u64 (u - IntKind.wrap .u64 (IntKind.wrap .u64 (Int.tdiv u 4294967295) * 4294967295))/\IntKind.wrap .u64 (u - IntKind.wrap .u64 (IntKind.wrap .u64 (Int.tdiv u 4294967295) * 4294967295)) < 4294967296:=by
 obtain⟨h1,h2⟩:=hu;rw [ir h1,kQ (n:=u / 4294967295) (by omega) (by omega),kQ (n:=u / 4294967295 * 4294967295) (by omega) (by omega),kQ (by omega) (by omega)];omega
noncomputable def Ce:AC:=match yn.1.body with
 | .seq _ (.seq _ (.seq _ (.seq _ (.seq _ (.seq _ (.seq _ (.seq _ (.seq _ (.seq _ (.seq _ (.seq _ (.seq _ (.seq _ (.seq _ (.seq _ (.seq _ (.seq _ r)))))))))))))))))=>r
 | _=> .skip
def Cf (c u q rh:Int):Int:=
 if q >= 4294967296\/IntKind.wrap .u64 (q * c) > IntKind.wrap .u64 (IntKind.wrap .u64 (4294967296 * rh)+u) then
  if rh+4294967295 >= 4294967296 then IntKind.wrap .u64 (q - 1) else Cf c u (IntKind.wrap .u64 (q - 1)) (rh+4294967295)
 else q
 termination_by (4294967296 - rh).toNat
 decreasing_by omega
theorem NY {c u q rh:Int}(h1: ¬ q >= 4294967296)(h2: ¬ IntKind.wrap .u64 (q * c) > IntKind.wrap .u64 (IntKind.wrap .u64 (4294967296 * rh)+u)):Cf c u q rh=q:=by
 rw [Cf,aI (fun h=>h.elim h1 h2)]
theorem xI {c u q rh:Int}(h1:q >= 4294967296\/IntKind.wrap .u64 (q * c) > IntKind.wrap .u64 (IntKind.wrap .u64 (4294967296 * rh)+u))(h2:rh+4294967295 >= 4294967296):Cf c u q rh=IntKind.wrap .u64 (q - 1):=by
 rw [Cf,bQ h1,bQ h2]
theorem Cg {c u q rh:Int}(h1:q >= 4294967296\/IntKind.wrap .u64 (q * c) > IntKind.wrap .u64 (IntKind.wrap .u64 (4294967296 * rh)+u))(h2: ¬ rh+4294967295 >= 4294967296):Cf c u (IntKind.wrap .u64 (q - 1)) (rh+4294967295)=Cf c u q rh:=by
 rw [Cf.eq_def c u q rh,bQ h1,aI h2]
def dvF (b x:Int):Int:=IntKind.wrap .u64 (IntKind.wrap .u64 (b * 4294967296)+x)
def dvG (a u y x:Int):Int:=Int.fdiv (IntKind.wrap .u64 (IntKind.wrap .u64 (IntKind.wrap .u64 (a * 4294967296)+u) - IntKind.wrap .u64 (x * y))) (2 ^ min (Int.toNat 3) (IntKind.bits .u64))
theorem yB {s:St}{env:Env}{R:D->St->Prop}{a2 B3 F8 a15 a17 q rh:Int}(Ao:0<=rh/\rh < 4294967296)
  (hk:env.bM [2,8,9,10,14,15,16,17,18]=[(2,.int .u64 a2),(8,.int .u64 3),(9,.int .u64 4294967295),(10,.int .u64 B3),(14,.int .u64 F8),(15,.int .u64 a15),(16,.int .u64 rh),(17,.int .u64 a17),(18,.int .u64 q)])
  (hR:R (.gW [.int .u64 (dvF a15 (Cf B3 F8 q rh)),.int .u64 (dvG a17 F8 a2 (Cf B3 F8 q rh))]) s):dR T H (match Ce with | .seq (.block _ l) _=>l | _=> .skip) [.block 2,.seq (match Ce with | .seq _ r=>r | _=> .skip)] ⟨env,[]⟩ s (QF yn.1.results R):=by
 ·show dR T H (.loop _ _) [.block 2,.seq (.seq (.AL _) .ret)] _ s _;generalize vP:Cf B3 F8 q rh=q0 at hR;refine fY (fun m env s' =>s' =s/\∃q rh:Int,Cf B3 F8 q rh=q0/\(0<=rh/\rh < 4294967296)/\m=(4294967296 - rh).toNat/\env=[(2,.int .u64 a2),(8,.int .u64 3),(9,.int .u64 4294967295),(10,.int .u64 B3),(14,.int .u64 F8),(15,.int .u64 a15),(16,.int .u64 rh),(17,.int .u64 a17),(18,.int .u64 q)]) _ rfl ⟨rfl,q,rh,vP,Ao,rfl,hk⟩ ?_;rintro m env s' ⟨rfl,q,rh,vP,Ao,rfl,rfl⟩;have hw:IntKind.wrap .u64 (rh+4294967295)=rh+4294967295:=kQ (by omega) (by omega);by_cases hq:q >= 4294967296
  ·have hd:decide (q >= 4294967296)=true:=du hq;try refine go ?_
   refine eF (fun hc=> ?_) (fun hc=> ?_)
   ·simp only [hw,iy]at hc;rw [xI (.inl hq) hc]at vP;subst vP;try refine go ?_
    exact ai hR
   ·simp only [hw,bF]at hc;rw [← Cg (.inl hq) hc]at vP;try refine go ?_
    simp only [hw];exact ec (4294967296 - (rh+4294967295)).toNat (by omega) rfl ⟨rfl,_,rh+4294967295,vP,by omega,rfl,rfl⟩
  ·have hd:decide (q >= 4294967296)=false:=cP hq;try refine go ?_
   refine eF (fun oN=> ?_) (fun oN=> ?_)
   ·rw [iy]at oN;try refine go ?_
    refine eF (fun hc=> ?_) (fun hc=> ?_)
    ·simp only [hw,iy]at hc;rw [xI (.inr oN) hc]at vP;subst vP;try refine go ?_
     exact ai hR
    ·simp only [hw,bF]at hc;rw [← Cg (.inr oN) hc]at vP;try refine go ?_
     simp only [hw];exact ec (4294967296 - (rh+4294967295)).toNat (by omega) rfl ⟨rfl,_,rh+4294967295,vP,by omega,rfl,rfl⟩
   ·rw [bF]at oN;rw [NY hq oN]at vP;subst vP;try refine go ?_
    exact ai hR
noncomputable def HU:AC:=match yn.1.body with
 | .seq _ (.seq _ (.seq _ (.seq _ (.seq _ (.seq _ (.seq _ (.seq _ (.seq _ (.seq _ (.seq _ (.seq _ (.seq _ (.seq _ r)))))))))))))=>r
 | _=> .skip
def dvR (a2 u v x:Int):Int:=IntKind.wrap .u64 (IntKind.wrap .u64 (IntKind.wrap .u64 (u * 4294967296)+v) - IntKind.wrap .u64 (x * a2))
def dvQ (x:Int):Int:=IntKind.wrap .u64 (Int.tdiv x 4294967295)
def dvH (x:Int):Int:=IntKind.wrap .u64 (x - IntKind.wrap .u64 (dvQ x * 4294967295))
def dvX (a2 B3 Rw HE F8 x:Int):Int:=Cf B3 F8 (dvQ (dvR a2 Rw HE x)) (dvH (dvR a2 Rw HE x))
theorem NT {s:St}{env:Env}{R:D->St->Prop}{a2 B3 Rw HE F8 q rh:Int}(hu:yb Rw)(Ao:0<=rh/\rh < 4294967296)
  (hk:env.bM [2,8,9,10,11,13,14,15,16]=[(2,.int .u64 a2),(8,.int .u64 3),(9,.int .u64 4294967295),(10,.int .u64 B3),(11,.int .u64 Rw),(13,.int .u64 HE),(14,.int .u64 F8),(15,.int .u64 q),(16,.int .u64 rh)])
  (hR:R (.gW [.int .u64 (dvF (Cf B3 HE q rh) (dvX a2 B3 Rw HE F8 (Cf B3 HE q rh))),.int .u64 (dvG (dvR a2 Rw HE (Cf B3 HE q rh)) F8 a2 (dvX a2 B3 Rw HE F8 (Cf B3 HE q rh)))]) s):
  dR T H (match HU with | .seq (.block _ l) _=>l | _=> .skip) [.block 0,.seq (match HU with | .seq _ r=>r | _=> .skip)] ⟨env,[]⟩ s (QF yn.1.results R):=by
 show dR T H (.loop _ _) [.block 0,.seq (.seq (.AL _) (.seq (.AL _) (.seq (.AL _) Ce)))] _ s _;generalize vP:Cf B3 HE q rh=q0 at hR;refine fY (fun m env s' =>s' =s/\∃q rh:Int,Cf B3 HE q rh=q0/\(0<=rh/\rh < 4294967296)/\m=(4294967296 - rh).toNat/\env=[(2,.int .u64 a2),(8,.int .u64 3),(9,.int .u64 4294967295),(10,.int .u64 B3),(11,.int .u64 Rw),(13,.int .u64 HE),(14,.int .u64 F8),(15,.int .u64 q),(16,.int .u64 rh)]) _ rfl ⟨rfl,q,rh,vP,Ao,rfl,hk⟩ ?_;rintro m env s' ⟨rfl,q,rh,vP,Ao,rfl,rfl⟩;have hw:IntKind.wrap .u64 (rh+4294967295)=rh+4294967295:=kQ (by omega) (by omega);by_cases hq:q >= 4294967296
 ·have hd:decide (q >= 4294967296)=true:=du hq;try refine go ?_
  refine eF (fun hc=> ?_) (fun hc=> ?_)
  ·simp only [hw,iy]at hc;rw [xI (.inl hq) hc]at vP;subst vP;try refine go ?_
   exact yB (xU (oR _)) rfl hR
  ·simp only [hw,bF]at hc;rw [← Cg (.inl hq) hc]at vP;try refine go ?_
   simp only [hw];exact ec (4294967296 - (rh+4294967295)).toNat (by omega) rfl ⟨rfl,_,rh+4294967295,vP,by omega,rfl,rfl⟩
 ·have hd:decide (q >= 4294967296)=false:=cP hq;try refine go ?_
  refine eF (fun oN=> ?_) (fun oN=> ?_)
  ·rw [iy]at oN;try refine go ?_
   refine eF (fun hc=> ?_) (fun hc=> ?_)
   ·simp only [hw,iy]at hc;rw [xI (.inr oN) hc]at vP;subst vP;try refine go ?_
    exact yB (xU (oR _)) rfl hR
   ·simp only [hw,bF]at hc;rw [← Cg (.inr oN) hc]at vP;try refine go ?_
    simp only [hw];exact ec (4294967296 - (rh+4294967295)).toNat (by omega) rfl ⟨rfl,_,rh+4294967295,vP,by omega,rfl,rfl⟩
  ·rw [bF]at oN;rw [NY hq oN]at vP;subst vP;try refine go ?_
   exact yB (xU (oR _)) rfl hR
theorem NO (hi lo:Int)(h1:0<=hi/\hi < 2305843009213693951)(h2:yb lo):∃q r:Int,yb r/\∀ {T:Nat->Option dJ} {H:au} {s:St},TV T->bY T H 193 [.int .u64 hi,.int .u64 lo,.int .u64 2305843009213693951] s fun d s1=>d= .gW [.int .u64 q,.int .u64 r]/\s1=s:=by
 by_cases hz:hi=0
 ·subst hz;refine⟨IntKind.wrap .u64 (Int.tdiv lo 2305843009213693951),Int.tmod lo 2305843009213693951,by rw [eU h2.1]; have:=h2.2; unfold yb; omega,fun {T H s} hV=> ?_⟩;refine aD hV.t193 ?_;try refine go ?_
  exact ai ⟨rfl,rfl⟩
 ·apply Exists.intro;apply Exists.intro;refine⟨?z,fun {T H s} hV=> ?x⟩
  case x=>
   have hlz:=S1 (H:=H) hV (s:=s);refine aD hV.t193 ?_;try refine go ?_
   refine af hlz ?_;rintro d s1 ⟨rfl,rfl⟩;try refine go ?_
   refine NT (oR _) (xU (oR _)) rfl ?_;exact⟨rfl,rfl⟩
  case z=>exact SO _
theorem E6 (hi lo:Int)(h1:0<=hi)(h2:yb lo):∃r:Int,yb r/\∀ {T:Nat->Option dJ} {H:au} {s:St},TV T->bY T H 151 [.int .u64 hi,.int .u64 lo,.int .u64 2305843009213693951] s fun d s1=>d= .int .u64 r/\s1=s:=by
 obtain⟨q,r,hr,hd⟩:=NO (Int.tmod hi 2305843009213693951) lo (by rw [eU h1]; omega) h2;refine⟨r,hr,fun {T H s} hV=> ?_⟩;have hd:=hd (H:=H) (s:=s) hV;refine aD hV.t151 ?_;try refine go ?_
 refine af hd ?_;rintro d s1 ⟨rfl,rfl⟩;try refine go ?_
 exact ai ⟨rfl,rfl⟩
noncomputable def TC (hi lo:Int):Int:=if h:0<=hi/\yb lo then (E6 hi lo h.1 h.2).choose else 0
theorem Qk {T:Nat->Option dJ}{H:au}(hV:TV T){s:St}{hi lo:Int}(h1:0<=hi)(h2:yb lo):bY T H 151 [.int .u64 hi,.int .u64 lo,.int .u64 2305843009213693951] s fun d s1=>d= .int .u64 (TC hi lo)/\yb (TC hi lo)/\s1=s:=by
 have h:=(E6 hi lo h1 h2).choose_spec;rw [TC,dif_pos ⟨h1,h2⟩];exact (h.2 hV).mono fun d s1 ⟨e1,e2⟩=>⟨e1,h.1,e2⟩
end
section
variable {T:Nat->Option dJ}{H Y:au}
theorem HH (hV:TV T){s:St}{k bo o cp:Nat}{V R:List Nat}(I:Nat->St->Prop)(Z:St->Prop)(h0:I 0 s)(hl:V.length<=100000000)
  (hI:∀j s,I j s->s.get bo=some (.var 28 (.sl o 0 V.length cp))/\s.get o=some (.arr 1 26 (eJ (V++R)) 0))
  (hY:∀j s n,j < V.length->V[V.length - 1 - j]? =some n->I j s->∃c s',Y 0 (.lv (.yl k)::[.int .i64 ((V.length - 1 - j:Nat):Int),.int .u32 (n:Nat)]) s=some (.bool c,s')/\(c=true->I (j+1) s')/\(c=false->Z s'))
  (hR:∀s,I V.length s->Z s):bY T Y 192 [.yl k,.ptr bo 0] s fun _ s1=>Z s1:=by
 obtain⟨g1,g2⟩:=hI 0 s h0;have qx:(eJ (V++R)).length=V.length+R.length:=by simp [eJ]
 have hw:IntKind.wrap .i64 ((V.length:Int) - 1)=(V.length:Int) - 1 - (0:Nat):=by rw [wrap_small (by omega) (by omega)]; omega
 refine aD hV.t192 ?_;try refine go ?_
 rw [hw];refine fw V.length (fun j=> [(0,.yl k),(1,.ptr bo 0),(3,.int .i64 ((V.length:Int) - 1 - (j:Nat)))]) I h0 ?_;intro j s' hj Q3;obtain⟨g1,g2⟩:=hI j s' Q3;rcases aP j V.length with h1 | h1
 ·have hi:(V.length:Int) - 1 - (j:Nat)=((V.length - 1 - j:Nat):Int):=by omega
  have hv:V[V.length - 1 - j]? =some V[V.length - 1 - j]:=ak (by omega);generalize V[V.length - 1 - j]=n at hv;obtain⟨c,s2,y1,y2,y3⟩:=hY j s' n h1 hv Q3;have vO:(eJ (V++R))[0+(V.length - 1 - j)]? =some (.int .u32 (n:Nat)):=by
   rw [aU,eJ,aO,aK (by omega),hv]; rfl
  have XB:IntKind.wrap .i64 (((V.length - 1 - j:Nat):Int) - 1)=(V.length:Int) - 1 - ((j+1:Nat):Int):=by rw [wrap_small (by omega) (by omega)]; omega
  rw [hi];try refine go ?_
  refine vZ ?_;refine af (R:=fun d s1=>d= .bool c/\s1=s2) ⟨_,_,Ev.yield y1,rfl,rfl⟩ ?_;rintro d s3 ⟨rfl,rfl⟩;cases c
  ·try refine go ?_
   exact ai (y3 rfl)
  ·try refine go ?_
   rw [XB];exact dI h1 (y2 rfl)
 ·have Ss:j=V.length:=by omega
  subst Ss;have hd:=qV ((V.length:Int) - 1 - (V.length:Nat) >= 0);try refine go ?_
  exact iG (hR _ Q3)
theorem RC (hV:TV T){s:St}{k bo:Nat}{nl:Bool}{V:List Nat}(I:Nat->St->Prop)(Z:St->Prop)(h0:I 0 s)(hl:V.length<=100000000)
  (hI:∀j s,I j s->s.get bo=some (.var 28 (.vs nl 1 (eJ V))))
  (hY:∀j s n,j < V.length->V[V.length - 1 - j]? =some n->I j s->∃c s',Y 0 (.lv (.yl k)::[.int .i64 ((V.length - 1 - j:Nat):Int),.int .u32 (n:Nat)]) s=some (.bool c,s')/\(c=true->I (j+1) s')/\(c=false->Z s'))
  (hR:∀s,I V.length s->Z s):bY T Y 192 [.yl k,.ptr bo 0] s fun _ s1=>Z s1:=by
 have g1:=hI 0 s h0;have qx:(eJ V).length=V.length:=by simp [eJ]
 have hw:IntKind.wrap .i64 ((V.length:Int) - 1)=(V.length:Int) - 1 - (0:Nat):=by rw [wrap_small (by omega) (by omega)]; omega
 refine aD hV.t192 ?_;try refine go ?_
 rw [qx,hw];refine fw V.length (fun j=> [(0,.yl k),(1,.ptr bo 0),(3,.int .i64 ((V.length:Int) - 1 - (j:Nat)))]) I h0 ?_;intro j s' hj Q3;have g1:=hI j s' Q3;rcases aP j V.length with h1 | h1
 ·have hi:(V.length:Int) - 1 - (j:Nat)=((V.length - 1 - j:Nat):Int):=by omega
  have hv:V[V.length - 1 - j]? =some V[V.length - 1 - j]:=ak (by omega);generalize V[V.length - 1 - j]=n at hv;obtain⟨c,s2,y1,y2,y3⟩:=hY j s' n h1 hv Q3;have vO:(eJ V)[V.length - 1 - j]? =some (.int .u32 (n:Nat)):=by
   rw [eJ,aO,hv]; rfl
  have XB:IntKind.wrap .i64 (((V.length - 1 - j:Nat):Int) - 1)=(V.length:Int) - 1 - ((j+1:Nat):Int):=by rw [wrap_small (by omega) (by omega)]; omega
  rw [hi];try refine go ?_
  refine vZ ?_;refine af (R:=fun d s1=>d= .bool c/\s1=s2) ⟨_,_,Ev.yield y1,rfl,rfl⟩ ?_;rintro d s3 ⟨rfl,rfl⟩;cases c
  ·try refine go ?_
   exact ai (y3 rfl)
  ·try refine go ?_
   rw [XB];exact dI h1 (y2 rfl)
 ·have Ss:j=V.length:=by omega
  subst Ss;have hd:=qV ((V.length:Int) - 1 - (V.length:Nat) >= 0);try refine go ?_
  exact iG (hR _ Q3)
theorem Dm (hV:TV T){s:St}{k bo:Nat}(g1:s.get bo=some (.var 28 (.vs true 0 []))):bY T Y 192 [.yl k,.ptr bo 0] s fun _ s1=>s1=s:=by
 refine aD hV.t192 ?_;try refine go ?_
 refine jw ?_;try refine go ?_
 exact iG rfl
theorem ru (hV:TV T){s:St}{o off n cp:Nat}(hs:s.Ok):bY T H 149 [.sl o off n cp] s fun d s1=>d= .fn (.func 192) [] [.ptr s.n 0]/\s1=s.aZ (.var 28 (.sl o off n cp)):=by
 refine aD hV.t149 ?_;try refine go ?_
 exact ai ⟨rfl,rfl⟩
theorem wH (hV:TV T){s:St}{nl:Bool}{z:Nat}{l:List D}(hs:s.Ok):bY T H 149 [.vs nl z l] s fun d s1=>d= .fn (.func 192) [] [.ptr s.n 0]/\s1=s.aZ (.var 28 (.vs nl z l)):=by
 refine aD hV.t149 ?_;try refine go ?_
 exact ai ⟨rfl,rfl⟩
end
section
variable {T:Nat->Option dJ}{H Y:au}
noncomputable def CM:AC:=match HL.1.body with
 | .seq _ (.seq _ (.seq _ (.seq (.seq _ (.block _ r)) _)))=>r
 | _=> .skip
noncomputable def U8:AC:=match CM with
 | .iF _ _ _ a _=>a
 | _=> .skip
noncomputable def U9:AC:=match CM with
 | .iF _ _ _ _ b=>b
 | _=> .skip
noncomputable def uV (r n:Int):Int:=TC (r.fdiv (2 ^ min (Int.toNat 32) (IntKind.bits .u64))) (IntKind.wrap .u64 (BitVec.ofInt (IntKind.bits .u64) (IntKind.wrap .u64 (r * 2 ^ min (Int.toNat 32) (IntKind.bits .u64))) ||| BitVec.ofInt (IntKind.bits .u64) (IntKind.wrap .u64 n)).toNat)
noncomputable def tp (r:Int)(V:List Nat)(j:Nat):Int:=(V.reverse.take j).foldl (fun r (n:Nat)=>uV r (n:Int)) r
noncomputable def aaM (V:List Nat):Int:=tp 0 V V.length
theorem Hb {r:Int}{V:List Nat}{j n:Nat}(hj:j < V.length)(hn:V[V.length - 1 - j]? =some n):tp r V (j+1)=uV (tp r V j) n:=by
 have h:V.reverse[j]? =some n:=by rw [List.getElem?_reverse hj]; exact hn
 rw [tp,gH,h,List.foldl_append]; rfl
theorem Hc (hV:TV T){s:St}{y b3 b6:Nat}{i n r:Int}(hY:mF T H y [19,20] [(3,.ptr b3 0),(6,.ptr b6 0)] U8 U9 Y)(hs:s.Ok)(hl:s.get (y+1)=some (.loop y .ready))
  (g3:s.get b3=some (.var 3 (.int .i64 2305843009213693951)))(g6:s.get b6=some (.var 23 (.int .u64 r)))(hr:yb r):
  ∃s',Y 0 (.lv (.yl y)::[.int .i64 i,.int .u32 n]) s=some (.bool true,s')/\s'.get (y+1)=some (.loop y .ready)/\(yb (uV r n)/\s'.get b6=some (.var 23 (.int .u64 (uV r n))))/\aH (fun j=>j=y+1\/j=b6) s s' :=by
 have ly:=hs.lt hl;have n3:b3≠y+1:=by rintro rfl; rw [hl]at g3; cases g3
 have n6:b6≠y+1:=by rintro rfl; rw [hl]at g6; cases g6
 have n36:b3≠b6:=by rintro rfl; rw [g3]at g6; simp at g6
 have kv:aH (fun j=>j=y+1) s (s.bn (y+1) (.loop y .busy)):=aH.set (aH.refl hs) _ ly (fun _=>rfl);have k3:=kv.get hs g3 n3;have k6:=kv.get hs g6 n6;have lO:=kv.ok;have YO:y+1 < (s.bn (y+1) (.loop y .busy)).n:=ly;have o7:0<=Int.fdiv r (2 ^ min (Int.toNat 32) (IntKind.bits .u64)):=by
  have e:(2:Int) ^ min (Int.toNat 32) (IntKind.bits .u64)=4294967296:=rfl;have:=hr.1;rw [e,j6 _ (by decide)]; omega
 obtain⟨c,s',q1,q2⟩:=se (e:=[(20,.int .u32 n),(19,.int .i64 i),(3,.ptr b3 0),(6,.ptr b6 0)]) (xs:=[.int .i64 i,.int .u32 n]) hY (fun c s' =>c=true/\s'.get (y+1)=some (.loop y .ready)/\(yb (uV r n)/\s'.get b6=some (.var 23 (.int .u64 (uV r n))))/\aH (fun j=>j=y+1\/j=b6) s s') rfl hl hs (by
  show dR T H (.AL _) [] _ s _;try refine go ?_
  refine qK ⟨rfl,rfl, ?_⟩;generalize qz:s.bn (y+1) (.loop y .busy)=s1 at kv k3 k6 YO lO ⊢;have sS:s1.get (y+1)=some (.loop y .busy):=by rw [← qz]; exact St.aG
  have l6:=lO.lt k6;show dR T H (.block _ _) [] _ s1 _;try refine go ?_
  refine af (Qk hV o7 (oR _)) ?_;rintro d s2 ⟨rfl,OU,rfl⟩
  change yb (uV r n) at OU
  generalize FT:uV r n=r' at OU;try refine go ?_
  unfold uV at FT;simp only [FT];have jb:aH (fun j=>j=b6) s2 (s2.bn b6 (.var 23 (.int .u64 r'))):=aH.set (aH.refl lO) _ l6 (fun _=>rfl);have Lg:=jb.get lO sS (bE n6);have yP:aH (fun j=>j=y+1) (s2.bn b6 (.var 23 (.int .u64 r'))) ((s2.bn b6 (.var 23 (.int .u64 r'))).bn (y+1) (.loop y .ready)):=aH.set (aH.refl jb.ok) _ (jb.ok.lt Lg) (fun _=>rfl);refine qK ⟨rfl,Lg,jb.ok,rfl,St.aG,⟨OU,yP.get jb.ok St.aG n6⟩, ?_⟩;exact (kv.mono fun j hj=> .inl hj).trans ((jb.mono fun j hj=> .inr hj).trans (yP.mono fun j hj=> .inl hj)))
 obtain⟨rfl,q3⟩:=q2;exact⟨s',q1,q3⟩
theorem uX (hV:TV T){s:St}{b3 b6 bo:Nat}{x:D}{V:List Nat}{r:Int}{E:Env}{k:List iI}{Q:QP}(hs:s.Ok)(hx:Ws s x V)(hl:V.length<=100000000)
  (g3:s.get b3=some (.var 3 (.int .i64 2305843009213693951)))(g6:s.get b6=some (.var 23 (.int .u64 r)))(hr:yb r)(gb:s.get bo=some (.var 28 x))
  (hg:bO.ev E (.t 18)=some (.fn (.func 192) [] [.ptr bo 0]))(hk:E.bM [3,6,8]=[(3,.ptr b3 0),(6,.ptr b6 0)])
  (hq:∀s1,yb (tp r V V.length)->s1.get b6=some (.var 23 (.int .u64 (tp r V V.length)))->aH (fun j=>j=b6) s s1->lB T H .normal k ⟨E,[(.lX,[])]⟩ s1 Q):
  dR T H CM k ⟨E,[]⟩ s Q:=by
 show dR T H (.iF _ _ _ _ _) k ⟨E,[]⟩ s Q;refine tV (gf:=192) (caps:=[.ptr bo 0]) (fun Y hY=> ?_) hg hs.ro (by rw [hk]; rfl);have ZR :mF T H s.n [19,20] [(3,.ptr b3 0),(6,.ptr b6 0)] U8 U9 Y:=by
  have:=hY;simp only at this;rw [hk]at this;exact this
 clear hY;have yO:aH (fun j=>j=s.n+1\/j=b6) s ((s.aZ .dead).aZ (.loop s.n .ready)):=aH.push (aH.push (aH.refl hs) _) _;have l3:=hs.lt g3; have l6:=hs.lt g6; have lb:=hs.lt gb;have nb6:bo≠b6:=by rintro rfl; rw [gb]at g6; simp at g6
 have n36:b3≠b6:=by rintro rfl; rw [g3]at g6; simp at g6
 have fin:∀ {s2:St},aH (fun j=>j=s.n+1\/j=b6) s s2->s2.get (s.n+1)=some (.loop s.n .ready)->yb (tp r V V.length)->s2.get b6=some (.var 23 (.int .u64 (tp r V V.length)))->
   ∃st x s3,s2.get (s.n+1)=some (.loop s.n st)/\Ch st=some x/\s2.set (s.n+1) .dead=some s3/\lB T H x k { (⟨E,[]⟩:Fr) with defers:=(.lX,[])::[]} s3 Q:=by
  intro s2 jb Lg OU hg6;have yP:aH (fun j=>j=s.n+1) s2 (s2.bn (s.n+1) .dead):=aH.set (aH.refl jb.ok) _ (jb.ok.lt Lg) (fun _=>rfl);have W6:aH (fun j=>j=b6) s (s2.bn (s.n+1) .dead):=(jb.trans (yP.mono fun j hj=> .inl hj)) |> fun q=>⟨q.n,q.ok,fun o ho hw=>q.same o ho (by rintro (rfl | rfl); omega; exact hw rfl)⟩
  exact⟨.ready,.normal,_,Lg,rfl,jb.ok.set _ _,hq _ OU (yP.get jb.ok hg6 (by omega)) W6⟩
 let I:Nat->St->Prop:=fun j s' =>aH (fun j=>j=s.n+1\/j=b6) s s' /\s'.get (s.n+1)=some (.loop s.n .ready)/\yb (tp r V j)/\s'.get b6=some (.var 23 (.int .u64 (tp r V j)))
 have Sl:I 0 ((s.aZ .dead).aZ (.loop s.n .ready)):=⟨yO,St.bq,hr,(aH.push (aH.push (aH.refl (W:=fun _=>False) hs) _) _).get hs g6 (fun h=>h)⟩;have hYZ:∀ {Z:St->Prop} j s' (n:Nat),j < V.length->V[V.length - 1 - j]? =some n->I j s' ->∃c s2,Y 0 (.lv (.yl s.n)::[.int .i64 ((V.length - 1 - j:Nat):Int),.int .u32 (n:Nat)]) s' =some (.bool c,s2)/\(c=true->I (j+1) s2)/\(c=false->Z s2):=by
  rintro Z j s' n hj hn ⟨q1,q2,q3,q4⟩;obtain⟨s2,y1,y2,⟨y3,y4⟩,y5⟩:=Hc (H:=H) (i:=((V.length - 1 - j:Nat):Int)) (n:=(n:Nat)) hV ZR q1.ok q2 (q1.get hs g3 (by omega)) q4 q3;rw [← Hb hj hn]at y3 y4;exact⟨true,s2,y1,fun _=>⟨q1.trans y5,y2,y3,y4⟩,fun h=>by cases h⟩
 rcases hx with ⟨nl,V,qS⟩ | _ | ⟨o,cp,V,R,go,hc⟩
 ·exact RC hV I _ Sl hl (fun j s' hj=>hj.1.get hs gb (by omega)) (fun j s' n h1 h2 hj=>hYZ j s' n h1 h2 hj) (fun s2 ⟨q1,q2,q3,q4⟩=>fin q1 q2 q3 q4)
 ·refine (Dm hV ((aH.push (aH.push (aH.refl (W:=fun _=>False) hs) _) _).get hs gb (fun h=>h))).mono ?_;rintro d s1 rfl;obtain⟨q1,q2,q3,q4⟩:=Sl;exact fin q1 q2 q3 q4
 ·have lo:=hs.lt go;have no6:o≠b6:=by rintro rfl; rw [go]at g6; cases g6
  exact HH hV I _ Sl hl (fun j s' hj=>⟨hj.1.get hs gb (by omega),hj.1.get hs go (by omega)⟩) (fun j s' n h1 h2 hj=>hYZ j s' n h1 h2 hj) (fun s2 ⟨q1,q2,q3,q4⟩=>fin q1 q2 q3 q4)
end
end Go.Proofs.Tab
