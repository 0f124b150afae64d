/- Part. -/
import Derived.Test.YthaiegafejbmoaaGreatDoorG38
set_option linter.unusedSectionVars false
set_option maxRecDepth 100000
set_option maxHeartbeats 2000000
set_option linter.unusedSimpArgs false
set_option linter.unusedVariables false
namespace Go.Proofs.Tab
open Go Go.Ab Go.Ab.Sm
section
variable {T:Nat->Option dJ}{H:au}{s:St}{so o la ta pl mp P Sh n lv tk i k Q:Nat}{Ds:List D}{W F:Nat->Prop}{t:Nat}{h v e:Int}{y:Bool}{d:D}
theorem Ec (hE:lC T)(hS:TS T)(hW:TW T)(hV:TV T)(hs:s.Ok)(cG:aX s so o la ta pl mp P Sh Ds n lv tk){m:Bool×List Nat}(hi:Ds[k]? =some d)(hv:eK Q F s d (.int m)){wo mo bw:Nat}(gw:s.get wo=some (.var 115 (.agg [.ptr so 0,.ptr mo 0])))(gb:s.get bw=some (.var 60 (.ptr wo 0))):
  bY T H 112 [.agg [.int .i64 h,.bool y,.int .i64 (k:Nat),.int .i64 e],.ptr bw 0] s fun d s1=>d= .agg [.int .i64 2,.jc,.int .i64 (fq m),.bool false,.int .i64 0,.int .i64 0,.int .i64 0,.int .i64 0,.int .i64 0,.int .i64 0,.int .i64 0,.bool false,.int .i64 0,.int .i64 0]/\aH Nil s s1:=by
 have lw:=hs.lt gw; have lb:=hs.lt gb;have hm:m.2.length<=100000000:=by obtain ⟨_,_,_,_,h4⟩:=hv; exact h4
 obtain⟨s2,o7⟩:∃s2,s2=({ s.up 1 with ro:=true,h:=pT (0+1) s.n (s.up 1).h}:St):=⟨_,rfl⟩;have jn:∀o,s2.get o=if s.n<=o/\o < s.n+(0+1) then none else s.get o:=fun o=>by rw [o7]; exact lL _ _ _ _
 have yY:∀o x,s.get o=some x->s2.get o=some x:=fun o x hx=>by
  have:=hs.lt hx;rw [jn,aI (by omega)]; exact hx
 have Ef:∀o x,s2.get o=some x->s.get o=some x:=fun o x hx=>by
  rw [jn]at hx;split at hx
  ·cases hx
  ·exact hx
 have Lq:=gU (H:=H) hS hW hV (cG.sub yY) hi (hv.aaR rfl yY);have XC :bY T H 67 [.ptr so 0,.int .i64 (k:Nat)] ({ s.up 1 with ro:=true,h:=pT (0+1) s.n (s.up 1).h}:St) fun d s1=>∃y,d= .gW [.agg [.bool m.1,y],.bool true]/\Ws s y m.2:=by
  rw [← o7];obtain⟨d,s3,e1,rfl,x,rfl,y,rfl,hy⟩:=Lq;exact⟨_,_,e1,y,rfl,hy.sub Ef⟩
 clear Lq;refine aD hE.t112 ?_;simp only [lW];try refine go ?_
 refine mq XC ?_;rintro d s1 ⟨y,rfl,hy⟩;refine⟨rfl, ?_⟩;have ov:=fun p q=>pz (p:=p) (q:=q) (a:=m.1) hy
 repeat' first | refine go ?_ | refine sw ?_ (hp:=ov _ _)
 have b0:aH Nil s ((s.up 1).bn (s.n+0) (.var 30 (.agg [.bool false,.vs true 0 []]))):=aH.set ((aH.refl hs).up 1) _ (by rw [St.iK]; omega) (fun hh=>by omega);have b1:aH Nil s (((s.up 1).bn (s.n+0) (.var 30 (.agg [.bool false,.vs true 0 []]))).bn (s.n+0) (.var 30 (.agg [.bool m.1,y]))):=aH.set b0 _ (by rw [St.ej,St.iK]; omega) (fun hh=>by omega);have hd:=sv (H:=H) (n:=m) hW hV b1.ok ⟨y,rfl,hy.RF hs b1 (fun _ _ _ _ _ hh=>hh)⟩ hm;refine af hd ?_;rintro d s3 ⟨rfl,b2⟩;try refine go ?_
 refine af (xH hE) ?_;rintro d s4 ⟨rfl,rfl⟩;try refine go ?_
 exact ai ⟨rfl,b1.trans b2⟩
structure ya (s:St)(t bt bw bd bg bk bv wo dv:Nat)(g k v:Int):Prop where
 xt:s.get bt=some (.var 61 (.ptr t 0))
 xw:s.get bw=some (.var 60 (.ptr wo 0))
 xd:s.get bd=some (.var 65 (.ptr dv 0))
 xg:s.get bg=some (.var 3 (.int .i64 g))
 xk:s.get bk=some (.var 3 (.int .i64 k))
 xv:s.get bv=some (.var 3 (.int .i64 v))
theorem ya.dT {W:Nat->Prop}{s s1:St}{t bt bw bd bg bk bv wo dv:Nat}{g k v:Int}(h:ya s t bt bw bd bg bk bv wo dv g k v)(hs:s.Ok)(hb:aH W s s1)(hw:∀j,j∈ [bt,bw,bd,bg,bk,bv]-> ¬ W j):ya s1 t bt bw bd bg bk bv wo dv g k v:=
 ⟨hb.get hs h.xt (hw _ (by simp)),hb.get hs h.xw (hw _ (by simp)),hb.get hs h.xd (hw _ (by simp)),hb.get hs h.xg (hw _ (by simp)),hb.get hs h.xk (hw _ (by simp)),hb.get hs h.xv (hw _ (by simp))⟩
theorem JX (hE:lC T)(hs:s.Ok){wo dv:Nat}{g k v:Int}:bY T H 20 [.ptr wo 0,.ptr dv 0,.int .i64 g,.int .i64 k,.int .i64 v] s fun d s1=>∃t bt bw bd bg bk bv,d= .ptr t 0/\bX s1 t false 38 [.ptr bt 0,.ptr bw 0,.ptr bk 0,.ptr bd 0,.ptr bg 0,.ptr bv 0]/\ya s1 t bt bw bd bg bk bv wo dv g k v/\aH Nil s s1/\(∀j,j∈ [t,bt,bw,bd,bg,bk,bv]->s.n<=j/\j < s1.n)/\ [t,bt,bw,bd,bg,bk,bv].Nodup:=by
 refine aD hE.t20 ?_;try refine go ?_
 refine ai ⟨s.n+1+1+1+1+1,s.n+1+1+1+1+1+1,s.n,s.n+1,s.n+1+1,s.n+1+1+1,s.n+1+1+1+1,rfl, ?_,⟨?_, ?_, ?_, ?_, ?_, ?_⟩, ?_, ?_, ?_⟩
 ·exact St.aG
 ·exact gI
 ·exact gI
 ·exact gI
 ·exact gI
 ·exact gI
 ·exact gI
 ·exact bI
 ·intro j hj;simp only [St.ej,St.ck];simp only [aN,bA,cJ]at hj;omega
 ·simp; omega
theorem GB (hE:lC T)(hs:s.Ok){t bt bw bd bg bk bv wo dv m:Nat}{b:Bool} {g v' :Int}{cs:List D}(hx:ya s t bt bw bd bg bk bv wo dv g (k:Nat) v')(ht:bX s t b m cs)(hn:∀j,j∈ [bt,bw,bd,bg,bk,bv]->j≠t):
  bY T H 38 [.agg [.int .i64 h,.bool y,.int .i64 v,.int .i64 e],.ptr bt 0,.ptr bw 0,.ptr bk 0,.ptr bd 0,.ptr bg 0,.ptr bv 0] s fun d s1=>∃t2 VE wI VL,d= .agg [.int .i64 1,.eM 61 (.ptr t2 0),.int .i64 0,.bool false,.int .i64 0,.int .i64 0,.int .i64 0,.int .i64 0,.int .i64 0,.int .i64 0,.int .i64 0,.bool false,.int .i64 0,.int .i64 0]/\bX s1 t b 40 [.ptr bt 0,.ptr bw 0,.ptr bd 0,.ptr bg 0,.ptr bk 0,.ptr bv 0]/\
   B1 s1 t2 VE wI VL wo k true/\aH (fun j=>j=t) s s1/\(s.n<=t2/\t2 < s1.n)/\(s.n<=VE/\s.n<=wI/\s.n<=VL)/\ [t2,VE,wI,VL].Nodup:=by
 obtain⟨xt,xw,xd,xg,xk,xv⟩:=hx;have lt:=hs.lt ht; have l1:=hs.lt xt; have l2:=hs.lt xw; have l3:=hs.lt xk;have hh:=Ov (H:=H) hE hs (wo:=wo) (v:=k);refine aD hE.t38 ?_;simp only [lW];try refine go ?_
 refine aV hh ?_;rintro d s1 ⟨t2,VE,wI,VL,rfl,h1,b1,h2,h3,h4⟩;have ok1:=b1.ok;have hdo:=NU (H:=H) (t2:=t2) (m:=40) (cs' :=[.ptr bt 0,.ptr bw 0,.ptr bd 0,.ptr bg 0,.ptr bk 0,.ptr bv 0]) hE ok1 (b1.get hs ht fun h=>h);have Vj:=b1.get hs xt fun h=>h;have Ym:=b1.get hs xw fun h=>h;have Yk:=b1.get hs xk fun h=>h;refine⟨rfl,by simp [lost,eE.kind,cF,dG,cl,aJ,bD,bD.cL,gF,bO.ev,Env.get,cQ,D.flat,D.isAgg,cK,D.fC,D.beq,aA,Obj.a8,bH,bC,D.bU,D.a8,xt,Vj,xw,Ym,xk,Yk], ?_⟩;try refine go ?_
 refine aV hdo ?_;rintro d s2 ⟨rfl,g1,b2⟩;refine⟨rfl,by rfl, ?_⟩
 repeat' first | refine go ?_ | refine fW ?_
 obtain⟨y1,y2,y3,y4⟩:=h1;have nb:∀j,s.n<=j->j≠t:=fun j hj=>by omega
 exact ai ⟨t2,VE,wI,VL,rfl,g1,⟨b2.get ok1 y1 (nb _ h2.1),b2.get ok1 y2 (nb _ h3.1),b2.get ok1 y3 (nb _ h3.2.1),b2.get ok1 y4 (nb _ h3.2.2)⟩,(b1.mono fun _ h=>h.elim).trans b2,⟨h2.1,cC h2.2 b2.n⟩,h3,h4⟩
end
@[reducible] def rT (sk:D) (dv:Nat) (h k v state entry scans ver t0 t1:Int) (t2:Bool) (t3 t4:Int):D:=
 .agg [sk,.ptr dv 0,.fn (.func 159) [] [],.fn (.func 166) [] [],.int .i64 h,.int .i64 k,.int .i64 v,.int .i64 state,.int .i64 entry,.int .i64 scans,.int .u64 ver,.int .i64 t0,.int .i64 t1,.bool t2,.int .i64 t3,.int .i64 t4]
section
variable {T:Nat->Option dJ}{H Y:au}
theorem I8 (hP:TP T){s:St}{dv to:Nat}{h k v most ver:Int}(hs:s.Ok)(gd:s.get dv=some (.var 229 (sW to most ver))):
  bY T H 73 [.ptr dv 0,.int .i64 1,.int .i64 h,.int .i64 k,.int .i64 v] s fun d s1=>∃mo,d= .ptr mo 0/\s.n<=mo/\s1.get mo=some (.var 226 (rT .dU dv h k v 0 0 0 0 0 0 false 0 0))/\aH Nil s s1:=by
 have hr:=IW (H:=H) hP hs;refine aD hP.t73 ?_;try refine go ?_
 refine af hr ?_;rintro d s1 ⟨rfl,g1,b1⟩;have ok1:=b1.ok;try refine go ?_
 have:=b1.n;exact ai ⟨s1.n,rfl,this,St.bq,aH.push b1 _⟩
theorem LI (hP:TP T){s:St}{mo:Nat}{sk:D}{dv:Nat}{h k v entry scans ver t0 t1 t3 t4:Int}{t2 same:Bool}(hs:s.Ok)(gm:s.get mo=some (.var 226 (rT sk dv h k v 2 entry scans ver t0 t1 t2 t3 t4))):
  bY T H 77 [.ptr mo 0,.bool same] s fun d s1=>d= .int .i64 0/\s1.get mo=some (.var 226 (rT sk dv h k v (if same then 3 else 1) entry scans ver t0 t1 t2 t3 t4))/\aH (fun j=>j=mo) s s1:=by
 have lm:=hs.lt gm;have hb:∀d:D,aH (fun j=>j=mo) s (s.bn mo (.var 226 d)):=fun d=>aH.set (W:=fun j=>j=mo) (aH.refl hs) _ lm (fun _=>rfl);cases same
 ·refine aD hP.t77 ?_;try refine go ?_
  exact ai ⟨rfl,St.aG,hb _⟩
 ·refine aD hP.t77 ?_;try refine go ?_
  exact ai ⟨rfl,St.aG,hb _⟩
theorem HW (hP:TP T){s:St}{mo:Nat}{sk:D}{dv:Nat}{h k v st entry scans ver t0 t1 t3 t4 u0 u1 u3 u4:Int}{t2 u2:Bool}(hs:s.Ok)(gm:s.get mo=some (.var 226 (rT sk dv h k v st entry scans ver t0 t1 t2 t3 t4))):
  bY T H 121 [.ptr mo 0,fM u0 u1 u2 u3 u4] s fun d s1=>d=fM u0 u1 u2 u3 u4/\aH (fun j=>j=mo) s s1:=by
 have lm:=hs.lt gm;have hb:∀d:D,aH (fun j=>j=mo) s (s.bn mo (.var 226 d)):=fun d=>aH.set (W:=fun j=>j=mo) (aH.refl hs) _ lm (fun _=>rfl);have jb:∀d e:D,aH (fun j=>j=mo) s ((s.bn mo (.var 226 d)).bn mo (.var 226 e)):=fun d e=>aH.set (W:=fun j=>j=mo) (hb d) _ lm (fun _=>rfl);refine aD hP.t121 ?_;try refine go ?_
 exact ai ⟨rfl,jb _ _⟩
end
section
variable {T:Nat->Option dJ}{H Y:au}
theorem X9 (hP:TP T){s:St}{mo n:Nat}{e:dY}:bY T H 159 [.ptr mo 0,.int .i64 (n:Nat),dw e] s fun d s1=>d=fM 2 0 true e.v (n:Nat)/\s1=s:=by
 refine aD hP.t159 ?_;try refine go ?_
 refine af (D3 hP) ?_;rintro d s1 ⟨rfl,rfl⟩;try refine go ?_
 exact ai ⟨rfl,rfl⟩
theorem PC (hP:TP T){s:St}{mo:Nat}:bY T H 166 [.ptr mo 0] s fun d s1=>d=fM 2 0 false 0 (-1)/\s1=s:=by
 refine aD hP.t166 ?_;try refine go ?_
 exact ai ⟨rfl,rfl⟩
theorem H8 (hT:TT T)(hP:TP T){W:Nat->Prop}{s:St}{mo dv most n:Nat}{sk:D}{E:List dY}{e:dY}{h k v st entry scans ver t0 t1 t3 t4:Int}{t2:Bool}(hs:s.Ok)(gm:s.get mo=some (.var 226 (rT sk dv h k v st entry scans ver t0 t1 t2 t3 t4)))(hm: ¬ W mo)(hd:dQ W s dv most E)(hi:E[n]? =some e):
  bY T H 119 [.ptr mo 0,.int .i64 (n:Nat)] s fun d s1=>d=fM 2 0 true e.v (n:Nat)/\dQ W s1 dv most E/\aH (fun j=>j=mo) s s1:=by
 have OZ:=X9 (H:=H) (s:=s) (mo:=mo) (n:=n) (e:=e) hP;have lm:=hs.lt gm;have Ld:=hd;obtain⟨to,eo,co,ro,log,b,st',x,C,ver',h1,h2,w1,w2,w3,w4,w5,h3⟩:=hd;have gt:=h2.go;have Ax:∃kX,x= .sl eo 0 E.length E.length/\s.get eo=some (.arr 5 236 (E.map dw) kX)/\kX<=E.length:=by
  have he:=h2.en;rcases he with _ | ⟨_,kX,E,g,cG⟩
  ·simp at hi
  ·exact⟨kX,rfl,g,cG⟩
 obtain⟨kX,rfl,ge,cG⟩:=Ax;have uy:=HA (H:=H) hT gt ge cG hi (by omega);refine aD hP.t119 ?_;try refine go ?_
 refine af uy ?_;rintro d s1 ⟨rfl,rfl⟩;try refine go ?_
 refine oK OZ ?_;rintro d s2 ⟨rfl,rfl⟩;refine⟨rfl,by rfl, ?_⟩;have rH:=HW (H:=H) (u0:=2) (u1:=0) (u2:=true) (u3:=e.v) (u4:=(n:Nat)) hP hs gm;try refine go ?_
 refine aV rH ?_;rintro d s3 ⟨rfl,z1⟩;refine⟨rfl,by simp [lost,eE.kind,cF,dG,cl,aJ,bD,bD.cL,gF,bO.ev,Env.get,cQ,D.flat,D.isAgg,cK,D.fC,D.beq,aA,Obj.a8,bH,bC,D.bU,D.a8,gm], ?_⟩
 repeat' first | refine go ?_ | refine fW ?_
 exact ai ⟨rfl,Ld.dT hs z1 (by rintro o _ ho rfl; exact hm ho),z1⟩
end
structure ji (W:Nat->Prop)(s:St)(mo dv so most:Nat)(E:List dY)(h k v state entry told:Int):Prop where
 ex:∃to eo co ro log b st x C ver J scans t0 t1 t2 t3 t4,s.get dv=some (.var 229 (sW to (most:Nat) ver))/\jW s to eo co ro log b st x E C/\W dv/\W to/\W eo/\W co/\W ro/\E.length<=20000/\
  s.get mo=some (.var 226 (rT (.ptr so 0) dv h k v state entry scans ver t0 t1 t2 t3 t4))/\s.get so=some (.var 281 (qe to h log J (E.length:Nat) (J:Nat) told false))/\Seen log h E C J told
 nm: ¬ W mo
 ns: ¬ W so
 nq:mo≠so
theorem ji.NN {W:Nat->Prop}{s:St}{mo dv so most:Nat}{E:List dY}{h k v state entry told:Int}(hm:ji W s mo dv so most E h k v state entry told):dQ W s dv most E:=by
 obtain⟨to,eo,co,ro,log,b,st,x,C,ver,J,scans,t0,t1,t2,t3,t4,h1,h2,w1,w2,w3,w4,w5,h3,_⟩:=hm.ex;exact⟨to,eo,co,ro,log,b,st,x,C,ver,h1,h2,w1,w2,w3,w4,w5,h3⟩
section
variable {T:Nat->Option dJ}{H Y:au}
def ue (W:Nat->Prop)(s:St)(mo dv so most:Nat)(E:List dY)(h k v told:Int)(d:D)(s1:St):Prop:=
 (∃(n:Nat) (e:dY),mg E h told (some n)/\E[n]? =some e/\e.k≠k/\d=fM 1 e.k false 0 0/\ji W s1 mo dv so most E h k v 2 (n:Nat) (n:Nat)/\aH (fun j=>j=mo\/j=so) s s1)\/
 (∃(n:Nat) (e:dY),mg E h told (some n)/\E[n]? =some e/\e.k=k/\d=fM 2 0 true e.v (n:Nat)/\dQ W s1 dv most E/\aH (fun j=>j=mo\/j=so) s s1)\/
 (mg E h told none/\d=fM 2 0 false 0 (-1)/\dQ W s1 dv most E/\aH (fun j=>j=mo\/j=so) s s1)
theorem xi (hT:TT T)(hP:TP T){W:Nat->Prop}{s:St}{mo dv so most:Nat}{E:List dY}{h k v state entry told:Int}{z:D}{K:List iI}{Q:QP}(hs:s.Ok)(gR:E.length < 20000)(te: -1<=told/\told < 30000)(hm:ji W s mo dv so most E h k v state entry told)
  (hz:z= .agg [.int .i64 0,.int .i64 0,.bool false,.int .i64 0,.int .i64 0])
  (hQ:∀d s1 env,ue W s mo dv so most E h k v told d s1->Env.get env 2=some (.lv d)->lB T H .ret K ⟨env,[]⟩ s1 Q):
  dR T H BU K ⟨[(0,.ptr mo 0),(2,.lv z)],[]⟩ s Q:=by
 subst hz;obtain⟨to,eo,co,ro,log,b,st,x,C,ver,J,scans,t0,t1,t2,t3,t4,h1,h2,w1,w2,w3,w4,w5,h3,gm,gs,Rg⟩:=hm.ex;have lm:=hs.lt gm;have ls:=hs.lt gs;have OO:=HB (H:=H) hT hs h2 (by omega) te gs Rg (fun _=>by rintro rfl; exact hm.ns w3);show dR T H (.block _ _) _ _ s _;try refine go ?_
 refine af OO ?_;rintro d s1 ⟨b1,o8⟩;have ok1:=b1.ok;have ne:∀o,W o->o≠so:=by rintro o ho rfl; exact hm.ns ho
 have xo:=b1.get hs gm hm.nq;have Cl:=b1.get hs h1 (ne _ w1);have KY:=h2.dT hs b1 (ne _ w2) (fun _ _ _=>ne _ w3) (ne _ w4) (ne _ w5);have gt1:=KY.go;have Et:=ok1.lt xo;have Oz:dQ W s1 dv most E:=⟨to,eo,co,ro,log,b,st,x,C,ver,Cl,KY,w1,w2,w3,w4,w5,h3⟩;rcases o8 with ⟨n,rfl,q1,J',g1,q2⟩ | ⟨rfl,q1⟩
 ·obtain⟨_,⟨e,he,heh⟩,_⟩:=id q1;have Ax:∃kX,x= .sl eo 0 E.length E.length/\s1.get eo=some (.arr 5 236 (E.map dw) kX)/\kX<=E.length:=by
   have Ax:=KY.en;rcases Ax with _ | ⟨_,kX,E,g,cG⟩
   ·simp at he
   ·exact⟨kX,rfl,g,cG⟩
  obtain⟨kX,rfl,Q2,cG⟩:=Ax;have uy:=HA (H:=H) hT gt1 Q2 cG he (by omega);have GG:=H8 (H:=H) hT hP ok1 xo hm.nm Oz he;have xu:n < E.length:=(aj.mp he).1;try refine go ?_
  refine af uy ?_;rintro d s2 ⟨rfl,rfl⟩
  repeat' first | refine go ?_ | refine fW ?_
  refine eF (fun hc=> ?_) (fun hc=> ?_)
  ·have hk:e.k=k:=by simpa using hc
   try refine go ?_
   refine af GG ?_;rintro d s3 ⟨rfl,y1,y2⟩;try refine go ?_
   exact hQ _ _ _ (.inr (.inl ⟨n,e,q1,he,hk,rfl,y1,(b1.mono fun j hj=> .inr hj).trans (y2.mono fun j hj=> .inl hj)⟩)) rfl
  ·have hk:e.k≠k:=by simpa using hc
   try refine go ?_
   have bm:∀d1 d2 d3:D,aH (fun j=>j=mo) s2 (((s2.bn mo (.var 226 d1)).bn mo (.var 226 d2)).bn mo (.var 226 d3)):=fun d1 d2 d3=>
    aH.set (W:=fun j=>j=mo) (aH.set (W:=fun j=>j=mo) (aH.set (W:=fun j=>j=mo) (aH.refl ok1) _ Et (fun _=>rfl)) _ Et (fun _=>rfl)) _ Et (fun _=>rfl)
   have nm:∀o,W o->o≠mo:=by rintro o ho rfl; exact hm.nm ho
   refine hQ (fM 1 e.k false 0 0) _ _ (.inl ⟨n,e,q1,he,hk,rfl,⟨⟨to,eo,co,ro,log,b,st,_,C,ver,J',scans,1,e.k,false,0,0,(bm _ _ _).get ok1 Cl (nm _ w1),KY.dT ok1 (bm _ _ _) (nm _ w2) (fun _ _ _=>nm _ w3) (nm _ w4) (nm _ w5),w1,w2,w3,w4,w5,h3,St.aG,(bm _ _ _).get ok1 g1 (bE hm.nq),q2⟩,hm.nm,hm.ns,hm.nq⟩,(b1.mono fun j hj=> .inr hj).trans ((bm _ _ _).mono fun j hj=> .inl hj)⟩) rfl
 ·have Oq:=PC (H:=H) (s:=s1) (mo:=mo) hP;try refine go ?_
  refine af Oq ?_;rintro d s3 ⟨rfl,rfl⟩;have rH:=HW (H:=H) (u0:=2) (u1:=0) (u2:=false) (u3:=0) (u4:= -1) hP ok1 xo;try refine go ?_
  refine af rH ?_;rintro d s4 ⟨rfl,y6⟩;try refine go ?_
  exact hQ _ _ _ (.inr (.inr ⟨q1,rfl,Oz.dT ok1 y6 (by rintro o ho hw rfl; exact hm.nm hw),(b1.mono fun j hj=> .inr hj).trans (y6.mono fun j hj=> .inl hj)⟩)) rfl
end
section
variable {T:Nat->Option dJ}{H Y:au}
theorem Hj (hT:TT T)(hP:TP T){W:Nat->Prop}{s:St}{mo dv so most:Nat}{E:List dY}{h k v entry told:Int}(hs:s.Ok)(gR:E.length < 20000)(te: -1<=told/\told < 30000)(hm:ji W s mo dv so most E h k v 1 entry told):
  bY T H 75 [.ptr mo 0] s fun d s1=>ue W s mo dv so most E h k v told d s1:=by
 have hr:=fun K Q hQ=>xi (H:=H) (z:=I7) (K:=K) (Q:=Q) hT hP hs gR te hm rfl hQ;obtain⟨to,eo,co,ro,log,b,st,x,C,ver,J,scans,t0,t1,t2,t3,t4,h1,h2,w1,w2,w3,w4,w5,h3,gm,gs,Rg⟩:=hm.ex;have GC:(ver !=ver)=false:=bne_self_eq_false _;refine aD hP.t75 ?_;try refine go ?_
 simp only [GC];try refine go ?_
 refine jw ?_;refine hr _ _ fun d s1 env hS he=> ?_;try refine go ?_
 have JY:∃x0 x1 x2 x3 x4,d=fM x0 x1 x2 x3 x4:=by
  rcases hS with ⟨n,e,_,_,_,rfl,_⟩ | ⟨n,e,_,_,_,rfl,_⟩ | ⟨_,rfl,_⟩ <;> exact ⟨_,_,_,_,_,rfl⟩
 obtain⟨x0,x1,x2,x3,x4,rfl⟩:=JY;refine ai (r:=[fM x0 x1 x2 x3 x4]) hS rfl ?_ rfl;show jH env s1 [.cell 2 (some 5)]=_;simp only [jH,he];rfl
theorem Hk (hT:TT T)(hP:TP T){W:Nat->Prop}{s:St}{mo dv so most n:Nat}{E:List dY}{e:dY}{h k v told:Int}(hs:s.Ok)(hm:ji W s mo dv so most E h k v 3 (n:Nat) told)(he:E[n]? =some e):
  bY T H 75 [.ptr mo 0] s fun d s1=>d=fM 2 0 true e.v (n:Nat)/\dQ W s1 dv most E/\aH (fun j=>j=mo) s s1:=by
 have hd:=hm.NN;obtain⟨to,eo,co,ro,log,b,st,x,C,ver,J,scans,t0,t1,t2,t3,t4,h1,h2,w1,w2,w3,w4,w5,h3,gm,gs,Rg⟩:=hm.ex;have GG:=H8 (H:=H) hT hP hs gm hm.nm hd he;have GC:(ver !=ver)=false:=bne_self_eq_false _;refine aD hP.t75 ?_;try refine go ?_
 simp only [GC];try refine go ?_
 refine af GG ?_;rintro d s1 ⟨rfl,y1,y2⟩;try refine go ?_
 exact ai ⟨rfl,y1,y2⟩
theorem CR (hT:TT T)(hP:TP T){W:Nat->Prop}{s:St}{mo dv most:Nat}{E:List dY}{h k v:Int}(hs:s.Ok)(gR:E.length < 20000)(hd:dQ W s dv most E)(UN: ¬ W mo)(hW: ¬ W s.n)
  (gm:s.get mo=some (.var 226 (rT .dU dv h k v 0 0 0 0 0 0 false 0 0))):
  bY T H 75 [.ptr mo 0] s fun d s1=>∃s0,aH (fun j=>j=mo) s s0/\s.n < s0.n/\ue W s0 mo dv s.n most E h k v (-1) d s1:=by
 have lm:=hs.lt gm;obtain⟨to,eo,co,ro,log,b,st,x,C,ver,h1,h2,w1,w2,w3,w4,w5,h3⟩:=hd;have gt:=h2.go;have yV :∀o,W o->o≠mo:=by rintro o ho rfl; exact UN ho
 have Xy:=A6 (H:=H) (s:= { s with ro:=true}) hP h1;have OW:=HD (H:=H) (h:=h) hT hs h2;refine aD hP.t75 ?_;try refine go ?_
 refine qv Xy ?_;rintro d s1 ⟨rfl,rfl⟩;refine⟨rfl, ?_⟩;try refine go ?_
 refine aV OW ?_;rintro d s1 ⟨rfl,g1,b1⟩;have ok1:=b1.ok;have xo:=b1.get hs gm (fun h=>h);have Cl:=b1.get hs h1 (fun h=>h);have Et:=ok1.lt xo;have nd:dv≠mo:=yV _ w1;have nms:mo≠s.n:=by omega
 have bm:∀d1 d2 d3:D,aH (fun j=>j=mo) s1 (((s1.bn mo (.var 226 d1)).bn mo (.var 226 d2)).bn mo (.var 226 d3)):=fun d1 d2 d3=>
  aH.set (W:=fun j=>j=mo) (aH.set (W:=fun j=>j=mo) (aH.set (W:=fun j=>j=mo) (aH.refl ok1) _ Et (fun _=>rfl)) _ Et (fun _=>rfl)) _ Et (fun _=>rfl)
 have KY:=h2.dT hs b1 (fun h=>h) (fun _ _ _ h=>h) (fun h=>h) (fun h=>h)
 have mk:∀d1 d2:D,∀scans:Int,ji W (((s1.bn mo (.var 226 d1)).bn mo (.var 226 d2)).bn mo (.var 226 (rT (.ptr s.n 0) dv h k v 0 0 scans ver 0 0 false 0 0))) mo dv s.n most E h k v 0 0 (-1):=fun d1 d2 scans=>
  ⟨⟨to,eo,co,ro,log,b,st,x,C,ver,0,scans,0,0,false,0,0,(bm _ _ _).get ok1 Cl nd,KY.dT ok1 (bm _ _ _) (yV _ w2) (fun _ _ _=>yV _ w3) (yV _ w4) (yV _ w5),w1,w2,w3,w4,w5,h3,St.aG,(bm _ _ _).get ok1 g1 (bE nms),Seen.start⟩,UN,hW,nms⟩
 have ls:=ok1.lt g1;refine⟨rfl,by simp [lost,eE.kind,cF,dG,cl,aJ,bD,bD.cL,gF,bO.ev,Env.get,cQ,D.flat,D.isAgg,cK,D.fC,D.beq,aA,Obj.a8,bH,bC,D.bU,D.a8,gm,xo,h1,Cl], ?_⟩;try refine go ?_
 refine jw ?_;refine xi (H:=H) (z:=I7) hT hP (bm _ _ _).ok gR (by omega) (mk _ _ _) rfl fun d s2 env hS he=> ?_;try refine go ?_
 have JY:∃x0 x1 x2 x3 x4,d=fM x0 x1 x2 x3 x4:=by
  rcases hS with ⟨n,e,_,_,_,rfl,_⟩ | ⟨n,e,_,_,_,rfl,_⟩ | ⟨_,rfl,_⟩ <;> exact ⟨_,_,_,_,_,rfl⟩
 obtain⟨x0,x1,x2,x3,x4,rfl⟩:=JY;refine ai (r:=[fM x0 x1 x2 x3 x4]) ⟨_,(b1.mono fun j hj=>hj.elim).trans (bm _ _ _),ls,hS⟩ rfl ?_ rfl;show jH env s2 [.cell 2 (some 5)]=_;simp only [jH,he];rfl
end
structure As (s:St)(t bm bt bw bk bs wo pm k:Nat):Prop where
 xm:s.get bm=some (.var 157 (.ptr pm 0))
 xt:s.get bt=some (.var 61 (.ptr t 0))
 xw:s.get bw=some (.var 60 (.ptr wo 0))
 xk:s.get bk=some (.var 3 (.int .i64 (k:Nat)))
 xs:s.get bs=some (.var 82 (.fn (.func 74) [] [.ptr bm 0,.ptr bt 0,.ptr bw 0,.ptr bk 0,.ptr bs 0]))
theorem As.dT {W:Nat->Prop}{s s1:St}{t bm bt bw bk bs wo pm k:Nat}(h:As s t bm bt bw bk bs wo pm k)(hs:s.Ok)(hb:aH W s s1)(hw:∀j,j∈ [bm,bt,bw,bk,bs]-> ¬ W j):As s1 t bm bt bw bk bs wo pm k:=
 ⟨hb.get hs h.xm (hw _ (by simp)),hb.get hs h.xt (hw _ (by simp)),hb.get hs h.xw (hw _ (by simp)),hb.get hs h.xk (hw _ (by simp)),hb.get hs h.xs (hw _ (by simp))⟩
section
variable {T:Nat->Option dJ}{H:au}{s:St}{so o la ta pl mp P Sh n lv tk i k Q:Nat}{Ds:List D}{W F:Nat->Prop}{t:Nat}{h v e:Int}{y:Bool}{d:D}
theorem Sj (hE:lC T)(hP:TP T)(hs:s.Ok){wo dv most:Nat} {v' :Int}{E:List dY}(hd:dQ W s dv most E):bY T H 41 [.ptr wo 0,.ptr dv 0,.int .i64 1,.int .i64 h,.int .i64 (k:Nat),.int .i64 v'] s fun d s1=>∃t bm bt bw bk bs pm,d= .ptr t 0/\bX s1 t false 74 [.ptr bm 0,.ptr bt 0,.ptr bw 0,.ptr bk 0,.ptr bs 0]/\As s1 t bm bt bw bk bs wo pm k/\
   s1.get pm=some (.var 226 (rT .dU dv h (k:Nat) v' 0 0 0 0 0 0 false 0 0))/\aH Nil s s1/\(∀j,j∈ [t,bm,bt,bw,bk,bs,pm]->s.n<=j/\j < s1.n)/\ [t,bm,bt,bw,bk,bs,pm].Nodup:=by
 obtain⟨to,eo,co,ro,log,b,st,x,C,ver,gd,_⟩:=hd;have b1:aH Nil s ((s.aZ (.var 60 (.ptr wo 0))).aZ (.var 3 (.int .i64 (k:Nat)))):=((aH.refl hs).push _).push _;have hb:=I8 (H:=H) (h:=h) (k:=(k:Nat)) (v:=v') hP b1.ok (b1.get hs gd fun h=>h);have ld:=hs.lt gd;refine aD hE.t41 ?_;try refine go ?_
 refine af hb ?_;rintro d s1 ⟨pm,rfl,h1,h2,h3⟩;have ok1:=h3.ok;have hn:=h3.n;simp only [St.ck]at h1 hn;have lp:=ok1.lt h2;have gw:=h3.get b1.ok (St.dN (x:= .var 3 (.int .i64 (k:Nat))) (St.bq (s:=s) (x:= .var 60 (.ptr wo 0))) (by simp only [St.ck]; omega)) fun h=>h;have gk:s1.get (s.n+1)=some (.var 3 (.int .i64 (k:Nat))):=h3.get b1.ok (St.bq (s:=s.aZ (.var 60 (.ptr wo 0))) (x:= .var 3 (.int .i64 (k:Nat)))) fun h=>h;try refine go ?_
 refine ai ⟨s1.n+1,s1.n,s1.n+1+1,s.n,s.n+1,s1.n+1+1+1,pm,rfl, ?_,⟨?_, ?_, ?_, ?_, ?_⟩, ?_, ?_, ?_, ?_⟩
 ·exact St.aG
 ·exact gI
 ·exact gI
 ·exact gI
 ·exact gI
 ·exact gI
 ·exact gI
 ·refine (b1.trans h3).trans ?_;exact bI
 ·intro j hj;simp only [St.ej,St.ck];simp only [aN,bA,cJ]at hj;omega
 ·simp; omega
end
section
variable {T:Nat->Option dJ}{H:au}{s:St}{so o la ta pl mp P Sh n lv tk i k Q:Nat}{Ds:List D}{W F:Nat->Prop}{t:Nat}{h v e:Int}{y:Bool}{d:D}
theorem Ee (hE:lC T)(hP:TP T)(hs:s.Ok){t bt bw bd bg bk bv wo dv m most:Nat}{b:Bool} {v' :Int}{cs:List D}{E:List dY}(hx:ya s t bt bw bd bg bk bv wo dv 1 (k:Nat) v')(ht:bX s t b m cs)(hd:dQ W s dv most E):
  bY T H 40 [.agg [.int .i64 h,.bool y,.int .i64 v,.int .i64 e],.ptr bt 0,.ptr bw 0,.ptr bd 0,.ptr bg 0,.ptr bk 0,.ptr bv 0] s fun d s1=>∃t3 bm Du Dx Dp bs pm,d= .agg [.int .i64 1,.eM 61 (.ptr t3 0),.int .i64 0,.bool false,.int .i64 0,.int .i64 0,.int .i64 0,.int .i64 0,.int .i64 0,.int .i64 0,.int .i64 0,.bool false,.int .i64 0,.int .i64 0]/\bX s1 t b 42 []/\
   bX s1 t3 false 74 [.ptr bm 0,.ptr Du 0,.ptr Dx 0,.ptr Dp 0,.ptr bs 0]/\As s1 t3 bm Du Dx Dp bs wo pm k/\s1.get pm=some (.var 226 (rT .dU dv h (k:Nat) v' 0 0 0 0 0 0 false 0 0))/\aH (fun j=>j=t) s s1/\(∀j,j∈ [t3,bm,Du,Dx,Dp,bs,pm]->s.n<=j/\j < s1.n)/\ [t3,bm,Du,Dx,Dp,bs,pm].Nodup:=by
 obtain⟨xt,xw,xd,xg,xk,xv⟩:=hx;have lt:=hs.lt ht; have l1:=hs.lt xt; have l2:=hs.lt xw; have l3:=hs.lt xk; have l4:=hs.lt xd; have l5:=hs.lt xg; have l6:=hs.lt xv;have hg:=Sj (H:=H) (wo:=wo) (k:=k) (h:=h) (v' :=v') hE hP hs hd;refine aD hE.t40 ?_;simp only [lW];try refine go ?_
 refine aV hg ?_;rintro d s1 ⟨t3,bm,Du,Dx,Dp,bs,pm,rfl,h1,h2,h3,b1,h4,h5⟩;have ok1:=b1.ok;have hdo:=NU (H:=H) (t2:=t3) (m:=42) (cs' :=[]) hE ok1 (b1.get hs ht fun h=>h);have Vj:=b1.get hs xt fun h=>h;have Ym:=b1.get hs xw fun h=>h;have xd1:=b1.get hs xd fun h=>h;have xg1:=b1.get hs xg fun h=>h;have Yk:=b1.get hs xk fun h=>h;have xv1:=b1.get hs xv fun h=>h;refine⟨rfl,by simp [lost,eE.kind,cF,dG,cl,aJ,bD,bD.cL,gF,bO.ev,Env.get,cQ,D.flat,D.isAgg,cK,D.fC,D.beq,aA,Obj.a8,bH,bC,D.bU,D.a8,xt,Vj,xw,Ym,xk,Yk,xd,xd1,xg,xg1,xv,xv1], ?_⟩;try refine go ?_
 refine aV hdo ?_;rintro d s2 ⟨rfl,g1,b2⟩;refine⟨rfl,by rfl, ?_⟩
 repeat' first | refine go ?_ | refine fW ?_
 have nb:∀j,s.n<=j->j≠t:=fun j hj=>by omega
 have n4:∀j,j∈ [t3,bm,Du,Dx,Dp,bs,pm]->j≠t:=fun j hj=>nb j (h4 j hj).1;refine ai ⟨t3,bm,Du,Dx,Dp,bs,pm,rfl,g1,b2.get ok1 h1 (n4 _ (by simp)),h2.dT ok1 b2 fun j hj=>n4 j (cW _ (by simp only [aN,bA,cJ]at hj ⊢; omega)),b2.get ok1 h3 (n4 _ (by simp)),(b1.mono fun _ h=>h.elim).trans b2,fun j hj=>⟨(h4 j hj).1,cC (h4 j hj).2 b2.n⟩,h5⟩
theorem yh (hS:TS T) {po po' :Nat}(cG:aX s so o la ta pl mp P Sh Ds n lv tk)(hi:Ds[i]? =some (.eM 184 (.ptr po 0)))(hk:Ds[k]? =some (.eM 184 (.ptr po' 0)))(JZ:i≠k):bY T H 58 [.ptr so 0,.int .i64 (i:Nat),.int .i64 (k:Nat)] s fun d s1=>d= .bool false/\s1=s:=by
 have hd:(((i:Nat):Int)==((k:Nat):Int))=false:=by simp only [eu,ne_eq]; omega
 refine aD hS.t58 ?_;try refine go ?_
 refine af (cz hS cG hi) ?_;rintro d s1 ⟨rfl,rfl⟩;try refine go ?_
 refine af (cz hS cG hk) ?_;rintro d s1 ⟨rfl,rfl⟩;try refine go ?_
 refine af (tX hS cG hi) ?_;rintro d s1 ⟨rfl,rfl⟩;try refine go ?_
 refine af (tX hS cG hk) ?_;rintro d s1 ⟨rfl,rfl⟩;try refine go ?_
 refine af (wB hS cG hi) ?_;rintro d s1 ⟨rfl,rfl⟩;try refine go ?_
 refine af (wB hS cG hk) ?_;rintro d s1 ⟨rfl,rfl⟩
 repeat' first | refine go ?_ | refine eD hS.t289 ?_
 exact ai ⟨rfl,rfl⟩
structure Dd (s:St)(t bt bw ba bb wo i k:Nat):Prop where
 xt:s.get bt=some (.var 61 (.ptr t 0))
 xw:s.get bw=some (.var 60 (.ptr wo 0))
 xa:s.get ba=some (.var 3 (.int .i64 (i:Nat)))
 xb:s.get bb=some (.var 3 (.int .i64 (k:Nat)))
theorem Dd.dT {W:Nat->Prop}{s s1:St}{t bt bw ba bb wo i k:Nat}(h:Dd s t bt bw ba bb wo i k)(hs:s.Ok)(hb:aH W s s1)(hw:∀j,j∈ [bt,bw,ba,bb]-> ¬ W j):Dd s1 t bt bw ba bb wo i k:=
 ⟨hb.get hs h.xt (hw _ (by simp)),hb.get hs h.xw (hw _ (by simp)),hb.get hs h.xa (hw _ (by simp)),hb.get hs h.xb (hw _ (by simp))⟩
def ow (Ds:List D)(i:Nat):Prop:=∃po,Ds[i]? =some (.eM 184 (.ptr po 0))
theorem Qt (hE:lC T)(hS:TS T)(hs:s.Ok)(cG:aX s so o la ta pl mp P Sh Ds n lv tk)(hi:ow Ds i)(hk:ow Ds k)(JZ:i≠k){wo mo:Nat}(gw:s.get wo=some (.var 115 (.agg [.ptr so 0,.ptr mo 0]))):
  bY T H 32 [.ptr wo 0,.int .i64 (i:Nat),.int .i64 (k:Nat)] s fun d s1=>∃t bt bw ba bb,d= .ptr t 0/\bX s1 t true 59 [.ptr bw 0,.ptr ba 0,.ptr bb 0,.ptr bt 0]/\Dd s1 t bt bw ba bb wo i k/\aH Nil s s1/\(∀j,j∈ [t,bt,bw,ba,bb]->s.n<=j/\j < s1.n)/\ [t,bt,bw,ba,bb].Nodup:=by
 obtain⟨po,hi⟩:=hi;obtain⟨po',hk⟩:=hk;have lw:=hs.lt gw;obtain⟨sp,Ln⟩:∃sp,sp=((s.aZ (.var 60 (.ptr wo 0))).aZ (.var 3 (.int .i64 (i:Nat)))).aZ (.var 3 (.int .i64 (k:Nat))):=⟨_,rfl⟩;have bp:aH Nil s sp:=by rw [Ln]; exact (((aH.refl hs).push _).push _).push _
 have okp:=bp.ok;have np:sp.n=s.n+1+1+1:=by rw [Ln]; rfl
 have g1:sp.get s.n=some (.var 60 (.ptr wo 0)):=by rw [Ln]; exact gI
 have g2:sp.get (s.n+1)=some (.var 3 (.int .i64 (i:Nat))):=by rw [Ln]; exact St.dN St.bq (by simp only [St.ck]; omega)
 have g3:sp.get (s.n+1+1)=some (.var 3 (.int .i64 (k:Nat))):=by rw [Ln]; exact St.bq
 have g4:=bp.get hs gw fun h=>h;have kV:=cG.dT hs bp fun _ _ h=>h;obtain⟨s2,o7⟩:∃s2,s2=({ sp.up 2 with ro:=true,h:=pT (1+1) sp.n (sp.up 2).h}:St):=⟨_,rfl⟩;have jn:∀o,s2.get o=if sp.n<=o/\o < sp.n+(1+1) then none else sp.get o:=fun o=>by rw [o7]; exact lL _ _ _ _
 have yY:∀o x,sp.get o=some x->s2.get o=some x:=fun o x hx=>by
  have:=okp.lt hx;rw [jn,aI (by omega)]; exact hx
 have C3:=yh (H:=H) hS (kV.sub yY) hi hk JZ;rw [o7]at C3;refine aD hE.t32 ?_;simp only [lW];try refine go ?_
 rw [← Ln];simp only [St.ck];refine mq C3 ?_;rintro d s1 ⟨rfl,_⟩;refine⟨rfl, ?_⟩;clear C3;try refine go ?_
 refine ai ⟨sp.n+0,sp.n+1,s.n,s.n+1,s.n+1+1,rfl, ?_,⟨?_, ?_, ?_, ?_⟩, ?_, ?_, ?_⟩
 ·exact St.aG
 ·exact gI
 ·exact gI
 ·exact gI
 ·exact gI
 ·refine bp.trans ?_;exact aH.set (aH.set (aH.set (aH.set ((aH.refl okp).up 2) _ (by rw [St.iK]; omega) (fun hh=>by omega)) _ (by rw [St.ej,St.iK]; omega) (fun hh=>by omega)) _ (by rw [St.ej,St.ej,St.iK]; omega) (fun hh=>by omega)) _ (by rw [St.ej,St.ej,St.ej,St.iK]; omega) (fun hh=>by omega)
 ·intro j hj;simp only [St.ej,St.iK];simp only [aN,bA,cJ]at hj;omega
 ·simp; omega
end
structure sQ where
 (a0 a1 a2 a3 a4:Int)
 a5:Bool
 (a6 a7:Int)
structure ua where
 h:Int
 y:Bool
 (v e:Int)
@[reducible] def aaH (so ko n c:Nat) (g:ua) (wt en:Bool) (a:sQ) (tn:Int) (ro m:Nat):D:=
 .agg [.ptr so 0,.sl ko 0 n c,.int .i64 g.h,.bool g.y,.int .i64 g.v,.int .i64 g.e,.bool wt,.bool en,.int .i64 a.a0,.int .i64 a.a1,.int .i64 a.a2,.int .i64 a.a3,.int .i64 a.a4,.bool a.a5,.int .i64 a.a6,.int .i64 a.a7,.int .i64 tn,.fn (.func 21) [] [],.sl ro 0 m m]
structure gP (s:St)(mo so ko n c:Nat)(g:ua)(wt en:Bool)(a:sQ)(tn:Int)(ro:Nat)(L:List Int):Prop where
 gm:s.get mo=some (.var 74 (aaH so ko n c g wt en a tn ro L.length))
 gr:s.get ro=some (.arr 1 3 (ints L) 0)
theorem gP.dT {W:Nat->Prop}{s s1:St}{mo so ko n c:Nat}{g:ua}{wt en:Bool}{a:sQ}{tn:Int}{ro:Nat}{L:List Int}(h:gP s mo so ko n c g wt en a tn ro L)(hs:s.Ok)(hb:aH W s s1)(h1: ¬ W mo)(h2: ¬ W ro):gP s1 mo so ko n c g wt en a tn ro L:=⟨hb.get hs h.gm h1,hb.get hs h.gr h2⟩
section
variable {T:Nat->Option dJ}{H:au}{s:St}{so o la ta pl mp P Sh n lv tk i k Q ko c mo ro:Nat}{Ds:List D}{W F:Nat->Prop}{t:Nat}{h v e:Int}{y wt en:Bool}{d:D}{g:ua}{a:sQ}{tn:Int}{L:List Int}
theorem Cr (hE:lC T)(hs:s.Ok)(hm:gP s mo so ko n c g wt en a tn ro L)(hL:L.length<=100000):bY T H 24 [.ptr mo 0,.int .i64 v] s fun d s1=>d= .gW []/\gP s1 mo so ko n c g wt en a tn ro (L++ [v])/\aH (fun j=>j=mo\/j=ro) s s1:=by
 obtain⟨gm,gr⟩:=hm;have lm:=hs.lt gm; have lr:=hs.lt gr;have hl:=fH L;have nmr:mo≠ro:=by rintro rfl; rw [gm]at gr; cases gr
 have e1:ints (L++ [v])=ints L++ [.int .i64 v]:=by simp [ints]
 have e2:(L++ [v]).length=L.length+1:=by simp
 refine aD hE.t24 ?_;try refine go ?_
 refine iG ⟨rfl,⟨?_, ?_⟩, ?_⟩
 ·rw [e2];exact St.aG
 ·rw [e1];exact St.cu St.aG (bE nmr)
 ·exact aH.set (aH.set (aH.refl hs) _ lr (fun _=> .inr rfl)) _ lm (fun _=> .inl rfl)
theorem aX.far {W:Nat->Prop}{s s1:St}{so o la ta pl mp P Sh n lv tk:Nat}{Ds:List D}(h:aX s so o la ta pl mp P Sh Ds n lv tk)(hs:s.Ok)(hb:aH W s s1){b:Nat}(h1:∀j,(br so o la ta pl j\/j=mp)->j < b)(h2:∀j,W j->b<=j):aX s1 so o la ta pl mp P Sh Ds n lv tk:=
 h.dT hs hb fun j hj hw=>by have:=h1 j hj; have:=h2 j hw; omega
theorem Qs (hE:lC T)(hS:TS T)(hs:s.Ok)(cG:aX s so o la ta pl mp P Sh Ds n lv tk){bs:Nat}(hsb:∀j,(br so o la ta pl j\/j=mp)->j < bs)(Rf:kI Q s Ds i W)(hk:ow Ds k)(JZ:i≠k){wo bt bw ba bb ns:Nat}{b:Bool}
  (gw:s.get wo=some (.var 115 (.agg [.ptr so 0,.ptr mo 0])))(hc:Dd s t bt bw ba bb wo i k)(ht:bX s t b 59 [.ptr bw 0,.ptr ba 0,.ptr bb 0,.ptr bt 0])(hm:gP s mo so ko ns c g wt en a tn ro L)(hL:L.length<=10000)(w1:W mo/\W ro)(w2:bs<=mo/\bs<=ro/\bs<=t):
  bY T H 59 [.agg [.int .i64 h,.bool y,.int .i64 v,.int .i64 e],.ptr bw 0,.ptr ba 0,.ptr bb 0,.ptr bt 0] s fun d s1=>d= .agg [.int .i64 3,.jc,.int .i64 0,.bool false,.int .i64 0,.int .i64 0,.int .i64 1,.int .i64 2,.int .i64 (i:Nat),.int .i64 (k:Nat),.int .i64 0,.bool false,.int .i64 0,.int .i64 0]/\
   bX s1 t b 60 [.ptr bw 0]/\gP s1 mo so ko ns c g wt en a tn ro (L++ [(i:Int),(k:Int)])/\aH (fun j=>j=mo\/j=ro\/j=t) s s1:=by
 obtain⟨po,wZ⟩:=hk;have abO :=Rf;obtain⟨d0,num,cc,d',num',F,F',h0,Ld,⟨po',sp,rfl,_⟩,_⟩:=abO;obtain⟨xt,xw,xa,xb⟩:=hc;have gm:=hm.gm; have gr:=hm.gr;have lt:=hs.lt ht; have lm:=hs.lt gm; have lr:=hs.lt gr; have lw:=hs.lt gw
 have ne:∀ {j ty:Nat} {x:D},s.get j=some (.var ty x)->ty≠74->j≠mo/\j≠ro:=fun hj hn=>⟨fun hh=>by
  subst hh; rw [hj]at gm; simp only [aa,Ab.Obj.var.injEq]at gm; exact hn gm.1,fun hh=>by subst hh; rw [hj]at gr; cases gr⟩
 have nt:=ne ht (by decide); have nw:=ne gw (by decide); have n1:=ne xt (by decide); have n2:=ne xw (by decide); have n3:=ne xa (by decide); have n4:=ne xb (by decide);have C3:=yh (H:=H) hS cG Ld wZ JZ;refine aD hE.t59 ?_;simp only [lW];try refine go ?_
 refine aV C3 ?_;rintro d s1 ⟨rfl,rfl⟩;refine⟨rfl,by rfl, ?_⟩;try refine go ?_
 refine aV (Cr (v:=(i:Nat)) hE hs hm (by omega)) ?_;rintro d s2 ⟨rfl,m2,b2⟩;refine⟨rfl,by rfl, ?_⟩;have ok2:=b2.ok;have ZL:=b2.get hs gw (by rintro (h | h); exact nw.1 h; exact nw.2 h);have xw2:=b2.get hs xw (by rintro (h | h); exact n2.1 h; exact n2.2 h);have xa2:=b2.get hs xa (by rintro (h | h); exact n3.1 h; exact n3.2 h);have xb2:=b2.get hs xb (by rintro (h | h); exact n4.1 h; exact n4.2 h);have xt2:=b2.get hs xt (by rintro (h | h); exact n1.1 h; exact n1.2 h);have Ic:bX _ t b _ _:=b2.get hs ht (by rintro (h | h); exact nt.1 h; exact nt.2 h);have hm2:=m2.gm;try refine go ?_
 refine aV (Cr (v:=(k:Nat)) hE ok2 m2 (by rw [an,aC]; omega)) ?_;rintro d s3 ⟨rfl,m3,b3⟩;refine⟨rfl,by rfl, ?_⟩;have ok3:=b3.ok;have gw3:=b3.get ok2 ZL (by rintro (h | h); exact nw.1 h; exact nw.2 h);have xw3:=b3.get ok2 xw2 (by rintro (h | h); exact n2.1 h; exact n2.2 h);have xa3:=b3.get ok2 xa2 (by rintro (h | h); exact n3.1 h; exact n3.2 h);have xb3:=b3.get ok2 xb2 (by rintro (h | h); exact n4.1 h; exact n4.2 h);have xt3:=b3.get ok2 xt2 (by rintro (h | h); exact n1.1 h; exact n1.2 h);have Ri:bX _ t b _ _:=b3.get ok2 Ic (by rintro (h | h); exact nt.1 h; exact nt.2 h);have b4:=b2.trans b3;have o9:=cG.far hs b4 hsb (by rintro j (rfl | rfl); exact w2.1; exact w2.2.1);have abP:=Rf.dT hs b4 (by rintro j _ (rfl | rfl); exact w1.1; exact w1.2);have Rh:=TF (H:=H) hE hS o9 abP;try refine go ?_
 refine aV Rh ?_;rintro d s4 ⟨rfl,rfl⟩;refine⟨rfl,by rfl, ?_⟩;try refine go ?_
 refine af (LZ hE ok3 Ri) ?_;rintro d s5 ⟨rfl,t5,b5⟩;try refine go ?_
 refine ai ⟨rfl,t5, ?_, ?_⟩
 ·have:=m3.dT ok3 b5 (bE nt.1) (bE nt.2);rw [fS]at this;exact this
 ·exact (b4.mono fun j hj=>hj.imp id .inl).trans (b5.mono fun j hj=> .inr (.inr hj))
end
end Go.Proofs.Tab
