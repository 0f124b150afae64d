/- Part. -/
import Derived.Test.YtjaldhgmboeffaaGreatDoorG38
import Derived.Lib.ValidLaws
set_option linter.unusedSimpArgs false
set_option linter.unusedVariables false
set_option linter.unusedSectionVars false
set_option maxRecDepth 100000
set_option maxHeartbeats 2000000
namespace Go.Proofs.Tab
open Go Go.Ab Go.Ab.Sm
theorem _root_.List.set_getElem?_self' {α:Type}{L:List α}{n:Nat}{a:α}(h:L[n]? =some a):L.set n a=L:=by
 obtain⟨h1,rfl⟩:=List.getElem?_eq_some_iff.mp h;exact List.set_getElem_self h1
@[reducible] def Xi (to:Nat) (h u:Int) (log J:Nat) (ov:Bool) (vi la:Int):D:= .agg [.ptr to 0,.int .i64 h,.int .i64 u,.int .i64 ((gC log h J).1:Nat),.int .u64 ((gC log h J).2:Nat),.bool ov,.int .i64 vi,.int .i64 la]
section
variable {T:Nat->Option dU}{H:ay}{s:St}{to eo lo cm log:Nat}{x:D}{E:List eU}{C:List Int}{b m u:Int}
theorem uT.dK {W:Nat->Prop}{s1:St}(h:uT s to eo lo cm log x E C b m u)(hs:s.Ok)(hb:aF W s s1)(h1: ¬ W to)(h2:E≠ []-> ¬ W eo)(h3: ¬ W lo)(h4:jF s1 cm):uT s1 to eo lo cm log x E C b m u:=by
 obtain⟨st,g1,g2⟩:=h.ce;refine⟨hb.get hs h.go h1, ?_,⟨st,hb.get hs g1 h3,g2⟩,h.la,h.l3,h.lh,h.rm,h4,h.nn⟩;have sG:=h.en; have PJ:=h.nn;rcases sG with _ | ⟨_,st,E,ge,dN⟩
 ·exact .nil eo
 ·exact .sl eo st E (hb.get hs ge (h2 fun h0=>by have:=PJ h0; cases this)) dN
theorem NO (hT:nK T){h:Int}(hs:s.Ok)(ht:uT s to eo lo cm log x E C b m u):
  cu T H 239 [.ptr to 0,.int .i64 h] s fun d s1=>d= .ptr s.n 0/\s1.get s.n=some (.var 379 (Xi to h u log 0 false 0 (-1)))/\s1.n=s.n+1/\aF Nil s s1:=by
 have gt:=ht.go;have lt:=hs.lt gt;refine ax hT.t239 ?_;try refine go ?_
 refine aX (Ao hT ht.lh) ?_;rintro d s1 ⟨rfl,rfl⟩;have HX:(s.up 1).get to=_:=St.Cn gt;refine⟨rfl,by simp [lost,eQ.kind,cK,dE,cF,aI,bC,bC.cW,gk,bP.ev,Env.get,cS,D.flat,D.isAgg,cP,D.fw,D.beq,aA,Obj.aW,bE,br,D.bW,D.aW,HX], ?_⟩;have hb:aF Nil s ((s.up 1).bF (s.n+0) (.var 379 (Xi to h u log 0 false 0 (-1)))):=aF.set (W:=Nil) (aF.up (aF.refl hs) 1) _ (by rw [St.jx]; omega) (fun h=>by omega);try refine go ?_
 simp only [sA];exact ai ⟨rfl,St.aO,rfl,hb⟩
theorem JB (hT:nK T){n:Nat}(ht:uT s to eo lo cm log x E C b m u)(hn:n < E.length):cu T H 294 [.ptr to 0,.int .i64 (n:Nat)] s fun d s1=>d= .bool true/\s1=s:=by
 have gt:=ht.go;have sG:=ht.en;rcases sG with _ | ⟨_,st,E,ge,dN⟩
 ·cases hn
 have pQ:=eR E;have d1:=eJ ((n:Int) >= 0);have d2:=eJ ((n:Int) < (E.length:Nat));have pW:(E.map cG)[0+n]? =some (cG E[n]):=by rw [aN,aC,ab hn]; rfl
 generalize E[n]=en at pW;refine ax hT.t294 ?_;try refine go ?_
 exact ai ⟨rfl,rfl⟩
theorem QT (hT:nK T){n:Nat}{v:Int}(hs:s.Ok)(ht:uT s to eo lo cm log x E C b m u)(hn:n < E.length):
  cu T H 274 [.ptr to 0,.int .i64 (n:Nat),.int .i64 v] s fun d s1=>d= .int .i64 0/\(∃E',uT s1 to eo lo cm log x E' C b m u/\E'.length=E.length/\E'.map eU.k=E.map eU.k)/\aF (fun j=>E≠ []/\j=eo) s s1/\s1.n=s.n:=by
 have gt:=ht.go;have ZR:=JB (H:=H) hT ht hn;obtain⟨n1,n2,n3,n4⟩:=ht.ne;have sG:=ht.en;have L5:=ht.ct;obtain⟨stl,gl,Wz⟩:=ht.ce;rcases sG with _ | ⟨_,st,E,ge,dN⟩
 ·cases hn
 have le:=hs.lt ge;have pQ:=eR E;have cE:E≠ []:=by rintro rfl; cases hn
 obtain⟨n5,n6,n7⟩:=n4 cE;obtain⟨en,hE⟩:∃en,E[n]? =some en:=⟨_,ab hn⟩;have pW:(E.map cG)[0+n]? =some (cG en):=by rw [aN,aC,hE]; rfl
 obtain⟨E',hE'⟩:∃E',E' =E.set n ⟨en.h,en.k,v,en.b⟩:=⟨_,rfl⟩;have e1:(E.map cG).set (0+n) (cG ⟨en.h,en.k,v,en.b⟩)=E'.map cG:=by rw [aN,hE',jj]
 have e2:E'.length=E.length:=by rw [hE',ic]
 have e3:gX E' =gX E:=by
  rw [hE'];show (E.set n _).map eU.h=E.map eU.h;rw [jj];exact List.set_getElem?_self' (by rw [aC,hE]; rfl)
 have e4:E'.map eU.k=E.map eU.k:=by
  rw [hE',jj];exact List.set_getElem?_self' (by rw [aC,hE]; rfl)
 refine ax hT.t274 ?_;try refine go ?_
 refine ak ZR ?_;rintro d s1 ⟨rfl,rfl⟩;try refine go ?_
 refine BO (fun p=>p.get eo=some (.arr 5 232 (E'.map cG) (E.map cG).length)/\aF (fun j=>E≠ []/\j=eo) s1 p/\p.n=s1.n) ⟨by rw [← e1]; exact St.aO,aF.set (aF.refl hs) _ le (fun _=>⟨cE,rfl⟩),rfl⟩ ?_;rintro p ⟨g1,b1,np⟩;refine ai ⟨rfl,⟨E',⟨?_, ?_,⟨stl,b1.get hs gl (fun h=>by omega),Wz⟩, ?_,ht.l3,ht.lh, ?_,L5.dK hs b1 (fun h=>by omega),fun h=> ?_⟩,e2,e4⟩,b1,np⟩
 ·rw [e2]; exact b1.get hs gt (fun h=>by omega)
 ·rw [← e2]; exact .sl eo _ E' g1 (by rw [e2,pQ]; exact aq _)
 ·rw [e3]; exact ht.la
 ·rw [e2]; exact ht.rm
 ·rw [h]at e2; exact absurd (fX.mp e2.symm) cE
end
section
variable {T:Nat->Option dU}{H:ay}{s:St}{to eo lo cm log so:Nat}{x:D}{E:List eU}{C:List Int}{b m u:Int}
def Oo (s:St)(so to:Nat)(h u:Int)(log:Nat)(told:Int):Prop:=∃J vi,s.get so=some (.var 379 (Xi to h u log J false vi told))
def NxI (s:St)(so to lo cm log i:Nat)(x:D)(E:List eU)(C:List Int)(b m u h told:Int)(eo:Nat)(mm:Nat)(env:Env) (s' :St):Prop:=
 env=[(0,.ptr so 0)]/\aF (fun j=>j=so\/j=cm) s s' /\uT s' to eo lo cm log x E C b m u/\((∃J vi,mm=i - J+1/\J<=i/\s'.get so=some (.var 379 (Xi to h u log J false vi told)))\/∃J vi,mm=0/\s'.get so=some (.var 379 (Xi to h u log J true vi told)))
theorem FW (hT:nK T){h told:Int}(hs:s.Ok)(ht:uT s to eo lo cm log x E C b m u)(hE:E.length<=20001)(P4:E.length < 2 ^ log)(v8: -1<=told)(y7:Oo s so to h u log told)(hso:so≠cm/\so≠to/\so≠lo/\(E≠ []->so≠eo)):
  cu T H 241 [.ptr so 0] s fun d s1=>((d= .gK [.int .i64 (-1),.bool false])\/∃v:Nat,d= .gK [.int .i64 (v:Nat),.bool true]/\told < (v:Int)/\v < E.length/\Oo s1 so to h u log (v:Nat))/\uT s1 to eo lo cm log x E C b m u/\aF (fun j=>j=so\/j=cm) s s1:=by
 have hp:=my ht.lh;obtain⟨J0,vi0,gsk⟩:=y7;obtain⟨h1,h2,h3,h4⟩:=hso;obtain⟨i,W8,hi2,hi3⟩:=ht.la.empty (by rw [aJ]; exact P4) h J0;refine ax hT.t241 ?_;try refine go ?_
 refine cg (NxI s so to lo cm log i x E C b m u h told eo) (i - J0+1) rfl ⟨rfl,aF.refl hs,ht,.inl ⟨J0,vi0,rfl,W8,gsk⟩⟩ ?_;rintro mm env s1 ⟨rfl,b1,tP,⟨J,vi,rfl,hJ,gs⟩ | ⟨J,vi,rfl,gs⟩⟩
 ·have ok1:=b1.ok;have gt:=tP.go;have L5:=tP.ct;obtain⟨c1,c2,c3,c4,gc⟩:=L5;obtain⟨stl,gl,Wz⟩:=tP.ce;have lso:=ok1.lt gs; have lcm:=ok1.lt gc;have Xa:=lQ log h J;have hC:=tP.la.len;have yh:(gC log h J).1 < C.length:=by rw [hC]; exact Xa
  have u7:C[(gC log h J).1]? =some C[(gC log h J).1]:=ab yh;have hv:=tP.la.zS _ (bH yh);rw [aJ]at hv;have oM:(ints C)[0+(gC log h J).1]? =some (.int .i64 (C[(gC log h J).1])):=by rw [aN]; exact ints_at u7
  have ja:=fB C;generalize C[(gC log h J).1]=v at u7 hv oM;have XG:=fun (p:St)=>En (T:=T) (H:=H) (s:=p) (h:=h) (j:=J) hT tP.lh
  dsimp only [Xi]at gs
  generalize Xp:(gC log h J).1=cc at Xa yh u7 oM XG gs;generalize WD:(gC log h J).2=pp at XG gs;obtain⟨n1,n2,n3,n4⟩:=tP.ne;have acp:=gt;generalize 2 ^ log=N at gt Wz hC Xa hp;have k1:∀d1 d2:D,((s1.bF so (.var 379 d1)).bF cm (.var 149 d2)).get so=some (.var 379 d1):=fun d1 d2=>St.eS St.aO h1;have k2:∀d1 d2:D,((s1.bF so (.var 379 d1)).bF cm (.var 149 d2)).get to=_:=fun d1 d2=>St.eS (St.eS gt (bO h2)) n2;try refine go ?_
  simp only [beq_self_eq_true];try refine go ?_
  refine aX (XG _) ?_;rintro d p ⟨rfl,rfl⟩;refine⟨rfl,by simp [lost,eQ.kind,cK,dE,cF,aI,bC,bC.cW,gk,bP.ev,Env.get,cS,D.flat,D.isAgg,cP,D.fw,D.beq,aA,Obj.aW,bE,br,D.bW,D.aW,k1,k2], ?_⟩;try refine go ?_
  refine Lt (fun p=>p.get so=some (.var 379 (Xi to h u log (J+1) false (IntKind.wrap .i64 (vi+1)) told))/\jF p cm/\aF (fun j=>j=so\/j=cm) s1 p) ⟨St.aO,⟨_,_,_,_,gI⟩, ?_⟩ ?_
  ·refine aF.set (aF.set (aF.set (aF.set (aF.refl ok1) _ ?_ ?_) _ ?_ ?_) _ ?_ ?_) _ ?_ ?_
   all_goals first
    | (intro _; exact .inl rfl)
    | (intro _; exact .inr rfl)
    | (simp only [St.fE,St.jx]; omega)
    | omega
  rintro p ⟨Yc,ct2,bq⟩;have sH:=tP.dK ok1 bq (by omega) (fun hE=>by have:=h4 hE; have:=n4 hE; omega) (by omega) ct2;have ok2:=bq.ok;have YZ:=ok2.lt Yc;have bs2:=b1.trans bq;have WI:=sH.go;have bset:∀d:D,aF (fun j=>j=so\/j=cm) p (p.bF so (.var 379 d)):=fun d=>aF.set (W:=fun j=>j=so\/j=cm) (aF.refl ok2) _ YZ (fun _=> .inl rfl)
  have Iw:∀d:D,uT (p.bF so (.var 379 d)) to eo lo cm log x E C b m u:=fun d=>sH.dK ok2 (W:=fun j=>j=so) (aF.set (aF.refl ok2) _ YZ (fun _=>rfl)) (by omega) (fun hE=>by have:=h4 hE; omega) (by omega) (by
   obtain⟨a1,a2,a3,a4,g⟩:=ct2;exact⟨a1,a2,a3,a4,St.eS g (by omega)⟩)
  refine cV (fun zk=> ?_) (fun zk=> ?_)
  ·try refine go ?_
   exact bf 0 (by omega) rfl ⟨rfl,bs2.trans (bset _),Iw _,.inr ⟨J+1,_,rfl,St.aO⟩⟩
  ·have kz: ¬ v= -1:=by simpa using zk
   obtain⟨w,rfl⟩:∃w:Nat,v=(w:Int):=⟨v.toNat,by omega⟩;have hJi:J≠i:=by
    rintro rfl;rw [Xp,u7]at hi3;simp only [aa]at hi3;omega
   have Jh:w < E.length:=by omega
   have sG:=sH.en;rcases sG with _ | ⟨_,st,E,ge,dN⟩
   ·cases Jh
   have pQ:=eR E;have pW:(E.map cG)[0+w]? =some (cG E[w]):=by rw [aN,aC,ab Jh]; rfl
   generalize E[w]=en at pW;have cE:E≠ []:=by rintro rfl; cases Jh
   rcases kV told (w:Int) with Mh | Mh
   ·have hd:decide ((w:Int) > told)=true:=cO Mh;try refine go ?_
    simp only [hd];try refine go ?_
    refine cV (fun uo=> ?_) (fun uo=> ?_)
    ·try refine go ?_
     exact ai ⟨.inr ⟨w,rfl,Mh,Jh,_,_,St.aO⟩,Iw _,bs2.trans (bset _)⟩
    ·try refine go ?_
     exact bf (i - (J+1)+1) (by omega) rfl ⟨rfl,bs2,sH,.inl ⟨J+1,_,rfl,by omega,Yc⟩⟩
   ·have hd:=cN ((w:Int) > told);try refine go ?_
    simp only [hd];try refine go ?_
    exact bf (i - (J+1)+1) (by omega) rfl ⟨rfl,bs2,sH,.inl ⟨J+1,_,rfl,by omega,Yc⟩⟩
 ·have ok1:=b1.ok;have lso:=ok1.lt gs;have gt:=tP.go
  have Iw:∀d:D,uT (s1.bF so (.var 379 d)) to eo lo cm log x E C b m u:=fun d=>tP.dK ok1 (W:=fun j=>j=so) (aF.set (aF.refl ok1) _ lso (fun _=>rfl)) (by omega) (fun hE=>by have:=h4 hE; omega) (by omega) (by
   obtain⟨a1,a2,a3,a4,g⟩:=tP.ct;exact⟨a1,a2,a3,a4,St.eS g (by omega)⟩)
  try refine go ?_
  exact ai ⟨.inl rfl,Iw _,b1.trans (aF.set (aF.refl ok1) _ lso (fun _=> .inl rfl))⟩
end
@[reducible] def O4 (dv:Nat) (h k v:Int) (S:D) (kept at' :Int) (wa sa ov:Bool) (t0 t1:Int) (t2:Bool) (t3 t4 sc:Int):D:= .agg [.ptr dv 0,.int .i64 2,.int .i64 h,.int .i64 k,.int .i64 v,S,.int .i64 kept,.int .i64 at',.bool wa,.bool sa,.bool ov,.int .i64 t0,.int .i64 t1,.bool t2,.int .i64 t3,.int .i64 t4,.int .i64 sc]
theorem xB {s:St}{o:Nat}{a b:Ab.Obj}(hs:s.Ok)(h:o < s.n):aF (fun j=>j=o) s ((s.bF o a).bF o b):=aF.set (W:=fun j=>j=o) (aF.set (W:=fun j=>j=o) (aF.refl hs) _ h (fun _=>rfl)) _ h (fun _=>rfl)
section
variable {T:Nat->Option dU}{H:ay}{s:St}{to eo lo cm log so mo dv:Nat}{x:D}{E:List eU}{C:List Int}{b m u:Int}
theorem Ej (hT:nK T)(hs:s.Ok)(hc:jF s cm):cu T H 236 [.ptr cm 0] s fun d s1=>d= .ptr s.n 0/\(∃lo m',uT s1 s.n 0 lo cm 3 (.vs true 0 []) [] (List.replicate (2 ^ 3) (-1)) 0 m' 0/\s.n<=lo)/\s.n < s1.n/\aF (fun j=>j=cm) s s1:=by
 have lc:cm < s.n:=by obtain ⟨a1,a2,a3,a4,g⟩:=hc; exact hs.lt g
 refine ax hT.t236 ?_;try refine go ?_
 refine jL (fun p=>p.get s.n=some (.var 349 (.agg [.vs true 0 [],.int .i64 0,.vs true 0 [],.int .i64 0,.int .i64 0,.int .i64 0,.int .i64 0,.ptr cm 0]))/\aF Nil s p/\s.n < p.n) ⟨St.bu,(aF.refl hs).push _,by rw [St.dV]; omega⟩ ?_;rintro p ⟨g1,b1,np⟩;have ok1:=b1.ok;refine ak (Am (log:=3) hT ok1 g1 (hc.dK hs b1 id) (by decide) (by decide)) ?_;rintro d s2 ⟨⟨m',g2⟩,⟨st,g3,dN⟩,c3,n3,b3⟩;try refine go ?_
 refine ai ⟨rfl,⟨p.n,m',⟨g2,.nil 0,⟨st,g3,dN⟩,.nil,by decide,by decide,by decide,c3,fun _=>rfl⟩,by omega⟩,by omega, ?_⟩
 exact (b1.mono fun _ h=>h.elim).trans' b3 fun j hj hn=>by
  rcases hj with hj | hj
  ·omega
  ·exact hj
theorem Eg (hT:nK T){P:Nat}(hs:s.Ok)(hc:jF s cm)(hP:P<=65536):cu T H 185 [.int .i64 (P:Nat),.ptr cm 0] s fun d s1=>∃dv to lo m',d= .gK [.ptr dv 0,.int .i64 0]/\s1.get dv=some (.var 334 (.agg [.int .i64 (P:Nat),.int .i64 0,.ptr to 0]))/\uT s1 to 0 lo cm 3 (.vs true 0 []) [] (List.replicate (2 ^ 3) (-1)) 0 m' 0/\s.n<=dv/\s.n<=to/\s.n<=lo/\aF (fun j=>j=cm) s s1:=by
 have lc:cm < s.n:=by obtain ⟨a1,a2,a3,a4,g⟩:=hc; exact hs.lt g
 have d1:=cN ((P:Int) < 0);have d2:=cN ((P:Int) > 65536);refine ax hT.t185 ?_;try refine go ?_
 refine ak (Ej hT hs hc) ?_;rintro d s1 ⟨rfl,⟨lo,m',ht,J4⟩,n1,b1⟩;have ok1:=b1.ok;have bp:aF Nil s1 (s1.bz (.var 334 (.agg [.int .i64 (P:Nat),.int .i64 0,.ptr s.n 0]))):=(aF.refl ok1).push _;try refine go ?_
 exact ai ⟨s1.n,s.n,lo,m',rfl,St.bu,ht.dK ok1 bp id (fun _=>id) id (ht.ct.dK ok1 bp id),by omega,aq _,J4,b1.trans (bp.mono fun _ h=>h.elim)⟩
theorem OL (hT:nK T){P Sh:Nat}(hs:s.Ok)(hc:jF s cm)(hP:P<=65536)(K7:Sh<=256):cu T H 186 [.int .i64 (Sh:Nat),.int .i64 (P:Nat),.ptr cm 0] s fun d s1=>∃fo,d= .gK [.ptr fo 0,.int .i64 0]/\s.n<=fo/\jF s1 cm/\aF (fun j=>j=cm) s s1:=by
 have d1:=cN ((P:Int) < 0);have d2:=cN ((P:Int) > 65536);have d3:=cN ((Sh:Int) < 0);have d4:=cN ((Sh:Int) > 256);refine ax hT.t186 ?_;try refine go ?_
 refine ak (Ej hT hs hc) ?_;rintro d s1 ⟨rfl,⟨lo,m',ht,J4⟩,n1,b1⟩;have ok1:=b1.ok;try refine go ?_
 exact ai ⟨s1.n,rfl,by omega,ht.ct.dK ok1 ((aF.refl (W:=Nil) ok1).push _) id,b1.push _⟩
theorem Mi (hT:nK T){fo:Nat}(hs:s.Ok):cu T H 187 [.ptr fo 0] s fun d s1=>d= .ptr s.n 0/\aF Nil s s1:=by
 refine ax hT.t187 ?_;try refine go ?_
 exact ai ⟨rfl,(aF.refl hs).push _⟩
theorem KO (hT:nK T){h k v:Int}(hs:s.Ok):cu T H 193 [.ptr dv 0,.int .i64 2,.int .i64 h,.int .i64 k,.int .i64 v] s fun d s1=>d= .ptr s.n 0/\s1.get s.n=some (.var 344 (O4 dv h k v .cz 0 0 false false false 0 0 false 0 0 0))/\s1.n=s.n+1/\aF Nil s s1:=by
 refine ax hT.t193 ?_;try refine go ?_
 exact ai ⟨rfl,St.bu,rfl,(aF.refl hs).push _⟩
theorem M0 (hT:nK T){h k v kept at' t0 t1 t3 t4 sc:Int}{t2 c sa:Bool}{S:D}(hs:s.Ok)(gm:s.get mo=some (.var 344 (O4 dv h k v S kept at' true sa false t0 t1 t2 t3 t4 sc))):cu T H 195 [.ptr mo 0,.bool c] s fun d s1=>s1.get mo=some (.var 344 (O4 dv h k v S kept at' false c false t0 t1 t2 t3 t4 sc))/\s1.n=s.n/\aF (fun j=>j=mo) s s1:=by
 have lm:=hs.lt gm;refine ax hT.t195 ?_;try refine go ?_
 exact ai ⟨St.aO,rfl,xB hs lm⟩
theorem yD (hT:nK T){h k v kept at' t0 t1 t3 t4 sc c0 c1 c3 c4:Int}{t2 wa sa ov c2:Bool}{S:D}(hs:s.Ok)(gm:s.get mo=some (.var 344 (O4 dv h k v S kept at' wa sa ov t0 t1 t2 t3 t4 sc))):cu T H 276 [.ptr mo 0,.agg [.int .i64 c0,.int .i64 c1,.bool c2,.int .i64 c3,.int .i64 c4]] s fun d s1=>d= .agg [.int .i64 c0,.int .i64 c1,.bool c2,.int .i64 c3,.int .i64 c4]/\s1.n=s.n/\aF (fun j=>j=mo) s s1:=by
 have lm:=hs.lt gm;refine ax hT.t276 ?_;try refine go ?_
 exact ai ⟨rfl,rfl,xB hs lm⟩
end
section
variable {T:Nat->Option dU}{H:ay}{s:St}{to eo lo cm log so mo dv N:Nat}{x:D}{E:List eU}{C:List Int}{b m u:Int}
def l9 (s:St)(N cm dv:Nat)(K:Int->Prop)(n:Nat):Prop:=∃to eo lo log x E C b m u most ver,s.get dv=some (.var 334 (.agg [.int .i64 most,.int .i64 ver,.ptr to 0]))/\uT s to eo lo cm log x E C b m u/\N<=dv/\N<=to/\(E≠ []->N<=eo)/\N<=lo/\cm < N/\E.length<=n/\∀e∈E,K e.k
theorem uT.ndv (h:uT s to eo lo cm log x E C b m u){d:D}(g:s.get dv=some (.var 334 d)):dv≠to/\dv≠lo/\dv≠cm/\(E≠ []->dv≠eo):=by
 obtain⟨st,g1,_⟩:=h.ce;obtain⟨a1,a2,a3,a4,g2⟩:=h.ct;have g3:=h.go;refine⟨?_, ?_, ?_,fun hE=> ?_⟩
 ·rintro rfl; rw [g3]at g; simp at g
 ·rintro rfl; rw [g1]at g; cases g
 ·rintro rfl; rw [g2]at g; simp at g
 ·rcases h.en with _ | ⟨_,tJ,E,g4,_⟩
  ·exact absurd rfl hE
  ·rintro rfl; rw [g4]at g; cases g
theorem mem_keys {E E' :List eU}{K:Int->Prop}(h:E'.map eU.k=E.map eU.k)(hK:∀e∈E,K e.k):∀e∈E',K e.k:=fun e he=>by
 have:e.k∈E'.map eU.k:=List.mem_map_of_mem he;rw [h]at this;obtain⟨e',h1,h2⟩:=jO.mp this;rw [← h2]; exact hK e' h1
theorem Ik (hT:nK T){h k v kept t0 t1 t3 t4 sc most ver:Int} {at' :Nat}{t2 wa sa ov:Bool}{S:D}{K:Int->Prop}{n:Nat}(hs:s.Ok)(gm:s.get mo=some (.var 344 (O4 dv h k v S kept (at' :Nat) wa sa ov t0 t1 t2 t3 t4 sc)))(gd:s.get dv=some (.var 334 (.agg [.int .i64 most,.int .i64 ver,.ptr to 0])))(ht:uT s to eo lo cm log x E C b m u)(oM:at' < E.length)
  (k1:N<=dv)(k2:N<=to)(k3:E≠ []->N<=eo)(k4:N<=lo)(k5:cm < N)(k6:N<=mo)(hn:E.length<=n)(hK:∀e∈E,K e.k):
  cu T H 240 [.ptr mo 0] s fun d s1=>(∃c1 c3 c4:Int,∃c2,d= .agg [.int .i64 2,.int .i64 c1,.bool c2,.int .i64 c3,.int .i64 c4])/\l9 s1 N cm dv K n/\aF (fun j=>N<=j) s s1:=by
 have gt:=ht.go;obtain⟨m1,m2,m3,m4⟩:=ht.ndv gd;have lm:=hs.lt gm; have ld:=hs.lt gd; have lt:=hs.lt gt;have nmd:mo≠dv:=by rintro rfl; rw [gm]at gd; simp at gd
 have nmt:mo≠to:=by rintro rfl; rw [gm]at gt; simp at gt
 have nml:mo≠lo:=by obtain ⟨st,g1,_⟩:=ht.ce; rintro rfl; rw [gm]at g1; cases g1
 have nme:E≠ []->mo≠eo:=fun hE=>by
  rcases ht.en with _ | ⟨_,tJ,E,g4,_⟩
  ·exact absurd rfl hE
  ·rintro rfl; rw [gm]at g4; cases g4
 have sG:=ht.en;rcases sG with _ | ⟨_,st,E,ge,dN⟩
 ·cases oM
 have cE:E≠ []:=by rintro rfl; cases oM
 have nme:=nme cE; have m4:=m4 cE; have k3:=k3 cE;have le:=hs.lt ge;have pQ:=eR E;have pW:(E.map cG)[0+at']? =some (cG E[at']):=by rw [aN,aC,ab oM]; rfl
 generalize E[at']=en at pW;refine ax hT.t240 ?_;try refine go ?_
 refine Ci (fun p=>p.get s.n=some (.var 232 (cG en))/\aF Nil s p/\s.n < p.n) ⟨St.aO, ?_,by simp only [St.fE,St.jx]; omega⟩ ?_
 ·exact aF.set (W:=Nil) (aF.set (W:=Nil) (aF.up (aF.refl hs) 1) _ (by simp only [St.jx]; omega) (fun h=>by omega)) _ (by simp only [St.fE,St.jx]; omega) (fun h=>by omega)
 rintro p ⟨gx,bp,np⟩;have okp:=bp.ok;have gmp:=bp.get hs gm id;have gdp:=bp.get hs gd id;have X5:=ht.dK hs bp id (fun _=>id) id (ht.ct.dK hs bp id);have gtp:=X5.go;refine aX (QT hT okp X5 oM) ?_;rintro d p2 ⟨rfl,⟨E',sH,e2,e4⟩,b2,n2⟩;have ok2:=b2.ok;have Lk:=b2.get okp gmp (fun h=>by omega);have RS:=b2.get okp gdp (fun h=>by omega);have WI:=sH.go;have WO:=b2.get okp gx (fun h=>by omega);have gt3:p2.get to=some _:=b2.get okp gtp (fun h=>by have:=X5.ne.2.2.2 cE; omega);refine⟨rfl,by simp [lost,eQ.kind,cK,dE,cF,aI,bC,bC.cW,gk,bP.ev,Env.get,cS,D.flat,D.isAgg,cP,D.fw,D.beq,aA,Obj.aW,bE,br,D.bW,D.aW,gmp,gdp,gtp,Lk,RS,gt3], ?_⟩;try refine go ?_
 have ld2:=ok2.lt RS;refine Ci (fun q=>q.get dv=some (.var 334 (.agg [.int .i64 most,.int .i64 (IntKind.wrap .i64 (ver+1)),.ptr to 0]))/\aF (fun j=>j=dv) p2 q) ⟨St.aO,aF.set (W:=fun j=>j=dv) (aF.refl ok2) _ ld2 (fun _=>rfl)⟩ ?_;rintro q ⟨gdq,bq⟩;have okq:=bq.ok;have gmq:=bq.get ok2 Lk nmd;have Y5:=sH.dK ok2 bq (bO m1) (fun _=>bO m4) (bO m2) (sH.ct.dK ok2 bq (bO m3));have gxq:=bq.get ok2 WO (by omega);refine aX (yD hT okq gmq) ?_;rintro d p4 ⟨rfl,n4',b4⟩;refine⟨rfl,by simp [lost,eQ.kind,cK,dE,cF,aI,bC,bC.cW,gk,bP.ev,Env.get,cS,D.flat,D.isAgg,cP,D.fw,D.beq,aA,Obj.aW,bE,br,D.bW,D.aW,gmq,gxq], ?_⟩;refine oy ?_;try refine go ?_
 have hd4:=b4.get okq gdq (bO nmd);have ht4:=Y5.dK okq b4 (bO nmt) (fun _=>bO nme) (bO nml) (Y5.ct.dK okq b4 (by omega));have bN:aF (fun j=>N<=j) s p4:=(((bp.mono fun _ h=>h.elim).trans (b2.mono fun j hj=>by obtain ⟨_,rfl⟩:=hj; exact k3)).trans (bq.mono fun j hj=>by subst hj; exact k1)).trans (b4.mono fun j hj=>by subst hj; exact k6);exact ai ⟨⟨_,_,_,_,rfl⟩,⟨to,eo,lo,log,_,E',C,b,m,u,most,_,hd4,ht4,k1,k2,fun _=>k3,k4,k5,by omega,mem_keys e4 hK⟩,bN⟩
end
section
variable {T:Nat->Option dU}{H:ay}{s:St}{to eo lo cm log so mo dv N:Nat}{x:D}{E:List eU}{C:List Int}{b m u:Int}
theorem Lu (hT:nK T){most ver:Int}{c0 c1 c2 n4 n5 n6 n7:D}{n:Int}(gd:s.get dv=some (.var 334 (.agg [.int .i64 most,.int .i64 ver,.ptr to 0])))(gt:s.get to=some (.var 349 (.agg [c0,c1,c2,.int .i64 n,n4,n5,n6,n7]))):cu T H 278 [.ptr dv 0] s fun d s1=>d= .int .i64 n/\s1=s:=by
 refine ax hT.t278 ?_;try refine go ?_
 exact ai ⟨rfl,rfl⟩
theorem Oq (hT:nK T){h k v kept at' t0 t1 t3 t4 sc most ver:Int}{t2 wa sa ov:Bool}{S:D}{K:Int->Prop}{n:Nat}(hs:s.Ok)(gm:s.get mo=some (.var 344 (O4 dv h k v S kept at' wa sa ov t0 t1 t2 t3 t4 sc)))(gd:s.get dv=some (.var 334 (.agg [.int .i64 most,.int .i64 ver,.ptr to 0])))(ht:uT s to eo lo cm log x E C b m u)
  (k1:N<=dv)(k2:N<=to)(k3:E≠ []->N<=eo)(k4:N<=lo)(k5:cm < N)(k6:N<=mo)(kN:N<=s.n)(hn:E.length<=n)(qV:n<=20000)(hK:∀e∈E,K e.k)(hk:K k):
  cu T H 242 [.ptr mo 0] s fun d s1=>(∃c0 c1 c3 c4:Int,∃c2,d= .agg [.int .i64 c0,.int .i64 c1,.bool c2,.int .i64 c3,.int .i64 c4]/\c0≠1)/\l9 s1 N cm dv K (n+1)/\aF (fun j=>N<=j\/j=cm) s s1:=by
 have gt:=ht.go;obtain⟨m1,m2,m3,m4⟩:=ht.ndv gd;have lm:=hs.lt gm; have ld:=hs.lt gd; have lt:=hs.lt gt;have nmd:mo≠dv:=by rintro rfl; rw [gm]at gd; simp at gd
 have nmt:mo≠to:=by rintro rfl; rw [gm]at gt; simp at gt
 have nml:mo≠lo:=by obtain ⟨st,g1,_⟩:=ht.ce; rintro rfl; rw [gm]at g1; cases g1
 have nmc:mo≠cm:=by omega
 have nme:E≠ []->mo≠eo:=fun hE=>by
  rcases ht.en with _ | ⟨_,tJ,E,g4,_⟩
  ·exact absurd rfl hE
  ·rintro rfl; rw [gm]at g4; cases g4
 have hlen:=Lu (T:=T) (H:=H) (s:= { s with ro:=true}) hT gd gt;refine ax hT.t242 ?_;try refine go ?_
 refine qN hlen ?_;rintro d s1 ⟨rfl,rfl⟩;refine⟨rfl, ?_⟩;try refine go ?_
 have hD:l9 s N cm dv K (n+1):=⟨to,eo,lo,log,x,E,C,b,m,u,most,ver,gd,ht,k1,k2,k3,k4,k5,by omega,hK⟩;refine cV (fun _=> ?_) (fun _=> ?_)
 ·try refine go ?_
  refine ak (yD hT hs gm) ?_;rintro d p ⟨rfl,n1,b1⟩;try refine go ?_
  have tP:=ht.dK hs b1 (bO nmt) (fun hE=>bO (nme hE)) (bO nml) (ht.ct.dK hs b1 (bO nmc));exact ai ⟨⟨3,0,0,0,false,rfl,by decide⟩,⟨to,eo,lo,log,x,E,C,b,m,u,most,ver,b1.get hs gd (bO nmd),tP,k1,k2,k3,k4,k5,by omega,hK⟩,b1.mono fun j hj=>by subst hj; exact .inl k6⟩
 ·try refine go ?_
  refine aX (Rj hT hs ht (by omega)) ?_;rintro d p ⟨rfl,eo',lo',log',x',C',b',m',u',bb,tP,he,J4,b1⟩;have ok1:=b1.ok;have Ie:=b1.get hs gm (fun h=>by rcases h with h | ⟨hE,h⟩ | h | h; omega; exact nme hE h; omega; omega);have EU:=b1.get hs gd (fun h=>by rcases h with h | ⟨hE,h⟩ | h | h; omega; exact m4 hE h; omega; omega);have bn1:=b1.n;refine⟨rfl,by simp [lost,eQ.kind,cK,dE,cF,aI,bC,bC.cW,gk,bP.ev,Env.get,cS,D.flat,D.isAgg,cP,D.fw,D.beq,aA,Obj.aW,bE,br,D.bW,D.aW,gm,gd,Ie,EU], ?_⟩;try refine go ?_
  have ld1:=ok1.lt EU;have aco :=tP;obtain⟨m5,m6,m7,m8⟩:=tP.ndv EU;have nme' :eo' ≠mo:=by
   rcases he with ⟨hE,rfl⟩ | he
   ·exact bO (nme hE)
   ·omega
  have nml' :lo' ≠mo:=by omega
  refine jL (fun q=>q.get dv=some (.var 334 (.agg [.int .i64 most,.int .i64 (IntKind.wrap .i64 (ver+1)),.ptr to 0]))/\aF (fun j=>j=dv) p q) ⟨St.aO,aF.set (W:=fun j=>j=dv) (aF.refl ok1) _ ld1 (fun _=>rfl)⟩ ?_;rintro q ⟨gdq,bq⟩;have okq:=bq.ok;have gmq:=bq.get ok1 Ie nmd;have Y5:=tP.dK ok1 bq (bO m5) (fun h=>bO (m8 h)) (bO m6) (tP.ct.dK ok1 bq (bO m7));refine ak (yD hT okq gmq) ?_;rintro d p4 ⟨rfl,n4',b4⟩;try refine go ?_
  have hd4:=b4.get okq gdq (bO nmd);have ht4:=Y5.dK okq b4 (bO nmt) (fun _=>nme') nml' (Y5.ct.dK okq b4 (bO nmc))
  have bN:aF (fun j=>N<=j\/j=cm) s p4:=((b1.mono fun j hj=>by
   rcases hj with h | ⟨hE,h⟩ | h | h
   ·exact .inl (by omega)
   ·have:=k3 hE; exact .inl (by omega)
   ·exact .inl (by omega)
   ·exact .inr h).trans (bq.mono fun j hj=>by subst hj; exact .inl k1)).trans (b4.mono fun j hj=>by subst hj; exact .inl k6)
  refine ai ⟨⟨2,0,v,(E.length:Nat),false,rfl,by decide⟩,⟨to,eo',lo',log',x',_,C',b',m',u',most,_,hd4,ht4,k1,k2,fun _=> ?_,by omega,k5,by rw [aG,aZ]; omega,fun e Pp => ?_⟩,bN⟩
  ·rcases he with ⟨hE,rfl⟩ | he
   ·exact k3 hE
   ·omega
  ·rw [bK,cH]at Pp;rcases Pp with h | rfl
   ·exact hK e h
   ·exact hk
end
section
variable {T:Nat->Option dU}{H:ay}{s:St}{mo dv cm N n:Nat}{h k v told:Int}{K:Int->Prop}
def K4 (s:St)(N cm mo dv:Nat)(h k v:Int)(K:Int->Prop)(n:Nat)(told:Int)(wa sa:Bool):Prop:=
 ∃to eo lo log x E C b m u most ver so at' t0 t1 t2 t3 t4 sc,s.get mo=some (.var 344 (O4 dv h k v (.ptr so 0) ver at' wa sa false t0 t1 t2 t3 t4 sc))/\s.get dv=some (.var 334 (.agg [.int .i64 most,.int .i64 ver,.ptr to 0]))/\uT s to eo lo cm log x E C b m u/\Oo s so to h u log told/\
  N<=dv/\N<=to/\(E≠ []->N<=eo)/\N<=lo/\cm < N/\N<=mo/\N<=so/\N<=s.n/\E.length<=n/\(∀e∈E,K e.k)/\ -1<=told/\((wa=true\/sa=true)->∃i:Nat,at' =(i:Int)/\i < E.length)
def Nj (s:St)(N cm mo dv:Nat)(h k v:Int)(K:Int->Prop)(n:Nat)(told:Int)(d:D)(s1:St):Prop:=
 (∃c0 c1 c3 c4:Int,∃c2,d= .agg [.int .i64 c0,.int .i64 c1,.bool c2,.int .i64 c3,.int .i64 c4]/\(c0≠1/\l9 s1 N cm dv K (n+1)\/c0=1/\K c1/\∃told' :Nat,told < (told' :Int)/\told' < n/\K4 s1 N cm mo dv h k v K n (told' :Nat) true false))/\aF (fun j=>N<=j\/j=cm) s s1
theorem l9.up {n' :Nat}(h:l9 s N cm dv K n)(hn:n<=n'):l9 s N cm dv K n' :=by
 obtain⟨a1,a2,a3,a4,a5,a6,a7,a8,a9,Qh,Wk,a12,q1,q2,q3,q4,q5,q6,q7,q8,q9⟩:=h;exact⟨a1,a2,a3,a4,a5,a6,a7,a8,a9,Qh,Wk,a12,q1,q2,q3,q4,q5,q6,q7,by omega,q9⟩
theorem JV (hT:nK T)(hs:s.Ok)(hm:K4 s N cm mo dv h k v K n told false true):cu T H 194 [.ptr mo 0] s (Nj s N cm mo dv h k v K n told):=by
 obtain⟨to,eo,lo,log,x,E,C,b,m,u,most,ver,so,at',t0,t1,t2,t3,t4,sc,gm,gd,ht,y7,k1,k2,k3,k4,k5,k6,k7,k8,k9,Lh,Vu,Xd⟩:=hm;obtain⟨i,rfl,hi⟩:=Xd (.inr rfl);have OK:=Ik (H:=H) (N:=N) (K:=K) (n:=n) hT hs gm gd ht hi k1 k2 k3 k4 k5 k6 k9 Lh;refine ax hT.t194 ?_;try refine go ?_
 simp only [bne_self_eq_false];try refine go ?_
 refine ak OK ?_;rintro d s1 ⟨⟨c1,c3,c4,c2,rfl⟩,hD,b1⟩;try refine go ?_
 exact ai ⟨⟨2,_,_,_,_,rfl,.inl ⟨by decide,hD.up (by omega)⟩⟩,b1.mono fun j hj=> .inl hj⟩
def MaF (s:St)(N cm mo dv:Nat)(h k v:Int)(K:Int->Prop)(n:Nat):Prop:=s.get mo=some (.var 344 (O4 dv h k v .cz 0 0 false false false 0 0 false 0 0 0))/\N<=mo/\N<=s.n/\l9 s N cm dv K n
theorem Bi (hT:nK T)(hs:s.Ok)(qV:n<=20000)(hk:K k)(hm:K4 s N cm mo dv h k v K n told false false\/told= -1/\MaF s N cm mo dv h k v K n):cu T H 194 [.ptr mo 0] s (Nj s N cm mo dv h k v K n told):=by
 refine ax hT.t194 ?_;rcases hm with hm | ⟨rfl,gm,k6,k8,to,eo,lo,log,x,E,C,b,m,u,most,ver,gd,ht,k1,k2,k3,k4,k5,k9,Lh⟩;obtain⟨to,eo,lo,log,x,E,C,b,m,u,most,ver,so,at',t0,t1,t2,t3,t4,sc,gm,gd,ht,y7,k1,k2,k3,k4,k5,k6,k7,kN,k9,Lh,Vu,Xd⟩:=hm;have bq0:aF (fun j=>N<=j\/j=cm) s s:=aF.refl hs;have nmd:mo≠dv:=by rintro rfl; rw [gm]at gd; simp at gd
 have nmt:mo≠to:=by have gt:=ht.go; rintro rfl; rw [gm]at gt; simp at gt
 have nml:mo≠lo:=by obtain ⟨st,g1,_⟩:=ht.ce; rintro rfl; rw [gm]at g1; cases g1
 have nme:E≠ []->mo≠eo:=fun hE=>by
  rcases ht.en with _ | ⟨_,tJ,E,g4,_⟩
  ·exact absurd rfl hE
  ·rintro rfl; rw [gm]at g4; cases g4
 have ok:=hs;try refine go ?_
 simp only [bne_self_eq_false];try refine go ?_
 rotate_left;have y7:=NO (H:=H) (h:=h) hT hs ht;have gt:=ht.go;have nmd:mo≠dv:=by rintro rfl; rw [gm]at gd; simp at gd
 have nmt:mo≠to:=by rintro rfl; rw [gm]at gt; simp at gt
 have nml:mo≠lo:=by obtain ⟨st,g1,_⟩:=ht.ce; rintro rfl; rw [gm]at g1; cases g1
 have nme:E≠ []->mo≠eo:=fun hE=>by
  rcases ht.en with _ | ⟨_,tJ,E,g4,_⟩
  ·exact absurd rfl hE
  ·rintro rfl; rw [gm]at g4; cases g4
 have lm:=hs.lt gm;try refine go ?_
 refine aX y7 ?_;rintro d p ⟨rfl,gs,np,bp⟩;have okp:=bp.ok;have gmp:=bp.get hs gm id;have gdp:=bp.get hs gd id;have gtp:=bp.get hs gt id;have lmp:=okp.lt gmp;have X5:=ht.dK hs bp id (fun _=>id) id (ht.ct.dK hs bp id);refine⟨rfl,by simp [lost,eQ.kind,cK,dE,cF,aI,bC,bC.cW,gk,bP.ev,Env.get,cS,D.flat,D.isAgg,cP,D.fw,D.beq,aA,Obj.aW,bE,br,D.bW,D.aW,gm,gd,gt,gmp,gdp,gtp], ?_⟩;try refine go ?_
 refine jL (fun q=>(∃sc,q.get mo=some (.var 344 (O4 dv h k v (.ptr s.n 0) ver 0 false false false 0 0 false 0 0 sc)))/\aF (fun j=>j=mo) p q) ⟨⟨_,St.aO⟩,aF.set (W:=fun j=>j=mo) (aF.set (W:=fun j=>j=mo) (aF.set (W:=fun j=>j=mo) (aF.set (W:=fun j=>j=mo) (aF.refl okp) _ lmp (fun _=>rfl)) _ lmp (fun _=>rfl)) _ lmp (fun _=>rfl)) _ lmp (fun _=>rfl)⟩ ?_;rintro q ⟨⟨sc,gm⟩,bq⟩;have ok:=bq.ok;have gd:=bq.get okp gdp (bO nmd);have y7:Oo q s.n to h u log (-1):=⟨0,0,bq.get okp gs (by omega)⟩;have ht:=X5.dK okp bq (bO nmt) (fun hE=>bO (nme hE)) (bO nml) (X5.ct.dK okp bq (by omega));have bq0:aF (fun j=>N<=j\/j=cm) s q:=(bp.mono fun _ h=>h.elim).trans (bq.mono fun j hj=>by subst hj; exact .inl k6);have kN:N<=q.n:=by have:=bp.n; have:=bq.n; omega
 have k7:N<=s.n:=k8;have Vu:(-1:Int)<= -1:=Int.le_refl _;obtain⟨so,hso⟩:∃so,so=s.n:=⟨_,rfl⟩;rw [← hso]at y7 k7 gm ⊢
 all_goals
  have hsq:so≠cm/\so≠to/\so≠lo/\(E≠ []->so≠eo):=by
   obtain⟨J,vi,g⟩:=y7;refine⟨?_, ?_, ?_,fun hE=> ?_⟩
   ·obtain⟨a1,a2,a3,a4,g2⟩:=ht.ct;rintro rfl; rw [g]at g2; simp at g2
   ·have gt:=ht.go;rintro rfl; rw [g]at gt; simp at gt
   ·obtain⟨st,g1,_⟩:=ht.ce;rintro rfl; rw [g]at g1; cases g1
   ·rcases ht.en with _ | ⟨_,tJ,E,g4,_⟩
    ·exact absurd rfl hE
    ·rintro rfl; rw [g]at g4; cases g4
  have nms:mo≠so:=by
   obtain⟨J,vi,g⟩:=y7;rintro rfl; rw [gm]at g; simp at g
  have nds:dv≠so:=by
   obtain⟨J,vi,g⟩:=y7;rintro rfl; rw [gd]at g; simp at g
  have P4:E.length < 2 ^ log:=by
   have h1:=ht.rm;have h2:=(my ht.lh).1;generalize 2 ^ log=M at h1 h2 ⊢;omega
  refine ak (FW hT ok ht (by omega) P4 Vu y7 hsq) ?_;rintro d p2 ⟨hd,sH,b2⟩;have ok2:=b2.ok;have Lk:=b2.get ok gm (fun h=>by omega);have RS:=b2.get ok gd (fun h=>by have:=(ht.ndv gd).2.2.1; omega);have Vb :=b2.n
  have bq2:aF (fun j=>N<=j\/j=cm) s p2:=bq0.trans (b2.mono fun j hj=>by
   rcases hj with rfl | rfl
   ·exact .inl k7
   ·exact .inr rfl)
  rcases hd with rfl | ⟨w,rfl,Mh,Jh,abf⟩
  ·try refine go ?_
   refine ak (Oq (N:=N) (K:=K) (n:=n) hT ok2 Lk RS sH k1 k2 k3 k4 k5 k6 (by omega) k9 qV Lh hk) ?_;rintro d p3 ⟨⟨c0,c1,c3,c4,c2,rfl,JW⟩,hD,b3⟩;try refine go ?_
   exact ai ⟨⟨c0,c1,c3,c4,c2,rfl,.inl ⟨JW,hD⟩⟩,bq2.trans b3⟩
  ·have lm2:=ok2.lt Lk;have sG:=sH.en;rcases sG with _ | ⟨_,st,E,ge,dN⟩
   ·cases Jh
   have cE:E≠ []:=by rintro rfl; cases Jh
   have nme:=nme cE;have pQ:=eR E;obtain⟨en,hEw⟩:∃en,E[w]? =some en:=⟨_,ab Jh⟩;have pW:(E.map cG)[0+w]? =some (cG en):=by rw [aN,aC,hEw]; rfl
   have aaX:K en.k:=Lh en (aM hEw);have WI:=sH.go;try refine go ?_
   refine Lt (fun q=>(∃t0 t1 t2 t3 t4 sc,q.get mo=some (.var 344 (O4 dv h k v (.ptr so 0) ver (w:Nat) false false false t0 t1 t2 t3 t4 sc)))/\aF (fun j=>j=mo) p2 q) ⟨⟨_,_,_,_,_,_,St.aO⟩,aF.set (W:=fun j=>j=mo) (aF.refl ok2) _ lm2 (fun _=>rfl)⟩ ?_;rintro q ⟨⟨t0,t1,t2,t3,t4,sc,La⟩,b3⟩;have ok3:=b3.ok;have lm3:=ok3.lt La;have gd3:=b3.get ok2 RS (bO nmd);have ge3:=b3.get ok2 ge (bO nme);have O3:=sH.dK ok2 b3 (bO nmt) (fun _=>bO nme) (bO nml) (sH.ct.dK ok2 b3 (by omega));have gt3:=O3.go;have n3' :=b3.n;refine cV (fun _=> ?_) (fun _=> ?_)
   ·try refine go ?_
    refine ak (Ik (N:=N) (K:=K) (n:=n) hT ok3 La gd3 O3 Jh k1 k2 k3 k4 k5 k6 k9 Lh) ?_;rintro d p4 ⟨⟨c1,c3,c4,c2,rfl⟩,hD,b4⟩;try refine go ?_
    exact ai ⟨⟨2,_,_,_,_,rfl,.inl ⟨by decide,hD.up (by omega)⟩⟩,(bq2.trans (b3.mono fun j hj=>by subst hj; exact .inl k6)).trans (b4.mono fun j hj=> .inl hj)⟩
   ·try refine go ?_
    refine BO (fun r=>r.get mo=some (.var 344 (O4 dv h k v (.ptr so 0) ver (w:Nat) true false false 1 en.k false 0 0 sc))/\aF (fun j=>j=mo) q r) ⟨St.aO,xB ok3 lm3⟩ ?_;rintro r ⟨gm4,b4⟩;have ok4:=b4.ok;have gd4:=b4.get ok3 gd3 (bO nmd);have ht4:=O3.dK ok3 b4 (bO nmt) (fun _=>bO nme) (bO nml) (O3.ct.dK ok3 b4 (by omega));have abK:Oo r so to h u log (w:Nat):=by
     obtain⟨J,vi,g⟩:=abf;exact⟨J,vi,b4.get ok3 (b3.get ok2 g (bO nms)) (bO nms)⟩
    have n4' :=b4.n;exact ai ⟨⟨1,en.k,0,0,false,rfl,.inr ⟨rfl,aaX,w,Mh,by omega,to,eo,lo,log,_,E,C,b,m,u,most,ver,so,_,_,_,_,_,_,_,gm4,gd4,ht4,abK,k1,k2,k3,k4,k5,k6,k7,by omega,k9,Lh,by omega,fun _=>⟨w,rfl,Jh⟩⟩⟩,(bq2.trans (b3.mono fun j hj=>by subst hj; exact .inl k6)).trans (b4.mono fun j hj=>by subst hj; exact .inl k6)⟩
end
def lf:Nat->List UInt8->List Nat
 | 0,_=> []
 | n+1,l=>if l=[] then [] else (Lib.decodeL l).1::lf n (l.drop (Lib.decodeL l).2)
theorem Ps {x:Int}{n:Nat}(h:x=(n:Int)):x.toNat.toUInt8=UInt8.ofNat n:=by subst h; rfl
theorem VW {r:Nat}(h:r<=1114111):(Utf8.encode (r:Int)).data.toList=Lib.encodeRune r:=by
 by_cases hv:55296<=r/\r<=57343
 ·have v:Utf8.valid (r:Int)=false:=by simp [Utf8.valid]; omega
  rw [Lib.encodeRune,Lib.encodeRuneZ_bad (by omega)];simp [Utf8.encode,v,Utf8.runeError]
 have v:Utf8.valid (r:Int)=true:=by simp [Utf8.valid]; omega
 by_cases c1:r < 128
 ·rw [Lib.encodeRune,Lib.encodeRuneZ_one (by omega) (by omega),bG,ef,Ps (n:=r) rfl];simp [Utf8.encode,v,c1]
 by_cases c2:r < 2048
 ·rw [Lib.encodeRune,Lib.encodeRuneZ_two (by omega) (by omega)];simp only [bG,ef];rw [Ps (n:=192+r / 64) (by omega),Ps (n:=128+r % 64) (by omega)];simp [Utf8.encode,v,c1,c2]
 by_cases c3:r < 65536
 ·rw [Lib.encodeRune,Lib.encodeRuneZ_three (by omega)];simp only [bG,ef];rw [Ps (n:=224+r / 4096) (by omega),Ps (n:=128+r / 64 % 64) (by omega),Ps (n:=128+r % 64) (by omega)];simp [Utf8.encode,v,c1,c2,c3]
 ·rw [Lib.encodeRune,Lib.encodeRuneZ_four (by omega) (by omega)];simp only [bG,ef];rw [Ps (n:=240+r / 262144) (by omega),Ps (n:=128+r / 4096 % 64) (by omega),Ps (n:=128+r / 64 % 64) (by omega),Ps (n:=128+r % 64) (by omega)];simp [Utf8.encode,v,c1,c2,c3]
def r8 (l:List UInt8):List UInt8:=Lib.mapD (fun x=>x) l
theorem o5 (l:List UInt8)(cE:l≠ []):r8 l=Lib.encodeRune (Lib.decodeL l).1++r8 (l.drop (Lib.decodeL l).2):=by
 unfold r8;rw [Lib.mapD_step _ l cE,bT (by omega)]
theorem Ar:∀(n:Nat) (l:List UInt8),l.length<=n->l.length<=(r8 l).length
 | 0,l,h=>by omega
 | n+1,l,h=>by
  by_cases cE:l=[]
  ·subst cE; exact aS _
  have hw:=Lib.decodeL_width l;have hle:=Lib.decodeL_le l cE;have hl:=dT.2 cE;have ih:=Ar n (l.drop (Lib.decodeL l).2) (by rw [dY]; omega);rw [dY]at ih;by_cases hv:(Lib.decodeL l).1=65533/\(Lib.decodeL l).2=1
  ·rw [o5 l cE,aG,hv.1];have:(Lib.encodeRune ((65533:Nat):Int)).length=3:=by decide
   omega
  ·rw [o5 l cE,Lib.encode_decode l cE hv,aG,cM]; omega
theorem Ah:∀(n:Nat) (l:List UInt8),l.length<=n->(r8 l=l↔Lib.validD l=true)
 | 0,l,h=>by
  have:l=[]:=ep (by omega);subst this;simp [Lib.validD_nil,r8,Lib.mapD_nil]
 | n+1,l,h=>by
  by_cases cE:l=[]
  ·subst cE; simp [Lib.validD_nil,r8,Lib.mapD_nil]
  have hw:=Lib.decodeL_width l;have hle:=Lib.decodeL_le l cE;have hl:=dT.2 cE;have ih:=Ah n (l.drop (Lib.decodeL l).2) (by rw [dY]; omega);rw [Lib.validD_step l cE];by_cases hv:(Lib.decodeL l).1=65533/\(Lib.decodeL l).2=1
  ·rw [bT hv];refine⟨fun e=> ?_,fun e=>by cases e⟩;have h3:=congrArg List.length e;rw [o5 l cE,aG,hv.1,hv.2]at h3;have h4:(Lib.encodeRune ((65533:Nat):Int)).length=3:=by decide
   have h5:=Ar n (l.drop 1) (by rw [dY]; omega);rw [dY]at h5;omega
  ·rw [aK hv,← ih,o5 l cE,Lib.encode_decode l cE hv];refine⟨fun e=> ?_,fun e=>by rw [e,gJ]⟩;have h3:l=l.take (Lib.decodeL l).2++l.drop (Lib.decodeL l).2:=(gJ _ _).symm;exact List.append_cancel_left (e.trans h3)
theorem wR:∀(n:Nat) (l:List UInt8),l.length<=n->mf ((lf n l).map fun r:Nat=>D.int .i32 (r:Int))=some (r8 l)
 | 0,l,h=>by
  have:l=[]:=ep (by omega);subst this;simp [lf,mf,r8,Lib.mapD_nil]
 | n+1,l,h=>by
  by_cases cE:l=[]
  ·subst cE; simp [lf,mf,r8,Lib.mapD_nil]
  have hw:=Lib.decodeL_width l;have hl:=dT.2 cE;have ih:=wR n (l.drop (Lib.decodeL l).2) (by rw [dY]; omega);rw [lf,aK cE,bG,mf,ih,o5 l cE,VW (Lib.decodeL_rune l)]
end Go.Proofs.Tab
