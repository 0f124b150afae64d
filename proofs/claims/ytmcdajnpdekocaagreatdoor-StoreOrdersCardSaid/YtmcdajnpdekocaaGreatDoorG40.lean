/- Part. -/
import Derived.Test.YtmcdajnpdekocaaGreatDoorG39
set_option linter.unusedSectionVars false
set_option linter.unusedSimpArgs false
set_option linter.unusedVariables false
set_option maxRecDepth 100000
set_option maxHeartbeats 2000000
namespace Go.Proofs.YtmcdajnpdekocaaGreatDoor.Tab
open Go Go.Ab Go.Ab.Sm
section
variable {T:Nat→Option AFn}{H:zAa}{b kk:Nat}{k:List Kont}{s:St}{Q:QP}{l:List (zPk×List Nat)}{acc:List Fp}{q:List Nat}{t:Nat}{e:Env}{ds:List (D×List D)}{g:Option (Nat×Bool)}
theorem zYo {fp:Fp}{f:Opd}{gf:Nat}{args:List Opd}{x x1 x2 y:List D}{R:D→St→Prop}(hE:EvP T H gf y s R)(h:∀d s1,R d s1→Env.isLvo ((t,d)::e) (some t)=false∧lost acc s s1 ⟨some t,.callv f args,g,none⟩ q=false∧DOps T H b kk l (acc++ [fpC fp s s1]) k ⟨(t,d)::e,ds⟩ s1 Q)
  (hw:wtD e g=some true:=by rfl)(hv:f.ev e=some (.fn (.func gf) x1 x2):=by rfl)(hx:evs e args=some x:=by rfl)(hy:x1++x++x2=y:=by rfl)(hf:fpOf b e ⟨some t,.callv f args,g,none⟩=fp:=by exact fI)(hc:ckA acc fp q=true:=by exact cI)(hv0:Env.isLvo e (some t)=false:=by rfl)(hs:s.Ok:=by exact oI):
  DOps T H b kk ((⟨some t,.callv f args,g,none⟩,q)::l) acc k ⟨e,ds⟩ s Q:=by
 subst hf
 subst hy
 obtain⟨d,s1,h1,h2⟩:=hE
 obtain⟨h3,h4,h5⟩:=h d s1 h2
 exact⟨zIu (r:=(d,s1)) hc hv0 ⟨s,h1,fun C hC=>zBa (o:=⟨some t,.callv f args,g,none⟩) (fr:=⟨e,ds⟩) hw (by simp only [opF,hv,hx]; exact cutC_w hs.ro hC)⟩ h3 h4 h5.out⟩
end
section
variable {T:Nat→Option AFn}{H Y:zAa}
theorem hit_ev (hT:TT T)(hP:TP T){W:Nat→Prop}{s:St}{mo dv most n:Nat}{sk:D}{E:List Ent}{e:Ent}{h k v st entry scans ver t0 t1 t3 t4:Int}{t2:Bool}(hs:s.Ok)(gm:s.get mo=some (.var 235 (machD sk dv h k v st entry scans ver t0 t1 t2 t3 t4)))(hm: ¬ W mo)(hd:zAw W s dv most E)(hi:E[n]? =some e):
  EvP T H 112 [.ptr mo 0,.int .i64 (n:Nat)] s fun d s1=>d=turnD 2 0 true e.v (n:Nat)∧zAw W s1 dv most (E.set n { e with v:=v})∧Beh (fun j=>W j∨j=mo) s s1:=by
 have hturn:=turn_ev (H:=H) hT hP hs gm hm hd hi
 have lm:=hs.lt gm
 have hd0:=hd
 obtain⟨to,eo,co,ro,log,b,st',x,C,ver',h1,h2,w1,w2,w3,w4,w5,h3⟩:=hd
 have gt:=h2.go
 have hen:∃st0,x= .sl eo 0 E.length E.length∧s.get eo=some (.arr 5 243 (E.map entD) st0)∧st0≤E.length:=by
  have he:=h2.en
  rcases he with _ | ⟨_,st0,E,g,hst⟩
  ·simp at hi
  ·exact⟨st0,rfl,g,hst⟩
 obtain⟨st0,rfl,ge,hst⟩:=hen
 have hat:=At_ev (H:=H) hT gt ge hst hi (by omega)
 refine evI hP.t112 ?_
 try refine go ?_
 refine clE hat ?_
 rintro d s1 ⟨rfl,rfl⟩
 try refine go ?_
 refine zYo hturn ?_
 rintro d s2 ⟨rfl,y1,y2⟩
 refine⟨rfl,by simp [lost,AOp.kind,lAs,zAf,fpOf,wtD,fpRd,fpRd.objs,fpRg,Opd.ev,Env.get,sOb,D.flat,D.isAgg,cEq,D.beqs,D.beq,Nat.beq_refl,Obj.beq_rfl,laR,soR,D.bsR,D.beq_rfl,gm], ?_⟩
 have ok2:=y2.ok
 have gm2:=y2.get hs gm hm
 have hend:=zZs (H:=H) (u0:=2) (u1:=0) (u2:=true) (u3:=e.v) (u4:=(n:Nat)) hP ok2 gm2
 try refine go ?_
 refine dpC hend ?_
 rintro d s3 ⟨rfl,z1⟩
 refine⟨rfl,by simp [lost,AOp.kind,lAs,zAf,fpOf,wtD,fpRd,fpRd.objs,fpRg,Opd.ev,Env.get,sOb,D.flat,D.isAgg,cEq,D.beqs,D.beq,Nat.beq_refl,Obj.beq_rfl,laR,soR,D.bsR,D.beq_rfl,gm2], ?_⟩
 have y3:=y1.beh ok2 z1 (by rintro o ho hw rfl; exact hm hw)
 repeat' first | refine go ?_ | refine zFi ?_
 exact rtF ⟨rfl,y3,(y2.mono fun j hj=> .inl hj).trans (z1.mono fun j hj=> .inr hj)⟩
end
structure zGd (W:Nat→Prop)(s:St)(mo dv so most:Nat)(E:List Ent)(h k v state entry told:Int):Prop where
 ex:∃to eo co ro log b st x C ver J scans t0 t1 t2 t3 t4,s.get dv=some (.var 134 (dictD to (most:Nat) ver))∧zQb s to eo co ro log b st x E C∧W dv∧W to∧W eo∧W co∧W ro∧E.length≤1000∧
  s.get mo=some (.var 235 (machD (.ptr so 0) dv h k v state entry scans ver t0 t1 t2 t3 t4))∧s.get so=some (.var 259 (seekD to h log J (E.length:Nat) (J:Nat) told false))∧Seen log h E C J told
 nm: ¬ W mo
 ns: ¬ W so
 nq:mo≠so
theorem zGd.dict {W:Nat→Prop}{s:St}{mo dv so most:Nat}{E:List Ent}{h k v state entry told:Int}(hm:zGd W s mo dv so most E h k v state entry told):zAw W s dv most E:=by
 obtain⟨to,eo,co,ro,log,b,st,x,C,ver,J,scans,t0,t1,t2,t3,t4,h1,h2,w1,w2,w3,w4,w5,h3,_⟩:=hm.ex
 exact⟨to,eo,co,ro,log,b,st,x,C,ver,h1,h2,w1,w2,w3,w4,w5,h3⟩
section
variable {T:Nat→Option AFn}{H Y:zAa}
def yIj:AC:=match code94.body with
 | .seq _ (.seq _ (.seq _ (.seq _ (.block _ c))))=>c
 | _=> .skip
def yEx:AC:=match yIj with
 | .loop _ a=>a
 | _=> .skip
def zNe (W:Nat→Prop)(s:St)(mo dv so most:Nat)(E:List Ent)(h k v told:Int)(d:D)(s1:St):Prop:=
 (∃(n:Nat) (e:Ent),zIi E h told (some n)∧E[n]? =some e∧e.k≠k∧d=turnD 1 e.k false 0 0∧zGd W s1 mo dv so most E h k v 2 (n:Nat) (n:Nat)∧Beh (fun j=>j=mo∨j=so) s s1)∨
 (∃(n:Nat) (e:Ent),zIi E h told (some n)∧E[n]? =some e∧e.k=k∧d=turnD 2 0 true e.v (n:Nat)∧zAw W s1 dv most (E.set n { e with v:=v})∧Beh (fun j=>W j∨j=mo∨j=so) s s1)∨
 (zIi E h told none∧E.length < most∧d=turnD 2 0 false v (E.length:Nat)∧zAw (Own s.n W) s1 dv most (E++ [Ent.mk h k v (E.length:Nat)])∧Beh (fun j=>W j∨j=mo∨j=so) s s1)∨
 (zIi E h told none∧most≤E.length∧d=turnD 3 0 false 0 0∧zAw W s1 dv most E∧Beh (fun j=>W j∨j=mo∨j=so) s s1)
theorem zLu (hT:TT T)(hP:TP T){W:Nat→Prop}{s:St}{mo dv so most:Nat}{E:List Ent}{h k v state entry told:Int}{z:D}{K:List Kont}{Q:QP}(hs:s.Ok)(hmost:most≤1000)(htold: -1≤told∧told < 2000)(hm:zGd W s mo dv so most E h k v state entry told)
  (hz:z= .agg [.int .i64 0,.int .i64 0,.bool false,.int .i64 0,.int .i64 0])
  (hQ:∀d s1 env,zNe W s mo dv so most E h k v told d s1→Env.get env 2=some (.lv d)→Ret T H .ret K ⟨env,[]⟩ s1 Q):
  Run T H yEx K ⟨[(0,.ptr mo 0),(2,.lv z)],[]⟩ s Q:=by
 subst hz
 obtain⟨to,eo,co,ro,log,b,st,x,C,ver,J,scans,t0,t1,t2,t3,t4,h1,h2,w1,w2,w3,w4,w5,h3,gm,gs,hsn⟩:=hm.ex
 have lm:=hs.lt gm
 have ls:=hs.lt gs
 have hnext:=Next_ev (H:=H) hT hs h2 (by omega) htold gs hsn (fun _=>by rintro rfl; exact hm.ns w3)
 show Run T H (.block _ _) _ _ s _
 try refine go ?_
 refine clE hnext ?_
 rintro d s1 ⟨b1,hres⟩
 have ok1:=b1.ok
 have ne:∀o,W o→o≠so:=by rintro o ho rfl; exact hm.ns ho
 have gm1:=b1.get hs gm hm.nq
 have gd1:=b1.get hs h1 (ne _ w1)
 have tb1:=h2.beh hs b1 (ne _ w2) (fun _ _ _=>ne _ w3) (ne _ w4) (ne _ w5)
 have gt1:=tb1.go
 have lm1:=ok1.lt gm1
 have hd1:zAw W s1 dv most E:=⟨to,eo,co,ro,log,b,st,x,C,ver,gd1,tb1,w1,w2,w3,w4,w5,h3⟩
 rcases hres with ⟨n,rfl,q1,J',g1,q2⟩ | ⟨rfl,q1⟩
 ·obtain⟨_,⟨e,he,heh⟩,_⟩:=id q1
  have hen:∃st0,x= .sl eo 0 E.length E.length∧s1.get eo=some (.arr 5 243 (E.map entD) st0)∧st0≤E.length:=by
   have hen:=tb1.en
   rcases hen with _ | ⟨_,st0,E,g,hst⟩
   ·simp at he
   ·exact⟨st0,rfl,g,hst⟩
  obtain⟨st0,rfl,ge1,hst⟩:=hen
  have hat:=At_ev (H:=H) hT gt1 ge1 hst he (by omega)
  have hhit:=hit_ev (H:=H) hT hP ok1 gm1 hm.nm hd1 he
  have hn2:n < E.length:=(List.getElem?_eq_some_iff.mp he).1
  try refine go ?_
  refine clE hat ?_
  rintro d s2 ⟨rfl,rfl⟩
  repeat' first | refine go ?_ | refine zFi ?_
  refine zAg (fun hc=> ?_) (fun hc=> ?_)
  ·have hk:e.k=k:=by simpa using hc
   try refine go ?_
   refine clE hhit ?_
   rintro d s3 ⟨rfl,y1,y2⟩
   try refine go ?_
   exact hQ _ _ _ (.inr (.inl ⟨n,e,q1,he,hk,rfl,y1,(b1.mono fun j hj=> .inr (.inr hj)).trans (y2.mono fun j hj=>hj.imp id .inl)⟩)) rfl
  ·have hk:e.k≠k:=by simpa using hc
   try refine go ?_
   have bm:∀d1 d2 d3:D,Beh (fun j=>j=mo) s2 (((s2.set0 mo (.var 235 d1)).set0 mo (.var 235 d2)).set0 mo (.var 235 d3)):=fun d1 d2 d3=>
    Beh.set (W:=fun j=>j=mo) (Beh.set (W:=fun j=>j=mo) (Beh.set (W:=fun j=>j=mo) (Beh.refl ok1) _ lm1 (fun _=>rfl)) _ lm1 (fun _=>rfl)) _ lm1 (fun _=>rfl)
   have nm:∀o,W o→o≠mo:=by rintro o ho rfl; exact hm.nm ho
   refine hQ (turnD 1 e.k false 0 0) _ _ (.inl ⟨n,e,q1,he,hk,rfl,⟨⟨to,eo,co,ro,log,b,st,_,C,ver,J',scans,1,e.k,false,0,0,(bm _ _ _).get ok1 gd1 (nm _ w1),tb1.beh ok1 (bm _ _ _) (nm _ w2) (fun _ _ _=>nm _ w3) (nm _ w4) (nm _ w5),w1,w2,w3,w4,w5,h3,St.gsE,(bm _ _ _).get ok1 g1 (Ne.symm hm.nq),q2⟩,hm.nm,hm.ns,hm.nq⟩,(b1.mono fun j hj=> .inr hj).trans ((bm _ _ _).mono fun j hj=> .inl hj)⟩) rfl
 ·have hadd:=add5_ev (H:=H) hT hP ok1 gm1 hm.nm hd1 hmost
  try refine go ?_
  refine clE hadd ?_
  rintro d s3 ⟨y5,hy⟩
  have gm3:=y5.get ok1 gm1 hm.nm
  have nmW:∀o,o < s3.n→Own s1.n W o→o≠mo:=by
   rintro o ho (hw | hw) rfl
   ·exact hm.nm hw
   ·exact absurd lm1 (by omega)
  rcases hy with ⟨u1,rfl,u2⟩ | ⟨u1,rfl,u2⟩
  ·have hend:=zZs (H:=H) (u0:=2) (u1:=0) (u2:=false) (u3:=v) (u4:=(E.length:Nat)) hP y5.ok gm3
   try refine go ?_
   refine clE hend ?_
   rintro d s4 ⟨rfl,y6⟩
   try refine go ?_
   refine hQ _ _ _ (.inr (.inr (.inl ⟨q1,u1,rfl, ?_,((b1.mono fun j hj=> .inr (.inr hj)).trans (y5.mono fun j hj=> .inl hj)).trans (y6.mono fun j hj=> .inr (.inl hj))⟩))) rfl
   have u3:=u2.beh y5.ok y6 nmW
   have hn1:=b1.n
   obtain⟨to',eo',co',ro',log',b',st',x',C',ver',p1,p2,v1,v2,v3,v4,v5,p3⟩:=u3
   have up:∀o,Own s1.n W o→Own s.n W o:=fun o ho=>ho.imp id fun h=>Nat.le_trans hn1 h
   exact⟨to',eo',co',ro',log',b',st',x',C',ver',p1,p2,up _ v1,up _ v2,up _ v3,up _ v4,up _ v5,p3⟩
  ·subst u2
   have hend:=zZs (H:=H) (u0:=3) (u1:=0) (u2:=false) (u3:=0) (u4:=0) hP ok1 gm1
   try refine go ?_
   refine clE hend ?_
   rintro d s4 ⟨rfl,y6⟩
   try refine go ?_
   exact hQ _ _ _ (.inr (.inr (.inr ⟨q1,u1,rfl,hd1.beh ok1 y6 (by rintro o ho hw rfl; exact hm.nm hw),(b1.mono fun j hj=> .inr (.inr hj)).trans (y6.mono fun j hj=> .inr (.inl hj))⟩))) rfl
end
section
variable {T:Nat→Option AFn}{H Y:zAa}
@[reducible] def zturn:D:= .agg [.int .i64 0,.int .i64 0,.bool false,.int .i64 0,.int .i64 0]
theorem yEw (hT:TT T)(hP:TP T){W:Nat→Prop}{s:St}{mo dv so most:Nat}{E:List Ent}{h k v entry told:Int}(hs:s.Ok)(hmost:most≤1000)(htold: -1≤told∧told < 2000)(hm:zGd W s mo dv so most E h k v 1 entry told):
  EvP T H 94 [.ptr mo 0] s fun d s1=>zNe W s mo dv so most E h k v told d s1:=by
 have hr:=fun K Q hQ=>zLu (H:=H) (z:=zturn) (K:=K) (Q:=Q) hT hP hs hmost htold hm rfl hQ
 obtain⟨to,eo,co,ro,log,b,st,x,C,ver,J,scans,t0,t1,t2,t3,t4,h1,h2,w1,w2,w3,w4,w5,h3,gm,gs,hsn⟩:=hm.ex
 have hbn:(ver !=ver)=false:=bne_self_eq_false _
 refine evI hP.t94 ?_
 try refine go ?_
 simp only [hbn]
 try refine go ?_
 refine zCr ?_
 refine hr _ _ fun d s1 env hS he=> ?_
 try refine go ?_
 have hfl:∃x0 x1 x2 x3 x4,d=turnD x0 x1 x2 x3 x4:=by
  rcases hS with ⟨n,e,_,_,_,rfl,_⟩ | ⟨n,e,_,_,_,rfl,_⟩ | ⟨_,_,rfl,_⟩ | ⟨_,_,rfl,_⟩ <;> exact ⟨_,_,_,_,_,rfl⟩
 obtain⟨x0,x1,x2,x3,x4,rfl⟩:=hfl
 refine rtF (r:=[turnD x0 x1 x2 x3 x4]) hS rfl ?_ rfl
 show resD env s1 [.cell 2 (some 5)]=_
 simp only [resD,he]
 rfl
theorem yEv (hT:TT T)(hP:TP T){W:Nat→Prop}{s:St}{mo dv so most n:Nat}{E:List Ent}{e:Ent}{h k v told:Int}(hs:s.Ok)(hm:zGd W s mo dv so most E h k v 3 (n:Nat) told)(he:E[n]? =some e):
  EvP T H 94 [.ptr mo 0] s fun d s1=>d=turnD 2 0 true e.v (n:Nat)∧zAw W s1 dv most (E.set n { e with v:=v})∧Beh (fun j=>W j∨j=mo) s s1:=by
 have hd:=hm.dict
 obtain⟨to,eo,co,ro,log,b,st,x,C,ver,J,scans,t0,t1,t2,t3,t4,h1,h2,w1,w2,w3,w4,w5,h3,gm,gs,hsn⟩:=hm.ex
 have hhit:=hit_ev (H:=H) hT hP hs gm hm.nm hd he
 have hbn:(ver !=ver)=false:=bne_self_eq_false _
 refine evI hP.t94 ?_
 try refine go ?_
 simp only [hbn]
 try refine go ?_
 refine clE hhit ?_
 rintro d s1 ⟨rfl,y1,y2⟩
 try refine go ?_
 exact rtF ⟨rfl,y1,y2⟩
theorem zTx (hT:TT T)(hP:TP T){W:Nat→Prop}{s:St}{mo dv most:Nat}{E:List Ent}{h k v:Int}(hs:s.Ok)(hmost:most≤1000)(hd:zAw W s dv most E)(hnm: ¬ W mo)(hW: ¬ W s.n)
  (gm:s.get mo=some (.var 235 (machD .nilp dv h k v 0 0 0 0 0 0 false 0 0))):
  EvP T H 94 [.ptr mo 0] s fun d s1=>∃s0,Beh (fun j=>j=mo) s s0∧s.n < s0.n∧zNe W s0 mo dv s.n most E h k v (-1) d s1:=by
 have lm:=hs.lt gm
 obtain⟨to,eo,co,ro,log,b,st,x,C,ver,h1,h2,w1,w2,w3,w4,w5,h3⟩:=hd
 have gt:=h2.go
 have hnm' :∀o,W o→o≠mo:=by rintro o ho rfl; exact hnm ho
 have htab:=yGp (H:=H) (s:= { s with ro:=true}) hP h1
 have hseek:=Seek_ev (H:=H) (h:=h) hT hs h2
 refine evI hP.t94 ?_
 try refine go ?_
 refine zId htab ?_
 rintro d s1 ⟨rfl,rfl⟩
 refine⟨rfl, ?_⟩
 try refine go ?_
 refine dpC hseek ?_
 rintro d s1 ⟨rfl,g1,b1⟩
 have ok1:=b1.ok
 have gm1:=b1.get hs gm (fun h=>h)
 have gd1:=b1.get hs h1 (fun h=>h)
 have lm1:=ok1.lt gm1
 have nd:dv≠mo:=hnm' _ w1
 have nms:mo≠s.n:=by omega
 have bm:∀d1 d2 d3:D,Beh (fun j=>j=mo) s1 (((s1.set0 mo (.var 235 d1)).set0 mo (.var 235 d2)).set0 mo (.var 235 d3)):=fun d1 d2 d3=>
  Beh.set (W:=fun j=>j=mo) (Beh.set (W:=fun j=>j=mo) (Beh.set (W:=fun j=>j=mo) (Beh.refl ok1) _ lm1 (fun _=>rfl)) _ lm1 (fun _=>rfl)) _ lm1 (fun _=>rfl)
 have tb1:=h2.beh hs b1 (fun h=>h) (fun _ _ _ h=>h) (fun h=>h) (fun h=>h)
 have mk:∀d1 d2:D,∀scans:Int,zGd W (((s1.set0 mo (.var 235 d1)).set0 mo (.var 235 d2)).set0 mo (.var 235 (machD (.ptr s.n 0) dv h k v 0 0 scans ver 0 0 false 0 0))) mo dv s.n most E h k v 0 0 (-1):=fun d1 d2 scans=>
  ⟨⟨to,eo,co,ro,log,b,st,x,C,ver,0,scans,0,0,false,0,0,(bm _ _ _).get ok1 gd1 nd,tb1.beh ok1 (bm _ _ _) (hnm' _ w2) (fun _ _ _=>hnm' _ w3) (hnm' _ w4) (hnm' _ w5),w1,w2,w3,w4,w5,h3,St.gsE,(bm _ _ _).get ok1 g1 (Ne.symm nms),Seen.start⟩,hnm,hW,nms⟩
 have ls:=ok1.lt g1
 refine⟨rfl,by simp [lost,AOp.kind,lAs,zAf,fpOf,wtD,fpRd,fpRd.objs,fpRg,Opd.ev,Env.get,sOb,D.flat,D.isAgg,cEq,D.beqs,D.beq,Nat.beq_refl,Obj.beq_rfl,laR,soR,D.bsR,D.beq_rfl,gm,gm1,h1,gd1], ?_⟩
 try refine go ?_
 refine zCr ?_
 refine zLu (H:=H) (z:=zturn) hT hP (bm _ _ _).ok hmost (by omega) (mk _ _ _) rfl fun d s2 env hS he=> ?_
 try refine go ?_
 have hfl:∃x0 x1 x2 x3 x4,d=turnD x0 x1 x2 x3 x4:=by
  rcases hS with ⟨n,e,_,_,_,rfl,_⟩ | ⟨n,e,_,_,_,rfl,_⟩ | ⟨_,_,rfl,_⟩ | ⟨_,_,rfl,_⟩ <;> exact ⟨_,_,_,_,_,rfl⟩
 obtain⟨x0,x1,x2,x3,x4,rfl⟩:=hfl
 refine rtF (r:=[turnD x0 x1 x2 x3 x4]) ⟨_,(b1.mono fun j hj=>hj.elim).trans (bm _ _ _),ls,hS⟩ rfl ?_ rfl
 show resD env s2 [.cell 2 (some 5)]=_
 simp only [resD,he]
 rfl
end
section
variable {T:Nat→Option AFn}{H Y:zAa}
def zCm (d:D):Prop:=∃h:Int,d= .int .i64 h
theorem zEa (hV:TV T){s:St}{n:Int}(hs:s.Ok):EvP T H 136 [.int .i64 n] s fun d s1=>d= .fn (.func 162) [] [.ptr s.n 0]∧s1.get s.n=some (.var 3 (.int .i64 n))∧Beh Nil s s1:=by
 refine evI hV.t136 ?_
 try refine go ?_
 exact rtF ⟨rfl,St.gpE,Beh.push (Beh.refl hs) _⟩
theorem zXm (hV:TV T){s:St}{o:Nat}{n:Int}(hg:s.get o=some (.var 3 (.int .i64 n))):EvP T H 162 [.ptr o 0] s fun d s1=>d= .int .i64 n∧s1=s:=by
 refine evI hV.t162 ?_
 try refine go ?_
 exact rtF ⟨rfl,rfl⟩
theorem zFq (hV:TV T){s:St}{o:Nat}{n w:Int}(hg:s.get o=some (.var 3 (.int .i64 n))):EvP T H 135 [.int .u64 w,.fn (.func 162) [] [.ptr o 0]] s fun d s1=>zCm d∧s1=s:=by
 have hst:=zXm (H:=H) hV hg
 refine evI hV.t135 ?_
 try refine go ?_
 refine zAg (fun hc=> ?_) (fun hc=> ?_)
 ·try refine go ?_
  refine clE hst ?_
  rintro d s1 ⟨rfl,rfl⟩
  try refine go ?_
  exact rtF ⟨⟨_,rfl⟩,rfl⟩
 ·try refine go ?_
  exact rtF ⟨⟨_,rfl⟩,rfl⟩
theorem sidx_op {s:St}{env:Env}{x i:Opd}{l:List UInt8}{j:Nat}{c:UInt8}(hx:x.ev env=some (.str l))(hi:i.ev env=some (.int .i64 (j:Nat)))(hb:l[j]? =some c):opF zAq env s none (.sidx x i)=some (.int .u8 (c.toNat:Nat),s):=by
 have e:idx (.int .i64 (j:Nat))=some j:=zPz
 simp only [opF,hx,hi,e,hb]
theorem dText_ev (hV:TV T){s:St}{l:List UInt8}(hs:s.Ok)(hl:l.length≤1000000000):EvP T H 108 [.str l] s fun d s1=>zCm d∧Beh Nil s s1:=by
 refine evI hV.t108 ?_
 try refine go ?_
 refine zAm (fun m env s' =>s' =s∧∃(j:Nat) (w:Int),j≤l.length∧m=l.length - j∧env=[(0,.str l),(3,.int .u64 w),(6,.int .i64 (l.length:Nat)),(7,.int .i64 (j:Nat))]) l.length rfl ⟨rfl,0,_,Nat.zero_le _,rfl,rfl⟩ ?_
 rintro m env s' ⟨rfl,j,w,hj,rfl,rfl⟩
 rcases Nat.lt_or_ge j l.length with h1 | h1
 ·have hb:l[j]? =some l[j]:=List.getElem?_eq_getElem h1
  try refine go ?_
  refine zDp (d:= .int .u8 (l[j].toNat:Nat)) ?_ rfl (sidx_op rfl rfl hb)
  try refine go ?_
  exact rtN (l.length - (j+1)) (by omega) rfl ⟨rfl,j+1,_,by omega,rfl,rfl⟩
 ·have:j=l.length:=by omega
  subst this
  try refine go ?_
  refine clE (zEa hV hs) ?_
  rintro d s1 ⟨rfl,g1,b1⟩
  try refine go ?_
  refine clE (zFq hV g1) ?_
  rintro d s2 ⟨⟨h,rfl⟩,rfl⟩
  try refine go ?_
  exact rtF ⟨⟨_,rfl⟩,b1⟩
theorem zYp (hV:TV T){s:St}{n:Int}(hs:s.Ok):EvP T H 109 [.int .i64 n] s fun d s1=>zCm d∧Beh Nil s s1:=by
 refine evI hV.t109 ?_
 repeat' first | refine go ?_ | refine zAi hV.t137 ?_
 refine clE (zEa hV hs) ?_
 rintro d s1 ⟨rfl,g1,b1⟩
 try refine go ?_
 refine clE (zFq hV g1) ?_
 rintro d s2 ⟨⟨h,rfl⟩,rfl⟩
 try refine go ?_
 exact rtF ⟨⟨_,rfl⟩,b1⟩
end
section
variable {T:Nat→Option AFn}{H Y:zAa}
theorem len64_ev (hV:TV T){s:St}:EvP T H 120 [.int .u64 2305843009213693951] s fun d s1=>d= .int .i64 61∧s1=s:=by
 refine evI hV.t120 ?_
 try refine go ?_
 exact rtF ⟨rfl,rfl⟩
theorem lz64_ev (hV:TV T){s:St}:EvP T H 174 [.int .u64 2305843009213693951] s fun d s1=>d= .int .i64 3∧s1=s:=by
 refine evI hV.t174 ?_
 try refine go ?_
 refine clE (len64_ev hV) ?_
 rintro d s1 ⟨rfl,rfl⟩
 try refine go ?_
 exact rtF ⟨rfl,rfl⟩
def IsU (n:Int):Prop:=0≤n∧n < 18446744073709551616
theorem zEq (n:Int):IsU (IntKind.wrap .u64 n):=by rw [zNh]; unfold IsU; omega
theorem zTo (n:Int):IsU (Int.fdiv (IntKind.wrap .u64 n) (2 ^ min (Int.toNat 3) (IntKind.bits .u64))):=by
 have e:(2:Int) ^ min (Int.toNat 3) (IntKind.bits .u64)=8:=rfl
 obtain⟨h1,h2⟩:=zEq n
 rw [e,Int.fdiv_eq_ediv_of_nonneg _ (by decide)]
 unfold IsU; omega
theorem zMy {u:Int}(hu:IsU u):0≤IntKind.wrap .u64 (u - IntKind.wrap .u64 (IntKind.wrap .u64 (Int.tdiv u 4294967295) * 4294967295))∧IntKind.wrap .u64 (u - IntKind.wrap .u64 (IntKind.wrap .u64 (Int.tdiv u 4294967295) * 4294967295)) < 4294967296:=by
 obtain⟨h1,h2⟩:=hu
 rw [Int.tdiv_eq_ediv_of_nonneg h1,zCv (n:=u / 4294967295) (by omega) (by omega),zCv (n:=u / 4294967295 * 4294967295) (by omega) (by omega),zCv (by omega) (by omega)]
 omega
def yBo:AC:=match yCk.body with
 | .seq _ (.seq _ (.seq _ (.seq _ (.seq _ (.seq _ (.seq _ (.seq _ (.seq _ (.seq _ (.seq _ (.seq _ (.seq _ (.seq _ (.seq _ (.seq _ (.seq _ (.seq _ r)))))))))))))))))=>r
 | _=> .skip
theorem zNx {s:St}{env:Env}{a2 a10 a14 a15 a17 q rh:Int}{R:D→St→Prop}(hrh:0≤rh∧rh < 4294967296)
  (hk:env.keep [2,8,9,10,14,15,16,17,18]=[(2,.int .u64 a2),(8,.int .u64 3),(9,.int .u64 4294967295),(10,.int .u64 a10),(14,.int .u64 a14),(15,.int .u64 a15),(16,.int .u64 rh),(17,.int .u64 a17),(18,.int .u64 q)])
  (hR:∀q r:Int,IsU r→R (.tup [.int .u64 q,.int .u64 r]) s):Run T H (match yBo with | .seq (.block _ l) _=>l | _=> .skip) [.block 2,.seq (match yBo with | .seq _ r=>r | _=> .skip)] ⟨env,[]⟩ s (QF yCk.results R):=by
 show Run T H (.loop _ _) [.block 2,.seq (.seq (.reg _) .ret)] _ s _
 refine zAm (fun m env s' =>s' =s∧∃q rh:Int,(0≤rh∧rh < 4294967296)∧m=(4294967296 - rh).toNat∧env=[(2,.int .u64 a2),(8,.int .u64 3),(9,.int .u64 4294967295),(10,.int .u64 a10),(14,.int .u64 a14),(15,.int .u64 a15),(16,.int .u64 rh),(17,.int .u64 a17),(18,.int .u64 q)]) _ rfl ⟨rfl,q,rh,hrh,rfl,hk⟩ ?_
 clear hk hrh
 clear q rh
 rintro m env s' ⟨rfl,q,rh,hrh,rfl,rfl⟩
 have hw:IntKind.wrap .u64 (rh+4294967295)=rh+4294967295:=zCv (by omega) (by omega)
 by_cases hq:q ≥ 4294967296
 ·have hd:decide (q ≥ 4294967296)=true:=decide_eq_true hq
  try refine go ?_
  refine zAg (fun hc=> ?_) (fun hc=> ?_)
  ·try refine go ?_
   exact rtF (hR _ _ (zTo _))
  ·simp only [hw,decide_eq_false_iff_not]at hc
   try refine go ?_
   simp only [hw]
   exact rtN (4294967296 - (rh+4294967295)).toNat (by omega) rfl ⟨rfl,_,rh+4294967295,by omega,rfl,rfl⟩
 ·have hd:decide (q ≥ 4294967296)=false:=decide_eq_false hq
  try refine go ?_
  refine zAg (fun hc=> ?_) (fun hc=> ?_)
  ·try refine go ?_
   refine zAg (fun hc=> ?_) (fun hc=> ?_)
   ·try refine go ?_
    exact rtF (hR _ _ (zTo _))
   ·simp only [hw,decide_eq_false_iff_not]at hc
    try refine go ?_
    simp only [hw]
    exact rtN (4294967296 - (rh+4294967295)).toNat (by omega) rfl ⟨rfl,_,rh+4294967295,by omega,rfl,rfl⟩
  ·try refine go ?_
   exact rtF (hR _ _ (zTo _))
theorem div64_ev (hV:TV T){s:St}{hi lo:Int}(h1:0≤hi∧hi < 2305843009213693951)(h2:IsU lo):EvP T H 171 [.int .u64 hi,.int .u64 lo,.int .u64 2305843009213693951] s fun d s1=>∃q r,d= .tup [.int .u64 q,.int .u64 r]∧IsU r∧s1=s:=by
 have hlz:=lz64_ev (H:=H) hV (s:=s)
 refine evI hV.t171 ?_
 try refine go ?_
 refine zAg (fun hc=> ?_) (fun hc=> ?_)
 ·try refine go ?_
  exact rtF ⟨_,Int.tmod lo 2305843009213693951,rfl,by rw [Int.tmod_eq_emod_of_nonneg h2.1]; have:=h2.2; unfold IsU; omega,rfl⟩
 ·try refine go ?_
  refine clE hlz ?_
  rintro d s1 ⟨rfl,rfl⟩
  try refine go ?_
  refine zAm (fun m env s' =>s' =s1∧∃a2 a10 a11 a13 a14 q rh:Int,IsU a11∧(0≤rh∧rh < 4294967296)∧m=(4294967296 - rh).toNat∧env=[(2,.int .u64 a2),(8,.int .u64 3),(9,.int .u64 4294967295),(10,.int .u64 a10),(11,.int .u64 a11),(13,.int .u64 a13),(14,.int .u64 a14),(15,.int .u64 q),(16,.int .u64 rh)]) _ rfl ⟨rfl,_,_,_,_,_,_,_,zEq _,zMy (zEq _),rfl,rfl⟩ ?_
  rintro m env s' ⟨rfl,a2,a10,a11,a13,a14,q,rh,hu,hrh,rfl,rfl⟩
  have hw:IntKind.wrap .u64 (rh+4294967295)=rh+4294967295:=zCv (by omega) (by omega)
  by_cases hq:q ≥ 4294967296
  ·have hd:decide (q ≥ 4294967296)=true:=decide_eq_true hq
   try refine go ?_
   refine zAg (fun hc=> ?_) (fun hc=> ?_)
   ·try refine go ?_
    exact zNx (zMy (zEq _)) rfl fun q r hr=>⟨q,r,rfl,hr,rfl⟩
   ·simp only [hw,decide_eq_false_iff_not]at hc
    try refine go ?_
    simp only [hw]
    exact rtN (4294967296 - (rh+4294967295)).toNat (by omega) rfl ⟨rfl,a2,a10,a11,a13,a14,_,rh+4294967295,hu,by omega,rfl,rfl⟩
  ·have hd:decide (q ≥ 4294967296)=false:=decide_eq_false hq
   try refine go ?_
   refine zAg (fun hc=> ?_) (fun hc=> ?_)
   ·try refine go ?_
    refine zAg (fun hc=> ?_) (fun hc=> ?_)
    ·try refine go ?_
     exact zNx (zMy (zEq _)) rfl fun q r hr=>⟨q,r,rfl,hr,rfl⟩
    ·simp only [hw,decide_eq_false_iff_not]at hc
     try refine go ?_
     simp only [hw]
     exact rtN (4294967296 - (rh+4294967295)).toNat (by omega) rfl ⟨rfl,a2,a10,a11,a13,a14,_,rh+4294967295,hu,by omega,rfl,rfl⟩
   ·try refine go ?_
    exact zNx (zMy (zEq _)) rfl fun q r hr=>⟨q,r,rfl,hr,rfl⟩
theorem rem64_ev (hV:TV T){s:St}{hi lo:Int}(h1:0≤hi)(h2:IsU lo):EvP T H 161 [.int .u64 hi,.int .u64 lo,.int .u64 2305843009213693951] s fun d s1=>∃r,d= .int .u64 r∧IsU r∧s1=s:=by
 have hd:=div64_ev (H:=H) (s:=s) (hi:=Int.tmod hi 2305843009213693951) (lo:=lo) hV (by rw [Int.tmod_eq_emod_of_nonneg h1]; omega) h2
 refine evI hV.t161 ?_
 try refine go ?_
 refine clE hd ?_
 rintro d s1 ⟨q,r,rfl,hr,rfl⟩
 try refine go ?_
 exact rtF ⟨_,rfl,hr,rfl⟩
end
section
variable {T:Nat→Option AFn}{H Y:zAa}
theorem yEn (hV:TV T){s:St}{k bo o cp:Nat}{V R:List Nat}(I:Nat→St→Prop)(Z:St→Prop)(h0:I 0 s)(hl:V.length≤100000000)
  (hI:∀j s,I j s→s.get bo=some (.var 38 (.sl o 0 V.length cp))∧s.get o=some (.arr 1 140 (u32s (V++R)) 0))
  (hY:∀j s n,j < V.length→V[V.length - 1 - j]? =some n→I j s→∃c s',Y 0 (.lv (.yl k)::[.int .i64 ((V.length - 1 - j:Nat):Int),.int .u32 (n:Nat)]) s=some (.bool c,s')∧(c=true→I (j+1) s')∧(c=false→Z s'))
  (hR:∀s,I V.length s→Z s):EvP T Y 80 [.yl k,.ptr bo 0] s fun _ s1=>Z s1:=by
 obtain⟨g1,g2⟩:=hI 0 s h0
 have hln:(u32s (V++R)).length=V.length+R.length:=by simp [u32s]
 have hw:IntKind.wrap .i64 ((V.length:Int) - 1)=(V.length:Int) - 1 - (0:Nat):=by rw [wrap_small (by omega) (by omega)]; omega
 refine evI hV.t80 ?_
 try refine go ?_
 rw [hw]
 refine zAh V.length (fun j=> [(0,.yl k),(1,.ptr bo 0),(3,.int .i64 ((V.length:Int) - 1 - (j:Nat)))]) I h0 ?_
 intro j s' hj hIj
 obtain⟨g1,g2⟩:=hI j s' hIj
 rcases Nat.lt_or_ge j V.length with h1 | h1
 ·have hi:(V.length:Int) - 1 - (j:Nat)=((V.length - 1 - j:Nat):Int):=by omega
  have hv:V[V.length - 1 - j]? =some V[V.length - 1 - j]:=List.getElem?_eq_getElem (by omega)
  generalize V[V.length - 1 - j]=n at hv
  obtain⟨c,s2,y1,y2,y3⟩:=hY j s' n h1 hv hIj
  have hge:(u32s (V++R))[0+(V.length - 1 - j)]? =some (.int .u32 (n:Nat)):=by
   rw [Nat.zero_add,u32s,List.getElem?_map,List.getElem?_append_left (by omega),hv]; rfl
  have hw2:IntKind.wrap .i64 (((V.length - 1 - j:Nat):Int) - 1)=(V.length:Int) - 1 - ((j+1:Nat):Int):=by rw [wrap_small (by omega) (by omega)]; omega
  rw [hi]
  try refine go ?_
  refine zKb ?_
  refine clE (R:=fun d s1=>d= .bool c∧s1=s2) ⟨_,_,Ev.yield y1,rfl,rfl⟩ ?_
  rintro d s3 ⟨rfl,rfl⟩
  cases c
  ·try refine go ?_
   exact rtF (y3 rfl)
  ·try refine go ?_
   rw [hw2]
   exact rtC h1 (y2 rfl)
 ·have hj2:j=V.length:=by omega
  subst hj2
  have hd:decide ((V.length:Int) - 1 - (V.length:Nat) ≥ 0)=false:=decide_eq_false (by omega)
  try refine go ?_
  exact zBx (hR _ hIj)
theorem back_vs (hV:TV T){s:St}{k bo:Nat}{nl:Bool}{V:List Nat}(I:Nat→St→Prop)(Z:St→Prop)(h0:I 0 s)(hl:V.length≤100000000)
  (hI:∀j s,I j s→s.get bo=some (.var 38 (.vs nl 1 (u32s V))))
  (hY:∀j s n,j < V.length→V[V.length - 1 - j]? =some n→I j s→∃c s',Y 0 (.lv (.yl k)::[.int .i64 ((V.length - 1 - j:Nat):Int),.int .u32 (n:Nat)]) s=some (.bool c,s')∧(c=true→I (j+1) s')∧(c=false→Z s'))
  (hR:∀s,I V.length s→Z s):EvP T Y 80 [.yl k,.ptr bo 0] s fun _ s1=>Z s1:=by
 have g1:=hI 0 s h0
 have hln:(u32s V).length=V.length:=by simp [u32s]
 have hw:IntKind.wrap .i64 ((V.length:Int) - 1)=(V.length:Int) - 1 - (0:Nat):=by rw [wrap_small (by omega) (by omega)]; omega
 refine evI hV.t80 ?_
 try refine go ?_
 rw [hln,hw]
 refine zAh V.length (fun j=> [(0,.yl k),(1,.ptr bo 0),(3,.int .i64 ((V.length:Int) - 1 - (j:Nat)))]) I h0 ?_
 intro j s' hj hIj
 have g1:=hI j s' hIj
 rcases Nat.lt_or_ge j V.length with h1 | h1
 ·have hi:(V.length:Int) - 1 - (j:Nat)=((V.length - 1 - j:Nat):Int):=by omega
  have hv:V[V.length - 1 - j]? =some V[V.length - 1 - j]:=List.getElem?_eq_getElem (by omega)
  generalize V[V.length - 1 - j]=n at hv
  obtain⟨c,s2,y1,y2,y3⟩:=hY j s' n h1 hv hIj
  have hge:(u32s V)[V.length - 1 - j]? =some (.int .u32 (n:Nat)):=by
   rw [u32s,List.getElem?_map,hv]; rfl
  have hw2:IntKind.wrap .i64 (((V.length - 1 - j:Nat):Int) - 1)=(V.length:Int) - 1 - ((j+1:Nat):Int):=by rw [wrap_small (by omega) (by omega)]; omega
  rw [hi]
  try refine go ?_
  refine zKb ?_
  refine clE (R:=fun d s1=>d= .bool c∧s1=s2) ⟨_,_,Ev.yield y1,rfl,rfl⟩ ?_
  rintro d s3 ⟨rfl,rfl⟩
  cases c
  ·try refine go ?_
   exact rtF (y3 rfl)
  ·try refine go ?_
   rw [hw2]
   exact rtC h1 (y2 rfl)
 ·have hj2:j=V.length:=by omega
  subst hj2
  have hd:decide ((V.length:Int) - 1 - (V.length:Nat) ≥ 0)=false:=decide_eq_false (by omega)
  try refine go ?_
  exact zBx (hR _ hIj)
theorem zXa (hV:TV T){s:St}{k bo:Nat}(g1:s.get bo=some (.var 38 (.vs true 0 []))):EvP T Y 80 [.yl k,.ptr bo 0] s fun _ s1=>s1=s:=by
 refine evI hV.t80 ?_
 try refine go ?_
 refine zCr ?_
 try refine go ?_
 exact zBx rfl
theorem zGq (hV:TV T){s:St}{o off n cp:Nat}(hs:s.Ok):EvP T H 56 [.sl o off n cp] s fun d s1=>d= .fn (.func 80) [] [.ptr s.n 0]∧s1=s.push0 (.var 38 (.sl o off n cp)):=by
 refine evI hV.t56 ?_
 try refine go ?_
 exact rtF ⟨rfl,rfl⟩
theorem zLj (hV:TV T){s:St}{nl:Bool}{z:Nat}{l:List D}(hs:s.Ok):EvP T H 56 [.vs nl z l] s fun d s1=>d= .fn (.func 80) [] [.ptr s.n 0]∧s1=s.push0 (.var 38 (.vs nl z l)):=by
 refine evI hV.t56 ?_
 try refine go ?_
 exact rtF ⟨rfl,rfl⟩
end
end Go.Proofs.YtmcdajnpdekocaaGreatDoor.Tab
