/- Part. -/
import Derived.Test.YtdkejjahldkkoaaGreatDoorG29
set_option linter.unusedSectionVars false
set_option maxRecDepth 100000
set_option maxHeartbeats 2000000
set_option linter.unusedSimpArgs false
set_option linter.unusedVariables false
namespace Go.Proofs.Tab
open Go Go.Ab Go.Ab.Sm
theorem bE.sub {s s1:St}{so o la ta pl mp P Sh n lv tk:Nat}{V:List D}(h:bE s so o la ta pl mp P Sh V n lv tk)(hg:∀o x,s.get o=some x->s1.get o=some x):bE s1 so o la ta pl mp P Sh V n lv tk:=
 ⟨hg _ _ h.go,hg _ _ h.gp,hg _ _ h.gm,⟨hg _ _ h.sl.go,hg _ _ h.sl.gl,hg _ _ h.sl.gt,h.sl.ol,h.sl.ot,h.sl.lt⟩,h.nd⟩
theorem Ws.sub {s s1:St}{x:D}{V:List Nat}(h:Ws s x V)(hg:∀o x,s.get o=some x->s1.get o=some x):Ws s1 x V:=by
 rcases h with ⟨nl,V,hn⟩ | _ | ⟨o,cp,V,R,h1,hc⟩
 ·exact .vs nl V hn
 ·exact .nil
 ·exact .sl o cp V R (hg _ _ h1) hc
theorem fH.aci {Q:Nat}{F:Nat->Prop}{s s1:St}{d:D}{v:gX}{n:Bool×List Nat}(h:fH Q F s d v)(hw:v.whole=some n)(hg:∀o x,s.get o=some x->s1.get o=some x):fH Q F s1 d v:=by
 cases v with
 | bool b=>exact h
 | int n=>
  obtain⟨y,h1,h2,h3,h4⟩:=h;exact⟨y,h1,h2.sub hg,h3,h4⟩
 | _=>simp [gX.whole]at hw
section
variable {T:Nat->Option dS}{H:au}{s:St}{so o la ta pl mp P Sh n lv tk bo k r:Nat}{Ds:List D}{d x:D}{v:gX}{Q:Nat}{F:Nat->Prop}{tms:List Tm}{t:Tm}{R:List Nat}
theorem C7 (hS:TS T)(hW:TW T)(hV:TV T)(hs:s.Ok)(dT:bE s so o la ta pl mp P Sh Ds n lv tk)(hb:lT s bo so tms x)(hR:Refs s x R)(hk:tms[k]? =some t)(hr:R[k]? =some r)(hi:Ds[r]? =some d)(hv:fH Q F s d v){m:Bool×List Nat}(hw:v.whole=some m)(hm:m.2.length<=100000000)(h1:t.kd=2\/t.kd=3):
  cu T H 126 [.ptr bo 0,.int .i64 (k:Nat)] s fun d s1=>d= .int .i64 (p8 m)/\aC Nil s s1:=by
 have hg:=hb.go;have ha:=ee hk;obtain⟨ra,rfl,hra,har,j6⟩:=hR.at' hr;have vk:=ir R;obtain⟨s2,GG⟩:∃s2,s2=({ s.up 1 with ro:=true,h:=sT (0+1) s.n (s.up 1).h}:St):=⟨_,rfl⟩;have kM:∀o,s2.get o=if s.n<=o/\o < s.n+(0+1) then none else s.get o:=fun o=>by rw [GG]; exact qh _ _ _ _
 have Qe:∀o x,s.get o=some x->s2.get o=some x:=fun o x hx=>by
  have:=hs.lt hx;rw [kM,aJ (by omega)]; exact hx
 have Hm:∀o x,s2.get o=some x->s.get o=some x:=fun o x hx=>by
  rw [kM]at hx;split at hx
  ·cases hx
  ·exact hx
 have Z6:=iQ (H:=H) hS hW hV (dT.sub Qe) hi (hv.aci hw Qe);rw [hw,GG]at Z6;simp only [Option.isSome,Option.getD]at Z6;rw [← GG]at Z6;have acg :cu T H 166 [.ptr so 0,.int .i64 (r:Nat)] ({ s.up 1 with ro:=true,h:=sT (0+1) s.n (s.up 1).h}:St) fun d s1=>∃y,d= .gJ [.agg [.bool m.1,y],.bool true]/\Ws s y m.2:=by
  rw [← GG];obtain⟨d,s3,e1,rfl,x,rfl,y,rfl,hy⟩:=Z6;exact⟨_,_,e1,y,rfl,hy.sub Hm⟩
 clear Z6;have key:∀kd:Int,(kd=2\/kd=3)->∀ {b ng n1 mag tx n2 kids gY sm},(tms.map Tm.d)[k]? =some (Tm.d ⟨kd,b,ng,n1,mag,tx,n2,kids,gY,sm⟩)->cu T H 126 [.ptr bo 0,.int .i64 (k:Nat)] s fun d s1=>d= .int .i64 (p8 m)/\aC Nil s s1:=by
  intro kd gW b ng n1 mag tx n2 kids gY sm ha;have lb:=hs.lt hg;have lr:=hs.lt hra;refine ay hS.t126 ?_;rcases gW with rfl | rfl
  all_goals
   try refine go ?_
   refine tF acg ?_;rintro d s1 ⟨y,rfl,hy⟩;refine⟨rfl, ?_⟩;have ov:=fun p q=>qn (p:=p) (q:=q) (a:=m.1) hy
   repeat' first | refine go ?_ | refine vR ?_ (hp:=ov _ _)
   have b0:aC Nil s ((s.up 1).bD (s.n+0) (.var 34 (.agg [.bool false,.vs true 0 []]))):=aC.set ((aC.refl hs).up 1) _ (by rw [St.jw]; omega) (fun hh=>by omega);have b1:aC Nil s (((s.up 1).bD (s.n+0) (.var 34 (.agg [.bool false,.vs true 0 []]))).bD (s.n+0) (.var 34 (.agg [.bool m.1,y]))):=aC.set b0 _ (by rw [St.fE,St.jw]; omega) (fun hh=>by omega);have hd:=vD (H:=H) (n:=m) hW hV b1.ok ⟨y,rfl,hy.Xk hs b1 (fun _ _ _ _ _ hh=>hh)⟩ hm;refine ak hd ?_;rintro d s3 ⟨rfl,b2⟩;try refine go ?_
   exact ai ⟨rfl,b1.trans b2⟩
 obtain⟨kd,b,ng,n1,mag,tx,n2,kids,gY,sm⟩:=t;exact key kd h1 ha
def Dc (t:Tm):Prop:=t.kd=1\/t.kd=2\/t.kd=3\/t.kd=4\/t.kd=14
theorem QB (hS:TS T)(hW:TW T)(hV:TV T)(hs:s.Ok)(dT:bE s so o la ta pl mp P Sh Ds n lv tk)(hb:lT s bo so tms x)(hR:Refs s x R)(hk:tms[k]? =some t)(ho:t.Ok)(hr:R[k]? =some r)(hi:Ds[r]? =some d)(hv:fH Q F s d v)(Qz:Ha t v)(BP:Dc t):
  cu T H 126 [.ptr bo 0,.int .i64 (k:Nat)] s fun d s1=>d= .int .i64 (Kt t v)/\aC Nil s s1:=by
 have abk:=ho.mag;have BZ:=ho.tx;rcases BP with h1 | h1 | h1 | h1 | h1 <;> simp only [Kt,h1,bJ,aJ,show ((2:Int)=1)=False by simp,show ((3:Int)=1)=False by simp,show ((4:Int)=1)=False by simp,show ((14:Int)=1)=False by simp,show ((2:Int)=4)=False by simp,show ((3:Int)=4)=False by simp,show ((14:Int)=4)=False by simp,show ((2:Int)=14)=False by simp,show ((3:Int)=14)=False by simp,iw]
 ·exact JR hS hW hV hs hb hk h1
 ·rcases Qz with ⟨h2,_⟩ | ⟨_,rfl⟩ | ⟨h2,_⟩ | ⟨h2,_⟩ | ⟨h2,_⟩ | ⟨h2,_⟩ | ⟨h2,_⟩ | ⟨h2,_⟩
  ·omega
  ·exact C7 hS hW hV hs dT hb hR hk hr hi hv (m:=if t.b then (false,[1]) else (false,[])) rfl (by split <;> simp) (.inl h1)
  all_goals omega
 ·rcases Qz with ⟨h2,_⟩ | ⟨h2,_⟩ | ⟨_,rfl⟩ | ⟨h2,_⟩ | ⟨h2,_⟩ | ⟨h2,_⟩ | ⟨h2,_⟩ | ⟨h2,_⟩
  ·omega
  ·omega
  ·exact C7 hS hW hV hs dT hb hR hk hr hi hv rfl (by show (dZ t.ng t.mag).2.length<=_; have:=l7 t.ng t.mag; omega) (.inr h1)
  all_goals omega
 ·exact Nu hS hW hV hs hb hk h1 (by omega)
 ·cases h2:t.hs
  ·simp only [db,iw];exact Km hS hW hV hs dT hb hR hk hr hi hv h1 h2
  ·exact G1 hS hW hV hs hb hk ho h1 h2
end
def zx (Vs:List gX)(i j:Nat):Bool:=match Vs[i]?,Vs[j]? with
 | some v,some w=>wZ i v j w
 | _,_=>false
def nU (Vs:List gX)(h:Int)(r:Nat)(e:eS):Bool:=decide (e.h=h) && zx Vs e.k.toNat r
def zZ (Vs:List gX)(most:Nat)(E:List eS)(h:Int)(r:Nat)(v:Int):List eS:=match E.findIdx? (nU Vs h r) with
 | some n=>(match E[n]? with
  | some e=>E.set n { e with v:=v}
  | none=>E)
 | none=>if E.length < most then E++ [eS.mk h r v (E.length:Nat)] else E
section
variable {Vs:List gX}{most:Nat}{E:List eS}{h:Int}{r n N:Nat}{v:Int}{e:eS}
theorem C8 (he:E[n]? =some e)(hh:nU Vs h r e=true)(hp:∀(m:Nat) (f:eS),m < n->E[m]? =some f->nU Vs h r f=false):zZ Vs most E h r v=E.set n { e with v:=v}:=by
 have hn:n < E.length:=(af.mp he).1;have:E.findIdx? (nU Vs h r)=some n:=by
  rw [List.findIdx?_eq_some_iff_getElem];refine⟨hn, ?_,fun m hm=> ?_⟩
  ·rw [ae hn]at he;simp only [aa]at he;rw [he]; exact hh
  ·rw [hp m _ hm (ae (by omega))]; simp
 simp only [zZ,this,he]
theorem AA (hp:∀(m:Nat) (f:eS),E[m]? =some f->nU Vs h r f=false):zZ Vs most E h r v=if E.length < most then E++ [eS.mk h r v (E.length:Nat)] else E:=by
 have:E.findIdx? (nU Vs h r)=none:=by
  rw [List.findIdx?_eq_none_iff];intro x hx;obtain⟨m,hm⟩:=cH hx;exact hp m x hm
 simp only [zZ,this]
def pT (N:Nat)(E:List eS):Prop:=∀(m:Nat) (e:eS),E[m]? =some e->∃i:Nat,e.k=(i:Int)/\i < N
theorem pT.put (hE:pT N E)(hr:r < N):pT N (zZ Vs most E h r v):=by
 unfold zZ;split
 ·split
  ·rename_i he;intro m f hf;rw [mj]at hf;split at hf
   ·split at hf
    ·simp only [aa]at hf; subst hf;obtain⟨i,h1,h2⟩:=hE _ _ he;exact⟨i,h1,h2⟩
    ·cases hf
   ·exact hE m f hf
  ·exact hE
 ·split
  ·intro m f hf;rcases aG m E.length with hl | hl
   ·rw [aO hl]at hf; exact hE m f hf
   ·rw [aT hl]at hf;rcases ec (m - E.length) with h0 | h0
    ·rw [h0]at hf;simp only [aQ,aa]at hf;subst hf;exact⟨r,rfl,hr⟩
    ·rw [eJ (by simp; omega)]at hf; cases hf
  ·exact hE
end
theorem fC.fit {W:Nat->Prop}{n:Nat}{s:St}{dv most:Nat}{E:List eS}(h:fC (Own n W) s dv most E)(hs:s.Ok):fC (fun j=>W j\/(n<=j/\j < s.n)) s dv most E:=by
 obtain⟨to,eo,co,ro,log,b,st,x,C,ver,p1,p2,v1,v2,v3,v4,v5,p3⟩:=h;have up:∀o,o < s.n->Own n W o->W o\/(n<=o/\o < s.n):=fun o ho hw=>hw.imp id fun h=>⟨h,ho⟩;have l1:=hs.lt p1; have l2:=hs.lt p2.go; have l3:=hs.lt p2.ce.go; have l4:=hs.lt p2.ce.gr;have sS:=p2.en;rcases sS with _ | ⟨_,st0,E,g,dT⟩
 ·exact⟨to,to,co,ro,log,b,st,_,C,ver,p1,⟨p2.go,.nil to,p2.ce,p2.la,p2.rm⟩,up _ l1 v1,up _ l2 v2,up _ l2 v2,up _ l3 v4,up _ l4 v5,p3⟩
 ·exact⟨to,eo,co,ro,log,b,st,_,C,ver,p1,p2,up _ l1 v1,up _ l2 v2,up _ (hs.lt g) v3,up _ l3 v4,up _ l4 v5,p3⟩
def Hs (Vs:List gX)(W:Nat->Prop)(n0:Nat)(s1:St)(dv most:Nat)(E:List eS)(h:Int)(r:Nat)(v:Int):Prop:=fC (fun j=>W j\/(n0<=j/\j < s1.n)) s1 dv most (zZ Vs most E h r v)
theorem Stepped.out {Vs:List gX}{W:Nat->Prop}{s s1:St}{mo dv so most N r n0:Nat}{E:List eS}{h v told:Int}{d:D}(hS:Stepped W s mo dv so most E h (r:Nat) v told d s1)(FE:n0<=s.n)(h1:s1.Ok)(hm:n0<=mo)(hE:pT N E)(hN:∀i,i < N->∃w,Vs[i]? =some w)(hr:r < N)
  (hp:∀(m:Nat) (f:eS),(m:Int)<=told->E[m]? =some f->nU Vs h r f=false):
  (∃(n:Nat) (e:eS),E[n]? =some e/\told < (n:Int)/\e.h=h/\e.k≠(r:Nat)/\d=kV 1 e.k false 0 0/\pg W s1 mo dv so most E h (r:Nat) v 2 (n:Nat) (n:Nat)/\aC (fun j=>j=mo\/j=so) s s1/\∀(m:Nat) (f:eS),m < n->E[m]? =some f->nU Vs h r f=false)\/
  (∃x0 x1 x2 x3 x4,d=kV x0 x1 x2 x3 x4/\(x0=2\/x0=3)/\Hs Vs W n0 s1 dv most E h r v/\aC (fun j=>W j\/j=mo\/j=so) s s1):=by
 have wd:∀ {W' :Nat->Prop} {E' :List eS},fC W s1 dv most E' ->fC (fun j=>W j\/(n0<=j/\j < s1.n)) s1 dv most E' :=fun h=>h.mono fun o ho=> .inl ho;have nohit:∀ {e:eS},e.h≠h->nU Vs h r e=false:=fun cC=>by simp [nU,cC]
 rcases hS with ⟨n,e,⟨q1,⟨e',q2,q3⟩,q4⟩,he,hk,hd,hm,hb⟩ | ⟨n,e,⟨q1,⟨e',q2,q3⟩,q4⟩,he,hk,hd,hm,hb⟩ | ⟨q1,q2,hd,hm,hb⟩ | ⟨q1,q2,hd,hm,hb⟩
 ·rw [he]at q2; simp only [aa]at q2; subst q2;refine .inl ⟨n,e,he,q1,q3,hk,hd,hm,hb,fun m f XQ hf=> ?_⟩;rcases kS told (m:Int) with hl | hl
  ·exact nohit (q4 m f hl XQ hf)
  ·exact hp m f hl hf
 ·rw [he]at q2; simp only [aa]at q2; subst q2;refine .inr ⟨_,_,_,_,_,hd,.inl rfl, ?_,hb⟩;have hh:nU Vs h r e=true:=by
   obtain⟨w,hw⟩:=hN r hr;have:zx Vs r r=true:=by simp [zx,hw,wZ]
   simp [nU,q3,hk,this]
  unfold Hs;rw [C8 he hh fun m f XQ hf=> ?_]
  ·exact wd (W' :=W) hm
  ·rcases kS told (m:Int) with hl | hl
   ·exact nohit (q4 m f hl XQ hf)
   ·exact hp m f hl hf
 ·refine .inr ⟨_,_,_,_,_,hd,.inl rfl, ?_,hb⟩;unfold Hs;rw [AA fun m f hf=> ?_,bJ q2]
  ·exact (hm.fit h1).mono fun o ho=>ho.imp id fun ⟨a,b⟩=>⟨by omega,b⟩
  ·rcases kS told (m:Int) with hl | hl
   ·exact nohit (q1 m f hl hf)
   ·exact hp m f hl hf
 ·refine .inr ⟨_,_,_,_,_,hd,.inr rfl, ?_,hb⟩;unfold Hs;rw [AA fun m f hf=> ?_,aJ (by omega)]
  ·exact wd (W' :=W) hm
  ·rcases kS told (m:Int) with hl | hl
   ·exact nohit (q1 m f hl hf)
   ·exact hp m f hl hf
theorem BM {acc:List Fp}{x y:Fp}{i:Nat}(h:acc[i]? =some x)(ha:kX x y=true):fg acc y [i]=true:=by
 simp only [fg,h,ha]
def Dj (P:Nat)(s:St)(N:Nat)(Ds:List D)(Vs:List gX)(W:Nat->Prop):Prop:=∀i,i < N->∃d w F,Ds[i]? =some d/\Vs[i]? =some w/\fH P F s d w/\∀j,F j-> ¬ W j
theorem Dj.dU {P N:Nat}{s s1:St}{Ds:List D}{Vs:List gX}{W:Nat->Prop}(h:Dj P s N Ds Vs W)(hs:s.Ok)(hb:aC W s s1):Dj P s1 N Ds Vs W:=fun i hi=>by
 obtain⟨d,w,F,h1,h2,h3,h4⟩:=h i hi;exact⟨d,w,F,h1,h2,h3.dU hs hb (fun j _ hj=>h4 j hj),h4⟩
theorem fC.len {W:Nat->Prop}{s:St}{dv most:Nat}{E:List eS}(h:fC W s dv most E):E.length<=20000:=by
 obtain⟨to,eo,co,ro,log,b,st,x,C,ver,p1,p2,v1,v2,v3,v4,v5,p3⟩:=h;exact p3
def Mi (W:Nat->Prop)(s:St)(bo k mo dv most:Nat)(E:List eS)(Vs:List gX)(h:Int)(r:Nat)(v:Int)(m:Nat)(env:Env) (s' :St):Prop:=s'.Ok/\aC W s s' /\
 ((∃(n:Nat) (e:eS) (so' :Nat),E.length - n<=m/\env=[(0,.ptr bo 0),(2,.int .i64 (k:Nat)),(8,.ptr mo 0),(9,.lv (kV 1 e.k false 0 0))]/\E[n]? =some e/\e.h=h/\e.k≠(r:Nat)/\pg W s' mo dv so' most E h (r:Nat) v 2 (n:Nat) (n:Nat)/\s.n<=so' /\∀(m:Nat) (f:eS),m < n->E[m]? =some f->nU Vs h r f=false)\/
  (∃x0 x1 x2 x3 x4,env=[(0,.ptr bo 0),(2,.int .i64 (k:Nat)),(8,.ptr mo 0),(9,.lv (kV x0 x1 x2 x3 x4))]/\(x0=2\/x0=3)/\Hs Vs W s.n s' dv most E h r v))
section
variable {T:Nat->Option dS}{H:au}
theorem Qi (hP:TP T){W:Nat->Prop}{s:St}{mo dv so most:Nat}{E:List eS}{h k v entry told:Int}{same:Bool}(hs:s.Ok)(hm:pg W s mo dv so most E h k v 2 entry told):
  cu T H 128 [.ptr mo 0,.bool same] s fun d s1=>d= .int .i64 0/\pg W s1 mo dv so most E h k v (if same then 3 else 1) entry told/\aC (fun j=>j=mo) s s1:=by
 obtain⟨⟨to,eo,co,ro,log,b,st,x,C,ver,J,scans,t0,t1,t2,t3,t4,h1,h2,w1,w2,w3,w4,w5,h3,h4,h5,h6⟩,nm,ns,nq⟩:=hm;obtain⟨d,s1,e1,rfl,e2,e3⟩:=Re (H:=H) (same:=same) hP hs h4;have ne:∀o,W o->o≠mo:=fun o ho e=>nm (e ▸ ho);exact⟨_,s1,e1,rfl,⟨⟨to,eo,co,ro,log,b,st,x,C,ver,J,scans,t0,t1,t2,t3,t4,e3.get hs h1 (ne _ w1),h2.dU hs e3 (ne _ w2) (fun _ _ _=>ne _ w3) (ne _ w4) (ne _ w5),w1,w2,w3,w4,w5,h3,e2,e3.get hs h5 (fun e=>nq e.symm),h6⟩,nm,ns,nq⟩,e3⟩
variable {s:St}{so o la ta pl mp P Sh n lv tk bo k r po dv most N:Nat}{Ds:List D}{x:D}{Vs:List gX}{tms:List Tm}{t:Tm}{R:List Nat}{W:Nat->Prop}{E:List eS}{num kd v:Int}
theorem VX (hS:TS T)(hT:TT T)(hP:TP T)(hW:TW T)(hV:TV T)(hs:s.Ok)(dT:bE s so o la ta pl mp P Sh Ds n lv tk)(hb:lT s bo so tms x)(hR:Refs s x R)(hk:tms[k]? =some t)(ho:t.Ok)(hr:R[k]? =some r)
  (ZR:Dj P s N Ds Vs W)(hrN:r < N)(hE:pT N E)(Qz:∀w,Vs[r]? =some w->Ha t w)(BP:Dc t)(gp:s.get po=some (.var 217 (.agg [.int .i64 num,.ptr dv 0,.int .i64 kd])))(hd:fC W s dv most E)(uL:E.length < 20000)
  (hW1:∀j,W j->j < s.n)(hWs:∀j,(bw so o la ta pl j\/j=mp)-> ¬ W j)(hWb: ¬ W bo)(hWx:∀o a l c,x= .sl o a l c-> ¬ W o):
  cu T H 79 [.ptr bo 0,.ptr po 0,.int .i64 (k:Nat),.int .i64 v] s fun _ s1=>(∃w,Vs[r]? =some w/\Hs Vs W s.n s1 dv most E (Kt t w) r v)/\aC W s s1:=by
 obtain⟨dr,wr,Fr,Ld,xe,XH,hr4⟩:=ZR r hrN;have hh:=QB (H:=H) hS hW hV hs dT hb hR hk ho hr Ld XH (Qz _ xe) BP;have gb:=hb.go;obtain⟨ra,rfl,gra,gar,j6⟩:=hR.at' hr;have vk:=ir R;have lb:=hs.lt gb; have lr:=hs.lt gra; have lp:=hs.lt gp;refine ay hS.t79 ?_;try refine go ?_
 refine bf hh ?_;generalize aaC:Kt t wr=h;rintro d s1 ⟨rfl,b1⟩;have ok1:=b1.ok;have gp1:=b1.get hs gp (fun h=>h);have Gt:=b1.get hs gb (fun h=>h);have ach:=b1.get hs gra (fun h=>h);have HH:=hd.dU hs b1 (fun _ _ _ h=>h);refine⟨rfl,by simp [lost,eN.kind,cJ,dE,cE,aI,bz,bz.cV,fZ,bP.ev,Env.get,cP,D.flat,D.isAgg,cL,D.fv,D.beq,az,Obj.aV,bC,bu,D.bV,D.aV,gp,gp1], ?_⟩;have sb:∀q∈ [bo],s1.get q=s.get q:=by intro q hq; simp only [cG]at hq; subst hq; rw [gb,Gt]
 have sr:∀q∈ [ra],s1.get q=s.get q:=by intro q hq; simp only [cG]at hq; subst hq; rw [gra,ach]
 repeat' first | refine go ?_ | refine xT ?_ (hc:=BM rfl (vz sb)) | refine yU ?_ (hc:=BM rfl (vz sr)) | refine zl ?_ (hc:=BM rfl (vz sr))
 have CO:=HH;obtain⟨to,eo,co,ro,log,b,st,x1,C,ver,Ed,_,wdv,_⟩:=CO;have xl:=Oq (H:=H) (h:=h) (k:=(r:Nat)) (v:=v) hP ok1 Ed;refine bf xl ?_;rintro d s2 ⟨mo,rfl,hmo,Lg,b2⟩;have ok2:=b2.ok;have n1:=b1.n; have n2:=b2.n;have lm2:=ok2.lt Lg;have Gn:=HH.dU ok1 b2 (fun _ _ _ h=>h);refine⟨rfl,by rfl, ?_⟩;have NZ:=D2 (H:=H) hT hP ok2 uL Gn (fun hw=>by have:=hW1 _ hw; omega) (fun hw=>by have:=hW1 _ hw; omega) Lg;try refine go ?_
 refine ak NZ ?_;rintro d s3 ⟨s0,b3,n3,hS3⟩
 have hNN:∀i,i < N->∃w,Vs[i]? =some w:=fun i hi=>by
  obtain⟨_,w,_,_,h2,_⟩:=ZR i hi;exact⟨w,h2⟩
 have ok3:s3.Ok:=by
  rcases hS3 with ⟨_,_,_,_,_,_,_,hb⟩ | ⟨_,_,_,_,_,_,_,hb⟩ | ⟨_,_,_,_,hb⟩ | ⟨_,_,_,_,hb⟩ <;> exact hb.ok
 have wlt:∀ {j a:Nat},s.n<=a->j=a->j < s.n->W j:=fun h1 h2 h3=>by omega
 have b03:aC W s s0:=(b1.mono fun _ h=>h.elim).trans' ((b2.mono fun _ h=>h.elim:aC W s1 s2).trans' b3 fun o h1 h2=>by
  exfalso; omega) fun o hw hl=>hw
 have WS:=hS3.out (Vs:=Vs) (N:=N) (n0:=s.n) (by omega) ok3 (by omega) hE hNN hrN (fun m f h1 hf=>absurd h1 (by omega));have RF:∃x0 x1 x2 x3 x4,d=kV x0 x1 x2 x3 x4:=by
  rcases WS with ⟨n,e,_,_,_,_,rfl,_⟩ | ⟨_,_,_,_,_,rfl,_⟩ <;> exact ⟨_,_,_,_,_,rfl⟩
 have ask:∀ {s4:St} {n:Nat} {e:eS} {d:D} {s5:St} {so1:Nat},s.n<=so1->s.n<=s4.n->aC W s s4->E[n]? =some e->(∀(m:Nat) (f:eS),m < n->E[m]? =some f->nU Vs h r f=false)->True:=fun _ _ _ _ _=>trivial;clear ask;have EE:Mi W s bo k mo dv most E Vs h r v (E.length+1) [(0,.ptr bo 0),(2,.int .i64 (k:Nat)),(8,.ptr mo 0),(9,.lv d)] s3:=by
  rcases WS with ⟨n,e,q1,q2,q3,q4,rfl,q5,q6,q7⟩ | ⟨x0,x1,x2,x3,x4,rfl,q1,q2,q3⟩
  ·have hn:n < E.length:=(af.mp q1).1;exact⟨ok3,b03.trans' q6 (fun o h1 h2=>by exfalso; omega),.inl ⟨n,e,s2.n,by omega,rfl,q1,q3,q4,q5,by omega,q7⟩⟩
  ·exact⟨ok3,b03.trans' q3 (fun o h1 h2=>by rcases h1 with h1 | h1 | h1; exact h1; omega; omega),.inr ⟨x0,x1,x2,x3,x4,rfl,q1,q2⟩⟩
 obtain⟨y0,y1,y2,y3,y4,rfl⟩:=RF
 repeat' first | refine go ?_ | refine dW ?_
 refine cg (Mi W s bo k mo dv most E Vs h r v) (E.length+1) rfl EE ?_;rintro m env s4 ⟨ok4,XW,hinv⟩;rcases hinv with ⟨n,e,so1,XQ,rfl,he,heh,hek,hM,hso,hp⟩ | ⟨x0,x1,x2,x3,x4,rfl,hx,Ma⟩
 ·have Wf:=dT.dU hs XW hWs;have aa7:=ZR.dU hs XW;have gb4:=XW.get hs gb hWb;have acL:=XW.get hs gra (hWx _ _ _ _ rfl);obtain⟨i,XO,hiN⟩:=hE n e he;obtain⟨di,wi,Fi,Xh,hi2,hi3,hi4⟩:=aa7 i hiN;obtain⟨dr',wr',Fr',abU,abz,acj,acH⟩:=aa7 r hrN;have Lj:=Og (H:=H) hS hW hV ok4 Wf Xh hi3 abU acj;have X8:zx Vs e.k.toNat r=wZ i wi r wr' :=by simp [zx,XO,hi2,abz]
  have hn:n < E.length:=(af.mp he).1;have gM:=hM;have lmo:s.n<=mo:=by omega
  have ack :e.k=(i:Int):=XO;rw [ack];try refine go ?_
  refine bf Lj ?_;rintro d s5 ⟨rfl,rfl⟩;refine⟨rfl,by rfl, ?_⟩;try refine go ?_
  refine bf (Qi (same:=wZ i wi r wr') hP ok4 hM) ?_;rintro d s6 ⟨rfl,hM6,b6⟩;refine⟨rfl,by rfl, ?_⟩;have bs6:aC W s s6:=XW.trans' b6 fun o h1 h2=>by exfalso; omega
  cases hl:wZ i wi r wr' with
  | true=>
   rw [hl]at hM6;have Wu:=J9 (H:=H) hT hP b6.ok hM6 he;try refine go ?_
   refine ak Wu ?_;rintro d s7 ⟨rfl,hd7,b7⟩
   repeat' first | refine go ?_ | refine dW ?_
   refine bg 0 (by omega) rfl ?_;refine⟨b7.ok,bs6.trans' b7 (fun o h1 h2=>by rcases h1 with h1 | h1; exact h1; omega),.inr ⟨_,_,_,_,_,rfl,.inl rfl, ?_⟩⟩;unfold Hs;rw [C8 he (by simp [nU,heh,X8,hl]) hp];exact hd7.mono fun o ho=> .inl ho
  | false=>
   rw [hl]at hM6;have Wu:=KC (H:=H) hT hP b6.ok uL (by have:=hd.len; omega) hM6;try refine go ?_
   refine ak Wu ?_;rintro d s7 hS7;have ok7:s7.Ok:=by
    rcases hS7 with ⟨_,_,_,_,_,_,_,hb⟩ | ⟨_,_,_,_,_,_,_,hb⟩ | ⟨_,_,_,_,hb⟩ | ⟨_,_,_,_,hb⟩ <;> exact hb.ok
   have n6:=bs6.n
   have ZX:=hS7.out (Vs:=Vs) (N:=N) (n0:=s.n) n6 ok7 lmo hE hNN hrN (fun m f h1 hf=>by
    rcases aG m n with h2 | h2
    ·exact hp m f h2 hf
    ·obtain rfl:m=n:=by omega
     rw [he]at hf; simp only [aa]at hf; subst hf;simp [nU,X8,hl])
   rcases ZX with ⟨n',e',q1,q2,q3,q4,rfl,q5,q6,q7⟩ | ⟨x0,x1,x2,x3,x4,rfl,q1,q2,q3⟩
   ·have Fu :n' < E.length:=(af.mp q1).1
    repeat' first | refine go ?_ | refine dW ?_
    refine bg (E.length - n') (by omega) rfl ?_;exact⟨ok7,bs6.trans' q6 (fun o h1 h2=>by exfalso; omega),.inl ⟨n',e',so1,by omega,rfl,q1,q3,q4,q5,hso,q7⟩⟩
   ·repeat' first | refine go ?_ | refine dW ?_
    refine bg 0 (by omega) rfl ?_;exact⟨ok7,bs6.trans' q3 (fun o h1 h2=>by rcases h1 with h1 | h1 | h1; exact h1; omega; omega),.inr ⟨x0,x1,x2,x3,x4,rfl,q1,q2⟩⟩
 ·rcases hx with rfl | rfl
  all_goals
   try refine go ?_
   exact gU ⟨⟨wr,xe,by rw [aaC]; exact Ma⟩,XW⟩
end
def iW:List Int->List Int
 | []=> []
 | [a]=> [a]
 | a::_::r=>a::iW r
theorem qt:∀L:List Int,(iW L).length=(L.length+1) / 2
 | []=>rfl
 | [a]=>by simp [iW]
 | a::b::r=>by simp only [iW,aU,qt r]; omega
theorem uQ:∀(L:List Int) (j:Nat),(iW L)[j]? =L[2 * j]?
 | [],j=>by simp [iW]
 | [a],j=>by
  cases j with
  | zero=>rfl
  | succ j=>simp [iW]
 | a::b::r,j=>by
  cases j with
  | zero=>rfl
  | succ j=>simp only [iW,bX,uQ r j,show 2 * (j+1)=2 * j+1+1 by omega]
def eU (t:Tm):List Int:=if t.kd=8\/t.kd=9 then t.kids else if t.kd=7 then iW t.kids else []
theorem qA (t:Tm):(eU t).length<=t.kids.length:=by
 unfold eU; split
 ·exact an _
 ·split
  ·rw [qt]; omega
  ·simp
inductive oM (s:St):D->List Int->Prop
 | vs (nl:Bool) (L:List Int) (hn:nl=true->L=[]):oM s (.vs nl 1 (ints L)) L
 | nil:oM s (.vs true 0 []) []
 | sl (o:Nat) (L:List Int) (h:s.get o=some (.arr 1 3 (ints L) 0)):oM s (.sl o 0 L.length L.length) L
theorem oM.dU {W:Nat->Prop}{s s1:St}{x:D}{L:List Int}(h:oM s x L)(hs:s.Ok)(hb:aC W s s1)(hw:∀o a l c,x= .sl o a l c-> ¬ W o):oM s1 x L:=by
 rcases h with ⟨nl,L,hn⟩ | _ | ⟨o,L,h1⟩
 ·exact .vs nl L hn
 ·exact .nil
 ·exact .sl o L (hb.get hs h1 (hw _ _ _ _ rfl))
theorem ints_at {L:List Int}{j:Nat}{v:Int}(h:L[j]? =some v):(ints L)[j]? =some (.int .i64 v):=by simp only [ints,aE,h]; rfl
section
variable {T:Nat->Option dS}{H:au}{s:St}{t:Tm}
theorem O8 (hS:TS T)(h1:t.kd=8\/t.kd=9):cu T H 70 [t.d] s fun d s1=>d= .vs t.n2 1 (ints t.kids)/\s1=s:=by
 obtain⟨kd,b,ng,n1,mag,tx,n2,kids,gY,sm⟩:=t;simp only at h1;refine ay hS.t70 ?_;rcases h1 with rfl | rfl
 all_goals
  try refine go ?_
  exact ai ⟨rfl,rfl⟩
theorem KD (hS:TS T)(h1:t.kd≠8/\t.kd≠9/\t.kd≠7):cu T H 70 [t.d] s fun d s1=>d= .vs true 0 []/\s1=s:=by
 obtain⟨kd,b,ng,n1,mag,tx,n2,kids,gY,sm⟩:=t;simp only at h1;obtain⟨h1,h2,h3⟩:=h1;refine ay hS.t70 ?_;try refine go ?_
 exact ai ⟨rfl,rfl⟩
def abi (s:St)(d:D)(K:List Int)(m:Nat)(env:Env) (s' :St):Prop:=aC Nil s s' /\∃j,j<=K.length/\m=K.length - j/\
 ((j=0/\s' =s/\env=[(1,.lv d),(3,.vs true 0 []),(4,.int .i64 ((0:Nat):Int))])\/
  (0 < j/\s'.get s.n=some (.arr 1 3 (ints (K.take j)) 0)/\env=[(1,.lv d),(3,.sl s.n 0 j j),(4,.int .i64 ((2 * j:Nat):Int))]))
theorem Jy (hS:TS T)(hs:s.Ok)(ho:t.Ok)(h1:t.kd=7):cu T H 70 [t.d] s fun d s1=>oM s1 d (iW t.kids)/\(∀o a l c,d= .sl o a l c->s.n<=o)/\aC Nil s s1:=by
 have hk:=ho.kids;obtain⟨kd,b,ng,n1,mag,tx,n2,kids,gY,sm⟩:=t;simp only at h1 hk; subst h1;have hl:=qt kids;have oP:=uQ kids;have jg:=fw kids;have YT:=fun j=>fw ((iW kids).take j);have zu:∀j,((iW kids).take j).length=min j (iW kids).length:=fun j=>cR;refine ay hS.t70 ?_;try refine go ?_
 refine cg (abi s (.agg [.int .i64 7,.bool b,.bool ng,.vs n1 1 (dz mag),.str tx,.vs n2 1 (ints kids),.bool gY,.bool sm]) (iW kids)) (iW kids).length rfl ⟨aC.refl hs,0,by omega,by omega,.inl ⟨rfl,rfl,rfl⟩⟩ ?_;rintro m env s1 ⟨b1,j,hj,rfl,hinv⟩;have ok1:=b1.ok;rcases aG j (iW kids).length with dQ | qc
 ·have h2:2 * j < kids.length:=by omega
  have e1:kids[2 * j]? =some kids[2 * j]:=ae h2;have e2:(ints kids)[2 * j]? =some (.int .i64 kids[2 * j]):=ints_at e1;have e3:(iW kids)[j]? =some kids[2 * j]:=by rw [oP,e1]
  have e4:(iW kids).take (j+1)=(iW kids).take j++ [kids[2 * j]]:=by rw [gz,e3]; rfl
  have hw:IntKind.wrap .i64 (((2 * j:Nat):Int)+2)=((2 * (j+1):Nat):Int):=by rw [wrap_small (by omega) (by omega)]; omega
  rcases hinv with ⟨rfl,rfl,rfl⟩ | ⟨QX,hg,rfl⟩
  ·have PK:IntKind.wrap .i64 (((0:Nat):Int)+2)=((2 * (0+1):Nat):Int):=hw;have e2' :(ints kids)[0]? =some (.int .i64 kids[2 * 0]):=e2;try refine go ?_
   simp only [PK];try refine go ?_
   refine bg ((iW kids).length - (0+1)) (by omega) rfl ⟨aC.push b1 _,1,by omega,by omega,.inr ⟨by omega, ?_,rfl⟩⟩;rw [St.ba,e4]; rfl
  ·have acS:=YT j;have acT:=zu j;have ln:=ok1.lt hg;have e5:(ints (List.take j (iW kids))).length=j:=by omega
   try refine go ?_
   simp only [hw];try refine go ?_
   refine bg ((iW kids).length - (j+1)) (by omega) rfl ⟨aC.set b1 _ ln (fun h=>by omega),j+1,by omega,by omega,.inr ⟨by omega, ?_,rfl⟩⟩;rw [St.aN,e4];simp only [ints,jc,bG,ed]
 ·have hje:j=(iW kids).length:=by omega
  rcases hinv with ⟨rfl,rfl,rfl⟩ | ⟨QX,hg,rfl⟩
  ·have e0:kids=[]:=by cases kids with
    | nil=>rfl
    | cons a l=>simp only [aU]at hl; omega
   subst e0;try refine go ?_
   exact ai ⟨.nil,fun _ _ _ _ e=>(by cases e),b1⟩
  ·try refine go ?_
   rw [hje,eD]at hg;refine ai (d:= .sl s.n 0 j j) ⟨?_,fun o a l c e=>(by cases e; exact an _),b1⟩;rw [hje];exact .sl s.n _ hg
theorem Ce (hS:TS T)(hs:s.Ok)(ho:t.Ok):cu T H 70 [t.d] s fun d s1=>oM s1 d (eU t)/\(∀o a l c,d= .sl o a l c->s.n<=o)/\aC Nil s s1:=by
 by_cases h1:t.kd=8\/t.kd=9
 ·obtain⟨d,s1,e,rfl,rfl⟩:=O8 (H:=H) (s:=s) hS h1;refine⟨_,_,e, ?_,fun _ _ _ _ e=>(by cases e),aC.refl hs⟩;rw [eU,bJ h1];exact .vs _ _ ho.n2
 ·by_cases h2:t.kd=7
  ·obtain⟨d,s1,e,h3,h4,h5⟩:=Jy (H:=H) hS hs ho h2;refine⟨_,_,e, ?_,h4,h5⟩;rw [eU,aJ h1,bJ h2]; exact h3
  ·obtain⟨d,s1,e,rfl,rfl⟩:=KD (H:=H) (s:=s) (t:=t) hS (by omega);refine⟨_,_,e, ?_,fun _ _ _ _ e=>(by cases e),aC.refl hs⟩;rw [eU,aJ h1,aJ h2]; exact .nil
end
section
variable {T:Nat->Option dS}{H:au}{s:St}{so o la ta pl mp P Sh n lv tk:Nat}{V:List D}
theorem XG (hT:TS T)(hs:s.Ok)(h:bE s so o la ta pl mp P Sh V n lv tk)(hn:n < 2147483648)(hl:lv < 2147483648)(ht:tk < 2147483648)(hV:V.length+1<=aL){kd:Int}{lx m:Nat}:
  cu T H 37 [.ptr so 0,.int .i64 kd,.sl lx 0 m m] s fun d s1=>d= .int .i64 V.length/\∃ro,s.n<=ro/\ro < s1.n/\s1.get ro=some (.var 106 (.agg [.int .i64 (n+1:Nat),.sl lx 0 m m,.int .i64 kd]))/\bE s1 so o la ta pl mp P Sh (V++ [.ig 100 (.ptr ro 0)]) (n+1) (lv+1) (tk+1)/\aC (bw so o la ta pl) s s1:=by
 have h0:=h;obtain⟨h1,h2,h3,⟨g1,g2,g3,k1,k2,k3⟩,h5⟩:=h0;have l1:=hs.lt h1; have l2:=hs.lt h2; have l3:=hs.lt h3; have l4:=hs.lt g1; have l5:=hs.lt g2; have l6:=hs.lt g3;have nd:=h5;simp only [fm,bS,eZ,kI,kH,dD,fN,iv]at h5;obtain⟨⟨n1,n2,n3,n4,n5⟩,⟨n6,n7,n8,n9⟩,⟨UC,Uu,Vd⟩,⟨UH,T5⟩,T3⟩:=h5;refine ay hT.t37 ?_;try refine go ?_
 refine bf (uj hT (hs.up 1) (h.up 1) hn hl ht) ?_;rintro d s1 ⟨rfl,q1,q2⟩;have f1:(s.up 1).get so=_:=h1;have f2:=q1.go;refine⟨rfl,by simp [lost,eN.kind,cJ,dE,cE,aI,bz,bz.cV,fZ,bP.ev,Env.get,cP,D.flat,D.isAgg,cL,D.fv,D.beq,az,Obj.aV,bC,bu,D.bV,D.aV,f1,f2], ?_⟩;have m1:=q2.n;have m2:=q2.ok;simp only [St.jw]at m1;have m0:s1.get (s.n+0)=none:=by
  rw [q2.same _ (by rw [St.jw]; omega) (by omega)];exact hs.fresh _ (by omega)
 have p1:=q1.go;try refine go ?_
 have c3:=(aC.set (W:=fun j=>j=s.n+0) (aC.refl q2.ok) (.var 106 (.agg [.int .i64 (n+1:Nat),.sl lx 0 m m,.int .i64 kd])) (o:=s.n+0) (by omega) (fun _=>rfl));have c1:=c3.ok;have c2:=q1.sl.dU q2.ok c3 (by omega) (by omega) (by omega);refine bf (qI hT c1 c2 hV) ?_;rintro d s2 ⟨rfl,q3,q4⟩;have e1:=c3.get q2.ok p1 (by omega);have e2:=q4.get c1 e1 (by omega);refine⟨rfl,by simp [lost,eN.kind,cJ,dE,cE,aI,bz,bz.cV,fZ,bP.ev,Env.get,cP,D.flat,D.isAgg,cL,D.fv,D.beq,az,Obj.aV,bC,bu,D.bV,D.aV,e1,e2], ?_⟩;try refine go ?_
 have y1:=q4.get c1 (c3.get q2.ok q1.gp (by omega)) (by omega);have y2:=q4.get c1 (c3.get q2.ok q1.gm (by omega)) (by omega);have y3:=q4.get (o:=s.n+0) c1 St.aN (by omega);have z1:=q4.n;simp only [St.fE]at z1;refine ai ⟨rfl,s.n+0,by omega,by omega,y3,⟨e2,y1,y2,q3,nd⟩, ?_⟩;refine aC.trans' (W' :=fun j=>j=o\/j=la\/j=ta) (aC.trans' (W' :=fun j=>j=s.n+0) (aC.trans' (W' :=fun j=>j=so\/j=pl) ((aC.refl hs).up 1) q2 ?_) c3 ?_) q4 ?_
 ·rintro j (rfl | rfl) _ <;> simp [bw]
 ·rintro j rfl hj; omega
 ·rintro j (rfl | rfl | rfl) _ <;> simp [bw]
theorem Hc (hT:TS T)(hs:s.Ok)(h:bE s so o la ta pl mp P Sh V n lv tk)(hn:n < 2147483648)(hl:lv < 2147483648)(ht:tk < 2147483648)(hV:V.length+1<=aL){kd:Int}{dv:Nat}:
  cu T H 124 [.ptr so 0,.int .i64 kd,.ptr dv 0] s fun d s1=>d= .int .i64 V.length/\∃ro,s.n<=ro/\ro < s1.n/\s1.get ro=some (.var 217 (.agg [.int .i64 (n+1:Nat),.ptr dv 0,.int .i64 kd]))/\bE s1 so o la ta pl mp P Sh (V++ [.ig 152 (.ptr ro 0)]) (n+1) (lv+1) (tk+1)/\aC (bw so o la ta pl) s s1:=by
 have h0:=h;obtain⟨h1,h2,h3,⟨g1,g2,g3,k1,k2,k3⟩,h5⟩:=h0;have l1:=hs.lt h1; have l2:=hs.lt h2; have l3:=hs.lt h3; have l4:=hs.lt g1; have l5:=hs.lt g2; have l6:=hs.lt g3;have nd:=h5;simp only [fm,bS,eZ,kI,kH,dD,fN,iv]at h5;obtain⟨⟨n1,n2,n3,n4,n5⟩,⟨n6,n7,n8,n9⟩,⟨UC,Uu,Vd⟩,⟨UH,T5⟩,T3⟩:=h5;refine ay hT.t124 ?_;try refine go ?_
 refine bf (uj hT (hs.up 1) (h.up 1) hn hl ht) ?_;rintro d s1 ⟨rfl,q1,q2⟩;have f1:(s.up 1).get so=_:=h1;have f2:=q1.go;refine⟨rfl,by simp [lost,eN.kind,cJ,dE,cE,aI,bz,bz.cV,fZ,bP.ev,Env.get,cP,D.flat,D.isAgg,cL,D.fv,D.beq,az,Obj.aV,bC,bu,D.bV,D.aV,f1,f2], ?_⟩;have m1:=q2.n;have m2:=q2.ok;simp only [St.jw]at m1;have m0:s1.get (s.n+0)=none:=by
  rw [q2.same _ (by rw [St.jw]; omega) (by omega)];exact hs.fresh _ (by omega)
 have p1:=q1.go;try refine go ?_
 have c3:=(aC.set (W:=fun j=>j=s.n+0) (aC.refl q2.ok) (.var 217 (.agg [.int .i64 (n+1:Nat),.ptr dv 0,.int .i64 kd])) (o:=s.n+0) (by omega) (fun _=>rfl));have c1:=c3.ok;have c2:=q1.sl.dU q2.ok c3 (by omega) (by omega) (by omega);refine bf (qI hT c1 c2 hV) ?_;rintro d s2 ⟨rfl,q3,q4⟩;have e1:=c3.get q2.ok p1 (by omega);have e2:=q4.get c1 e1 (by omega);refine⟨rfl,by simp [lost,eN.kind,cJ,dE,cE,aI,bz,bz.cV,fZ,bP.ev,Env.get,cP,D.flat,D.isAgg,cL,D.fv,D.beq,az,Obj.aV,bC,bu,D.bV,D.aV,e1,e2], ?_⟩;try refine go ?_
 have y1:=q4.get c1 (c3.get q2.ok q1.gp (by omega)) (by omega);have y2:=q4.get c1 (c3.get q2.ok q1.gm (by omega)) (by omega);have y3:=q4.get (o:=s.n+0) c1 St.aN (by omega);have z1:=q4.n;simp only [St.fE]at z1;refine ai ⟨rfl,s.n+0,by omega,by omega,y3,⟨e2,y1,y2,q3,nd⟩, ?_⟩;refine aC.trans' (W' :=fun j=>j=o\/j=la\/j=ta) (aC.trans' (W' :=fun j=>j=s.n+0) (aC.trans' (W' :=fun j=>j=so\/j=pl) ((aC.refl hs).up 1) q2 ?_) c3 ?_) q4 ?_
 ·rintro j (rfl | rfl) _ <;> simp [bw]
 ·rintro j rfl hj; omega
 ·rintro j (rfl | rfl | rfl) _ <;> simp [bw]
theorem RC (hT:TS T)(hs:s.Ok)(h:bE s so o la ta pl mp P Sh V n lv tk)(hn:n < 2147483648)(hl:lv < 2147483648)(ht:tk < 2147483648)(hV:V.length+1<=aL){kd v:Int}:
  cu T H 41 [.ptr so 0,.int .i64 kd,.int .i64 v] s fun d s1=>d= .int .i64 V.length/\∃ro,s.n<=ro/\ro < s1.n/\s1.get ro=some (.var 193 (.agg [.int .i64 (n+1:Nat),.int .i64 v,.int .i64 kd]))/\bE s1 so o la ta pl mp P Sh (V++ [.ig 154 (.ptr ro 0)]) (n+1) (lv+1) (tk+1)/\aC (bw so o la ta pl) s s1:=by
 have h0:=h;obtain⟨h1,h2,h3,⟨g1,g2,g3,k1,k2,k3⟩,h5⟩:=h0;have l1:=hs.lt h1; have l2:=hs.lt h2; have l3:=hs.lt h3; have l4:=hs.lt g1; have l5:=hs.lt g2; have l6:=hs.lt g3;have nd:=h5;simp only [fm,bS,eZ,kI,kH,dD,fN,iv]at h5;obtain⟨⟨n1,n2,n3,n4,n5⟩,⟨n6,n7,n8,n9⟩,⟨UC,Uu,Vd⟩,⟨UH,T5⟩,T3⟩:=h5;refine ay hT.t41 ?_;try refine go ?_
 refine bf (uj hT (hs.up 1) (h.up 1) hn hl ht) ?_;rintro d s1 ⟨rfl,q1,q2⟩;have f1:(s.up 1).get so=_:=h1;have f2:=q1.go;refine⟨rfl,by simp [lost,eN.kind,cJ,dE,cE,aI,bz,bz.cV,fZ,bP.ev,Env.get,cP,D.flat,D.isAgg,cL,D.fv,D.beq,az,Obj.aV,bC,bu,D.bV,D.aV,f1,f2], ?_⟩;have m1:=q2.n;have m2:=q2.ok;simp only [St.jw]at m1;have m0:s1.get (s.n+0)=none:=by
  rw [q2.same _ (by rw [St.jw]; omega) (by omega)];exact hs.fresh _ (by omega)
 have p1:=q1.go;try refine go ?_
 have c3:=(aC.set (W:=fun j=>j=s.n+0) (aC.refl q2.ok) (.var 193 (.agg [.int .i64 (n+1:Nat),.int .i64 v,.int .i64 kd])) (o:=s.n+0) (by omega) (fun _=>rfl));have c1:=c3.ok;have c2:=q1.sl.dU q2.ok c3 (by omega) (by omega) (by omega);refine bf (qI hT c1 c2 hV) ?_;rintro d s2 ⟨rfl,q3,q4⟩;have e1:=c3.get q2.ok p1 (by omega);have e2:=q4.get c1 e1 (by omega);refine⟨rfl,by simp [lost,eN.kind,cJ,dE,cE,aI,bz,bz.cV,fZ,bP.ev,Env.get,cP,D.flat,D.isAgg,cL,D.fv,D.beq,az,Obj.aV,bC,bu,D.bV,D.aV,e1,e2], ?_⟩;try refine go ?_
 have y1:=q4.get c1 (c3.get q2.ok q1.gp (by omega)) (by omega);have y2:=q4.get c1 (c3.get q2.ok q1.gm (by omega)) (by omega);have y3:=q4.get (o:=s.n+0) c1 St.aN (by omega);have z1:=q4.n;simp only [St.fE]at z1;refine ai ⟨rfl,s.n+0,by omega,by omega,y3,⟨e2,y1,y2,q3,nd⟩, ?_⟩;refine aC.trans' (W' :=fun j=>j=o\/j=la\/j=ta) (aC.trans' (W' :=fun j=>j=s.n+0) (aC.trans' (W' :=fun j=>j=so\/j=pl) ((aC.refl hs).up 1) q2 ?_) c3 ?_) q4 ?_
 ·rintro j (rfl | rfl) _ <;> simp [bw]
 ·rintro j rfl hj; omega
 ·rintro j (rfl | rfl | rfl) _ <;> simp [bw]
theorem Wm (hT:TS T)(hs:s.Ok)(h:bE s so o la ta pl mp P Sh V n lv tk)(ht:tk < 2147483648)(hV:V.length+1<=aL){x:List UInt8}:
  cu T H 36 [.ptr so 0,.str x] s fun d s1=>d= .int .i64 V.length/\bE s1 so o la ta pl mp P Sh (V++ [.ig 110 (.agg [.str x])]) n lv (tk+1)/\aC (bw so o la ta pl) s s1:=by
 have hm:=B7 (H:=H) hT hs h ht;refine ay hT.t36 ?_;try refine go ?_
 refine ak hm ?_;rintro d s1 ⟨q1,q2⟩;have g:=q1.go;have ok1:=q2.ok;try refine go ?_
 refine ak (qI hT ok1 q1.sl hV) ?_;rintro d s2 ⟨rfl,q3,q4⟩;have nd:=q1.nd;simp only [fm,bS,eZ,kI,kH,dD,fN,iv]at nd;obtain⟨⟨n1,n2,n3,n4,n5⟩,⟨n6,n7,n8,n9⟩,⟨UC,Uu,Vd⟩,⟨UH,T5⟩,T3⟩:=nd;try refine go ?_
 refine ai ⟨rfl,⟨q4.get ok1 g (by omega),q4.get ok1 q1.gp (by omega),q4.get ok1 q1.gm (by omega),q3,q1.nd⟩,(q2.mono fun j hj=>by subst hj; simp [bw]).trans (q4.mono fun j hj=> ?_)⟩;rcases hj with rfl | rfl | rfl <;> simp [bw]
theorem VW (hT:TS T)(hs:s.Ok)(h:bE s so o la ta pl mp P Sh V n lv tk)(ht:tk < 2147483648)(hV:V.length+1<=aL){m:Bool×List Nat}{y:D}(hy:Ws s y m.2):
  cu T H 34 [.ptr so 0,.agg [.bool m.1,y]] s fun d s1=>d= .int .i64 V.length/\bE s1 so o la ta pl mp P Sh (V++ [.ig 180 (.agg [.bool m.1,y])]) n lv (tk+1)/\aC (bw so o la ta pl) s s1:=by
 have hm:=B7 (H:=H) hT hs h ht;refine ay hT.t34 ?_;rcases hy.sh with ⟨nl,z,l,rfl⟩ | ⟨o',l,c,rfl⟩
 all_goals
  try refine go ?_
  refine ak hm ?_;rintro d s1 ⟨q1,q2⟩;have g:=q1.go;have ok1:=q2.ok;try refine go ?_
  refine bf (qI hT ok1 q1.sl hV) ?_;rintro d s2 ⟨rfl,q3,q4⟩;refine⟨rfl,by rfl, ?_⟩;have nd:=q1.nd;simp only [fm,bS,eZ,kI,kH,dD,fN,iv]at nd;obtain⟨⟨n1,n2,n3,n4,n5⟩,⟨n6,n7,n8,n9⟩,⟨UC,Uu,Vd⟩,⟨UH,T5⟩,T3⟩:=nd;try refine go ?_
  refine ai ⟨rfl,⟨q4.get ok1 g (by omega),q4.get ok1 q1.gp (by omega),q4.get ok1 q1.gm (by omega),q3,q1.nd⟩,(q2.mono fun j hj=>by subst hj; simp [bw]).trans (q4.mono fun j hj=> ?_)⟩;rcases hj with rfl | rfl | rfl <;> simp [bw]
end
section
variable {T:Nat->Option dS}{H:au}{s:St}{so o la ta pl mp P Sh n lv tk:Nat}{V:List D}
theorem bE.nil {s1:St}(h:bE s so o la ta pl mp P Sh V n lv tk)(hs:s.Ok)(hb:aC Nil s s1):bE s1 so o la ta pl mp P Sh V n lv tk:=h.dU hs hb fun _ _ h=>h
theorem Nv (hS:TS T)(hT:TT T)(hP:TP T)(hs:s.Ok)(h:bE s so o la ta pl mp P Sh V n lv tk)(hn:n < 2147483648)(hl:lv < 2147483648)(ht:tk < 2147483648)(hV:V.length+1<=aL)(hp:P<=65536){kd:Nat}:
  cu T H 78 [.ptr so 0,.int .i64 kd] s fun d s1=>d= .int .i64 V.length/\∃po dv,s.n<=po/\po < s1.n/\s1.get po=some (.var 217 (.agg [.int .i64 (n+1:Nat),.ptr dv 0,.int .i64 kd]))/\
   fC (fun j=>s.n<=j/\j < s1.n) s1 dv P []/\fC (fun j=>s.n<=j/\j < s1.n/\j≠po) s1 dv P []/\bE s1 so o la ta pl mp P Sh (V++ [.ig 152 (.ptr po 0)]) (n+1) (lv+1) (tk+1)/\aC (bw so o la ta pl) s s1:=by
 have g:=h.go;have WZ:=H2 (H:=H) hT hP hs hp;refine ay hS.t78 ?_;try refine go ?_
 refine bf WZ ?_;rintro d s1 ⟨to,dv,co,ro,b,st,C,rfl,h1,h2,h3,h4,h5,h6,h7,h8⟩;refine⟨rfl,by rfl, ?_⟩;have ok1:=h8.ok;have mu:=h.nil hs h8;try refine go ?_
 refine ak (Hc hS ok1 mu hn hl ht hV) ?_;rintro d s2 ⟨rfl,po,p1,p2,p3,p4,p5⟩;have ln:=h8.n; have ln2:=p5.n;have dQ:=fun j (hj:bw so o la ta pl j\/j=mp)=>h.lt hs hj;have nW:∀j,s.n<=j-> ¬ bw so o la ta pl j:=fun j hj hh=>by have:=dQ j (.inl hh); omega
 have l1:=ok1.lt h6; have l2:=ok1.lt h7.go; have l3:=ok1.lt h7.ce.go; have l4:=ok1.lt h7.ce.gr;have d2:fC (fun j=>s.n<=j/\j < s1.n) s1 dv P []:=⟨to,to,co,ro,3,b,st,_,C,0,h6,⟨h7.go,.nil to,h7.ce,h7.la,h7.rm⟩,⟨h2,l1⟩,⟨h1,l2⟩,⟨h1,l2⟩,⟨h3,l3⟩,⟨h4,l4⟩,aR _⟩;have d3:=d2.dU ok1 p5 fun o _ ho=>nW o ho.1;try refine go ?_
 exact ai ⟨rfl,po,dv,by omega,p2,p3,d3.mono fun o ho=>⟨ho.1,by omega⟩,d3.mono fun o ho=>⟨ho.1,by omega,by omega⟩,p4,(h8.mono fun _ h=>h.elim).trans p5⟩
end
section
variable {T:Nat->Option dS}{H:au}{s:St}{so o la ta pl mp P Sh n lv tk:Nat}{V:List D}
@[reducible] def QK (sh P ko mo:Nat):D:= .agg [.int .i64 sh,.int .i64 P,.cT,.ptr ko 0,.vs true 0 [],.mp mo]
theorem Xx (hS:TS T)(hT:TT T)(hs:s.Ok)(hp:P<=65536)(gZ:Sh<=256):
  cu T H 81 [.int .i64 Sh,.int .i64 P,.cT] s fun d s1=>∃fo ko mo,d= .gJ [.ptr fo 0,.int .i64 0]/\s.n<=fo/\s1.get fo=some (.var 241 (QK Sh P ko mo))/\aC Nil s s1:=by
 have hn:=IH (H:=H) hT hs;refine ay hS.t81 ?_;try refine go ?_
 refine ak hn ?_;rintro d s1 ⟨rfl,co,ro,b,st,C,h1,h2,h3,h4,h5,h6⟩;have ok1:=h6.ok;have n1:=h6.n;try refine go ?_
 refine ai ⟨_,_,_,rfl, ?_,St.ba,aC.push (aC.push h6 _) _⟩;rw [St.dN]; omega
theorem N5 (hS:TS T)(hT:TT T)(hP:TP T)(hs:s.Ok)(h:bE s so o la ta pl mp P Sh V n lv tk)(hn:n < 2147483648)(hl:lv < 2147483648)(ht:tk < 2147483648)(hV:V.length+1<=aL)(hp:P<=65536)(gZ:Sh<=256):
  cu T H 39 [.ptr so 0,.str [67],.int .i64 (-1)] s fun d s1=>d= .int .i64 V.length/\∃po dv fo ko mo,s.n<=po/\s.n<=fo/\po≠fo/\s1.get po=some (.var 139 (.agg [.int .i64 (n+1:Nat),.ptr dv 0,.str [67],.int .i64 (-1),.ptr fo 0,.bool false,.bool false]))/\
   s1.get fo=some (.var 241 (QK Sh P ko mo))/\bE s1 so o la ta pl mp P Sh (V++ [.ig 134 (.ptr po 0)]) (n+1) (lv+1) (tk+1)/\aC (bw so o la ta pl) s s1:=by
 have g:=h.go;have WZ:=H2 (H:=H) hT hP hs hp;refine ay hS.t39 ?_;try refine go ?_
 refine bf WZ ?_;rintro d s1 ⟨to,dv,co,ro,b,st,C,rfl,h1,h2,h3,h4,h5,h6,h7,h8⟩;refine⟨rfl,by rfl, ?_⟩;have ok1:=h8.ok;have mu:=h.nil hs h8;have g1:=mu.go;have hfm:=Xx (H:=H) hS hT ok1 hp gZ;try refine go ?_
 refine bf hfm ?_;rintro d s2 ⟨fo,ko,mo,rfl,i1,i2,i3⟩;refine⟨rfl,by rfl, ?_⟩;have ok2:=i3.ok;have tR:=mu.nil ok1 i3;have g2:=tR.go;have ln:=h8.n; have ln2:=i3.n;have lfo:=ok2.lt i2;have dQ:=fun j (hj:bw so o la ta pl j\/j=mp)=>h.lt hs hj;have nW:∀j,s.n<=j-> ¬ bw so o la ta pl j:=fun j hj hh=>by have:=dQ j (.inl hh); omega
 have h0:=tR;obtain⟨u1,u2,u3,⟨v1,v2,v3,k1,k2,k3⟩,u5⟩:=h0;have l1:=ok2.lt u1; have l2:=ok2.lt u2; have l3:=ok2.lt u3; have l4:=ok2.lt v1; have l5:=ok2.lt v2; have l6:=ok2.lt v3;have nd:=u5;simp only [fm,bS,eZ,kI,kH,dD,fN,iv]at u5;obtain⟨⟨n1,n2,n3,n4,n5⟩,⟨n6,n7,n8,n9⟩,⟨UC,Uu,Vd⟩,⟨UH,T5⟩,T3⟩:=u5;try refine go ?_
 refine bf (uj hS (ok2.up 1) (tR.up 1) hn hl ht) ?_;rintro d s3 ⟨rfl,q1,q2⟩;have f1:(s2.up 1).get so=_:=u1;have f2:=q1.go;refine⟨rfl,by simp [lost,eN.kind,cJ,dE,cE,aI,bz,bz.cV,fZ,bP.ev,Env.get,cP,D.flat,D.isAgg,cL,D.fv,D.beq,az,Obj.aV,bC,bu,D.bV,D.aV,f1,f2], ?_⟩;have m1:=q2.n;have m2:=q2.ok;simp only [St.jw]at m1;have m0:s3.get (s2.n+0)=none:=by
  rw [q2.same _ (by rw [St.jw]; omega) (by omega)];exact ok2.fresh _ (by omega)
 have p1:=q1.go;try refine go ?_
 have c3:=(aC.set (W:=fun j=>j=s2.n+0) (aC.refl q2.ok) (.var 139 (.agg [.int .i64 (n+1:Nat),.ptr dv 0,.str [67],.int .i64 (-1),.ptr fo 0,.bool false,.bool false])) (o:=s2.n+0) (by omega) (fun _=>rfl));have c1:=c3.ok;have c2:=q1.sl.dU q2.ok c3 (by omega) (by omega) (by omega);refine bf (qI hS c1 c2 hV) ?_;rintro d s4 ⟨rfl,q3,q4⟩;have e1:=c3.get q2.ok p1 (by omega);have e2:=q4.get c1 e1 (by omega);refine⟨rfl,by simp [lost,eN.kind,cJ,dE,cE,aI,bz,bz.cV,fZ,bP.ev,Env.get,cP,D.flat,D.isAgg,cL,D.fv,D.beq,az,Obj.aV,bC,bu,D.bV,D.aV,e1,e2], ?_⟩;try refine go ?_
 have y1:=q4.get c1 (c3.get q2.ok q1.gp (by omega)) (by omega);have y2:=q4.get c1 (c3.get q2.ok q1.gm (by omega)) (by omega);have y3:=q4.get (o:=s2.n+0) c1 St.aN (by omega);have nfo: ¬ bw so o la ta pl fo:=nW fo (by omega);have y4:=q4.get c1 (c3.get q2.ok (q2.get (ok2.up 1) (St.CA i2) (fun hh=>nfo (by rcases hh with rfl | rfl <;> simp [bw]))) (by omega)) (fun hh=>nfo (by rcases hh with rfl | rfl | rfl <;> simp [bw]));refine ai ⟨rfl,s2.n+0,dv,fo,ko,mo,by omega,by omega,by omega,y3,y4,⟨e2,y1,y2,q3,nd⟩, ?_⟩;refine ((h8.mono fun _ h=>h.elim).trans (i3.mono fun _ h=>h.elim)).trans (aC.trans' (W' :=fun j=>j=o\/j=la\/j=ta) (aC.trans' (W' :=fun j=>j=s2.n+0) (aC.trans' (W' :=fun j=>j=so\/j=pl) ((aC.refl ok2).up 1) q2 ?_) c3 ?_) q4 ?_)
 ·rintro j (rfl | rfl) _ <;> simp [bw]
 ·rintro j rfl hj; omega
 ·rintro j (rfl | rfl | rfl) _ <;> simp [bw]
end
end Go.Proofs.Tab
