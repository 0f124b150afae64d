/- Part. -/
import Derived.Test.YthaiegafejbmoaaGreatDoorG34
set_option linter.unusedSectionVars false
set_option maxRecDepth 100000
set_option maxHeartbeats 4000000
set_option linter.unusedSimpArgs false
set_option linter.unusedVariables false
namespace Go.Proofs.Tab
open Go Go.Ab Go.Ab.Sm
theorem ou.get {s:St}{o l c:Nat}{L:List Int}(h:ou s (.sl o 0 l c) L):s.get o=some (.arr 1 3 (ints L) 0):=by
 generalize hx:D.sl o 0 l c=x at h;cases h with
 | vs nl L hn=>cases hx
 | nil=>cases hx
 | sl o' L h=>
  simp only [D.sl.injEq]at hx;obtain⟨rfl,_⟩:=hx;exact h
section
variable {T:Nat->Option dJ}{H:au}{s:St}{so o la ta pl mp P Sh n lv tk bo i:Nat}{Ds:List D}{Vs:List fE}{F:Nat->Nat->Prop}{tms:List Tm}{t:Tm}{R:List Nat}{x:D}
theorem Jm (hS:TS T)(hT:TT T)(hP:TP T)(hW:TW T)(hV:TV T)(hs:s.Ok)(hp:P<=65536)(cG:aX s so o la ta pl mp P Sh Ds n lv tk)(hn:n < 2147483648)(hl:lv < 2147483648)(ht:tk < 2147483648)(hD:Ds.length+1<=aM)
  (y8:eh P s F Ds Vs)(hF:∀i j,F i j-> ¬ br so o la ta pl j)(hb:kZ s bo so tms x)(hR:Refs s x R)(hRi:R.length=i)(Xn:Mk tms R Vs)(vR:tms[i]? =some t)(lE:∀u∈tms,u.Ok)(hg:mV tms i t)(h7:t.kd=7\/t.kd=8\/t.kd=9)(Sp: ¬ br so o la ta pl bo)(hx:∀q a l c,x= .sl q a l c-> ¬ br so o la ta pl q):
  bY T H 53 [.ptr bo 0,t.d] s fun d s1=>d= .int .i64 Ds.length/\∃dt E,aX s1 so o la ta pl mp P Sh (Ds++ [dt]) (n+1) (lv+1) (tk+1)/\eK P (fun j=>s.n<=j/\j < s1.n) s1 dt (.pC (n+1) t.kd.toNat E)/\pE Ds.length E/\yf Vs P (pA tms Vs t R (er t).length) E/\aH (br so o la ta pl) s s1:=by
 have gb:=hb.go;have lb:=hs.lt gb;have YC:((t.kd.toNat:Nat):Int)=t.kd:=by omega
 have htb:=QA (H:=H) (kd:=t.kd.toNat) hS hT hP hs cG hn hl ht hD (by omega);have hto:=lE t (bG vR);have sD:=hto.kids;have hke:=fun (s' :St) (h' :s'.Ok)=>Cs (H:=H) (t:=t) hS h' hto;have eW:=fun j (hj:br so o la ta pl j\/j=mp)=>cG.lt hs hj;have OF:=hg.even;have UL:=hg.kids;rw [YC]at htb;have uB:=fun (po dv:Nat) (xk:D) (j:Nat) (s' :St) hI (k:Int) hk (v:Int) hv=>qp.put (H:=H) hS hT hP hW hV hs hp cG y8 hF hb hR hRi Xn vR lE hg (by omega) Sp hx (po:=po) (dv:=dv) (xk:=xk) (j:=j) (s' :=s') hI (k:=k) hk (v:=v) hv;have hTI:∀ {po dv:Nat} {xk:D} {j:Nat} {s' :St},qp P Sh s so o la ta pl mp Ds n lv tk po dv Vs tms t R xk j s' ->s'.get bo=some (.var 105 (.agg [.ptr so 0,.vs false 8 (tms.map Tm.d),x]))/\Refs s' x R:=fun hI=>⟨hI.bh.get hs gb Sp,hR.dT hs hI.bh hx⟩;have fin:∀ {po dv:Nat} {xk:D} {s' :St},qp P Sh s so o la ta pl mp Ds n lv tk po dv Vs tms t R xk (er t).length s' ->∃dt E,aX s' so o la ta pl mp P Sh (Ds++ [dt]) (n+1) (lv+1) (tk+1)/\eK P (fun j=>s.n<=j/\j < s'.n) s' dt (.pC (n+1) t.kd.toNat E)/\pE Ds.length E/\yf Vs P (pA tms Vs t R (er t).length) E/\aH (br so o la ta pl) s s' :=by
  rintro po dv xk s' ⟨ok',bh,st,gp,⟨po1,po2⟩,ks,kn,W,E,d1,d2,d3,d4⟩;refine⟨_,E,st,⟨po,dv,rfl,by rw [YC]; exact gp,d1.mono fun j hj=>⟨(d2 j hj).1,(d2 j hj).2.1⟩,po1,po2⟩,d3,d4,bh⟩
 obtain⟨kd,b,ng,n1,ft,tx,n2,kids,gy,sm⟩:=t;refine aD hS.t53 ?_;try refine go ?_
 refine aV htb ?_;rintro d s1 ⟨rfl,po,dv,p1,p2,p3,p4,p5,p6,p7⟩;refine⟨rfl,by rfl, ?_⟩;have ok1:=p7.ok;have Gx:=p7.get hs gb Sp;try refine go ?_
 refine af (cz hS p6 (i:=Ds.length) (by rw [aF (aq _),ef]; rfl)) ?_;rintro d s1 ⟨rfl,rfl⟩;try refine go ?_
 refine af (hke _ ok1) ?_;rintro xk s2 ⟨q1,q2,q3⟩;have En:qp P Sh s so o la ta pl mp Ds n lv tk po dv Vs tms ⟨kd,b,ng,n1,ft,tx,n2,kids,gy,sm⟩ R xk 0 s2:=by
  refine⟨q3.ok,p7.trans (q3.mono fun _ h=>h.elim),p6.nil ok1 q3,q3.get ok1 p3 (fun h=>h),⟨p1,by have:=q3.n; omega⟩,q1,fun o a l c e=>by have:=q2 o a l c e; have:=p7.n; omega,_,[],p5.dT ok1 q3 (fun _ _ _ h=>h),fun o ho=> ?_,fun m e hm=>by simp at hm,.nil⟩;have:=q3.n;exact⟨ho.1,by omega,ho.2.2,fun q a l c e=>by have:=q2 q a l c e; omega⟩
 have Xl:=qB ⟨kd,b,ng,n1,ft,tx,n2,kids,gy,sm⟩;have s9:=fH (er ⟨kd,b,ng,n1,ft,tx,n2,kids,gy,sm⟩);have aaf:=fH kids;generalize hK:er ⟨kd,b,ng,n1,ft,tx,n2,kids,gy,sm⟩=K at *;rcases q1 with ⟨nl,K,Bi⟩ | _ | ⟨ko,K,GH⟩
 ·try refine go ?_
  refine fw K.length (fun j=> [(0,.ptr bo 0),(3,.lv (Tm.d ⟨kd,b,ng,n1,ft,tx,n2,kids,gy,sm⟩)),(5,.int .i64 (Ds.length:Nat)),(6,.ptr po 0),(32,.vs nl 1 (ints K)),(33,.int .i64 ((ints K).length:Nat)),(34,.int .i64 (j:Nat))]) (fun j s' =>qp P Sh s so o la ta pl mp Ds n lv tk po dv Vs tms ⟨kd,b,ng,n1,ft,tx,n2,kids,gy,sm⟩ R (.vs nl 1 (ints K)) j s') En ?_;intro j s3 hj hI;obtain⟨ZG,hR3⟩:=hTI hI;rcases aP j K.length with mw | vO
  ·have hk:K[j]? =some K[j]:=ak mw;have wZ:(ints K)[j]? =some (.int .i64 K[j]):=ints_at hk;have abv:(ints K)[0+j]? =some (.int .i64 K[j]):=by rw [aU]; exact wZ
   by_cases ZN:kd=7
   ·subst ZN;have e7:K=iz kids:=by rw [← hK]; simp [er]
    have el:=nU kids;have hev:=OF rfl;simp only at hev;have h2:2 * j+1 < kids.length:=by rw [e7]at mw; omega
    have pQ:kids[2 * j+1]? =some kids[2 * j+1]:=ak h2;have Xk:(ints kids)[2 * j+1]? =some (.int .i64 kids[2 * j+1]):=ints_at pQ;obtain⟨k0,k1⟩:=UL kids[2 * j+1] (cA h2);rw [aI (by simp)]at k1;obtain⟨q2,J3⟩:∃q2:Nat,kids[2 * j+1]=q2:=⟨kids[2 * j+1].toNat,by omega⟩;have ZQ:R[q2]? =some (R[q2]'(by omega)):=ak (by omega);rw [J3]at Xk;obtain⟨ra,SK,gra,gar,gl⟩:=hR3.at' ZQ;have vQ:=jv R;have Ej:=uB po dv (.vs nl 1 (ints K)) j s3 hI K[j] hk (R[q2]'(by omega):Nat) (by simp only [ei,bZ,pQ,eB,J3,aQ,ZQ]);obtain⟨q,r,hkq,hrq,Ej⟩:=Ej;have w1:IntKind.wrap .i64 (2 * (j:Int))=((2 * j:Nat):Int):=by simp only at sD; rw [wrap_small (by omega) (by omega)]; omega
    have w2:IntKind.wrap .i64 (((2 * j:Nat):Int)+1)=((2 * j+1:Nat):Int):=by simp only at sD; rw [wrap_small (by omega) (by omega)]; omega
    rw [SK]at ZG;try refine go ?_
    simp only [w1,w2];try refine go ?_
    refine af Ej ?_;intro d s4 WW;try refine go ?_
    exact dI mw WW
   ·have Ej:=uB po dv (.vs nl 1 (ints K)) j s3 hI K[j] hk 0 (by simp only [aI ZN]);obtain⟨q,r,hkq,hrq,Ej⟩:=Ej;try refine go ?_
    refine af Ej ?_;intro d s4 WW;try refine go ?_
    exact dI mw WW
  ·obtain rfl:j=K.length:=by omega
   try refine go ?_
   exact ai ⟨rfl,fin hI⟩
 ·try refine go ?_
  refine jw ?_;try refine go ?_
  exact ai ⟨rfl,fin En⟩
 ·try refine go ?_
  refine fw K.length (fun j=> [(0,.ptr bo 0),(3,.lv (Tm.d ⟨kd,b,ng,n1,ft,tx,n2,kids,gy,sm⟩)),(5,.int .i64 (Ds.length:Nat)),(6,.ptr po 0),(32,.sl ko 0 K.length K.length),(33,.int .i64 (K.length:Nat)),(34,.int .i64 (j:Nat))]) (fun j s' =>qp P Sh s so o la ta pl mp Ds n lv tk po dv Vs tms ⟨kd,b,ng,n1,ft,tx,n2,kids,gy,sm⟩ R (.sl ko 0 K.length K.length) j s') En ?_;intro j s3 hj hI;obtain⟨ZG,hR3⟩:=hTI hI;rcases aP j K.length with mw | vO
  ·have hk:K[j]? =some K[j]:=ak mw;have wZ:(ints K)[j]? =some (.int .i64 K[j]):=ints_at hk;have abv:(ints K)[0+j]? =some (.int .i64 K[j]):=by rw [aU]; exact wZ
   have acu:s3.get ko=some (.arr 1 3 (ints K) 0):=by
    have:=hI.ks;rw [hK]at this;exact this.get
   by_cases ZN:kd=7
   ·subst ZN;have e7:K=iz kids:=by rw [← hK]; simp [er]
    have el:=nU kids;have hev:=OF rfl;simp only at hev;have h2:2 * j+1 < kids.length:=by rw [e7]at mw; omega
    have pQ:kids[2 * j+1]? =some kids[2 * j+1]:=ak h2;have Xk:(ints kids)[2 * j+1]? =some (.int .i64 kids[2 * j+1]):=ints_at pQ;obtain⟨k0,k1⟩:=UL kids[2 * j+1] (cA h2);rw [aI (by simp)]at k1;obtain⟨q2,J3⟩:∃q2:Nat,kids[2 * j+1]=q2:=⟨kids[2 * j+1].toNat,by omega⟩;have ZQ:R[q2]? =some (R[q2]'(by omega)):=ak (by omega);rw [J3]at Xk;obtain⟨ra,SK,gra,gar,gl⟩:=hR3.at' ZQ;have vQ:=jv R;have Ej:=uB po dv (.sl ko 0 K.length K.length) j s3 hI K[j] hk (R[q2]'(by omega):Nat) (by simp only [ei,bZ,pQ,eB,J3,aQ,ZQ]);obtain⟨q,r,hkq,hrq,Ej⟩:=Ej;have w1:IntKind.wrap .i64 (2 * (j:Int))=((2 * j:Nat):Int):=by simp only at sD; rw [wrap_small (by omega) (by omega)]; omega
    have w2:IntKind.wrap .i64 (((2 * j:Nat):Int)+1)=((2 * j+1:Nat):Int):=by simp only at sD; rw [wrap_small (by omega) (by omega)]; omega
    rw [SK]at ZG;try refine go ?_
    simp only [w1,w2];try refine go ?_
    refine af Ej ?_;intro d s4 WW;try refine go ?_
    exact dI mw WW
   ·have Ej:=uB po dv (.sl ko 0 K.length K.length) j s3 hI K[j] hk 0 (by simp only [aI ZN]);obtain⟨q,r,hkq,hrq,Ej⟩:=Ej;try refine go ?_
    refine af Ej ?_;intro d s4 WW;try refine go ?_
    exact dI mw WW
  ·obtain rfl:j=K.length:=by omega
   try refine go ?_
   exact ai ⟨rfl,fin hI⟩
end
inductive iv (P:Nat)(tms:List Tm)(Vs:List fE)(R:List Nat)(t:Tm)(n:Nat):List fE->Nat->Nat->Prop
 | none (h:t.kd=1):iv P tms Vs R t n [] 0 n
 | bool (h:t.kd=2):iv P tms Vs R t n [] (if t.b then 2 else 1) n
 | int (h:t.kd=3):iv P tms Vs R t n [.int (db t.ng t.ft)] Vs.length n
 | str (h:t.kd=4):iv P tms Vs R t n [.str t.tx] Vs.length n
 | row (h:t.kd=5\/t.kd=6):iv P tms Vs R t n [.row (n+1) t.kd.toNat (List.replicate t.kids.length 0)] Vs.length (n+1)
 | pC (h:t.kd=7\/t.kd=8\/t.kd=9) (E:List dY) (hk:pE Vs.length E) (hp:yf Vs P (pA tms Vs t R (er t).length) E):iv P tms Vs R t n [.pC (n+1) t.kd.toNat E] Vs.length (n+1)
 | inst (h:t.kd=14):iv P tms Vs R t n [.cls (n+1) t.hs t.sm,.inst (n+2) Vs.length] (Vs.length+1) (n+2)
 | view (h:t.kd=15\/t.kd=16\/t.kd=17) (k:Int) (hk:t.kids=[k]) (r:Nat) (hr:R[k.toNat]? =some r):iv P tms Vs R t n [.view (n+1) t.kd.toNat r] Vs.length (n+1)
structure lJ (P Sh:Nat)(s:St)(so o la ta pl mp n lv tk bo:Nat)(Ds:List D)(Vs:List fE)(F:Nat->Nat->Prop)(tms:List Tm)(R:List Nat)(x:D):Prop where
 ok:s.Ok
 pb:P<=65536
 sb:Sh<=256
 st:aX s so o la ta pl mp P Sh Ds n lv tk
 nb:n < 1000000000
 lb:lv < 1000000000
 tb:tk < 1000000000
 ds:Ds.length < 1000000000
 vs:eh P s F Ds Vs
 hF:∀i j,F i j-> ¬ br so o la ta pl j/\j≠bo/\∀q a l c,x= .sl q a l c->j≠q
 bl:kZ s bo so tms x
 rf:Refs s x R
 md:Mk tms R Vs
 b0: ¬ br so o la ta pl bo/\bo≠mp
 x0:∀q a l c,x= .sl q a l c-> ¬ br so o la ta pl q/\q≠mp/\q≠bo
 tm:∀u∈tms,u.Ok
def jL (P Sh:Nat)(s:St)(so o la ta pl mp n lv tk:Nat)(Ds:List D)(Vs:List fE)(F:Nat->Nat->Prop)(tms:List Tm)(t:Tm)(R:List Nat)(d:D)(s1:St):Prop:=
 ∃Dn Vn r n' tk' F',iv P tms Vs R t n Vn r n' /\d= .int .i64 (r:Nat)/\aX s1 so o la ta pl mp P Sh (Ds++Dn) n' (lv+(n' - n)) tk' /\tk' <=tk+2/\eh P s1 F' (Ds++Dn) (Vs++Vn)/\(∀i j,F' i j->F i j\/s.n<=j\/Dj s1 j)/\aH (br so o la ta pl) s s1
section
variable {P Sh:Nat}{s s1:St}{so o la ta pl mp n lv tk bo:Nat}{Ds:List D}{Vs:List fE}{F:Nat->Nat->Prop}{tms:List Tm}{t:Tm}{R:List Nat}{x d:D}
theorem jL.zero (h:lJ P Sh s so o la ta pl mp n lv tk bo Ds Vs F tms R x){r:Nat}(hm:iv P tms Vs R t n [] r n):jL P Sh s so o la ta pl mp n lv tk Ds Vs F tms t R (.int .i64 (r:Nat)) s:=by
 refine⟨[],[],r,n,tk,F,hm,rfl, ?_,by omega, ?_,fun i j h=> .inl h,aH.refl h.ok⟩
 ·rw [de,ef]; exact h.st
 ·rw [de,de]; exact h.vs
theorem jL.one (h:lJ P Sh s so o la ta pl mp n lv tk bo Ds Vs F tms R x){v:fE}{dv:D} {n' tk' :Nat}{G:Nat->Prop}(hm:iv P tms Vs R t n [v] Vs.length n')(cG:aX s1 so o la ta pl mp P Sh (Ds++ [dv]) n' (lv+(n' - n)) tk')(ht:tk' <=tk+2)(hv:eK P G s1 dv v)(hG:∀o,G o->(s.n<=o/\o < s1.n)\/Dj s1 o)(hb:aH (br so o la ta pl) s s1):
  jL P Sh s so o la ta pl mp n lv tk Ds Vs F tms t R (.int .i64 (Ds.length:Nat)) s1:=by
 have y8:=h.vs.snoc h.ok hb (fun i j hj=>(h.hF i j hj).1) hv hG;refine⟨[dv],[v],Vs.length,n',tk',_,hm,by rw [h.vs.ln],cG,ht,y8,fun i j hj=> ?_,hb⟩;simp only [more]at hj;split at hj
 ·rcases hG j hj with h1 | h1
  ·exact .inr (.inl h1.1)
  ·exact .inr (.inr h1)
 ·exact .inl hj
end
section
variable {T:Nat->Option dJ}{H:au}{P Sh:Nat}{s:St}{so o la ta pl mp n lv tk bo:Nat}{Ds:List D}{Vs:List fE}{F:Nat->Nat->Prop}{tms:List Tm}{t:Tm}{R:List Nat}{x:D}
theorem S7 (hS:TS T)(h:lJ P Sh s so o la ta pl mp n lv tk bo Ds Vs F tms R x)(h1:t.kd=1):bY T H 29 [.ptr bo 0,t.d] s (jL P Sh s so o la ta pl mp n lv tk Ds Vs F tms t R):=by
 have hr:=jL.zero h (iv.none h1);obtain⟨kd,b,ng,n1,ft,tx,n2,kids,gy,sm⟩:=t;simp only at h1; subst h1;refine aD hS.t29 ?_;try refine go ?_
 exact ai hr
theorem S5 (hS:TS T)(h:lJ P Sh s so o la ta pl mp n lv tk bo Ds Vs F tms R x)(h1:t.kd=2):bY T H 29 [.ptr bo 0,t.d] s (jL P Sh s so o la ta pl mp n lv tk Ds Vs F tms t R):=by
 have hr:=jL.zero h (iv.bool h1);obtain⟨kd,b,ng,n1,ft,tx,n2,kids,gy,sm⟩:=t;simp only at h1; subst h1;refine aD hS.t29 ?_;cases b
 ·repeat' first | refine go ?_ | refine eD hS.t48 ?_
  exact ai hr
 ·repeat' first | refine go ?_ | refine eD hS.t48 ?_
  exact ai hr
theorem XM (hS:TS T)(h:lJ P Sh s so o la ta pl mp n lv tk bo Ds Vs F tms R x)(ho:t.Ok)(h1:t.kd=4):bY T H 29 [.ptr bo 0,t.d] s (jL P Sh s so o la ta pl mp n lv tk Ds Vs F tms t R):=by
 have pk:=h.ds; have Rj:=h.tb; have hs:=h.ok;have cG:=Yc (H:=H) (x:=t.tx) hS h.ok h.st (by omega) (by simp only [aM]; omega);have Ie:=ho.tx;have hm:iv P tms Vs R t n [.str t.tx] Vs.length n:=iv.str h1;have gb:=h.bl.go
 have key:∀ {s1:St},aX s1 so o la ta pl mp P Sh (Ds++ [.eM 177 (.agg [.str t.tx])]) n lv (tk+1)->aH (br so o la ta pl) s s1->jL P Sh s so o la ta pl mp n lv tk Ds Vs F tms t R (.int .i64 (Ds.length:Nat)) s1:=fun q1 q2=>
  jL.one h (G:=fun _=>False) hm (by rw [ef]; exact q1) (by omega) ⟨rfl,by omega⟩ (fun _ h=>h.elim) q2
 obtain⟨kd,b,ng,n1,ft,tx,n2,kids,gy,sm⟩:=t;simp only at h1; subst h1;refine aD hS.t29 ?_;try refine go ?_
 refine aV cG ?_;rintro d s1 ⟨rfl,q1,q2⟩;refine⟨rfl,by rfl, ?_⟩;try refine go ?_
 exact ai (key q1 q2)
theorem XK (hS:TS T)(hW:TW T)(h:lJ P Sh s so o la ta pl mp n lv tk bo Ds Vs F tms R x)(ho:t.Ok)(h1:t.kd=3):bY T H 29 [.ptr bo 0,t.d] s (jL P Sh s so o la ta pl mp n lv tk Ds Vs F tms t R):=by
 have pk:=h.ds; have Rj:=h.tb; have hs:=h.ok;have abB:=ho.ft;have JY:=rE t.ng t.ft;have abq:(db t.ng t.ft).2.length<=100000000:=by omega
 have hf:=Fe (H:=H) (n:=(t.ng,t.ft)) hW h.ok ⟨_,rfl,.vs t.n1 t.ft ho.n1⟩ (by simp only [aM]; omega);have hm:iv P tms Vs R t n [.int (db t.ng t.ft)] Vs.length n:=iv.int h1;have gb:=h.bl.go;obtain⟨kd,b,ng,n1,ft,tx,n2,kids,gy,sm⟩:=t;simp only at h1 hf; subst h1;refine aD hS.t29 ?_;try refine go ?_
 refine aV hf ?_;rintro d s1 ⟨⟨y,rfl,hy⟩,b1⟩;have Gx:=b1.get h.ok gb (fun h=>h);have ok1:=b1.ok;refine⟨rfl,by simp [lost,eE.kind,cF,dG,cl,aJ,bD,bD.cL,gF,bO.ev,Env.get,cQ,D.flat,D.isAgg,cK,D.fC,D.beq,aA,Obj.a8,bH,bC,D.bU,D.a8,gb,Gx], ?_⟩;have qY:=XE (H:=H) (m:=db ng ft) hS b1.ok (h.st.nil h.ok b1) (by omega) (by simp only [aM]; omega) hy
 have key:∀ {s2:St},aX s2 so o la ta pl mp P Sh (Ds++ [.eM 175 (.agg [.bool (db ng ft).1,y])]) n lv (tk+1)->aH (br so o la ta pl) s1 s2->jL P Sh s so o la ta pl mp n lv tk Ds Vs F tms ⟨3,b,ng,n1,ft,tx,n2,kids,gy,sm⟩ R (.int .i64 (Ds.length:Nat)) s2:=fun {s2} q1 q2=>by
  have hnW:∀o' a l c,y= .sl o' a l c-> ¬ br so o la ta pl o' :=fun q a l c e hh=>by
   subst e;rcases hy with _ | _ | ⟨_,_,_,_,hg,_⟩;have Aa:=h.st.nil h.ok b1;rcases hh with e | e | e | e | e <;> rw [e]at hg
   ·rw [Aa.go]at hg; cases hg
   ·rw [Aa.sl.go]at hg; cases hg
   ·rw [Aa.sl.gl]at hg; simp at hg
   ·rw [Aa.sl.gt]at hg; simp at hg
   ·rw [Aa.gp]at hg; cases hg
  have y9:=hy.RF b1.ok q2 hnW;refine jL.one h (G:=Dj s2) hm (by rw [ef]; exact q1) (by omega) ⟨y,rfl,y9,fun q a l c e=> ?_,abq⟩ (fun _ h=> .inr h) ((b1.mono fun _ h=>h.elim).trans q2);subst e;rcases y9 with _ | _ | ⟨_,_,_,_,hg,_⟩;exact⟨_,_,hg⟩
 rcases hy.sh with ⟨nl,z,l,rfl⟩ | ⟨o',l,c,rfl⟩
 all_goals
  try refine go ?_
  refine aV qY ?_;rintro d s2 ⟨rfl,q1,q2⟩;refine⟨rfl,by rfl, ?_⟩;try refine go ?_
  exact ai (key q1 q2)
end
section
variable {T:Nat->Option dJ}{H:au}{P Sh:Nat}{s:St}{so o la ta pl mp n lv tk bo i:Nat}{Ds:List D}{Vs:List fE}{F:Nat->Nat->Prop}{tms:List Tm}{t:Tm}{R:List Nat}{x:D}
theorem XL (hS:TS T)(h:lJ P Sh s so o la ta pl mp n lv tk bo Ds Vs F tms R x)(ho:t.Ok)(h1:t.kd=5\/t.kd=6):bY T H 29 [.ptr bo 0,t.d] s (jL P Sh s so o la ta pl mp n lv tk Ds Vs F tms t R):=by
 have pk:=h.ds; have Rj:=h.tb; have UO:=h.nb; have Eh:=h.lb;have sD:=ho.kids;have hs:=h.ok;have hm:iv P tms Vs R t n [.row (n+1) t.kd.toNat (List.replicate t.kids.length 0)] Vs.length (n+1):=iv.row h1;have YC:((t.kd.toNat:Nat):Int)=t.kd:=by omega
 have gb:=h.bl.go;have lb:=hs.lt gb;have eW:=fun j (hj:br so o la ta pl j\/j=mp)=>h.st.lt hs hj
 have key:∀ {s2:St} {ro:Nat},s.n<=ro->ro < s2.n->s2.get ro=some (.var 111 (.agg [.int .i64 (n+1:Nat),.sl (s.n+0) 0 (ints t.kids).length (ints t.kids).length,.int .i64 t.kd]))->s2.get (s.n+0)=some (.arr 1 3 (List.replicate (ints t.kids).length (.int .i64 0)) 0)->s.n+0 < s2.n->
   aX s2 so o la ta pl mp P Sh (Ds++ [.eM 107 (.ptr ro 0)]) (n+1) (lv+1) (tk+1)->aH (br so o la ta pl) s s2->jL P Sh s so o la ta pl mp n lv tk Ds Vs F tms t R (.int .i64 (Ds.length:Nat)) s2:=fun {s2 ro} r1 r2 r3 r4 r5 q1 q2=>by
  refine jL.one h (G:=fun j=>s.n<=j/\j < s2.n) hm (by rw [show n+1 - n=1 by omega]; exact q1) (by omega) ⟨ro,s.n+0,0,rfl, ?_, ?_,cH _,⟨r1,r2⟩,by omega,r5⟩ (fun _ h=> .inl h) q2
  ·rw [YC,cM,← fH t.kids]; exact r3
  ·rw [fH]at r4;rw [r4,ints,kR]
 obtain⟨kd,b,ng,n1,ft,tx,n2,kids,gy,sm⟩:=t;have s9:=fH kids;simp only at h1 sD key;refine aD hS.t29 ?_;rcases h1 with rfl | rfl
 all_goals
  try refine go ?_
  refine qw (dl:= .int .i64 ((ints kids).length:Nat)) (dc:= .int .i64 ((ints kids).length:Nat)) ll ll (aq _) (by omega) (by simp only [aM]; omega) ?_;try refine go ?_
  have c3:aH Nil s ((s.up 1).bn (s.n+0) (.arr 1 3 (List.replicate (ints kids).length (.int .i64 0)) 0)):=aH.set ((aH.refl hs).up 1) _ (by rw [St.iK]; omega) (fun hh=>by omega);have c1:=c3.ok;refine aV (X8 hS c1 (h.st.nil hs c3) (by omega) (by omega) (by omega) (by simp only [aM]; omega)) ?_;rintro d s2 ⟨rfl,ro,r1,r2,r3,r4,r5⟩;have e1:=c3.get hs gb (fun hj=>hj);have e2:=r5.get c1 e1 h.b0.1;refine⟨rfl,by simp [lost,eE.kind,cF,dG,cl,aJ,bD,bD.cL,gF,bO.ev,Env.get,cQ,D.flat,D.isAgg,cK,D.fC,D.beq,aA,Obj.a8,bH,bC,D.bU,D.a8,e1,e2], ?_⟩;try refine go ?_
  have z1:=r5.n;simp only [St.ej,St.iK]at z1 r1;have e3:=r5.get (o:=s.n+0) c1 St.aG (fun hh=>by have:=eW (s.n+0) (.inl hh); omega);exact ai (key (by omega) r2 r3 e3 (by omega) r4 ((c3.mono fun _ h=>h.elim).trans r5))
theorem XN (hS:TS T)(hT:TT T)(hP:TP T)(hW:TW T)(hV:TV T)(h:lJ P Sh s so o la ta pl mp n lv tk bo Ds Vs F tms R x)(vR:tms[R.length]? =some t)(hg:mV tms R.length t)(h1:t.kd=7\/t.kd=8\/t.kd=9):bY T H 29 [.ptr bo 0,t.d] s (jL P Sh s so o la ta pl mp n lv tk Ds Vs F tms t R):=by
 have pk:=h.ds; have Rj:=h.tb; have UO:=h.nb; have Eh:=h.lb;have Yy:=Jm (H:=H) hS hT hP hW hV h.ok h.pb h.st (by omega) (by omega) (by omega) (by simp only [aM]; omega) h.vs (fun i j hj=>(h.hF i j hj).1) h.bl h.rf rfl h.md vR h.tm hg h1 h.b0.1 (fun q a l c e=>(h.x0 q a l c e).1);have o8:∀ {s1:St},(∃dt E,aX s1 so o la ta pl mp P Sh (Ds++ [dt]) (n+1) (lv+1) (tk+1)/\eK P (fun j=>s.n<=j/\j < s1.n) s1 dt (.pC (n+1) t.kd.toNat E)/\pE Ds.length E/\yf Vs P (pA tms Vs t R (er t).length) E/\aH (br so o la ta pl) s s1)->jL P Sh s so o la ta pl mp n lv tk Ds Vs F tms t R (.int .i64 (Ds.length:Nat)) s1:=by
  rintro s1 ⟨dt,E,q1,q2,q3,q4,q5⟩;exact jL.one h (iv.pC h1 E (by rw [← h.vs.ln]; exact q3) q4) (by rw [show n+1 - n=1 by omega]; exact q1) (by omega) q2 (fun _ h=> .inl h) q5
 obtain⟨kd,b,ng,n1,ft,tx,n2,kids,gy,sm⟩:=t;simp only at h1 Yy o8;refine aD hS.t29 ?_;rcases h1 with rfl | rfl | rfl
 all_goals
  try refine go ?_
  refine af Yy ?_;rintro d s1 ⟨rfl,hq⟩;try refine go ?_
  exact ai (o8 hq)
theorem S8 (hS:TS T)(h:lJ P Sh s so o la ta pl mp n lv tk bo Ds Vs F tms R x)(hg:mV tms R.length t)(h1:t.kd=15\/t.kd=16\/t.kd=17):bY T H 29 [.ptr bo 0,t.d] s (jL P Sh s so o la ta pl mp n lv tk Ds Vs F tms t R):=by
 have pk:=h.ds; have Rj:=h.tb; have UO:=h.nb; have Eh:=h.lb;have hs:=h.ok;have gb:=h.bl.go;have ql:=hg.view (by omega);have Am:=hg.kids;have YC:((t.kd.toNat:Nat):Int)=t.kd:=by omega
 obtain⟨k,hk⟩:∃k,t.kids=[k]:=List.length_eq_one_iff.mp ql;obtain⟨k0,k2⟩:=Am k (by rw [hk]; simp);rw [aI (by omega)]at k2;obtain⟨q,rfl⟩:∃q:Nat,k=q:=⟨k.toNat,by omega⟩;have hq:R[q]? =some (R[q]'(by omega)):=ak (by omega);have hm:=iv.view (P:=P) (tms:=tms) (Vs:=Vs) (n:=n) h1 q hk (R[q]'(by omega)) (by rw [aQ]; exact hq);obtain⟨ra,SK,gra,gar,gl⟩:=h.rf.at' hq;have vQ:=jv R;generalize R[q]'(by omega)=r at hm gar;have hvw:=T9 (H:=H) (kd:=t.kd) (v:=(r:Nat)) hS hs h.st (by omega) (by omega) (by omega) (by simp only [aM]; omega);have o8:∀ {s1:St},(∃ro,s.n<=ro/\ro < s1.n/\s1.get ro=some (.var 191 (.agg [.int .i64 (n+1:Nat),.int .i64 (r:Nat),.int .i64 t.kd]))/\aX s1 so o la ta pl mp P Sh (Ds++ [.eM 189 (.ptr ro 0)]) (n+1) (lv+1) (tk+1)/\aH (br so o la ta pl) s s1)->jL P Sh s so o la ta pl mp n lv tk Ds Vs F tms t R (.int .i64 (Ds.length:Nat)) s1:=by
  rintro s1 ⟨ro,q1,q2,q3,q4,q5⟩;exact jL.one h (G:=fun j=>s.n<=j/\j < s1.n) hm (by rw [show n+1 - n=1 by omega]; exact q4) (by omega) ⟨ro,rfl,by rw [YC]; exact q3,q1,q2⟩ (fun _ h=> .inl h) q5
 obtain⟨kd,b,ng,n1,ft,tx,n2,kids,gy,sm⟩:=t;simp only at h1 hvw o8 hk;subst hk;rw [SK]at gb;have wZ:(ints [(q:Int)])[0]? =some (.int .i64 (q:Nat)):=rfl;refine aD hS.t29 ?_;rcases h1 with rfl | rfl | rfl
 all_goals
  try refine go ?_
  refine aV hvw ?_;rintro d s1 ⟨rfl,hq⟩;refine⟨rfl,by rfl, ?_⟩;try refine go ?_
  exact ai (o8 hq)
end
section
variable {T:Nat->Option dJ}{H:au}{P Sh:Nat}{s:St}{so o la ta pl mp n lv tk bo i:Nat}{Ds:List D}{Vs:List fE}{F:Nat->Nat->Prop}{tms:List Tm}{t:Tm}{R:List Nat}{x:D}
theorem S6 (hS:TS T)(hT:TT T)(hP:TP T)(h:lJ P Sh s so o la ta pl mp n lv tk bo Ds Vs F tms R x)(h1:t.kd=14):bY T H 29 [.ptr bo 0,t.d] s (jL P Sh s so o la ta pl mp n lv tk Ds Vs F tms t R):=by
 have pk:=h.ds; have Rj:=h.tb; have UO:=h.nb; have Eh:=h.lb; have YI:=h.pb;have hs:=h.ok;have gb:=h.bl.go;have hm:iv P tms Vs R t n [.cls (n+1) t.hs t.sm,.inst (n+2) Vs.length] (Vs.length+1) (n+2):=iv.inst h1;have eW:=fun j (hj:br so o la ta pl j\/j=mp)=>h.st.lt hs hj;have nW:∀j,s.n<=j-> ¬ br so o la ta pl j:=fun j hj hh=>by have:=eW j (.inl hh); omega
 have Oy:=NG (H:=H) hS hT hP hs h.st (by omega) (by omega) (by omega) (by simp only [aM]; omega) (by omega) h.sb;obtain⟨kd,b,ng,n1,ft,tx,n2,kids,gy,sm⟩:=t;simp only at h1 hm; subst h1;refine aD hS.t29 ?_;try refine go ?_
 refine af Oy ?_;rintro d s1 ⟨rfl,po,dv,fo,ko,mo,p1,p2,p3,p4,p5,p6,p7⟩;have ok1:=p7.ok;have Gx:=p7.get hs gb h.b0.1;have lpo:=ok1.lt p4;have n1' :=p7.n;try refine go ?_
 refine af (cz hS p6 (i:=Ds.length) (by rw [aF (aq _),ef]; rfl)) ?_;rintro d s1 ⟨rfl,rfl⟩;have lb1:=ok1.lt Gx;have nbp:bo≠po:=by have:=hs.lt gb; omega
 try refine go ?_
 obtain⟨s2,o7⟩:∃s2,s2=(s1.bn po (.var 142 (.agg [.int .i64 (n+1:Nat),.ptr dv 0,.str [67],.int .i64 (-1),.ptr fo 0,.bool gy,.bool false]))).bn po (.var 142 (.agg [.int .i64 (n+1:Nat),.ptr dv 0,.str [67],.int .i64 (-1),.ptr fo 0,.bool gy,.bool sm])):=⟨_,rfl⟩;have b2:aH (fun j=>j=po) s1 s2:=by rw [o7]; exact aH.set (W:=fun j=>j=po) (aH.set (W:=fun j=>j=po) (aH.refl ok1) _ lpo (fun _=>rfl)) _ lpo (fun _=>rfl)
 have g2:s2.get po=some (.var 142 (.agg [.int .i64 (n+1:Nat),.ptr dv 0,.str [67],.int .i64 (-1),.ptr fo 0,.bool gy,.bool sm])):=by rw [o7]; exact St.aG
 show Sm.Call T H _ _ _ _ _ _ _ ((s1.bn po (.var 142 (.agg [.int .i64 (n+1:Nat),.ptr dv 0,.str [67],.int .i64 (-1),.ptr fo 0,.bool gy,.bool false]))).bn po (.var 142 (.agg [.int .i64 (n+1:Nat),.ptr dv 0,.str [67],.int .i64 (-1),.ptr fo 0,.bool gy,.bool sm]))) _;rw [← o7];have ok2:=b2.ok;have ZH:=b2.get ok1 p5 (fun e=>p3 e.symm);have xh:=p6.dT ok1 b2 fun j hj e=>by have:=eW j hj; omega
 have qY:=Em (H:=H) hS ok2 xh (by omega) (by omega) (by omega) (by rw [an]; simp only [aM,aC]; omega) (c:=Ds.length) (by rw [aF (aq _),ef]; rfl) g2 ZH (nW _ p1) (nW _ p2);refine af qY ?_;rintro d s3 ⟨rfl,io,sp,ro,i1,i2,i3,i4,i5,i6,i7,i8⟩;have b02:aH (br so o la ta pl) s s2:=p7.trans' b2 fun j e hl=>by exfalso; omega
 have n2' :=b2.n; have n3' :=i8.n;have ok3:=i8.ok;have lfo:=ok2.lt ZH;have v1:=h.vs.snoc hs b02 (fun i j hj=>(h.hF i j hj).1) (G:=fun j=>s.n<=j/\j < s2.n) (d:= .eM 138 (.ptr po 0)) (v:= .cls (n+1) gy sm) ⟨po,dv,fo,rfl,g2,⟨p1,by omega⟩,⟨p2,lfo⟩,Sh,ko,mo,ZH⟩ (fun _ h=> .inl h)
 have hF1:∀i j,more F Ds.length (fun j=>s.n<=j/\j < s2.n) i j-> ¬ br so o la ta pl j:=fun i j hj=>by
  simp only [more]at hj;split at hj
  ·exact nW j hj.1
  ·exact (h.hF i j hj).1
 have qx:=h.vs.ln;have i4:=qx ▸ i4;have l4:=ok3.lt i4; have l5:=ok3.lt i5; have l6:=ok3.lt i6;have v2:=v1.snoc ok2 i8 hF1 (G:=fun j=>s2.n<=j/\j < s3.n) (d:= .eM 184 (.ptr io 0)) (v:= .inst (n+2) Vs.length) ⟨io,sp,rfl,i4,⟨i1,l4⟩,⟨i2,l5⟩,fo,ro,i5,i6,⟨i3,l6⟩⟩ (fun _ h=> .inl h);try refine go ?_
 refine ai ⟨[.eM 138 (.ptr po 0),.eM 184 (.ptr io 0)],[.cls (n+1) gy sm,.inst (n+2) Vs.length],Vs.length+1,n+2,tk+1+1,more (more F Ds.length (fun j=>s.n<=j/\j < s2.n)) (Ds++ [D.eM 138 (.ptr po 0)]).length (fun j=>s2.n<=j/\j < s3.n),hm, ?_, ?_,by omega, ?_,fun i j hj=> ?_,b02.trans i8⟩;rotate_left
 ·rw [show lv+(n+2 - n)=lv+1+1 by omega,show Ds++ [D.eM 138 (.ptr po 0),.eM 184 (.ptr io 0)]=Ds++ [D.eM 138 (.ptr po 0)]++ [.eM 184 (.ptr io 0)] by simp];exact i7
 ·rw [show Ds++ [D.eM 138 (.ptr po 0),.eM 184 (.ptr io 0)]=Ds++ [D.eM 138 (.ptr po 0)]++ [.eM 184 (.ptr io 0)] by simp,show Vs++ [fE.cls (n+1) gy sm,.inst (n+2) Vs.length]=Vs++ [fE.cls (n+1) gy sm]++ [.inst (n+2) Vs.length] by simp];exact v2
 ·simp only [more]at hj;split at hj
  ·right; left; omega
  ·split at hj
   ·right; left; omega
   ·exact .inl hj
 ·show D.int .i64 (((Ds++ [D.eM 138 (.ptr po 0)]).length:Nat):Int)=_;rw [an,aC,qx]
theorem Ps (hS:TS T)(hT:TT T)(hP:TP T)(hW:TW T)(hV:TV T)(h:lJ P Sh s so o la ta pl mp n lv tk bo Ds Vs F tms R x)(vR:tms[R.length]? =some t)(hg:mV tms R.length t):bY T H 29 [.ptr bo 0,t.d] s (jL P Sh s so o la ta pl mp n lv tk Ds Vs F tms t R):=by
 have ho:=h.tm t (bG vR);have hk:=hg.kind;by_cases h1:t.kd=1
 ·exact S7 hS h h1
 by_cases h2:t.kd=2
 ·exact S5 hS h h2
 by_cases h3:t.kd=3
 ·exact XK hS hW h ho h3
 by_cases h4:t.kd=4
 ·exact XM hS h ho h4
 by_cases h5:t.kd=5\/t.kd=6
 ·exact XL hS h ho h5
 by_cases h7:t.kd=7\/t.kd=8\/t.kd=9
 ·exact XN hS hT hP hW hV h vR hg h7
 by_cases h14:t.kd=14
 ·exact S6 hS hT hP h h14
 ·exact S8 hS h hg (by omega)
end
def mc (kd:Int):Prop:=(1<=kd/\kd<=9)\/(14<=kd/\kd<=17)
def IsKey (u:Tm):Prop:=(1<=u.kd/\u.kd<=4)\/(u.kd=14/\(u.hs=true\/u.sm=false))
theorem IsKey.tm {u:Tm}(h:IsKey u):Dh u:=by unfold IsKey at h; unfold Dh; omega
section
variable {T:Nat->Option dJ}{H:au}{s:St}
theorem J8 (hS:TS T){kd:Int}:bY T H 44 [.int .i64 kd] s fun d s1=>(∃b,d= .bool b/\(b=true↔mc kd))/\s1=s:=by
 refine aD hS.t44 ?_;by_cases h1:1<=kd
 ·by_cases h2:kd<=9
  ·try refine go ?_
   exact ai ⟨⟨true,rfl,by simp only [mc,true_iff]; omega⟩,rfl⟩
  ·by_cases h3:kd=14
   ·try refine go ?_
    exact ai ⟨⟨true,rfl,by simp only [mc,true_iff]; omega⟩,rfl⟩
   ·by_cases h4:15<=kd
    ·by_cases h5:kd<=17
     ·try refine go ?_
      exact ai ⟨⟨true,rfl,by simp only [mc,true_iff]; omega⟩,rfl⟩
     ·try refine go ?_
      exact ai ⟨⟨false,rfl,by simp only [mc,cR,false_iff]; omega⟩,rfl⟩
    ·try refine go ?_
     exact ai ⟨⟨false,rfl,by simp only [mc,cR,false_iff]; omega⟩,rfl⟩
 ·have h3:kd≠14:=by omega
  try refine go ?_
  exact ai ⟨⟨false,rfl,by simp only [mc,cR,false_iff]; omega⟩,rfl⟩
theorem Eo (hS:TS T){t:Tm}:bY T H 82 [t.d] s fun d s1=>(∃b,d= .bool b/\(b=true↔IsKey t))/\s1=s:=by
 unfold IsKey;obtain⟨kd,b,ng,n1,ft,tx,n2,kids,gy,sm⟩:=t;refine aD hS.t82 ?_;by_cases h1:1<=kd
 ·by_cases h2:kd<=4
  ·try refine go ?_
   exact ai ⟨⟨true,rfl,by simp only [true_iff]; omega⟩,rfl⟩
  ·by_cases h3:kd=14
   ·subst h3;cases gy
    ·cases sm
     ·try refine go ?_
      exact ai ⟨⟨true,rfl,by simp⟩,rfl⟩
     ·try refine go ?_
      exact ai ⟨⟨false,rfl,by simp⟩,rfl⟩
    ·try refine go ?_
     exact ai ⟨⟨true,rfl,by simp⟩,rfl⟩
   ·try refine go ?_
    exact ai ⟨⟨false,rfl,by simp only [cR,false_iff]; omega⟩,rfl⟩
 ·have h3:kd≠14:=by omega
  try refine go ?_
  exact ai ⟨⟨false,rfl,by simp only [cR,false_iff]; omega⟩,rfl⟩
end
end Go.Proofs.Tab
