/- Part. -/
import Derived.Test.YtjaldhgmboeffaaGreatDoorG32
set_option linter.unusedSimpArgs false
set_option linter.unusedVariables false
set_option linter.unusedSectionVars false
set_option maxRecDepth 100000
set_option maxHeartbeats 4000000
namespace Go.Proofs.Tab
open Go Go.Ab Go.Ab.Sm
theorem o9.get {s:St}{o l c:Nat}{L:List Int}(h:o9 s (.sl o 0 l c) L):s.get o=some (.arr 1 3 (ints L) 0):=by
 generalize hx:D.sl o 0 l c=x at h;cases h with
 | vs nl L hn=>cases hx
 | nil=>cases hx
 | sl o' L h=>
  simp only [D.sl.injEq]at hx;obtain⟨rfl,_⟩:=hx;exact h
section
variable {T:Nat->Option dU}{H:ay}{s:St}{so o la ta pl mp P Sh n lv tk bo i:Nat}{Ds:List D}{Vs:List gP}{F:Nat->Nat->Prop}{tms:List Tm}{t:Tm}{R:List Nat}{x:D}
theorem JU (hS:TS T)(hT:TT T)(hP:TP T)(hW:TW T)(hV:TV T)(hs:s.Ok)(hp:P<=1000)(dN:bc s so o la ta pl mp P Sh Ds n lv tk)(hn:n < 2147483648)(hl:lv < 2147483648)(ht:tk < 2147483648)(hD:Ds.length+1<=aL)
  (zJ:eV P s F Ds Vs)(hF:∀i j,F i j-> ¬ bA so o la ta pl j)(hb:lS s bo so tms x)(hR:Refs s x R)(hRi:R.length=i)(AO:Mk tms R Vs)(wh:tms[i]? =some t)(fK:∀u∈tms,u.Ok)(hg:ka tms i t)(h7:t.kd=7\/t.kd=8\/t.kd=9)(Q0: ¬ bA so o la ta pl bo)(hx:∀q a l c,x= .sl q a l c-> ¬ bA so o la ta pl q):
  cu T H 81 [.ptr bo 0,t.d] s fun d s1=>d= .int .i64 Ds.length/\∃dt E,bc s1 so o la ta pl mp P Sh (Ds++ [dt]) (n+1) (lv+1) (tk+1)/\eY P (fun j=>s.n<=j/\j < s1.n) s1 dt (.sU (n+1) t.kd.toNat E)/\pV Ds.length E/\EY Vs P (wP t R (fi t).length) E/\aF (bA so o la ta pl) s s1:=by
 have gb:=hb.go;have lb:=hs.lt gb;have QJ:((t.kd.toNat:Nat):Int)=t.kd:=by omega
 have htb:=OF (H:=H) (kd:=t.kd.toNat) hS hT hP hs dN hn hl ht hD (by omega);have pA:=fK t (aM wh);have j9:=pA.kids;have JJ:=fun (s' :St) (h' :s'.Ok)=>Cp (H:=H) (t:=t) hS h' pA;have dM:=fun j (hj:bA so o la ta pl j\/j=mp)=>dN.lt hs hj;have ON:=hg.even;have jd:=hg.kids;rw [QJ]at htb;have tW:=fun (po dv:Nat) (xk:D) (j:Nat) (s' :St) hI (k:Int) hk (v:Int) hv=>qH.put (H:=H) hS hT hP hW hV hs hp dN zJ hF hb hR hRi AO wh fK hg (by omega) Q0 hx (po:=po) (dv:=dv) (xk:=xk) (j:=j) (s' :=s') hI (k:=k) hk (v:=v) hv;have hTI:∀ {po dv:Nat} {xk:D} {j:Nat} {s' :St},qH P Sh s so o la ta pl mp Ds n lv tk po dv Vs t R xk j s' ->s'.get bo=some (.var 116 (.agg [.ptr so 0,.vs false 8 (tms.map Tm.d),x]))/\Refs s' x R:=fun hI=>⟨hI.bh.get hs gb Q0,hR.dK hs hI.bh hx⟩;have fin:∀ {po dv:Nat} {xk:D} {s' :St},qH P Sh s so o la ta pl mp Ds n lv tk po dv Vs t R xk (fi t).length s' ->∃dt E,bc s' so o la ta pl mp P Sh (Ds++ [dt]) (n+1) (lv+1) (tk+1)/\eY P (fun j=>s.n<=j/\j < s'.n) s' dt (.sU (n+1) t.kd.toNat E)/\pV Ds.length E/\EY Vs P (wP t R (fi t).length) E/\aF (bA so o la ta pl) s s' :=by
  rintro po dv xk s' ⟨ok',bh,st,gp,⟨po1,po2⟩,ks,kn,W,E,d1,d2,d3,d4⟩;refine⟨_,E,st,⟨po,dv,rfl,by rw [QJ]; exact gp,d1.mono fun j hj=>⟨(d2 j hj).1,(d2 j hj).2.1⟩,po1,po2⟩,d3,d4,bh⟩
 obtain⟨kd,b,ng,n1,mag,tx,n2,kids,gW,sm⟩:=t;refine ax hS.t81 ?_;try refine go ?_
 refine aX htb ?_;rintro d s1 ⟨rfl,po,dv,p1,p2,p3,p4,p5,p6,p7⟩;refine⟨rfl,by rfl, ?_⟩;have ok1:=p7.ok;have G8:=p7.get hs gb Q0;try refine go ?_
 refine ak (dD hS p6 (i:=Ds.length) (by rw [aT (aq _),eG]; rfl)) ?_;rintro d s1 ⟨rfl,rfl⟩;try refine go ?_
 refine ak (JJ _ ok1) ?_;rintro xk s2 ⟨q1,q2,q3⟩;have Et:qH P Sh s so o la ta pl mp Ds n lv tk po dv Vs ⟨kd,b,ng,n1,mag,tx,n2,kids,gW,sm⟩ R xk 0 s2:=by
  refine⟨q3.ok,p7.trans (q3.mono fun _ h=>h.elim),p6.nil ok1 q3,q3.get ok1 p3 (fun h=>h),⟨p1,by have:=q3.n; omega⟩,q1,fun o a l c e=>by have:=q2 o a l c e; have:=p7.n; omega,_,[],p5.dK ok1 q3 (fun _ _ _ h=>h),fun o ho=> ?_,fun m e hm=>by simp at hm,.nil⟩;have:=q3.n;exact⟨ho.1,by omega,ho.2.2,fun q a l c e=>by have:=q2 q a l c e; omega⟩
 have DF:=tB ⟨kd,b,ng,n1,mag,tx,n2,kids,gW,sm⟩;have ja:=fB (fi ⟨kd,b,ng,n1,mag,tx,n2,kids,gW,sm⟩);have ZX:=fB kids;generalize hK:fi ⟨kd,b,ng,n1,mag,tx,n2,kids,gW,sm⟩=K at *;rcases q1 with ⟨nl,K,Fo⟩ | _ | ⟨ko,K,rW⟩
 ·try refine go ?_
  refine ee K.length (fun j=> [(0,.ptr bo 0),(3,.lv (Tm.d ⟨kd,b,ng,n1,mag,tx,n2,kids,gW,sm⟩)),(5,.int .i64 (Ds.length:Nat)),(6,.ptr po 0),(32,.vs nl 1 (ints K)),(33,.int .i64 ((ints K).length:Nat)),(34,.int .i64 (j:Nat))]) (fun j s' =>qH P Sh s so o la ta pl mp Ds n lv tk po dv Vs ⟨kd,b,ng,n1,mag,tx,n2,kids,gW,sm⟩ R (.vs nl 1 (ints K)) j s') Et ?_;intro j s3 hj hI;obtain⟨gb3,hR3⟩:=hTI hI;rcases aH j K.length with mK | pW
  ·have hk:K[j]? =some K[j]:=ab mK;have Cm:(ints K)[j]? =some (.int .i64 K[j]):=ints_at hk;have ab2:(ints K)[0+j]? =some (.int .i64 K[j]):=by rw [aN]; exact Cm
   by_cases Yz:kd=7
   ·subst Yz;have e7:K=iU kids:=by rw [← hK]; simp [fi]
    have el:=qm kids;have Qp:=ON rfl;simp only at Qp;have h2:2 * j+1 < kids.length:=by rw [e7]at mK; omega
    have ym:kids[2 * j+1]? =some kids[2 * j+1]:=ab h2;have W5:(ints kids)[2 * j+1]? =some (.int .i64 kids[2 * j+1]):=ints_at ym;obtain⟨k0,k1⟩:=jd kids[2 * j+1] (bH h2);rw [aK (by simp)]at k1;obtain⟨q2,zW⟩:∃q2:Nat,kids[2 * j+1]=q2:=⟨kids[2 * j+1].toNat,by omega⟩;have hR2:R[q2]? =some (R[q2]'(by omega)):=ab (by omega);rw [zW]at W5;obtain⟨ra,Q8,gra,gar,gl⟩:=hR3.at' hR2;have ur:=gT R;have CQ:=tW po dv (.vs nl 1 (ints K)) j s3 hI K[j] hk (R[q2]'(by omega):Nat) (by simp only [eu,ed,ym,eZ,zW,cZ,hR2]);obtain⟨q,r,hkq,hrq,CQ⟩:=CQ;have w1:IntKind.wrap .i64 (2 * (j:Int))=((2 * j:Nat):Int):=by simp only at j9; rw [wrap_small (by omega) (by omega)]; omega
    have w2:IntKind.wrap .i64 (((2 * j:Nat):Int)+1)=((2 * j+1:Nat):Int):=by simp only at j9; rw [wrap_small (by omega) (by omega)]; omega
    rw [Q8]at gb3;try refine go ?_
    simp only [w1,w2];try refine go ?_
    refine ak CQ ?_;intro d s4 Wn;try refine go ?_
    exact dw mK Wn
   ·have CQ:=tW po dv (.vs nl 1 (ints K)) j s3 hI K[j] hk 0 (by simp only [aK Yz]);obtain⟨q,r,hkq,hrq,CQ⟩:=CQ;try refine go ?_
    refine ak CQ ?_;intro d s4 Wn;try refine go ?_
    exact dw mK Wn
  ·obtain rfl:j=K.length:=by omega
   try refine go ?_
   exact ai ⟨rfl,fin hI⟩
 ·try refine go ?_
  refine lU ?_;try refine go ?_
  exact ai ⟨rfl,fin Et⟩
 ·try refine go ?_
  refine ee K.length (fun j=> [(0,.ptr bo 0),(3,.lv (Tm.d ⟨kd,b,ng,n1,mag,tx,n2,kids,gW,sm⟩)),(5,.int .i64 (Ds.length:Nat)),(6,.ptr po 0),(32,.sl ko 0 K.length K.length),(33,.int .i64 (K.length:Nat)),(34,.int .i64 (j:Nat))]) (fun j s' =>qH P Sh s so o la ta pl mp Ds n lv tk po dv Vs ⟨kd,b,ng,n1,mag,tx,n2,kids,gW,sm⟩ R (.sl ko 0 K.length K.length) j s') Et ?_;intro j s3 hj hI;obtain⟨gb3,hR3⟩:=hTI hI;rcases aH j K.length with mK | pW
  ·have hk:K[j]? =some K[j]:=ab mK;have Cm:(ints K)[j]? =some (.int .i64 K[j]):=ints_at hk;have ab2:(ints K)[0+j]? =some (.int .i64 K[j]):=by rw [aN]; exact Cm
   have acr:s3.get ko=some (.arr 1 3 (ints K) 0):=by
    have:=hI.ks;rw [hK]at this;exact this.get
   by_cases Yz:kd=7
   ·subst Yz;have e7:K=iU kids:=by rw [← hK]; simp [fi]
    have el:=qm kids;have Qp:=ON rfl;simp only at Qp;have h2:2 * j+1 < kids.length:=by rw [e7]at mK; omega
    have ym:kids[2 * j+1]? =some kids[2 * j+1]:=ab h2;have W5:(ints kids)[2 * j+1]? =some (.int .i64 kids[2 * j+1]):=ints_at ym;obtain⟨k0,k1⟩:=jd kids[2 * j+1] (bH h2);rw [aK (by simp)]at k1;obtain⟨q2,zW⟩:∃q2:Nat,kids[2 * j+1]=q2:=⟨kids[2 * j+1].toNat,by omega⟩;have hR2:R[q2]? =some (R[q2]'(by omega)):=ab (by omega);rw [zW]at W5;obtain⟨ra,Q8,gra,gar,gl⟩:=hR3.at' hR2;have ur:=gT R;have CQ:=tW po dv (.sl ko 0 K.length K.length) j s3 hI K[j] hk (R[q2]'(by omega):Nat) (by simp only [eu,ed,ym,eZ,zW,cZ,hR2]);obtain⟨q,r,hkq,hrq,CQ⟩:=CQ;have w1:IntKind.wrap .i64 (2 * (j:Int))=((2 * j:Nat):Int):=by simp only at j9; rw [wrap_small (by omega) (by omega)]; omega
    have w2:IntKind.wrap .i64 (((2 * j:Nat):Int)+1)=((2 * j+1:Nat):Int):=by simp only at j9; rw [wrap_small (by omega) (by omega)]; omega
    rw [Q8]at gb3;try refine go ?_
    simp only [w1,w2];try refine go ?_
    refine ak CQ ?_;intro d s4 Wn;try refine go ?_
    exact dw mK Wn
   ·have CQ:=tW po dv (.sl ko 0 K.length K.length) j s3 hI K[j] hk 0 (by simp only [aK Yz]);obtain⟨q,r,hkq,hrq,CQ⟩:=CQ;try refine go ?_
    refine ak CQ ?_;intro d s4 Wn;try refine go ?_
    exact dw mK Wn
  ·obtain rfl:j=K.length:=by omega
   try refine go ?_
   exact ai ⟨rfl,fin hI⟩
end
inductive iO (P:Nat)(Vs:List gP)(R:List Nat)(t:Tm)(n:Nat):List gP->Nat->Nat->Prop
 | none (h:t.kd=1):iO P Vs R t n [] 0 n
 | bool (h:t.kd=2):iO P Vs R t n [] (if t.b then 2 else 1) n
 | int (h:t.kd=3):iO P Vs R t n [.int (eh t.ng t.mag)] Vs.length n
 | str (h:t.kd=4):iO P Vs R t n [.str t.tx] Vs.length n
 | row (h:t.kd=5\/t.kd=6):iO P Vs R t n [.row (n+1) t.kd.toNat (List.replicate t.kids.length 0)] Vs.length (n+1)
 | sU (h:t.kd=7\/t.kd=8\/t.kd=9) (E:List eU) (hk:pV Vs.length E) (hp:EY Vs P (wP t R (fi t).length) E):iO P Vs R t n [.sU (n+1) t.kd.toNat E] Vs.length (n+1)
 | inst (h:t.kd=14):iO P Vs R t n [.cls (n+1) t.hs t.sm,.inst (n+2) Vs.length] (Vs.length+1) (n+2)
 | view (h:t.kd=15\/t.kd=16\/t.kd=17) (k:Int) (hk:t.kids=[k]) (r:Nat) (hr:R[k.toNat]? =some r):iO P Vs R t n [.view (n+1) t.kd.toNat r] Vs.length (n+1)
structure ma (P Sh:Nat)(s:St)(so o la ta pl mp n lv tk bo:Nat)(Ds:List D)(Vs:List gP)(F:Nat->Nat->Prop)(tms:List Tm)(R:List Nat)(x:D):Prop where
 ok:s.Ok
 pb:P<=1000
 sb:Sh<=256
 st:bc s so o la ta pl mp P Sh Ds n lv tk
 nb:n < 1000000000
 lb:lv < 1000000000
 tb:tk < 1000000000
 ds:Ds.length < 1000000000
 vs:eV P s F Ds Vs
 hF:∀i j,F i j-> ¬ bA so o la ta pl j/\j≠bo/\∀q a l c,x= .sl q a l c->j≠q
 bl:lS s bo so tms x
 rf:Refs s x R
 md:Mk tms R Vs
 b0: ¬ bA so o la ta pl bo/\bo≠mp
 x0:∀q a l c,x= .sl q a l c-> ¬ bA so o la ta pl q/\q≠mp/\q≠bo
 tm:∀u∈tms,u.Ok
def jV (P Sh:Nat)(s:St)(so o la ta pl mp n lv tk:Nat)(Ds:List D)(Vs:List gP)(F:Nat->Nat->Prop)(t:Tm)(R:List Nat)(d:D)(s1:St):Prop:=
 ∃Dn Vn r n' tk' F',iO P Vs R t n Vn r n' /\d= .int .i64 (r:Nat)/\bc s1 so o la ta pl mp P Sh (Ds++Dn) n' (lv+(n' - n)) tk' /\tk' <=tk+2/\eV P s1 F' (Ds++Dn) (Vs++Vn)/\(∀i j,F' i j->F i j\/s.n<=j\/E7 s1 j)/\aF (bA so o la ta pl) s s1
section
variable {P Sh:Nat}{s s1:St}{so o la ta pl mp n lv tk bo:Nat}{Ds:List D}{Vs:List gP}{F:Nat->Nat->Prop}{tms:List Tm}{t:Tm}{R:List Nat}{x d:D}
theorem jV.zero (h:ma P Sh s so o la ta pl mp n lv tk bo Ds Vs F tms R x){r:Nat}(hm:iO P Vs R t n [] r n):jV P Sh s so o la ta pl mp n lv tk Ds Vs F t R (.int .i64 (r:Nat)) s:=by
 refine⟨[],[],r,n,tk,F,hm,rfl, ?_,by omega, ?_,fun i j h=> .inl h,aF.refl h.ok⟩
 ·rw [dZ,eG]; exact h.st
 ·rw [dZ,dZ]; exact h.vs
theorem jV.one (h:ma P Sh s so o la ta pl mp n lv tk bo Ds Vs F tms R x){v:gP}{dv:D} {n' tk' :Nat}{G:Nat->Prop}(hm:iO P Vs R t n [v] Vs.length n')(dN:bc s1 so o la ta pl mp P Sh (Ds++ [dv]) n' (lv+(n' - n)) tk')(ht:tk' <=tk+2)(hv:eY P G s1 dv v)(hG:∀o,G o->(s.n<=o/\o < s1.n)\/E7 s1 o)(hb:aF (bA so o la ta pl) s s1):
  jV P Sh s so o la ta pl mp n lv tk Ds Vs F t R (.int .i64 (Ds.length:Nat)) s1:=by
 have zJ:=h.vs.snoc h.ok hb (fun i j hj=>(h.hF i j hj).1) hv hG;refine⟨[dv],[v],Vs.length,n',tk',_,hm,by rw [h.vs.ln],dN,ht,zJ,fun i j hj=> ?_,hb⟩;simp only [more]at hj;split at hj
 ·rcases hG j hj with h1 | h1
  ·exact .inr (.inl h1.1)
  ·exact .inr (.inr h1)
 ·exact .inl hj
end
section
variable {T:Nat->Option dU}{H:ay}{P Sh:Nat}{s:St}{so o la ta pl mp n lv tk bo:Nat}{Ds:List D}{Vs:List gP}{F:Nat->Nat->Prop}{tms:List Tm}{t:Tm}{R:List Nat}{x:D}
theorem QA (hS:TS T)(h:ma P Sh s so o la ta pl mp n lv tk bo Ds Vs F tms R x)(h1:t.kd=1):cu T H 42 [.ptr bo 0,t.d] s (jV P Sh s so o la ta pl mp n lv tk Ds Vs F t R):=by
 have hr:=jV.zero h (iO.none h1);obtain⟨kd,b,ng,n1,mag,tx,n2,kids,gW,sm⟩:=t;simp only at h1; subst h1;refine ax hS.t42 ?_;try refine go ?_
 exact ai hr
theorem Qs (hS:TS T)(h:ma P Sh s so o la ta pl mp n lv tk bo Ds Vs F tms R x)(h1:t.kd=2):cu T H 42 [.ptr bo 0,t.d] s (jV P Sh s so o la ta pl mp n lv tk Ds Vs F t R):=by
 have hr:=jV.zero h (iO.bool h1);obtain⟨kd,b,ng,n1,mag,tx,n2,kids,gW,sm⟩:=t;simp only at h1; subst h1;refine ax hS.t42 ?_;cases b
 ·repeat' first | refine go ?_ | refine eW hS.t76 ?_
  exact ai hr
 ·repeat' first | refine go ?_ | refine eW hS.t76 ?_
  exact ai hr
theorem V1 (hS:TS T)(h:ma P Sh s so o la ta pl mp n lv tk bo Ds Vs F tms R x)(ho:t.Ok)(h1:t.kd=4):cu T H 42 [.ptr bo 0,t.d] s (jV P Sh s so o la ta pl mp n lv tk Ds Vs F t R):=by
 have pO:=h.ds; have zT:=h.tb; have hs:=h.ok;have dN:=Xu (H:=H) (x:=t.tx) hS h.ok h.st (by omega) (by simp only [aL]; omega);have Eb:=ho.tx;have hm:iO P Vs R t n [.str t.tx] Vs.length n:=iO.str h1;have gb:=h.bl.go
 have key:∀ {s1:St},bc s1 so o la ta pl mp P Sh (Ds++ [.ia 191 (.agg [.str t.tx])]) n lv (tk+1)->aF (bA so o la ta pl) s s1->jV P Sh s so o la ta pl mp n lv tk Ds Vs F t R (.int .i64 (Ds.length:Nat)) s1:=fun q1 q2=>
  jV.one h (G:=fun _=>False) hm (by rw [eG]; exact q1) (by omega) ⟨rfl,by omega⟩ (fun _ h=>h.elim) q2
 obtain⟨kd,b,ng,n1,mag,tx,n2,kids,gW,sm⟩:=t;simp only at h1; subst h1;refine ax hS.t42 ?_;try refine go ?_
 refine aX dN ?_;rintro d s1 ⟨rfl,q1,q2⟩;refine⟨rfl,by rfl, ?_⟩;try refine go ?_
 exact ai (key q1 q2)
theorem WZ (hS:TS T)(hW:TW T)(h:ma P Sh s so o la ta pl mp n lv tk bo Ds Vs F tms R x)(ho:t.Ok)(h1:t.kd=3):cu T H 42 [.ptr bo 0,t.d] s (jV P Sh s so o la ta pl mp n lv tk Ds Vs F t R):=by
 have pO:=h.ds; have zT:=h.tb; have hs:=h.ok;have abX:=ho.mag;have R6:=mh t.ng t.mag;have abn:(eh t.ng t.mag).2.length<=100000000:=by omega
 have hf:=DI (H:=H) (n:=(t.ng,t.mag)) hW h.ok ⟨_,rfl,.vs t.n1 t.mag ho.n1⟩ (by simp only [aL]; omega);have hm:iO P Vs R t n [.int (eh t.ng t.mag)] Vs.length n:=iO.int h1;have gb:=h.bl.go;obtain⟨kd,b,ng,n1,mag,tx,n2,kids,gW,sm⟩:=t;simp only at h1 hf; subst h1;refine ax hS.t42 ?_;try refine go ?_
 refine aX hf ?_;rintro d s1 ⟨⟨y,rfl,hy⟩,b1⟩;have G8:=b1.get h.ok gb (fun h=>h);have ok1:=b1.ok;refine⟨rfl,by simp [lost,eQ.kind,cK,dE,cF,aI,bC,bC.cW,gk,bP.ev,Env.get,cS,D.flat,D.isAgg,cP,D.fw,D.beq,aA,Obj.aW,bE,br,D.bW,D.aW,gb,G8], ?_⟩;have mD:=WL (H:=H) (m:=eh ng mag) hS b1.ok (h.st.nil h.ok b1) (by omega) (by simp only [aL]; omega) hy
 have key:∀ {s2:St},bc s2 so o la ta pl mp P Sh (Ds++ [.ia 184 (.agg [.bool (eh ng mag).1,y])]) n lv (tk+1)->aF (bA so o la ta pl) s1 s2->jV P Sh s so o la ta pl mp n lv tk Ds Vs F ⟨3,b,ng,n1,mag,tx,n2,kids,gW,sm⟩ R (.int .i64 (Ds.length:Nat)) s2:=fun {s2} q1 q2=>by
  have hnW:∀o' a l c,y= .sl o' a l c-> ¬ bA so o la ta pl o' :=fun q a l c e hh=>by
   subst e;rcases hy with _ | _ | ⟨_,_,_,_,hg,_⟩;have mE:=h.st.nil h.ok b1;rcases hh with e | e | e | e | e <;> rw [e]at hg
   ·rw [mE.go]at hg; cases hg
   ·rw [mE.sl.go]at hg; cases hg
   ·rw [mE.sl.gl]at hg; simp at hg
   ·rw [mE.sl.gt]at hg; simp at hg
   ·rw [mE.gp]at hg; cases hg
  have yp:=hy.Xk b1.ok q2 hnW;refine jV.one h (G:=E7 s2) hm (by rw [eG]; exact q1) (by omega) ⟨y,rfl,yp,fun q a l c e=> ?_,abn⟩ (fun _ h=> .inr h) ((b1.mono fun _ h=>h.elim).trans q2);subst e;rcases yp with _ | _ | ⟨_,_,_,_,hg,_⟩;exact⟨_,_,hg⟩
 rcases hy.sh with ⟨nl,z,l,rfl⟩ | ⟨o',l,c,rfl⟩
 all_goals
  try refine go ?_
  refine aX mD ?_;rintro d s2 ⟨rfl,q1,q2⟩;refine⟨rfl,by rfl, ?_⟩;try refine go ?_
  exact ai (key q1 q2)
end
section
variable {T:Nat->Option dU}{H:ay}{P Sh:Nat}{s:St}{so o la ta pl mp n lv tk bo i:Nat}{Ds:List D}{Vs:List gP}{F:Nat->Nat->Prop}{tms:List Tm}{t:Tm}{R:List Nat}{x:D}
theorem XQ (hS:TS T)(h:ma P Sh s so o la ta pl mp n lv tk bo Ds Vs F tms R x)(ho:t.Ok)(h1:t.kd=5\/t.kd=6):cu T H 42 [.ptr bo 0,t.d] s (jV P Sh s so o la ta pl mp n lv tk Ds Vs F t R):=by
 have pO:=h.ds; have zT:=h.tb; have PJ:=h.nb; have tN:=h.lb;have j9:=ho.kids;have hs:=h.ok;have hm:iO P Vs R t n [.row (n+1) t.kd.toNat (List.replicate t.kids.length 0)] Vs.length (n+1):=iO.row h1;have QJ:((t.kd.toNat:Nat):Int)=t.kd:=by omega
 have gb:=h.bl.go;have lb:=hs.lt gb;have dM:=fun j (hj:bA so o la ta pl j\/j=mp)=>h.st.lt hs hj
 have key:∀ {s2:St} {ro:Nat},s.n<=ro->ro < s2.n->s2.get ro=some (.var 122 (.agg [.int .i64 (n+1:Nat),.sl (s.n+0) 0 (ints t.kids).length (ints t.kids).length,.int .i64 t.kd]))->s2.get (s.n+0)=some (.arr 1 3 (List.replicate (ints t.kids).length (.int .i64 0)) 0)->s.n+0 < s2.n->
   bc s2 so o la ta pl mp P Sh (Ds++ [.ia 118 (.ptr ro 0)]) (n+1) (lv+1) (tk+1)->aF (bA so o la ta pl) s s2->jV P Sh s so o la ta pl mp n lv tk Ds Vs F t R (.int .i64 (Ds.length:Nat)) s2:=fun {s2 ro} r1 r2 r3 r4 r5 q1 q2=>by
  refine jV.one h (G:=fun j=>s.n<=j/\j < s2.n) hm (by rw [show n+1 - n=1 by omega]; exact q1) (by omega) ⟨ro,s.n+0,0,rfl, ?_, ?_,aS _,⟨r1,r2⟩,by omega,r5⟩ (fun _ h=> .inl h) q2
  ·rw [QJ,iS,← fB t.kids]; exact r3
  ·rw [fB]at r4;rw [r4,ints,pz]
 obtain⟨kd,b,ng,n1,mag,tx,n2,kids,gW,sm⟩:=t;have ja:=fB kids;simp only at h1 j9 key;refine ax hS.t42 ?_;rcases h1 with rfl | rfl
 all_goals
  try refine go ?_
  refine om (dl:= .int .i64 ((ints kids).length:Nat)) (dc:= .int .i64 ((ints kids).length:Nat)) jz jz (aq _) (by omega) (by simp only [aL]; omega) ?_;try refine go ?_
  have c3:aF Nil s ((s.up 1).bF (s.n+0) (.arr 1 3 (List.replicate (ints kids).length (.int .i64 0)) 0)):=aF.set ((aF.refl hs).up 1) _ (by rw [St.jx]; omega) (fun hh=>by omega);have c1:=c3.ok;refine aX (W6 hS c1 (h.st.nil hs c3) (by omega) (by omega) (by omega) (by simp only [aL]; omega)) ?_;rintro d s2 ⟨rfl,ro,r1,r2,r3,r4,r5⟩;have e1:=c3.get hs gb (fun hj=>hj);have e2:=r5.get c1 e1 h.b0.1;refine⟨rfl,by simp [lost,eQ.kind,cK,dE,cF,aI,bC,bC.cW,gk,bP.ev,Env.get,cS,D.flat,D.isAgg,cP,D.fw,D.beq,aA,Obj.aW,bE,br,D.bW,D.aW,e1,e2], ?_⟩;try refine go ?_
  have z1:=r5.n;simp only [St.fE,St.jx]at z1 r1;have e3:=r5.get (o:=s.n+0) c1 St.aO (fun hh=>by have:=dM (s.n+0) (.inl hh); omega);exact ai (key (by omega) r2 r3 e3 (by omega) r4 ((c3.mono fun _ h=>h.elim).trans r5))
theorem VT (hS:TS T)(hT:TT T)(hP:TP T)(hW:TW T)(hV:TV T)(h:ma P Sh s so o la ta pl mp n lv tk bo Ds Vs F tms R x)(wh:tms[R.length]? =some t)(hg:ka tms R.length t)(h1:t.kd=7\/t.kd=8\/t.kd=9):cu T H 42 [.ptr bo 0,t.d] s (jV P Sh s so o la ta pl mp n lv tk Ds Vs F t R):=by
 have pO:=h.ds; have zT:=h.tb; have PJ:=h.nb; have tN:=h.lb;have Lr:=JU (H:=H) hS hT hP hW hV h.ok h.pb h.st (by omega) (by omega) (by omega) (by simp only [aL]; omega) h.vs (fun i j hj=>(h.hF i j hj).1) h.bl h.rf rfl h.md wh h.tm hg h1 h.b0.1 (fun q a l c e=>(h.x0 q a l c e).1);have pC:∀ {s1:St},(∃dt E,bc s1 so o la ta pl mp P Sh (Ds++ [dt]) (n+1) (lv+1) (tk+1)/\eY P (fun j=>s.n<=j/\j < s1.n) s1 dt (.sU (n+1) t.kd.toNat E)/\pV Ds.length E/\EY Vs P (wP t R (fi t).length) E/\aF (bA so o la ta pl) s s1)->jV P Sh s so o la ta pl mp n lv tk Ds Vs F t R (.int .i64 (Ds.length:Nat)) s1:=by
  rintro s1 ⟨dt,E,q1,q2,q3,q4,q5⟩;exact jV.one h (iO.sU h1 E (by rw [← h.vs.ln]; exact q3) q4) (by rw [show n+1 - n=1 by omega]; exact q1) (by omega) q2 (fun _ h=> .inl h) q5
 obtain⟨kd,b,ng,n1,mag,tx,n2,kids,gW,sm⟩:=t;simp only at h1 Lr pC;refine ax hS.t42 ?_;rcases h1 with rfl | rfl | rfl
 all_goals
  try refine go ?_
  refine ak Lr ?_;rintro d s1 ⟨rfl,hq⟩;try refine go ?_
  exact ai (pC hq)
theorem Ro (hS:TS T)(h:ma P Sh s so o la ta pl mp n lv tk bo Ds Vs F tms R x)(hg:ka tms R.length t)(h1:t.kd=15\/t.kd=16\/t.kd=17):cu T H 42 [.ptr bo 0,t.d] s (jV P Sh s so o la ta pl mp n lv tk Ds Vs F t R):=by
 have pO:=h.ds; have zT:=h.tb; have PJ:=h.nb; have tN:=h.lb;have hs:=h.ok;have gb:=h.bl.go;have qq:=hg.view (by omega);have CC:=hg.kids;have QJ:((t.kd.toNat:Nat):Int)=t.kd:=by omega
 obtain⟨k,hk⟩:∃k,t.kids=[k]:=List.length_eq_one_iff.mp qq;obtain⟨k0,k2⟩:=CC k (by rw [hk]; simp);rw [aK (by omega)]at k2;obtain⟨q,rfl⟩:∃q:Nat,k=q:=⟨k.toNat,by omega⟩;have hq:R[q]? =some (R[q]'(by omega)):=ab (by omega);have hm:=iO.view (P:=P) (Vs:=Vs) (n:=n) h1 q hk (R[q]'(by omega)) (by rw [cZ]; exact hq);obtain⟨ra,Q8,gra,gar,gl⟩:=h.rf.at' hq;have ur:=gT R;generalize R[q]'(by omega)=r at hm gar;have hvw:=QI (H:=H) (kd:=t.kd) (v:=(r:Nat)) hS hs h.st (by omega) (by omega) (by omega) (by simp only [aL]; omega);have pC:∀ {s1:St},(∃ro,s.n<=ro/\ro < s1.n/\s1.get ro=some (.var 208 (.agg [.int .i64 (n+1:Nat),.int .i64 (r:Nat),.int .i64 t.kd]))/\bc s1 so o la ta pl mp P Sh (Ds++ [.ia 143 (.ptr ro 0)]) (n+1) (lv+1) (tk+1)/\aF (bA so o la ta pl) s s1)->jV P Sh s so o la ta pl mp n lv tk Ds Vs F t R (.int .i64 (Ds.length:Nat)) s1:=by
  rintro s1 ⟨ro,q1,q2,q3,q4,q5⟩;exact jV.one h (G:=fun j=>s.n<=j/\j < s1.n) hm (by rw [show n+1 - n=1 by omega]; exact q4) (by omega) ⟨ro,rfl,by rw [QJ]; exact q3,q1,q2⟩ (fun _ h=> .inl h) q5
 obtain⟨kd,b,ng,n1,mag,tx,n2,kids,gW,sm⟩:=t;simp only at h1 hvw pC hk;subst hk;rw [Q8]at gb;have Cm:(ints [(q:Int)])[0]? =some (.int .i64 (q:Nat)):=rfl;refine ax hS.t42 ?_;rcases h1 with rfl | rfl | rfl
 all_goals
  try refine go ?_
  refine aX hvw ?_;rintro d s1 ⟨rfl,hq⟩;refine⟨rfl,by rfl, ?_⟩;try refine go ?_
  exact ai (pC hq)
end
section
variable {T:Nat->Option dU}{H:ay}{P Sh:Nat}{s:St}{so o la ta pl mp n lv tk bo i:Nat}{Ds:List D}{Vs:List gP}{F:Nat->Nat->Prop}{tms:List Tm}{t:Tm}{R:List Nat}{x:D}
theorem Ru (hS:TS T)(hT:TT T)(hP:TP T)(h:ma P Sh s so o la ta pl mp n lv tk bo Ds Vs F tms R x)(h1:t.kd=14):cu T H 42 [.ptr bo 0,t.d] s (jV P Sh s so o la ta pl mp n lv tk Ds Vs F t R):=by
 have pO:=h.ds; have zT:=h.tb; have PJ:=h.nb; have tN:=h.lb; have WD:=h.pb;have hs:=h.ok;have gb:=h.bl.go;have hm:iO P Vs R t n [.cls (n+1) t.hs t.sm,.inst (n+2) Vs.length] (Vs.length+1) (n+2):=iO.inst h1;have dM:=fun j (hj:bA so o la ta pl j\/j=mp)=>h.st.lt hs hj;have nW:∀j,s.n<=j-> ¬ bA so o la ta pl j:=fun j hj hh=>by have:=dM j (.inl hh); omega
 have yh:=M5 (H:=H) hS hT hP hs h.st (by omega) (by omega) (by omega) (by simp only [aL]; omega) (by omega) h.sb;obtain⟨kd,b,ng,n1,mag,tx,n2,kids,gW,sm⟩:=t;simp only at h1 hm; subst h1;refine ax hS.t42 ?_;try refine go ?_
 refine ak yh ?_;rintro d s1 ⟨rfl,po,dv,fo,ko,mo,p1,p2,p3,p4,p5,p6,p7⟩;have ok1:=p7.ok;have G8:=p7.get hs gb h.b0.1;have lpo:=ok1.lt p4;have Sl :=p7.n;try refine go ?_
 refine ak (dD hS p6 (i:=Ds.length) (by rw [aT (aq _),eG]; rfl)) ?_;rintro d s1 ⟨rfl,rfl⟩;have lb1:=ok1.lt G8;have nbp:bo≠po:=by have:=hs.lt gb; omega
 try refine go ?_
 obtain⟨s2,GY⟩:∃s2,s2=(s1.bF po (.var 179 (.agg [.int .i64 (n+1:Nat),.ptr dv 0,.str [67],.int .i64 (-1),.ptr fo 0,.bool gW,.bool false]))).bF po (.var 179 (.agg [.int .i64 (n+1:Nat),.ptr dv 0,.str [67],.int .i64 (-1),.ptr fo 0,.bool gW,.bool sm])):=⟨_,rfl⟩;have b2:aF (fun j=>j=po) s1 s2:=by rw [GY]; exact aF.set (W:=fun j=>j=po) (aF.set (W:=fun j=>j=po) (aF.refl ok1) _ lpo (fun _=>rfl)) _ lpo (fun _=>rfl)
 have g2:s2.get po=some (.var 179 (.agg [.int .i64 (n+1:Nat),.ptr dv 0,.str [67],.int .i64 (-1),.ptr fo 0,.bool gW,.bool sm])):=by rw [GY]; exact St.aO
 show Sm.Call T H _ _ _ _ _ _ _ ((s1.bF po (.var 179 (.agg [.int .i64 (n+1:Nat),.ptr dv 0,.str [67],.int .i64 (-1),.ptr fo 0,.bool gW,.bool false]))).bF po (.var 179 (.agg [.int .i64 (n+1:Nat),.ptr dv 0,.str [67],.int .i64 (-1),.ptr fo 0,.bool gW,.bool sm]))) _;rw [← GY];have ok2:=b2.ok;have gf2:=b2.get ok1 p5 (fun e=>p3 e.symm);have tJ:=p6.dK ok1 b2 fun j hj e=>by have:=dM j hj; omega
 have mD:=EK (H:=H) hS ok2 tJ (by omega) (by omega) (by omega) (by rw [aG]; simp only [aL,aZ]; omega) (c:=Ds.length) (by rw [aT (aq _),eG]; rfl) g2 gf2 (nW _ p1) (nW _ p2);refine ak mD ?_;rintro d s3 ⟨rfl,io,sp,ro,i1,i2,i3,i4,i5,i6,i7,i8⟩;have b02:aF (bA so o la ta pl) s s2:=p7.trans' b2 fun j e hl=>by exfalso; omega
 have Vb :=b2.n; have n3' :=i8.n;have ok3:=i8.ok;have lfo:=ok2.lt gf2;have v1:=h.vs.snoc hs b02 (fun i j hj=>(h.hF i j hj).1) (G:=fun j=>s.n<=j/\j < s2.n) (d:= .ia 175 (.ptr po 0)) (v:= .cls (n+1) gW sm) ⟨po,dv,fo,rfl,g2,⟨p1,by omega⟩,⟨p2,lfo⟩,Sh,ko,mo,gf2⟩ (fun _ h=> .inl h)
 have hF1:∀i j,more F Ds.length (fun j=>s.n<=j/\j < s2.n) i j-> ¬ bA so o la ta pl j:=fun i j hj=>by
  simp only [more]at hj;split at hj
  ·exact nW j hj.1
  ·exact (h.hF i j hj).1
 have pQ:=h.vs.ln;have i4:=pQ ▸ i4;have l4:=ok3.lt i4; have l5:=ok3.lt i5; have l6:=ok3.lt i6;have v2:=v1.snoc ok2 i8 hF1 (G:=fun j=>s2.n<=j/\j < s3.n) (d:= .ia 199 (.ptr io 0)) (v:= .inst (n+2) Vs.length) ⟨io,sp,rfl,i4,⟨i1,l4⟩,⟨i2,l5⟩,fo,ro,i5,i6,⟨i3,l6⟩⟩ (fun _ h=> .inl h);try refine go ?_
 refine ai ⟨[.ia 175 (.ptr po 0),.ia 199 (.ptr io 0)],[.cls (n+1) gW sm,.inst (n+2) Vs.length],Vs.length+1,n+2,tk+1+1,more (more F Ds.length (fun j=>s.n<=j/\j < s2.n)) (Ds++ [D.ia 175 (.ptr po 0)]).length (fun j=>s2.n<=j/\j < s3.n),hm, ?_, ?_,by omega, ?_,fun i j hj=> ?_,b02.trans i8⟩;rotate_left
 ·rw [show lv+(n+2 - n)=lv+1+1 by omega,show Ds++ [D.ia 175 (.ptr po 0),.ia 199 (.ptr io 0)]=Ds++ [D.ia 175 (.ptr po 0)]++ [.ia 199 (.ptr io 0)] by simp];exact i7
 ·rw [show Ds++ [D.ia 175 (.ptr po 0),.ia 199 (.ptr io 0)]=Ds++ [D.ia 175 (.ptr po 0)]++ [.ia 199 (.ptr io 0)] by simp,show Vs++ [gP.cls (n+1) gW sm,.inst (n+2) Vs.length]=Vs++ [gP.cls (n+1) gW sm]++ [.inst (n+2) Vs.length] by simp];exact v2
 ·simp only [more]at hj;split at hj
  ·right; left; omega
  ·split at hj
   ·right; left; omega
   ·exact .inl hj
 ·show D.int .i64 (((Ds++ [D.ia 175 (.ptr po 0)]).length:Nat):Int)=_;rw [aG,aZ,pQ]
theorem NT (hS:TS T)(hT:TT T)(hP:TP T)(hW:TW T)(hV:TV T)(h:ma P Sh s so o la ta pl mp n lv tk bo Ds Vs F tms R x)(wh:tms[R.length]? =some t)(hg:ka tms R.length t):cu T H 42 [.ptr bo 0,t.d] s (jV P Sh s so o la ta pl mp n lv tk Ds Vs F t R):=by
 have ho:=h.tm t (aM wh);have hk:=hg.kind;by_cases h1:t.kd=1
 ·exact QA hS h h1
 by_cases h2:t.kd=2
 ·exact Qs hS h h2
 by_cases h3:t.kd=3
 ·exact WZ hS hW h ho h3
 by_cases h4:t.kd=4
 ·exact V1 hS h ho h4
 by_cases h5:t.kd=5\/t.kd=6
 ·exact XQ hS h ho h5
 by_cases h7:t.kd=7\/t.kd=8\/t.kd=9
 ·exact VT hS hT hP hW hV h wh hg h7
 by_cases h14:t.kd=14
 ·exact Ru hS hT hP h h14
 ·exact Ro hS h hg (by omega)
end
def dX (kd:Int):Prop:=(1<=kd/\kd<=9)\/(14<=kd/\kd<=17)
def IsKey (u:Tm):Prop:=(1<=u.kd/\u.kd<=4)\/(u.kd=14/\(u.hs=true\/u.sm=false))
theorem IsKey.tm {u:Tm}(h:IsKey u):EE u:=by unfold IsKey at h; unfold EE; omega
section
variable {T:Nat->Option dU}{H:ay}{s:St}
theorem Km (hS:TS T){kd:Int}:cu T H 72 [.int .i64 kd] s fun d s1=>(∃b,d= .bool b/\(b=true↔dX kd))/\s1=s:=by
 refine ax hS.t72 ?_;by_cases h1:1<=kd
 ·by_cases h2:kd<=9
  ·try refine go ?_
   exact ai ⟨⟨true,rfl,by simp only [dX,true_iff]; omega⟩,rfl⟩
  ·by_cases h3:kd=14
   ·try refine go ?_
    exact ai ⟨⟨true,rfl,by simp only [dX,true_iff]; omega⟩,rfl⟩
   ·by_cases h4:15<=kd
    ·by_cases h5:kd<=17
     ·try refine go ?_
      exact ai ⟨⟨true,rfl,by simp only [dX,true_iff]; omega⟩,rfl⟩
     ·try refine go ?_
      exact ai ⟨⟨false,rfl,by simp only [dX,dF,false_iff]; omega⟩,rfl⟩
    ·try refine go ?_
     exact ai ⟨⟨false,rfl,by simp only [dX,dF,false_iff]; omega⟩,rfl⟩
 ·have h3:kd≠14:=by omega
  try refine go ?_
  exact ai ⟨⟨false,rfl,by simp only [dX,dF,false_iff]; omega⟩,rfl⟩
theorem EN (hS:TS T){t:Tm}:cu T H 136 [t.d] s fun d s1=>(∃b,d= .bool b/\(b=true↔IsKey t))/\s1=s:=by
 unfold IsKey;obtain⟨kd,b,ng,n1,mag,tx,n2,kids,gW,sm⟩:=t;refine ax hS.t136 ?_;by_cases h1:1<=kd
 ·by_cases h2:kd<=4
  ·try refine go ?_
   exact ai ⟨⟨true,rfl,by simp only [true_iff]; omega⟩,rfl⟩
  ·by_cases h3:kd=14
   ·subst h3;cases gW
    ·cases sm
     ·try refine go ?_
      exact ai ⟨⟨true,rfl,by simp⟩,rfl⟩
     ·try refine go ?_
      exact ai ⟨⟨false,rfl,by simp⟩,rfl⟩
    ·try refine go ?_
     exact ai ⟨⟨true,rfl,by simp⟩,rfl⟩
   ·try refine go ?_
    exact ai ⟨⟨false,rfl,by simp only [dF,false_iff]; omega⟩,rfl⟩
 ·have h3:kd≠14:=by omega
  try refine go ?_
  exact ai ⟨⟨false,rfl,by simp only [dF,false_iff]; omega⟩,rfl⟩
end
end Go.Proofs.Tab
