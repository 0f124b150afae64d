/- Part. -/
import Derived.Test.YthaiegafejbmoaaGreatDoorG37
set_option linter.unusedSectionVars false
set_option maxRecDepth 100000
set_option maxHeartbeats 1000000
set_option linter.unusedSimpArgs false
set_option linter.unusedVariables false
namespace Go.Proofs.Tab
open Go Go.Ab Go.Ab.Sm
section
variable {T:Nat->Option dJ}{H:au}{s:St}{so bo i:Nat}{tms:List Tm}{o la ta pl mp P Sh n0 XH Ye:Nat}{Vp:List D}{K6:List fE}{F0:Nat->Nat->Prop}
def Ue (P Sh:Nat)(s:St)(so o la ta pl mp n0 XH Ye bo:Nat)(Vp:List D)(K6:List fE)(F0:Nat->Nat->Prop)(tms:List Tm)(j:Nat)(s1:St):Prop:=
 ∃Ds Vs n lv tk F R x,lJ P Sh s1 so o la ta pl mp n lv tk bo Ds Vs F tms R x/\R.length=j/\qn P tms K6 n0 R Vs n/\rj Vs/\(n0<=n/\n<=n0+2 * j/\lv=XH+(n - n0)/\tk<=Ye+2 * j/\Ds.length<=Vp.length+2 * j)/\(∀q a l c,x= .sl q a l c->s.n<=q)/\aH (fun q=>br so o la ta pl q\/q=bo) s s1/\(∀i j,F i j->F0 i j\/s.n<=j\/Dj s1 j)
theorem Pm (hS:TS T)(hT:TT T)(hP:TP T)(hW:TW T)(hV:TV T)(h:lJ P Sh s so o la ta pl mp n0 XH Ye bo Vp K6 F0 tms [] (.vs true 0 []))(hg:∀i t,tms[i]? =some t->mV tms i t)(hN:tms.length<=200){k:List iI}{Q:QP}{nl:Bool}(qS:nl=true->tms=[])(yP:rj K6)(b1:n0<=1000000)(b2:XH<=1000000)(b3:Ye<=1000000)(b4:Vp.length<=1000000){E:Env}
  (hE:E.bM [0,1,6,35,36,37]=F2 nl so bo tms 0)
  (hd:∀s1,Ue P Sh s so o la ta pl mp n0 XH Ye bo Vp K6 F0 tms tms.length s1->lB T H .normal k ⟨[(38,.bool false),(0,.ptr so 0),(1,.vs nl 8 (tms.map Tm.d)),(6,.ptr bo 0),(35,.vs nl 8 (tms.map Tm.d)),(36,.int .i64 (tms.length:Nat)),(37,.int .i64 (tms.length:Nat))],[]⟩ s1 Q):
  dR T H (Jk 2) (.block 2::k) ⟨E,[]⟩ s Q:=by
 show dR T H (.loop _ _) (.block 2::k) ⟨E,[]⟩ s Q;refine fw tms.length (F2 nl so bo tms) (Ue P Sh s so o la ta pl mp n0 XH Ye bo Vp K6 F0 tms) ⟨Vp,K6,n0,XH,Ye,F0,[],_,h,rfl,.nil,yP,by omega,(fun _ _ _ _ e=>by cases e),aH.refl h.ok,fun _ _ hj=> .inl hj⟩ ?_ rfl hE;rintro j s1 hj hI;by_cases eW:j < tms.length
 ·obtain⟨t,ht⟩:∃t,tms[j]? =some t:=⟨_,ak eW⟩;obtain⟨Ds,Vs,n,lv,tk,F,R,x,c1,rfl,c3,c4,c5,c6,c7,c8⟩:=hI;refine X6 hS hT hP hW hV c1 ht (hg _ _ ht) hN qS c4 (by omega) (by omega) (by omega) (by omega) ?_;rintro s2 ⟨Dn,Vn,r,n',tk',F',x1,d1,d2,d3,d4,d5,d6⟩;obtain⟨m1,m2,m3⟩:=d1.le;have l1:=d2.vs.ln;have l2:=c1.vs.ln;have n1:=c7.n;refine⟨_,_,_,_,_,_,_,_,d2,by rw [an,aC],c3.snoc ht d1,c4.app _, ?_, ?_, ?_, ?_⟩
  ·rw [an,an]at l1;rw [an];omega
  ·intro q a l c e;rcases d4 q a l c e with ⟨a',l',c',e'⟩ | h1
   ·exact c6 _ _ _ _ e'
   ·omega
  ·refine c7.trans' d5 ?_;rintro q (hq | hq | ⟨a,l,c,hq⟩) hl
   ·exact .inl hq
   ·exact .inr hq
   ·have:=c6 _ _ _ _ hq; omega
  ·intro i j hj;rcases d6 i j hj with h1 | h1 | h1
   ·rcases c8 i j h1 with h2 | h2 | h2
    ·exact .inl h2
    ·exact .inr (.inl h2)
    ·refine .inr (.inr (h2.dT c1.ok d5 ?_));have h3:=h2;obtain⟨es,st,e⟩:=h3;rintro (hq | rfl | ⟨a,l,c,rfl⟩)
     ·exact c1.st.u32 h2 hq
     ·rw [c1.bl.go]at e; cases e
     ·have hrf:=c1.rf;cases hrf with
      | sl hg hn=>rw [hg]at e; simp at e
   ·exact .inr (.inl (by omega))
   ·exact .inr (.inr h1)
 ·have OD:j=tms.length:=by omega
  subst OD;have hdd:=qV ((tms.length:Int) < (tms.length:Nat));show dR T H _ _ ⟨[(0,.ptr so 0),(1,.vs nl 8 (tms.map Tm.d)),(6,.ptr bo 0),(35,.vs nl 8 (tms.map Tm.d)),(36,.int .i64 (tms.length:Nat)),(37,.int .i64 (tms.length:Nat))],[]⟩ s1 Q;try refine go ?_
  exact hd s1 hI
end
def rowOf (R:List Nat)(t:Tm):List Int:=t.kids.map fun k=>((R[k.toNat]?.getD 0:Nat):Int)
def nJ (R:List Nat)(t:Tm)(r:Nat)(Vs:List fE):List fE:=match Vs[r]? with
 | some (.row num kd L)=>Vs.set r (.row num kd (rowOf R t))
 | _=>Vs
theorem BN (R:List Nat)(t:Tm):(rowOf R t).length=t.kids.length:=aY _
section
variable {s s1:St}{so bo i:Nat}{x:D}{tms:List Tm}{t:Tm}{o la ta pl mp P Sh n lv tk:Nat}{Ds:List D}{Vs:List fE}{F:Nat->Nat->Prop}{R:List Nat}
theorem lJ.fill (h:lJ P Sh s so o la ta pl mp n lv tk bo Ds Vs F tms R x){r num kd:Nat} {L L' :List Int}{d:D}{ro lx st:Nat}(hv:Vs[r]? =some (.row num kd L))(hd:Ds[r]? =some d)
  (e1:d= .eM 107 (.ptr ro 0))(e2:s.get ro=some (.var 111 (.agg [.int .i64 num,.sl lx 0 L.length L.length,.int .i64 kd])))(e3:s.get lx=some (.arr 1 3 (ints L) st))(e4:st<=L.length)(e5:F r ro)(e6:F r lx)
  (hl:L'.length=L.length) {st' :Nat} (Zy :st' <=L.length)(g:s1.get lx=some (.arr 1 3 (ints L') st'))(hb:aH (fun j=>j=lx) s s1)(hk:Mk tms R (Vs.set r (.row num kd L'))):lJ P Sh s1 so o la ta pl mp n lv tk bo Ds (Vs.set r (.row num kd L')) F tms R x:=by
 have hs:=h.ok;have Yt:=h.hF r lx e6;have nro:ro≠lx:=by rintro rfl; rw [e2]at e3; cases e3
 have nmp:lx≠mp:=by rintro rfl; rw [h.st.gm]at e3; cases e3
 have nu: ¬ Dj s lx:=by rintro ⟨es,kX,hg⟩; rw [e3]at hg; cases hg
 have u2:∀q,Dj s q->Dj s1 q:=by
  intro q hq;have hq' :=hq;obtain⟨es,kX,hg⟩:=hq;exact⟨es,kX,hb.get hs hg (by rintro rfl; exact nu hq')⟩
 refine { h with ok:=hb.ok,st:=h.st.dT hs hb ?_,vs:= ?_,bl:=⟨hb.get hs h.bl.go (fun e=>Yt.2.1 e.symm)⟩,rf:=h.rf.dT hs hb (fun q a l c e e' =>Yt.2.2 q a l c e (by rw [e'])),md:=hk}
 ·rintro j (hj | hj) rfl
  ·exact Yt.1 hj
  ·exact nmp hj
 ·refine⟨by rw [iL]; exact h.vs.ln,fun i d' v h1 h2=> ?_,fun i j q h1 h2=> ?_,fun i q hq=> ?_⟩
  ·by_cases hir:i=r
   ·subst hir;rw [hd]at h1;have eW:=(aj.mp hv).1;rw [List.getElem?_set_self eW]at h2;cases h1; cases h2;refine⟨ro,lx,st',e1, ?_,g,by omega,e5,e6⟩;rw [hl]; exact hb.get hs e2 nro
   ·rw [List.getElem?_set_ne (fun e=>hir e.symm)]at h2;refine (h.vs.at' i d' v h1 h2).dT hs hb fun j _ hj e=> ?_;subst e;rcases h.vs.dj i r _ hj e6 with e | e
    ·exact hir e
    ·exact nu e
  ·exact (h.vs.dj i j q h1 h2).imp id (u2 q)
  ·exact⟨cC (h.vs.lt i q hq).1 hb.n,(h.vs.lt i q hq).2⟩
theorem Mk.fill (h:Mk tms R Vs){r num kd:Nat} {L L' :List Int}(hv:Vs[r]? =some (.row num kd L))(hl:L'.length=L.length):Mk tms R (Vs.set r (.row num kd L')):=by
 intro k q u h1 h2;obtain⟨w,h3,h4⟩:=h k q u h1 h2;by_cases hqr:q=r
 ·subst hqr;rw [hv]at h3; cases h3;refine⟨_,List.getElem?_set_self (aj.mp hv).1, ?_⟩;unfold F7 at h4 ⊢;rcases h4 with ⟨_,h5⟩ | ⟨_,h5⟩ | ⟨_,h5⟩ | ⟨_,h5⟩ | ⟨h6,_,_,_,h5,h7,h8⟩ | ⟨_,_,_,_,h5,_⟩ | ⟨_,_,_,h5⟩ | ⟨_,_,_,_,h5,_⟩;all_goals first | (cases h5; done) | skip
  cases h5;exact .inr (.inr (.inr (.inr (.inl ⟨h6,_,_,_,rfl,h7,by omega⟩))))
 ·exact⟨w,by rw [List.getElem?_set_ne (fun e=>hqr e.symm)]; exact h3,h4⟩
end
noncomputable def aa2:AC:=match Jk 3 with
 | .loop _ (.seq _ (.seq _ (.seq (.block _ (.seq _ (.seq _ (.seq _ (.cond _ (.seq _ (.block _ c)) _))))) _)))=>c
 | _=> .skip
def FK (nl:Bool)(so bo ro:Nat)(tms:List Tm)(j:Nat)(n2:Bool)(kids:List Int)(i:Nat):Env:=[(0,.ptr so 0),(6,.ptr bo 0),(13,.ptr ro 0),(54,.vs nl 8 (tms.map Tm.d)),(55,.int .i64 (tms.length:Nat)),(56,.int .i64 (j:Nat)),(76,.vs n2 1 (ints kids)),(77,.int .i64 (kids.length:Nat)),(78,.int .i64 (i:Nat))]
theorem KQ {α:Type}{A L:List α}{i:Nat}{a:α}(hl:A.length=L.length)(ha:A[i]? =some a):(A.take i++L.drop i).set i a=A.take (i+1)++L.drop (i+1):=by
 obtain⟨h1,rfl⟩:=aj.mp ha;have h2:i < L.length:=by omega
 have h3:(A.take i).length=i:=by rw [dB]; omega
 rw [l7 _ _ (by omega),h3,ef,fg h2,jD,show A.take (i+1)=A.take i++ [A[i]] by rw [gH,ak h1]; rfl,fS];rfl
theorem ints_set (L:List Int)(i:Nat)(a:Int):(ints L).set i (.int .i64 a)=ints (L.set i a):=by
 simp [ints,List.map_set]
section
variable {T:Nat->Option dJ}{H:au}{s s1:St}{so bo i:Nat}{x:D}{tms:List Tm}{t:Tm}{o la ta pl mp P Sh n lv tk:Nat}{Ds:List D}{Vs:List fE}{F:Nat->Nat->Prop}{R:List Nat}
theorem JI (h:lJ P Sh s so o la ta pl mp n lv tk bo Ds Vs F tms R x)(hN:tms.length<=200)(hR:R.length=tms.length)(hg:∀k∈t.kids,0<=k/\k < tms.length)(lE:t.Ok){r num kd:Nat}{L:List Int}{ro lx st:Nat}
  (e2:s.get ro=some (.var 111 (.agg [.int .i64 num,.sl lx 0 L.length L.length,.int .i64 kd])))(e3:s.get lx=some (.arr 1 3 (ints L) st))(e4:st<=L.length)(e5:F r ro)(e6:F r lx)(hl:L.length=t.kids.length){nl n2:Bool}{j:Nat}{k:List iI}{Q:QP}{E:Env}
  (hE:E.bM [0,6,13,54,55,56,76,77,78]=FK nl so bo ro tms j n2 t.kids 0)
  (hd:∀s1 st',st' <=L.length->s1.get lx=some (.arr 1 3 (ints (rowOf R t)) st')->aH (fun j=>j=lx) s s1->lB T H .normal k ⟨(79,.bool false)::FK nl so bo ro tms j n2 t.kids t.kids.length,[]⟩ s1 Q):
  dR T H aa2 (.block 6::k) ⟨E,[]⟩ s Q:=by
 have hs:=h.ok;have Yt:=h.hF r lx e6;have nro:ro≠lx:=by rintro rfl; rw [e2]at e3; cases e3
 have vQ:=BN R t;have sD:=lE.kids;have gb:=h.bl.go;have xK:bo≠lx:=fun e=>Yt.2.1 e.symm;show dR T H (.loop _ _) (.block 6::k) ⟨E,[]⟩ s Q;refine fw t.kids.length (FK nl so bo ro tms j n2 t.kids) (fun i s1=>∃st',st' <=L.length/\s1.get lx=some (.arr 1 3 (ints ((rowOf R t).take i++L.drop i)) st')/\aH (fun j=>j=lx) s s1) ⟨st,e4,by simpa using e3,aH.refl hs⟩ ?_ rfl hE;rintro i s1 hi ⟨st',SF,gl1,b1⟩;have ok1:=b1.ok;by_cases eW:i < t.kids.length
 ·obtain⟨kn,hk⟩:∃kn:Nat,t.kids[i]? =some (kn:Int):=by
   have:=hg t.kids[i] (cA eW);exact⟨t.kids[i].toNat,by rw [ak eW]; congr 1; omega⟩
  have hkm:=hg _ (bG hk);have J1:kn < R.length:=by omega
  obtain⟨rk,hrk⟩:∃rk,R[kn]? =some rk:=⟨_,ak J1⟩;have qZ:(rowOf R t)[i]? =some ((rk:Nat):Int):=by
   simp only [rowOf,aO,hk,dh,aQ,hrk,eB]
  have wZ:(ints t.kids)[i]? =some (.int .i64 (kn:Nat)):=by simp only [ints,aO,hk,dh]
  have hd:=ur ((i:Int) < (t.kids.length:Nat));have w1:IntKind.wrap .i64 ((i:Int)+1)=((i+1:Nat):Int):=by rw [wrap_small (by omega) (by omega)]; omega
  have Eh:(ints ((rowOf R t).take i++L.drop i)).length=L.length:=by
   rw [fH,an,dB,km]; omega
  have hms:=KQ (A:=rowOf R t) (L:=L) (i:=i) (by omega) qZ;obtain⟨q,rfl,Re,J3,hq3⟩:=h.rf.at' hrk;have hql:q≠lx:=fun e=>Yt.2.2 _ _ _ _ rfl e.symm;have Gx:=b1.get hs gb xK;have gr1:=b1.get hs e2 nro;have K9:=b1.get hs Re hql;have hqe:=jv R
  obtain⟨z,hz⟩:∃z:Int,(ints ((rowOf R t).take i++L.drop i))[0+i]? =some (.int .i64 z):=by
   have h1:i < ((rowOf R t).take i++L.drop i).length:=by rw [an,dB,km]; omega
   exact⟨((rowOf R t).take i++L.drop i)[i],by rw [aU]; simp only [ints,aO,ak h1,dh]⟩
  have lx1:=ok1.lt gl1;show dR T H _ _ ⟨[(0,.ptr so 0),(6,.ptr bo 0),(13,.ptr ro 0),(54,.vs nl 8 (tms.map Tm.d)),(55,.int .i64 (tms.length:Nat)),(56,.int .i64 (j:Nat)),(76,.vs n2 1 (ints t.kids)),(77,.int .i64 (t.kids.length:Nat)),(78,.int .i64 (i:Nat))],[]⟩ _ _;try refine go ?_
  refine dI eW ⟨L.length,aq _, ?_, ?_⟩
  ·rw [Eh,aU,ints_set,hms];exact gI
  ·exact bI
 ·have OD:i=t.kids.length:=by omega
  subst OD;have hdd:=qV ((t.kids.length:Int) < (t.kids.length:Nat));show dR T H _ _ ⟨[(0,.ptr so 0),(6,.ptr bo 0),(13,.ptr ro 0),(54,.vs nl 8 (tms.map Tm.d)),(55,.int .i64 (tms.length:Nat)),(56,.int .i64 (j:Nat)),(76,.vs n2 1 (ints t.kids)),(77,.int .i64 (t.kids.length:Nat)),(78,.int .i64 (t.kids.length:Nat))],[]⟩ _ _;try refine go ?_
  refine hd s1 st' SF ?_ b1;rw [dH (by omega),fc (by omega),de]at gl1;exact gl1
end
def mW (R:List Nat)(tms:List Tm)(Vs:List fE):Nat->List fE
 | 0=>Vs
 | j+1=>match tms[j]?,R[j]? with
  | some t,some r=>nJ R t r (mW R tms Vs j)
  | _,_=>mW R tms Vs j
def F3 (nl:Bool)(so bo:Nat)(tms:List Tm)(j:Nat):Env:=[(0,.ptr so 0),(6,.ptr bo 0),(54,.vs nl 8 (tms.map Tm.d)),(55,.int .i64 (tms.length:Nat)),(56,.int .i64 (j:Nat))]
section
variable {T:Nat->Option dJ}{H:au}{s s1:St}{so bo i:Nat}{x:D}{tms:List Tm}{t:Tm}{o la ta pl mp P Sh n lv tk:Nat}{Ds:List D}{Vs:List fE}{F:Nat->Nat->Prop}{R:List Nat}
noncomputable def Y0:AC:=match Jk 3 with
 | .loop _ a=>a
 | _=> .skip
def F6 (F:Nat->Nat->Prop)(s:St)(j:Nat):Prop:=(∃i,F i j)/\ ¬ Dj s j
theorem X7 (hS:TS T)(h:lJ P Sh s so o la ta pl mp n lv tk bo Ds Vs F tms R x)(hN:tms.length<=200)(hR:R.length=tms.length){j r:Nat}(vR:tms[j]? =some t)(hr:R[j]? =some r)(hg:∀k∈t.kids,0<=k/\k < tms.length){nl:Bool}{I:Nat->St->Prop}{k:List iI}{Q:QP}
  (hk:∀s1,lJ P Sh s1 so o la ta pl mp n lv tk bo Ds (nJ R t r Vs) F tms R x->aH (F6 F s) s s1->I (j+1) s1):
  dR T H Y0 (.loop (NJ tms.length (F3 nl so bo tms) I) [0,6,54,55,56] (tms.length - j)::k) ⟨F3 nl so bo tms j,[]⟩ s Q:=by
 have hj:j < tms.length:=(aj.mp vR).1;have hd:=ur ((j:Int) < (tms.length:Nat));have ha:=kD vR;have gb:=h.bl.go;have hs:=h.ok;have lE:=h.tm t (bG vR);have w1:IntKind.wrap .i64 ((j:Int)+1)=((j+1:Nat):Int):=by rw [wrap_small (by omega) (by omega)]; omega
 obtain⟨q,rfl,Re,J3,hq3⟩:=h.rf.at' hr;have hqe:=jv R;obtain⟨v,hv,SA⟩:=h.md j r t hr vR;obtain⟨d,GF,Lo⟩:=h.vs.get hv;show dR T H (.seq _ _) _ ⟨[(0,.ptr so 0),(6,.ptr bo 0),(54,.vs nl 8 (tms.map Tm.d)),(55,.int .i64 (tms.length:Nat)),(56,.int .i64 (j:Nat))],[]⟩ s Q;by_cases Xu:∃num kd L,v= .row num kd L
 ·obtain⟨num,kd,L,rfl⟩:=Xu;have H6:nJ R t r Vs=Vs.set r (.row num kd (rowOf R t)):=by unfold nJ; rw [hv]
  have acB :=Lo;obtain⟨ro,lx,st,rfl,e2,e3,e4,e5,e6⟩:=Lo;have hL:L.length=t.kids.length:=by
   unfold F7 at SA;rcases SA with ⟨_,h5⟩ | ⟨_,h5⟩ | ⟨_,h5⟩ | ⟨_,h5⟩ | ⟨h6,_,_,_,h5,h7,h8⟩ | ⟨_,_,_,_,h5,_⟩ | ⟨_,_,_,h5⟩ | ⟨_,_,_,_,h5,_⟩;all_goals first | (cases h5; done) | skip
   cases h5;exact h8
  have vQ:=BN R t;have s9:=fH t.kids;try refine go ?_
  refine af (cz hS h.st GF) ?_;rintro d s1 ⟨rfl,rfl⟩;try refine go ?_
  refine JI (nl:=nl) (n2:=t.n2) (j:=j) h hN hR hg lE (r:=r) e2 e3 e4 e5 e6 hL ?_ ?_;rotate_left
  ·intro s2 st' q1 q2 q3;simp only [FK];try refine go ?_
   refine dI hj (hk _ ?_ (q3.mono fun y hy=>⟨⟨r,by rw [hy]; exact e6⟩,by rintro ⟨es,kX,e⟩; rw [hy,e3]at e; simp at e⟩));rw [H6];exact h.fill hv GF rfl e2 e3 e4 e5 e6 (by omega) q1 q2 q3 (h.md.fill hv (by omega))
  ·simp only [FK,← s9];rfl
 ·have H6:nJ R t r Vs=Vs:=by
   unfold nJ; rw [hv];cases v <;> first | rfl | exact absurd ⟨_,_,_,rfl⟩ Xu
  rw [H6]at hk;have dn:∃ty y,d= .eM ty y/\Nat.beq ty 107=false:=by
   cases v with
   | none=>exact ⟨_,_,Lo,rfl⟩
   | bool b=>exact ⟨_,_,Lo,rfl⟩
   | int n=>obtain ⟨y,h1,_⟩:=Lo; exact ⟨_,_,h1,rfl⟩
   | str t=>exact ⟨_,_,Lo.1,rfl⟩
   | row num kd L=>exact absurd ⟨_,_,_,rfl⟩ Xu
   | pC num kd E=>obtain ⟨_,_,h1,_⟩:=Lo; exact ⟨_,_,h1,rfl⟩
   | cls num a b=>obtain ⟨_,_,_,h1,_⟩:=Lo; exact ⟨_,_,h1,rfl⟩
   | inst num c=>obtain ⟨_,_,h1,_⟩:=Lo; exact ⟨_,_,h1,rfl⟩
   | view num kd of=>obtain ⟨_,h1,_⟩:=Lo; exact ⟨_,_,h1,rfl⟩
  obtain⟨ty,y,rfl,Rk⟩:=dn;try refine go ?_
  refine af (cz hS h.st GF) ?_;rintro d s1 ⟨rfl,rfl⟩;refine lR ?_ (ho:=mB rfl Rk);try refine go ?_
  exact dI hj (hk _ h (aH.refl hs))
theorem Pn (hS:TS T)(h:lJ P Sh s so o la ta pl mp n lv tk bo Ds Vs F tms R x)(hN:tms.length<=200)(hR:R.length=tms.length)(hg:∀t∈tms,∀k∈t.kids,0<=k/\k < tms.length){nl:Bool}{k:List iI}{Q:QP}{E:Env}
  (hE:E.bM [0,6,54,55,56]=F3 nl so bo tms 0)
  (hd:∀s1,lJ P Sh s1 so o la ta pl mp n lv tk bo Ds (mW R tms Vs tms.length) F tms R x->aH (F6 F s) s s1->lB T H .normal k ⟨[(57,.bool false),(0,.ptr so 0),(6,.ptr bo 0),(54,.vs nl 8 (tms.map Tm.d)),(55,.int .i64 (tms.length:Nat)),(56,.int .i64 (tms.length:Nat))],[]⟩ s1 Q):
  dR T H (Jk 3) (.block 4::k) ⟨E,[]⟩ s Q:=by
 show dR T H (.loop _ _) (.block 4::k) ⟨E,[]⟩ s Q;refine fw tms.length (F3 nl so bo tms) (fun j s1=>lJ P Sh s1 so o la ta pl mp n lv tk bo Ds (mW R tms Vs j) F tms R x/\aH (F6 F s) s s1) ⟨h,aH.refl h.ok⟩ ?_ rfl hE;rintro j s1 hj ⟨h1,h2⟩;by_cases eW:j < tms.length
 ·obtain⟨t,ht⟩:∃t,tms[j]? =some t:=⟨_,ak eW⟩;obtain⟨r,hr⟩:∃r,R[j]? =some r:=⟨_,ak (by omega)⟩;refine X7 hS h1 hN hR ht hr (hg t (bG ht)) fun s2 h3 h4=>⟨?_,h2.trans (h4.mono fun y hy=>⟨hy.1,fun hu=>hy.2 (hu.dT h.ok h2 fun hw=>hw.2 hu)⟩)⟩;have:mW R tms Vs (j+1)=nJ R t r (mW R tms Vs j):=by
   show (match tms[j]?,R[j]? with | some t,some r=>nJ R t r (mW R tms Vs j) | _,_=>mW R tms Vs j)=_;rw [ht,hr]
  rw [this]; exact h3
 ·have OD:j=tms.length:=by omega
  subst OD;have hdd:=qV ((tms.length:Int) < (tms.length:Nat));show dR T H _ _ ⟨[(0,.ptr so 0),(6,.ptr bo 0),(54,.vs nl 8 (tms.map Tm.d)),(55,.int .i64 (tms.length:Nat)),(56,.int .i64 (tms.length:Nat))],[]⟩ s1 Q;try refine go ?_
  exact hd s1 h1 h2
end
theorem SN (L:List Int):eC 1 (ints L)=true:=by
 induction L with
 | nil=>rfl
 | cons v V ih=>simp only [ints,bT,eC]at ih ⊢; rw [ih]; rfl
def AQ:List fE:=[.none,.bool false,.bool true]
theorem aaV {P:Nat}{s:St}:eh P s (fun _ _=>False) three AQ:=by
 refine⟨rfl,fun i d v h1 h2=> ?_,fun _ _ _ h=>h.elim,fun _ _ h=>h.elim⟩
 match i with
 | 0=>cases h1; cases h2; rfl
 | 1=>cases h1; cases h2; rfl
 | 2=>cases h1; cases h2; rfl
 | i+3=>simp at h1
def Ud (P Sh:Nat)(s:St)(so o la ta pl mp:Nat)(tms:List Tm)(d:D)(s1:St):Prop:=
 s1.Ok/\aH (br so o la ta pl) s s1/\((∃e:Int,e≠0/\wE tms e/\d= .gW [.vs true 0 [],.int .i64 e]/\aX s1 so o la ta pl mp P Sh three 0 0 0)\/
 (∃q st Ds Vs n tk F R,d= .gW [.sl q 0 R.length R.length,.int .i64 0]/\s1.get q=some (.arr 1 3 (ints (R.map Int.ofNat)) st)/\st<=R.length/\aX s1 so o la ta pl mp P Sh Ds n n tk/\n<=400/\Ds.length<=403/\tk<=400/\eh P s1 F Ds (mW R tms Vs tms.length)/\qn P tms AQ 0 R Vs n/\R.length=tms.length/\Mk tms R (mW R tms Vs tms.length)/\wE tms 0/\∀i j,F i j->s.n<=j\/Dj s1 j))
section
variable {T:Nat->Option dJ}{H:au}{s s1:St}{so bo i:Nat}{x:D}{tms:List Tm}{t:Tm}{o la ta pl mp P Sh n lv tk:Nat}{Ds:List D}{Vs:List fE}{F:Nat->Nat->Prop}{R:List Nat}
theorem NV {b kk t r:Nat}{e:Env}{ds:List (D×List D)}{g:Option (Nat×Bool)}{q:List Nat}{acc:List Fp}{l:List (bz×List Nat)}{k:List iI}{Q:QP}{fp:Fp}{sz bytes ty z:Nat}{x y:bO}{yd:D} {o off len cp st z' ty' :Nat}{es:List D}(hi:items s yd=some (z,[]))(h:fF T H b kk l (acc++ [fp]) k ⟨(t,.sl o off len cp)::e,ds⟩ s Q)(hw:aJ e g=some true:=by rfl)(hx:x.ev e=some (.sl o off len cp):=by rfl)(hy:y.ev e=some yd:=by rfl)(hg:s.get o=some (.arr z' ty' es st):=by exact gI)(hb:Nat.ble bytes 4096=true:=by rfl)(hf:cl b e ⟨some t,.append sz bytes ty x y,g,some r⟩=fp:=by exact fI)(hc:eQ acc fp q=true:=by exact cI)(kB:Env.cE e (some t)=false:=by rfl)(hk:Nat.beq (bz.op ⟨some t,.append sz bytes ty x y,g,some r⟩).kind 5=false:=by rfl):
  fF T H b kk ((⟨some t,.append sz bytes ty x y,g,some r⟩,q)::l) acc k ⟨e,ds⟩ s Q:=by
 subst hf;refine fk hc kB (lP rfl) h hw ?_ hk;have ha:eC sz []=true:=rfl;cases yd <;> simp only [items]at hi <;> first | (cases hi; done) | skip
 all_goals simp only [cg,hx,hy,items,hi,Bool.or_true,hb,ha,ff,hg]
theorem Mg (hS:TS T)(hTt:TT T)(hP:TP T)(hW:TW T)(hV:TV T)(hX:TX T)(hU:TU T H)(hs:s.Ok)(cG:aX s so o la ta pl mp P Sh three 0 0 0)(hT:LJ tms)(pb:P<=65536)(Uw:tms.length<=P)(sb:Sh<=256):
  bY T H 12 [.ptr so 0,.vs false 8 (tms.map Tm.d)] s (Ud P Sh s so o la ta pl mp tms):=by
 have hlen:=hT.len;have H9:(tms.map Tm.d).length=tms.length:=aY _;have lso:=cG.lt hs (j:=so) (.inl (.inl rfl));have nof:∀j,(br so o la ta pl j\/j=mp)->j < s.n:=fun j hj=>cG.lt hs hj;have aci:tms=tms:=rfl;obtain⟨sB,hsB⟩:∃sB,sB=s.aZ (.var 105 (.agg [.ptr so 0,.vs false 8 (tms.map Tm.d),.vs true 0 []])):=⟨_,rfl⟩;have bB:aH Nil s sB:=by rw [hsB]; exact (aH.refl hs).push _
 have okB:=bB.ok;have stB:=cG.dT hs bB fun _ _ h=>h;have gB:sB.get s.n=some (.var 105 (.agg [.ptr so 0,.vs false 8 (tms.map Tm.d),.vs true 0 []])):=by rw [hsB]; exact St.bq
 subst hsB;refine aD hS.t12 ?_;have Xo:(((tms.map Tm.d).length:Nat):Int)=(tms.length:Nat):=by rw [H9]
 try refine go ?_
 refine Pl (nl:=false) hS hW hV hX hU Uw okB stB ⟨gB⟩ hT ?_ (fun h=>by cases h) ?_ ?_
 ·simp only [← Xo]; rfl
 ·intro e fr s1 he Yz b1;try refine go ?_
  refine ai ⟨b1.ok,(bB.trans b1).mono (fun _ h=>h.elim),.inl ⟨e,he,Yz,rfl,stB.dT okB b1 fun _ _ h=>h⟩⟩
 intro s1 hgE b1
 have hg:∀i t,tms[i]? =some t->mV tms i t:=fun i t ht=>FI (by
  rcases hgE with ⟨_,h2⟩ | ⟨h1,_⟩
  ·exact h2 i t ht
  ·exact absurd rfl h1)
 have ok1:=b1.ok
 have cx:lJ P Sh s1 so o la ta pl mp 0 0 0 s.n three AQ (fun _ _=>False) tms [] (.vs true 0 []):=
  {ok:=ok1,pb:=pb,sb:=sb,st:=(stB.dT okB b1 fun _ _ h=>h),nb:=by omega,lb:=by omega,tb:=by omega,ds:=by decide,vs:=aaV,hF:=(fun _ _ h=>h.elim),bl:=⟨b1.get okB gB id⟩,rf:= .nil,md:=(fun k r t h=>by simp at h),b0:=⟨fun h=>fP _ (nof _ (.inl h)),fun h=>fP _ (nof _ (.inr h))⟩,x0:=(fun _ _ _ _ e=>by cases e),tm:=(fun u hu=>(hT.ok u hu).1)}
 try refine go ?_
 refine Pm (nl:=false) hS hTt hP hW hV cx hg hlen (fun h=>by cases h) ⟨rfl,rfl,rfl⟩ (by omega) (by omega) (by omega) (by decide) ?_ ?_
 ·simp only [F2,← Xo]; rfl
 rintro s2 ⟨Ds,Vs,n,lv,tk,F,R,x,c1,c2,c3,c4,c5,c6,c7,c8⟩;try refine go ?_
 refine Pn (nl:=false) hS c1 hlen c2 (fun t ht k hk=> ?_) ?_ ?_
 ·obtain⟨i,hi⟩:=ed ht;have h1:=(hg i t hi).kids k hk;have h2:=(aj.mp hi).1;refine⟨h1.1, ?_⟩;have h3:=h1.2;split at h3 <;> omega
 ·simp only [F3,← Xo]; rfl
 intro s3 d1 d2;have ok3:=d1.ok;have ZG:=d1.bl.go;have lb3:=ok3.lt ZG;have hrf:=d1.rf;have n1:=bB.n; have n2:=b1.n; have n3:=c7.n;have L8:aH (br so o la ta pl) s s3:=by
  refine ((bB.trans b1).mono fun _ h=>h.elim).trans' c7 (fun y hy hl=> ?_) |>.trans' d2 (fun y hy hl=> ?_)
  ·rcases hy with hy | rfl
   ·exact hy
   ·exact absurd hl (fP _)
  ·obtain⟨⟨i,hi⟩,hu⟩:=hy;rcases c8 i y hi with h1 | h1 | h1
   ·exact h1.elim
   ·omega
   ·exact absurd h1 hu
 have fin:∀ {s4:St} {q st:Nat},aH Nil s3 s4->s4.get q=some (.arr 1 3 (ints (R.map Int.ofNat)) st)->st<=R.length->Ud P Sh s so o la ta pl mp tms (.gW [.sl q 0 R.length R.length,.int .i64 0]) s4:=by
  intro s4 q st b4 g4 h4;have d3:=d1.nil b4;have n4:=b4.n;have e1:lv=n:=by omega
  subst e1;have pk:Ds.length<=403:=by have:=c5.2.2.2.2; simp only [aT,b9]at this; omega
  exact⟨b4.ok,L8.trans (b4.mono fun _ h=>h.elim),.inr ⟨q,st,Ds,Vs,lv,tk,F,R,rfl,g4,h4,d3.st,by omega,pk,by omega,d3.vs,c3,c2,d3.md,hgE,fun i j hj=>by
   rcases c8 i j hj with h1 | h1 | h1
   ·exact h1.elim
   ·exact .inl (by omega)
   ·exact .inr (((h1.dT c1.ok d2 fun hw=>hw.2 h1).dT ok3 b4 id))⟩⟩
 rcases hrf with _ | ⟨hgr,dn⟩
 ·try refine go ?_
  have h0:s3.get (s3.n+0)=none:=ok3.fresh _ (aq _);refine qw (dl:= .int .i64 ((0:Nat):Int)) (dc:= .int .i64 ((0:Nat):Int)) ll ll (aq _) (by omega) (by simp only [aM]; omega) ?_;try refine go ?_
  refine NV (yd:= .vs true 0 []) rfl ?_;try refine go ?_
  refine ai (fin (st:=0) ?_ (gI) (aq _));exact bI
 ·have vQ:=jv R;have acm:R.length<=200:=by omega
  have lgr:=ok3.lt hgr;rename_i qo;have fQ:=SN (R.map Int.ofNat);try refine go ?_
  refine qw (dl:= .int .i64 ((0:Nat):Int)) (dc:= .int .i64 (R.length:Int)) ll ll (cH _) (by omega) (by simp only [aM]; omega) ?_;try refine go ?_
  have Sz:ints (R.map Int.ofNat)≠ []:=by intro h; rw [h]at vQ; exact dn (List.length_eq_zero_iff.mp vQ.symm)
  refine DH (m:=ints (R.map Int.ofNat)) (es:=[]) (st:=0) (o2:=qo) (off2:=0) (len2:=R.length) (es2:=ints (R.map Int.ofNat)) fQ Sz (by rw [iu,← vQ,fb]) ?_ (he:=rfl) (hm:=by rw [vQ]; simp only [aM]; omega);try refine go ?_
  rw [vQ,aU];refine ai (fin (st:=0) ?_ (gI) (cH _));exact bI
end
section
variable {T:Nat->Option dJ}{H:au}{s:St}{t t2 n m:Nat}{b y:Bool}{h v e:Int} {cs cs' :List D}
theorem xH (hE:lC T):bY T H 42 [.agg [.int .i64 h,.bool y,.int .i64 v,.int .i64 e]] s fun d s1=>d= .agg [.int .i64 2,.jc,.int .i64 h,.bool y,.int .i64 v,.int .i64 e,.int .i64 0,.int .i64 0,.int .i64 0,.int .i64 0,.int .i64 0,.bool false,.int .i64 0,.int .i64 0]/\s1=s:=by
 refine aD hE.t42 ?_;try refine go ?_
 exact ai ⟨rfl,rfl⟩
theorem Yn (hE:lC T):bY T H 61 [.bool y] s fun d s1=>d= .agg [.int .i64 2,.jc,.int .i64 0,.bool y,.int .i64 0,.int .i64 0,.int .i64 0,.int .i64 0,.int .i64 0,.int .i64 0,.int .i64 0,.bool false,.int .i64 0,.int .i64 0]/\s1=s:=by
 refine aD hE.t61 ?_;try refine go ?_
 refine af (xH hE) ?_;rintro d s1 ⟨rfl,rfl⟩;try refine go ?_
 exact ai ⟨rfl,rfl⟩
def bX (s:St)(t:Nat)(b:Bool)(n:Nat)(cs:List D):Prop:=s.get t=some (.var 118 (.agg [.bool b,.fn (.func n) [] cs]))
theorem NU (hE:lC T)(hs:s.Ok)(ht:bX s t b n cs):bY T H 39 [.ptr t 0,.ptr t2 0,.fn (.func m) [] cs'] s fun d s1=>d= .agg [.int .i64 1,.eM 61 (.ptr t2 0),.int .i64 0,.bool false,.int .i64 0,.int .i64 0,.int .i64 0,.int .i64 0,.int .i64 0,.int .i64 0,.int .i64 0,.bool false,.int .i64 0,.int .i64 0]/\bX s1 t b m cs' /\aH (fun j=>j=t) s s1:=by
 have l:=hs.lt ht;unfold bX at ht;refine aD hE.t39 ?_;try refine go ?_
 exact ai ⟨rfl,St.aG,bI⟩
theorem XY (hE:lC T)(hs:s.Ok)(ht:bX s t b n cs):bY T H 78 [.ptr t 0,.fn (.func m) [] cs'] s fun d s1=>d= .agg [.int .i64 0,.jc,.int .i64 0,.bool false,.int .i64 0,.int .i64 0,.int .i64 0,.int .i64 0,.int .i64 0,.int .i64 0,.int .i64 0,.bool false,.int .i64 0,.int .i64 0]/\bX s1 t b m cs' /\aH (fun j=>j=t) s s1:=by
 have l:=hs.lt ht;unfold bX at ht;refine aD hE.t78 ?_;try refine go ?_
 exact ai ⟨rfl,St.aG,bI⟩
theorem LZ (hE:lC T)(hs:s.Ok)(ht:bX s t b n cs){w a c:Int}:bY T H 64 [.ptr t 0,.int .i64 w,.int .i64 a,.int .i64 c,.fn (.func m) [] cs'] s fun d s1=>d= .agg [.int .i64 3,.jc,.int .i64 0,.bool false,.int .i64 0,.int .i64 0,.int .i64 1,.int .i64 w,.int .i64 a,.int .i64 c,.int .i64 0,.bool false,.int .i64 0,.int .i64 0]/\bX s1 t b m cs' /\aH (fun j=>j=t) s s1:=by
 have l:=hs.lt ht;unfold bX at ht;refine aD hE.t64 ?_;try refine go ?_
 exact ai ⟨rfl,St.aG,bI⟩
theorem qi (hE:lC T)(ht:bX s t b n cs):bY T H 271 [.ptr t 0] s fun d s1=>d= .bool b/\s1=s:=by
 unfold bX at ht;refine aD hE.t271 ?_;try refine go ?_
 exact ai ⟨rfl,rfl⟩
theorem QC (hE:lC T)(hs:s.Ok)(ht:bX s t b n cs):bY T H 270 [.ptr t 0] s fun d s1=>d= .gW []/\bX s1 t false n cs/\aH (fun j=>j=t) s s1:=by
 have l:=hs.lt ht;unfold bX at ht;refine aD hE.t270 ?_;try refine go ?_
 exact iG ⟨rfl,St.aG,bI⟩
def aaZ (d:D):Prop:=∃(w h v e a0 a1 a2 a3 a4 a6 a7:Int) (y a5:Bool),d= .agg [.int .i64 w,.jc,.int .i64 h,.bool y,.int .i64 v,.int .i64 e,.int .i64 a0,.int .i64 a1,.int .i64 a2,.int .i64 a3,.int .i64 a4,.bool a5,.int .i64 a6,.int .i64 a7]\/
 ∃t2,d= .agg [.int .i64 w,.eM 61 (.ptr t2 0),.int .i64 h,.bool y,.int .i64 v,.int .i64 e,.int .i64 a0,.int .i64 a1,.int .i64 a2,.int .i64 a3,.int .i64 a4,.bool a5,.int .i64 a6,.int .i64 a7]
theorem vY (hE:lC T)(hs:s.Ok)(ht:bX s t b n cs){R:D->St->Prop}(hn:bY T H n (.agg [.int .i64 h,.bool y,.int .i64 v,.int .i64 e]::cs) s fun d s1=>aaZ d/\R d s1):
  bY T H 269 [.ptr t 0,.agg [.int .i64 h,.bool y,.int .i64 v,.int .i64 e]] s R:=by
 unfold bX at ht;refine aD hE.t269 ?_;try refine go ?_
 refine oK hn ?_;rintro d s2 ⟨hm,hr⟩;obtain⟨w,h',v',e',a0,a1,a2,a3,a4,a6,a7,y',a5,rfl | ⟨t2,rfl⟩⟩:=hm
 all_goals
  refine⟨rfl,rfl, ?_⟩
  repeat' first | refine go ?_ | refine fW ?_
  exact ai hr
end
def kI (P:Nat)(s:St)(Ds:List D)(i:Nat)(W:Nat->Prop):Prop:=∃d num c d' num' F F',0 < num/\Ds[i]? =some d/\eK P F s d (.inst num c)/\Ds[c]? =some d' /\eK P F' s d' (.cls num' true true)/\(∀j,F j-> ¬ W j)/\∀j,F' j-> ¬ W j
theorem kI.dT {P:Nat}{s s1:St}{Ds:List D}{i:Nat} {W W' :Nat->Prop}(h:kI P s Ds i W)(hs:s.Ok)(hb:aH W' s s1)(hw:∀j,j < s.n->W' j->W j):kI P s1 Ds i W:=by
 obtain⟨d,num,c,d',num',F,F',h0,h1,h2,h3,h4,h5,h6⟩:=h;exact⟨d,num,c,d',num',F,F',h0,h1,h2.dT hs hb fun j hj hf XA =>h5 j hf (hw j hj XA),h3,h4.dT hs hb fun j hj hf XA =>h6 j hf (hw j hj XA),h5,h6⟩
theorem E1 {s:St}{o c:Nat}{y:D}{l:List D}(hg:s.get o=some (.var c (.agg (y::l))))(J4:y.sc=true):qb s (.ptr o 0) (.load 0 (some 1))=some (.agg [y]):=by
 have e:Nat.ble (0+0+1) (y::l).length=true:=ax (by simp);show iJ s (some 1) (.ptr o (0+0))=_;simp only [iJ,hg,D.flat,part,e];rfl
section
variable {T:Nat->Option dJ}{H:au}{s:St}{so o la ta pl mp P Sh n lv tk i Q:Nat}{Ds:List D}{W:Nat->Prop}{t:Nat}{h v e:Int}{y:Bool}
theorem KP (hE:lC T)(hS:TS T)(cG:aX s so o la ta pl mp P Sh Ds n lv tk)(hi:kI Q s Ds i W):bY T H 63 [.ptr so 0,.int .i64 (i:Nat),.str [95,95,104,97,115,104,95,95]] s fun d s1=>d= .bool true/\s1=s:=by
 obtain⟨d,num,c,d',num',F,F',h0,h1,⟨po,sp,rfl,h2,_⟩,h3,⟨po',dv,fo,rfl,h4,_⟩,_⟩:=hi;have g1:=cz (H:=H) hS cG h1;have g2:=cz (H:=H) hS cG h3;refine aD hE.t63 ?_;try refine go ?_
 refine af g1 ?_;rintro d s1 ⟨rfl,rfl⟩;try refine go ?_
 refine af g2 ?_;rintro d s1 ⟨rfl,rfl⟩;try refine go ?_
 exact ai ⟨rfl,rfl⟩
theorem TF (hE:lC T)(hS:TS T)(cG:aX s so o la ta pl mp P Sh Ds n lv tk)(hi:kI Q s Ds i W):bY T H 63 [.ptr so 0,.int .i64 (i:Nat),.str [95,95,101,113,95,95]] s fun d s1=>d= .bool true/\s1=s:=by
 obtain⟨d,num,c,d',num',F,F',h0,h1,⟨po,sp,rfl,h2,_⟩,h3,⟨po',dv,fo,rfl,h4,_⟩,_⟩:=hi;have g1:=cz (H:=H) hS cG h1;have g2:=cz (H:=H) hS cG h3;refine aD hE.t63 ?_;try refine go ?_
 refine af g1 ?_;rintro d s1 ⟨rfl,rfl⟩;try refine go ?_
 refine af g2 ?_;rintro d s1 ⟨rfl,rfl⟩;try refine go ?_
 exact ai ⟨rfl,rfl⟩
theorem EA (hE:lC T)(hS:TS T)(cG:aX s so o la ta pl mp P Sh Ds n lv tk)(hi:kI Q s Ds i W):bY T H 16 [.ptr so 0,.int .i64 (i:Nat)] s fun d s1=>(∃po,d= .eM 184 (.ptr po 0))/\s1=s:=by
 obtain⟨d,num,c,d',num',F,F',h0,h1,⟨po,sp,rfl,h2,_⟩,h3,⟨po',dv,fo,rfl,h4,_⟩,_⟩:=hi;have g1:=cz (H:=H) hS cG h1;refine aD hE.t16 ?_;try refine go ?_
 refine af g1 ?_;rintro d s1 ⟨rfl,rfl⟩;have Bi:(((num:Nat):Int)==0)=false:=by simp only [eu,ne_eq]; omega
 repeat' first | refine go ?_ | refine iY ?_ (hu:=E1 h2 rfl) | refine eD hS.t268 ?_ | refine eD hS.t289 ?_
 exact ai ⟨⟨_,rfl⟩,rfl⟩
def B1 (s:St)(t bt bw bv wo v:Nat)(b:Bool):Prop:=bX s t b 66 [.ptr bw 0,.ptr bv 0,.ptr bt 0]/\s.get bt=some (.var 61 (.ptr t 0))/\s.get bw=some (.var 60 (.ptr wo 0))/\s.get bv=some (.var 3 (.int .i64 (v:Nat)))
theorem Ov (hE:lC T)(hs:s.Ok){wo v:Nat}:bY T H 35 [.ptr wo 0,.int .i64 (v:Nat)] s fun d s1=>∃t bt bw bv,d= .ptr t 0/\B1 s1 t bt bw bv wo v true/\aH Nil s s1/\(s.n<=t/\t < s1.n)/\(s.n<=bt/\s.n<=bw/\s.n<=bv)/\ [t,bt,bw,bv].Nodup:=by
 refine aD hE.t35 ?_;try refine go ?_
 refine ai ⟨s.n+1+1,s.n+1+1+1,s.n,s.n+1,rfl,⟨?_, ?_, ?_, ?_⟩, ?_, ?_, ?_, ?_⟩
 ·exact St.aG
 ·exact gI
 ·exact gI
 ·exact gI
 ·exact bI
 ·simp only [St.ej,St.ck]; omega
 ·omega
 ·simp; omega
theorem tX (hS:TS T){po:Nat}(cG:aX s so o la ta pl mp P Sh Ds n lv tk)(hi:Ds[i]? =some (.eM 184 (.ptr po 0))):bY T H 67 [.ptr so 0,.int .i64 (i:Nat)] s fun d s1=>d= .gW [.agg [.bool false,.vs true 0 []],.bool false]/\s1=s:=by
 refine aD hS.t67 ?_;try refine go ?_
 refine af (cz hS cG hi) ?_;rintro d s1 ⟨rfl,rfl⟩;try refine go ?_
 exact ai ⟨rfl,rfl⟩
theorem wB (hS:TS T){po:Nat}(cG:aX s so o la ta pl mp P Sh Ds n lv tk)(hi:Ds[i]? =some (.eM 184 (.ptr po 0))):bY T H 69 [.ptr so 0,.int .i64 (i:Nat)] s fun d s1=>d= .gW [.str [],.bool false]/\s1=s:=by
 refine aD hS.t69 ?_;try refine go ?_
 refine af (cz hS cG hi) ?_;rintro d s1 ⟨rfl,rfl⟩;try refine go ?_
 exact ai ⟨rfl,rfl⟩
theorem Aw (hE:lC T)(hS:TS T)(hs:s.Ok)(cG:aX s so o la ta pl mp P Sh Ds n lv tk)(hi:kI Q s Ds i W){wo mo t m:Nat}{b:Bool}{cs:List D}(gw:s.get wo=some (.var 115 (.agg [.ptr so 0,.ptr mo 0])))(ht:bX s t b m cs):
  bY T H 72 [.ptr wo 0,.ptr t 0,.int .i64 (i:Nat)] s fun d s1=>d= .agg [.int .i64 3,.jc,.int .i64 0,.bool false,.int .i64 0,.int .i64 0,.int .i64 1,.int .i64 1,.int .i64 (i:Nat),.int .i64 0,.int .i64 0,.bool false,.int .i64 0,.int .i64 0]/\
   ∃bw,bX s1 t b 112 [.ptr bw 0]/\s1.get bw=some (.var 60 (.ptr wo 0))/\s.n<=bw/\aH (fun j=>j=t) s s1:=by
 have lt:=hs.lt ht;have lw:=hs.lt gw;have b1:aH Nil s (s.aZ (.var 60 (.ptr wo 0))):=(aH.refl hs).push _;have kV:=cG.dT hs b1 fun _ _ h=>h;have Sr:=hi.dT hs b1 fun _ _ h=>h.elim;have ho:=EA (H:=H) hE hS kV Sr;have Rh:=KP (H:=H) hE hS kV Sr;have hak:=LZ (H:=H) (m:=112) (cs' :=[.ptr s.n 0]) (w:=1) (a:=(i:Nat)) (c:=0) hE b1.ok (b1.get hs ht fun h=>h);refine aD hE.t72 ?_;try refine go ?_
 refine af ho ?_;rintro d s1 ⟨⟨po,rfl⟩,rfl⟩;try refine go ?_
 refine af Rh ?_;rintro d s1 ⟨rfl,rfl⟩;try refine go ?_
 refine af hak ?_;rintro d s2 ⟨rfl,h1,h2⟩;try refine go ?_
 exact ai ⟨rfl,s.n,h1,h2.get b1.ok St.bq (by omega),aq _,(b1.mono fun _ h=>h.elim).trans h2⟩
theorem Bp (hS:TS T)(cG:aX s so o la ta pl mp P Sh Ds n lv tk)(hi:kI Q s Ds i W):bY T H 23 [.ptr so 0,.int .i64 (i:Nat)] s fun d s1=>d= .int .i64 14/\s1=s:=by
 obtain⟨d,num,c,d',num',F,F',h0,hd,hv,_⟩:=hi;exact xP hS cG hd hv
theorem Ou (hE:lC T)(hS:TS T)(hs:s.Ok)(cG:aX s so o la ta pl mp P Sh Ds n lv tk)(hi:kI Q s Ds i W){wo mo t m bt bw bv:Nat}{b:Bool}(gw:s.get wo=some (.var 115 (.agg [.ptr so 0,.ptr mo 0])))(ht:B1 s t bt bw bv wo i b):
  bY T H 66 [.agg [.int .i64 h,.bool y,.int .i64 v,.int .i64 e],.ptr bw 0,.ptr bv 0,.ptr bt 0] s fun d s1=>d= .agg [.int .i64 3,.jc,.int .i64 0,.bool false,.int .i64 0,.int .i64 0,.int .i64 1,.int .i64 1,.int .i64 (i:Nat),.int .i64 0,.int .i64 0,.bool false,.int .i64 0,.int .i64 0]/\
   ∃bw',bX s1 t b 112 [.ptr bw' 0]/\s1.get bw' =some (.var 60 (.ptr wo 0))/\s.n<=bw' /\aH (fun j=>j=t) s s1:=by
 obtain⟨h1,h2,h3,h4⟩:=ht;have lt:=hs.lt h1; have lw:=hs.lt gw; have l2:=hs.lt h2; have l3:=hs.lt h3; have l4:=hs.lt h4;have hi' :=hi;obtain⟨d,num,c,d',num',F,F',h0,hd,⟨po,sp,rfl,_⟩,_⟩:=hi';obtain⟨s2,o7⟩:∃s2,s2=({ s.up 1 with ro:=true,h:=pT (0+1) s.n (s.up 1).h}:St):=⟨_,rfl⟩;have jn:∀o,s2.get o=if s.n<=o/\o < s.n+(0+1) then none else s.get o:=fun o=>by rw [o7]; exact lL _ _ _ _
 have yY:∀o x,s.get o=some x->s2.get o=some x:=fun o x hx=>by
  have:=hs.lt hx;rw [jn,aI (by omega)]; exact hx
 have Lq:=tX (H:=H) hS (cG.sub yY) hd;rw [o7]at Lq;refine aD hE.t66 ?_;simp only [lW];try refine go ?_
 refine mq Lq ?_;rintro d s1 ⟨rfl,_⟩;refine⟨rfl, ?_⟩;clear Lq;try refine go ?_
 have b0:aH Nil s ((s.up 1).bn (s.n+0) (.var 30 (.agg [.bool false,.vs true 0 []]))):=aH.set ((aH.refl hs).up 1) _ (by rw [St.iK]; omega) (fun hh=>by omega);have b1:aH Nil s (((s.up 1).bn (s.n+0) (.var 30 (.agg [.bool false,.vs true 0 []]))).bn (s.n+0) (.var 30 (.agg [.bool false,.vs true 0 []]))):=aH.set b0 _ (by rw [St.ej,St.iK]; omega) (fun hh=>by omega);have kV:=cG.dT hs b1 fun _ _ h=>h;have Sr:=hi.dT hs b1 fun _ _ h=>h.elim;have Ie:=wB (H:=H) hS kV hd;have hho:=Aw (H:=H) hE hS b1.ok kV Sr (b1.get hs gw fun h=>h) (b1.get hs h1 fun h=>h);have kM:=Bp (H:=H) hS kV Sr;refine aV Ie ?_;rintro d s3 ⟨rfl,rfl⟩;refine⟨rfl,by rfl, ?_⟩;try refine go ?_
 refine aV kM ?_;rintro d s3 ⟨rfl,rfl⟩;refine⟨rfl,by rfl, ?_⟩;try refine go ?_
 refine af hho ?_;rintro d s3 ⟨rfl,bw',z1,z2,z3,z4⟩;try refine go ?_
 have:=b1.n;exact ai ⟨rfl,bw',z1,z2,by omega,(b1.mono fun _ h=>h.elim).trans z4⟩
end
end Go.Proofs.Tab
