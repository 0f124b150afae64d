/- Part. -/
import Derived.Test.YtjaldhgmboeffaaGreatDoorG35
set_option linter.unusedSimpArgs false
set_option linter.unusedVariables false
set_option linter.unusedSectionVars false
set_option maxRecDepth 100000
set_option maxHeartbeats 4000000
namespace Go.Proofs.Tab
open Go Go.Ab Go.Ab.Sm
def rowOf (R:List Nat)(t:Tm):List Int:=t.kids.map fun k=>((R[k.toNat]?.getD 0:Nat):Int)
def pJ (R:List Nat)(t:Tm)(r:Nat)(Vs:List gP):List gP:=match Vs[r]? with
 | some (.row num kd L)=>Vs.set r (.row num kd (rowOf R t))
 | _=>Vs
theorem A6 (R:List Nat)(t:Tm):(rowOf R t).length=t.kids.length:=aJ _
section
variable {s s1:St}{so bo i:Nat}{x:D}{tms:List Tm}{t:Tm}{o la ta pl mp P Sh n lv tk:Nat}{Ds:List D}{Vs:List gP}{F:Nat->Nat->Prop}{R:List Nat}
theorem ma.fill (h:ma P Sh s so o la ta pl mp n lv tk bo Ds Vs F tms R x){r num kd:Nat} {L L' :List Int}{d:D}{ro lx st:Nat}(hv:Vs[r]? =some (.row num kd L))(hd:Ds[r]? =some d)
  (e1:d= .ia 118 (.ptr ro 0))(e2:s.get ro=some (.var 122 (.agg [.int .i64 num,.sl lx 0 L.length L.length,.int .i64 kd])))(e3:s.get lx=some (.arr 1 3 (ints L) st))(e4:st<=L.length)(e5:F r ro)(e6:F r lx)
  (hl:L'.length=L.length) {st' :Nat} (e4' :st' <=L.length)(g:s1.get lx=some (.arr 1 3 (ints L') st'))(hb:aF (fun j=>j=lx) s s1)(hk:Mk tms R (Vs.set r (.row num kd L'))):ma P Sh s1 so o la ta pl mp n lv tk bo Ds (Vs.set r (.row num kd L')) F tms R x:=by
 have hs:=h.ok;have Yq:=h.hF r lx e6;have nro:ro≠lx:=by rintro rfl; rw [e2]at e3; cases e3
 have nmp:lx≠mp:=by rintro rfl; rw [h.st.gm]at e3; cases e3
 have nu: ¬ E7 s lx:=by rintro ⟨es,st0,hg⟩; rw [e3]at hg; cases hg
 have u2:∀q,E7 s q->E7 s1 q:=by
  intro q hq;have hq' :=hq;obtain⟨es,st0,hg⟩:=hq;exact⟨es,st0,hb.get hs hg (by rintro rfl; exact nu hq')⟩
 refine { h with ok:=hb.ok,st:=h.st.dK hs hb ?_,vs:= ?_,bl:=⟨hb.get hs h.bl.go (fun e=>Yq.2.1 e.symm)⟩,rf:=h.rf.dK hs hb (fun q a l c e e' =>Yq.2.2 q a l c e (by rw [e'])),md:=hk}
 ·rintro j (hj | hj) rfl
  ·exact Yq.1 hj
  ·exact nmp hj
 ·refine⟨by rw [ic]; exact h.vs.ln,fun i d' v h1 h2=> ?_,fun i j q h1 h2=> ?_,fun i q hq=> ?_⟩
  ·by_cases hir:i=r
   ·subst hir;rw [hd]at h1;have dM:=(aj.mp hv).1;rw [jS dM]at h2;cases h1; cases h2;refine⟨ro,lx,st',e1, ?_,g,by omega,e5,e6⟩;rw [hl]; exact hb.get hs e2 nro
   ·rw [nH (fun e=>hir e.symm)]at h2;refine (h.vs.at' i d' v h1 h2).dK hs hb fun j _ hj e=> ?_;subst e;rcases h.vs.dj i r _ hj e6 with e | e
    ·exact hir e
    ·exact nu e
  ·exact (h.vs.dj i j q h1 h2).imp id (u2 q)
  ·exact⟨eK (h.vs.lt i q hq).1 hb.n,(h.vs.lt i q hq).2⟩
theorem Mk.fill (h:Mk tms R Vs){r num kd:Nat} {L L' :List Int}(hv:Vs[r]? =some (.row num kd L))(hl:L'.length=L.length):Mk tms R (Vs.set r (.row num kd L')):=by
 intro k q u h1 h2;obtain⟨w,h3,h4⟩:=h k q u h1 h2;by_cases hqr:q=r
 ·subst hqr;rw [hv]at h3; cases h3;refine⟨_,jS (aj.mp hv).1, ?_⟩;unfold zr at h4 ⊢;rcases h4 with ⟨_,h5⟩ | ⟨_,h5⟩ | ⟨_,h5⟩ | ⟨_,h5⟩ | ⟨h6,_,_,_,h5,h7,h8⟩ | ⟨_,_,_,_,h5,_⟩ | ⟨_,_,_,h5⟩ | ⟨_,_,_,_,h5,_⟩;all_goals first | (cases h5; done) | skip
  cases h5;exact .inr (.inr (.inr (.inr (.inl ⟨h6,_,_,_,rfl,h7,by omega⟩))))
 ·exact⟨w,by rw [nH (fun e=>hqr e.symm)]; exact h3,h4⟩
end
noncomputable def abE:AC:=match Jp 3 with
 | .loop _ (.seq _ (.seq _ (.seq (.block _ (.seq _ (.seq _ (.seq _ (.cond _ (.seq _ (.block _ c)) _))))) _)))=>c
 | _=> .skip
def FK (nl:Bool)(so bo ro:Nat)(tms:List Tm)(j:Nat)(n2:Bool)(kids:List Int)(i:Nat):Env:=[(0,.ptr so 0),(6,.ptr bo 0),(13,.ptr ro 0),(54,.vs nl 8 (tms.map Tm.d)),(55,.int .i64 (tms.length:Nat)),(56,.int .i64 (j:Nat)),(76,.vs n2 1 (ints kids)),(77,.int .i64 (kids.length:Nat)),(78,.int .i64 (i:Nat))]
theorem Ks {α:Type}{A L:List α}{i:Nat}{a:α}(hl:A.length=L.length)(ha:A[i]? =some a):(A.take i++L.drop i).set i a=A.take (i+1)++L.drop (i+1):=by
 obtain⟨h1,rfl⟩:=aj.mp ha;have h2:i < L.length:=by omega
 have h3:(A.take i).length=i:=by rw [cM]; omega
 rw [mG _ _ (by omega),h3,eG,fC h2,jR,show A.take (i+1)=A.take i++ [A[i]] by rw [ji,ab h1]; rfl,hZ];rfl
theorem ints_set (L:List Int)(i:Nat)(a:Int):(ints L).set i (.int .i64 a)=ints (L.set i a):=by
 simp [ints,jj]
section
variable {T:Nat->Option dU}{H:ay}{s s1:St}{so bo i:Nat}{x:D}{tms:List Tm}{t:Tm}{o la ta pl mp P Sh n lv tk:Nat}{Ds:List D}{Vs:List gP}{F:Nat->Nat->Prop}{R:List Nat}
theorem JX (h:ma P Sh s so o la ta pl mp n lv tk bo Ds Vs F tms R x)(hN:tms.length<=100)(hR:R.length=tms.length)(hg:∀k∈t.kids,0<=k/\k < tms.length)(fK:t.Ok){r num kd:Nat}{L:List Int}{ro lx st:Nat}
  (e2:s.get ro=some (.var 122 (.agg [.int .i64 num,.sl lx 0 L.length L.length,.int .i64 kd])))(e3:s.get lx=some (.arr 1 3 (ints L) st))(e4:st<=L.length)(e5:F r ro)(e6:F r lx)(hl:L.length=t.kids.length){nl n2:Bool}{j:Nat}{k:List iT}{Q:QP}{E:Env}
  (hE:E.bV [0,6,13,54,55,56,76,77,78]=FK nl so bo ro tms j n2 t.kids 0)
  (hd:∀s1 st',st' <=L.length->s1.get lx=some (.arr 1 3 (ints (rowOf R t)) st')->aF (fun j=>j=lx) s s1->lg T H .normal k ⟨(79,.bool false)::FK nl so bo ro tms j n2 t.kids t.kids.length,[]⟩ s1 Q):
  eH T H abE (.block 6::k) ⟨E,[]⟩ s Q:=by
 have hs:=h.ok;have Yq:=h.hF r lx e6;have nro:ro≠lx:=by rintro rfl; rw [e2]at e3; cases e3
 have ur:=A6 R t;have j9:=fK.kids;have gb:=h.bl.go;have wU:bo≠lx:=fun e=>Yq.2.1 e.symm;show eH T H (.loop _ _) (.block 6::k) ⟨E,[]⟩ s Q;refine ee t.kids.length (FK nl so bo ro tms j n2 t.kids) (fun i s1=>∃st',st' <=L.length/\s1.get lx=some (.arr 1 3 (ints ((rowOf R t).take i++L.drop i)) st')/\aF (fun j=>j=lx) s s1) ⟨st,e4,by simpa using e3,aF.refl hs⟩ ?_ rfl hE;rintro i s1 hi ⟨st',acb,QK,b1⟩;have ok1:=b1.ok;by_cases dM:i < t.kids.length
 ·obtain⟨kn,hk⟩:∃kn:Nat,t.kids[i]? =some (kn:Int):=by
   have:=hg t.kids[i] (bH dM);exact⟨t.kids[i].toNat,by rw [ab dM]; congr 1; omega⟩
  have hkm:=hg _ (aM hk);have UN:kn < R.length:=by omega
  obtain⟨rk,hrk⟩:∃rk,R[kn]? =some rk:=⟨_,ab UN⟩;have wM:(rowOf R t)[i]? =some ((rk:Nat):Int):=by
   simp only [rowOf,aC,hk,da,cZ,hrk,eZ]
  have Cm:(ints t.kids)[i]? =some (.int .i64 (kn:Nat)):=by simp only [ints,aC,hk,da]
  have hd:=eJ ((i:Int) < (t.kids.length:Nat));have w1:IntKind.wrap .i64 ((i:Int)+1)=((i+1:Nat):Int):=by rw [wrap_small (by omega) (by omega)]; omega
  have tN:(ints ((rowOf R t).take i++L.drop i)).length=L.length:=by
   rw [fB,aG,cM,dY]; omega
  have hms:=Ks (A:=rowOf R t) (L:=L) (i:=i) (by omega) wM;obtain⟨q,rfl,PK,zW,hq3⟩:=h.rf.at' hrk;have hql:q≠lx:=fun e=>Yq.2.2 _ _ _ _ rfl e.symm;have G8:=b1.get hs gb wU;have gr1:=b1.get hs e2 nro;have gq1:=b1.get hs PK hql;have hqe:=gT R
  obtain⟨z,hz⟩:∃z:Int,(ints ((rowOf R t).take i++L.drop i))[0+i]? =some (.int .i64 z):=by
   have h1:i < ((rowOf R t).take i++L.drop i).length:=by rw [aG,cM,dY]; omega
   exact⟨((rowOf R t).take i++L.drop i)[i],by rw [aN]; simp only [ints,aC,ab h1,da]⟩
  have lx1:=ok1.lt QK;show eH T H _ _ ⟨[(0,.ptr so 0),(6,.ptr bo 0),(13,.ptr ro 0),(54,.vs nl 8 (tms.map Tm.d)),(55,.int .i64 (tms.length:Nat)),(56,.int .i64 (j:Nat)),(76,.vs n2 1 (ints t.kids)),(77,.int .i64 (t.kids.length:Nat)),(78,.int .i64 (i:Nat))],[]⟩ _ _;try refine go ?_
  refine dw dM ⟨L.length,aq _, ?_, ?_⟩
  ·rw [tN,aN,ints_set,hms];exact gI
  ·exact bI
 ·have Cy:i=t.kids.length:=by omega
  subst Cy;have Y9:=cN ((t.kids.length:Int) < (t.kids.length:Nat));show eH T H _ _ ⟨[(0,.ptr so 0),(6,.ptr bo 0),(13,.ptr ro 0),(54,.vs nl 8 (tms.map Tm.d)),(55,.int .i64 (tms.length:Nat)),(56,.int .i64 (j:Nat)),(76,.vs n2 1 (ints t.kids)),(77,.int .i64 (t.kids.length:Nat)),(78,.int .i64 (t.kids.length:Nat))],[]⟩ _ _;try refine go ?_
  refine hd s1 st' acb ?_ b1;rw [dI (by omega),eX (by omega),dZ]at QK;exact QK
end
def nP (R:List Nat)(tms:List Tm)(Vs:List gP):Nat->List gP
 | 0=>Vs
 | j+1=>match tms[j]?,R[j]? with
  | some t,some r=>pJ R t r (nP R tms Vs j)
  | _,_=>nP R tms Vs j
def F3 (nl:Bool)(so bo:Nat)(tms:List Tm)(j:Nat):Env:=[(0,.ptr so 0),(6,.ptr bo 0),(54,.vs nl 8 (tms.map Tm.d)),(55,.int .i64 (tms.length:Nat)),(56,.int .i64 (j:Nat))]
section
variable {T:Nat->Option dU}{H:ay}{s s1:St}{so bo i:Nat}{x:D}{tms:List Tm}{t:Tm}{o la ta pl mp P Sh n lv tk:Nat}{Ds:List D}{Vs:List gP}{F:Nat->Nat->Prop}{R:List Nat}
noncomputable def aaS:AC:=match Jp 3 with
 | .loop _ a=>a
 | _=> .skip
def Gn (F:Nat->Nat->Prop)(s:St)(j:Nat):Prop:=(∃i,F i j)/\ ¬ E7 s j
theorem WJ (hS:TS T)(h:ma P Sh s so o la ta pl mp n lv tk bo Ds Vs F tms R x)(hN:tms.length<=100)(hR:R.length=tms.length){j r:Nat}(wh:tms[j]? =some t)(hr:R[j]? =some r)(hg:∀k∈t.kids,0<=k/\k < tms.length){nl:Bool}{I:Nat->St->Prop}{k:List iT}{Q:QP}
  (hk:∀s1,ma P Sh s1 so o la ta pl mp n lv tk bo Ds (pJ R t r Vs) F tms R x->aF (Gn F s) s s1->I (j+1) s1):
  eH T H aaS (.loop (OM tms.length (F3 nl so bo tms) I) [0,6,54,55,56] (tms.length - j)::k) ⟨F3 nl so bo tms j,[]⟩ s Q:=by
 have hj:j < tms.length:=(aj.mp wh).1;have hd:=eJ ((j:Int) < (tms.length:Nat));have ha:=ej wh;have gb:=h.bl.go;have hs:=h.ok;have fK:=h.tm t (aM wh);have w1:IntKind.wrap .i64 ((j:Int)+1)=((j+1:Nat):Int):=by rw [wrap_small (by omega) (by omega)]; omega
 obtain⟨q,rfl,PK,zW,hq3⟩:=h.rf.at' hr;have hqe:=gT R;obtain⟨v,hv,RJ⟩:=h.md j r t hr wh;obtain⟨d,FP,Le⟩:=h.vs.get hv;show eH T H (.seq _ _) _ ⟨[(0,.ptr so 0),(6,.ptr bo 0),(54,.vs nl 8 (tms.map Tm.d)),(55,.int .i64 (tms.length:Nat)),(56,.int .i64 (j:Nat))],[]⟩ s Q;by_cases XD:∃num kd L,v= .row num kd L
 ·obtain⟨num,kd,L,rfl⟩:=XD;have Ig:pJ R t r Vs=Vs.set r (.row num kd (rowOf R t)):=by unfold pJ; rw [hv]
  have acx :=Le;obtain⟨ro,lx,st,rfl,e2,e3,e4,e5,e6⟩:=Le;have hL:L.length=t.kids.length:=by
   unfold zr at RJ;rcases RJ with ⟨_,h5⟩ | ⟨_,h5⟩ | ⟨_,h5⟩ | ⟨_,h5⟩ | ⟨h6,_,_,_,h5,h7,h8⟩ | ⟨_,_,_,_,h5,_⟩ | ⟨_,_,_,h5⟩ | ⟨_,_,_,_,h5,_⟩;all_goals first | (cases h5; done) | skip
   cases h5;exact h8
  have ur:=A6 R t;have ja:=fB t.kids;try refine go ?_
  refine ak (dD hS h.st FP) ?_;rintro d s1 ⟨rfl,rfl⟩;try refine go ?_
  refine JX (nl:=nl) (n2:=t.n2) (j:=j) h hN hR hg fK (r:=r) e2 e3 e4 e5 e6 hL ?_ ?_;rotate_left
  ·intro s2 st' q1 q2 q3;simp only [FK];try refine go ?_
   refine dw hj (hk _ ?_ (q3.mono fun y hy=>⟨⟨r,by rw [hy]; exact e6⟩,by rintro ⟨es,st0,e⟩; rw [hy,e3]at e; simp at e⟩));rw [Ig];exact h.fill hv FP rfl e2 e3 e4 e5 e6 (by omega) q1 q2 q3 (h.md.fill hv (by omega))
  ·simp only [FK,← ja];rfl
 ·have Ig:pJ R t r Vs=Vs:=by
   unfold pJ; rw [hv];cases v <;> first | rfl | exact absurd ⟨_,_,_,rfl⟩ XD
  rw [Ig]at hk;have cE:∃ty y,d= .ia ty y/\Nat.beq ty 118=false:=by
   cases v with
   | none=>exact ⟨_,_,Le,rfl⟩
   | bool b=>exact ⟨_,_,Le,rfl⟩
   | int n=>obtain ⟨y,h1,_⟩:=Le; exact ⟨_,_,h1,rfl⟩
   | str t=>exact ⟨_,_,Le.1,rfl⟩
   | row num kd L=>exact absurd ⟨_,_,_,rfl⟩ XD
   | sU num kd E=>obtain ⟨_,_,h1,_⟩:=Le; exact ⟨_,_,h1,rfl⟩
   | cls num a b=>obtain ⟨_,_,_,h1,_⟩:=Le; exact ⟨_,_,h1,rfl⟩
   | inst num c=>obtain ⟨_,_,h1,_⟩:=Le; exact ⟨_,_,h1,rfl⟩
   | view num kd of=>obtain ⟨_,h1,_⟩:=Le; exact ⟨_,_,h1,rfl⟩
  obtain⟨ty,y,rfl,qY⟩:=cE;try refine go ?_
  refine ak (dD hS h.st FP) ?_;rintro d s1 ⟨rfl,rfl⟩;refine iV ?_ (ho:=mQ rfl qY);try refine go ?_
  exact dw hj (hk _ h (aF.refl hs))
theorem Mb (hS:TS T)(h:ma P Sh s so o la ta pl mp n lv tk bo Ds Vs F tms R x)(hN:tms.length<=100)(hR:R.length=tms.length)(hg:∀t∈tms,∀k∈t.kids,0<=k/\k < tms.length){nl:Bool}{k:List iT}{Q:QP}{E:Env}
  (hE:E.bV [0,6,54,55,56]=F3 nl so bo tms 0)
  (hd:∀s1,ma P Sh s1 so o la ta pl mp n lv tk bo Ds (nP R tms Vs tms.length) F tms R x->aF (Gn F s) s s1->lg T H .normal k ⟨[(57,.bool false),(0,.ptr so 0),(6,.ptr bo 0),(54,.vs nl 8 (tms.map Tm.d)),(55,.int .i64 (tms.length:Nat)),(56,.int .i64 (tms.length:Nat))],[]⟩ s1 Q):
  eH T H (Jp 3) (.block 4::k) ⟨E,[]⟩ s Q:=by
 show eH T H (.loop _ _) (.block 4::k) ⟨E,[]⟩ s Q;refine ee tms.length (F3 nl so bo tms) (fun j s1=>ma P Sh s1 so o la ta pl mp n lv tk bo Ds (nP R tms Vs j) F tms R x/\aF (Gn F s) s s1) ⟨h,aF.refl h.ok⟩ ?_ rfl hE;rintro j s1 hj ⟨h1,h2⟩;by_cases dM:j < tms.length
 ·obtain⟨t,ht⟩:∃t,tms[j]? =some t:=⟨_,ab dM⟩;obtain⟨r,hr⟩:∃r,R[j]? =some r:=⟨_,ab (by omega)⟩;refine WJ hS h1 hN hR ht hr (hg t (aM ht)) fun s2 h3 h4=>⟨?_,h2.trans (h4.mono fun y hy=>⟨hy.1,fun hu=>hy.2 (hu.dK h.ok h2 fun hw=>hw.2 hu)⟩)⟩;have:nP R tms Vs (j+1)=pJ R t r (nP R tms Vs j):=by
   show (match tms[j]?,R[j]? with | some t,some r=>pJ R t r (nP R tms Vs j) | _,_=>nP R tms Vs j)=_;rw [ht,hr]
  rw [this]; exact h3
 ·have Cy:j=tms.length:=by omega
  subst Cy;have Y9:=cN ((tms.length:Int) < (tms.length:Nat));show eH T H _ _ ⟨[(0,.ptr so 0),(6,.ptr bo 0),(54,.vs nl 8 (tms.map Tm.d)),(55,.int .i64 (tms.length:Nat)),(56,.int .i64 (tms.length:Nat))],[]⟩ s1 Q;try refine go ?_
  exact hd s1 h1 h2
end
theorem Q4 (L:List Int):eI 1 (ints L)=true:=by
 induction L with
 | nil=>rfl
 | cons v V ih=>simp only [ints,bG,eI]at ih ⊢; rw [ih]; rfl
def Iv:List gP:=[.none,.bool false,.bool true]
theorem TN {P:Nat}{s:St}:eV P s (fun _ _=>False) three Iv:=by
 refine⟨rfl,fun i d v h1 h2=> ?_,fun _ _ _ h=>h.elim,fun _ _ h=>h.elim⟩
 match i with
 | 0=>cases h1; cases h2; rfl
 | 1=>cases h1; cases h2; rfl
 | 2=>cases h1; cases h2; rfl
 | i+3=>simp at h1
def Dk (P Sh:Nat)(s:St)(so o la ta pl mp:Nat)(tms:List Tm)(d:D)(s1:St):Prop:=
 s1.Ok/\aF (bA so o la ta pl) s s1/\((∃e:Int,e≠0/\qQ tms e/\d= .gK [.vs true 0 [],.int .i64 e]/\bc s1 so o la ta pl mp P Sh three 0 0 0)\/
 (∃q st Ds Vs n tk F R,d= .gK [.sl q 0 R.length R.length,.int .i64 0]/\s1.get q=some (.arr 1 3 (ints (R.map Int.ofNat)) st)/\st<=R.length/\bc s1 so o la ta pl mp P Sh Ds n n tk/\n<=200/\Ds.length<=203/\tk<=200/\eV P s1 F Ds (nP R tms Vs tms.length)/\tX P tms Iv 0 R Vs n/\R.length=tms.length/\Mk tms R (nP R tms Vs tms.length)/\qQ tms 0/\∀i j,F i j->s.n<=j\/E7 s1 j))
section
variable {T:Nat->Option dU}{H:ay}{s s1:St}{so bo i:Nat}{x:D}{tms:List Tm}{t:Tm}{o la ta pl mp P Sh n lv tk:Nat}{Ds:List D}{Vs:List gP}{F:Nat->Nat->Prop}{R:List Nat}
theorem EM {b kk t r:Nat}{e:Env}{ds:List (D×List D)}{g:Option (Nat×Bool)}{q:List Nat}{acc:List Fp}{l:List (bg×List Nat)}{k:List iT}{Q:QP}{fp:Fp}{sz bytes ty z:Nat}{x y:bP}{yd:D} {o off len cp st z' ty' :Nat}{es:List D}(hi:items s yd=some (z,[]))(h:fU T H b kk l (acc++ [fp]) k ⟨(t,.sl o off len cp)::e,ds⟩ s Q)(hw:aI e g=some true:=by rfl)(hx:x.ev e=some (.sl o off len cp):=by rfl)(hy:y.ev e=some yd:=by rfl)(hg:s.get o=some (.arr z' ty' es st):=by exact gI)(hb:Nat.ble bytes 4096=true:=by rfl)(hf:cF b e ⟨some t,.append sz bytes ty x y,g,some r⟩=fp:=by exact fI)(hc:fh acc fp q=true:=by exact cI)(kz:Env.cY e (some t)=false:=by rfl)(hk:Nat.beq (bg.op ⟨some t,.append sz bytes ty x y,g,some r⟩).kind 5=false:=by rfl):
  fU T H b kk ((⟨some t,.append sz bytes ty x y,g,some r⟩,q)::l) acc k ⟨e,ds⟩ s Q:=by
 subst hf;refine fj hc kz (kI rfl) h hw ?_ hk;have ha:eI sz []=true:=rfl;cases yd <;> simp only [items]at hi <;> first | (cases hi; done) | skip
 all_goals simp only [cC,hx,hy,items,hi,kU,hb,ha,fH,hg]
theorem MX (hS:TS T)(Yb:TT T)(hP:TP T)(hW:TW T)(hV:TV T)(hX:TX T)(hU:TU T H)(hs:s.Ok)(dN:bc s so o la ta pl mp P Sh three 0 0 0)(hT:Av tms)(pb:P<=1000)(Ud:tms.length<=P)(sb:Sh<=256):
  cu T H 16 [.ptr so 0,.vs false 8 (tms.map Tm.d)] s (Dk P Sh s so o la ta pl mp tms):=by
 have hlen:=hT.len;have vf:(tms.map Tm.d).length=tms.length:=aJ _;have lso:=dN.lt hs (j:=so) (.inl (.inl rfl));have nof:∀j,(bA so o la ta pl j\/j=mp)->j < s.n:=fun j hj=>dN.lt hs hj;have ack:tms=tms:=rfl;obtain⟨sB,hsB⟩:∃sB,sB=s.bz (.var 116 (.agg [.ptr so 0,.vs false 8 (tms.map Tm.d),.vs true 0 []])):=⟨_,rfl⟩;have bB:aF Nil s sB:=by rw [hsB]; exact (aF.refl hs).push _
 have okB:=bB.ok;have stB:=dN.dK hs bB fun _ _ h=>h;have gB:sB.get s.n=some (.var 116 (.agg [.ptr so 0,.vs false 8 (tms.map Tm.d),.vs true 0 []])):=by rw [hsB]; exact St.bu
 subst hsB;refine ax hS.t16 ?_;have Qu:(((tms.map Tm.d).length:Nat):Int)=(tms.length:Nat):=by rw [vf]
 try refine go ?_
 refine MV (nl:=false) hS hW hV hX hU Ud okB stB ⟨gB⟩ hT ?_ (fun h=>by cases h) ?_ ?_
 ·simp only [← Qu]; rfl
 ·intro e fr s1 he CE b1;try refine go ?_
  refine ai ⟨b1.ok,(bB.trans b1).mono (fun _ h=>h.elim),.inl ⟨e,he,CE,rfl,stB.dK okB b1 fun _ _ h=>h⟩⟩
 intro s1 hgE b1
 have hg:∀i t,tms[i]? =some t->ka tms i t:=fun i t ht=>ry (by
  rcases hgE with ⟨_,h2⟩ | ⟨h1,_⟩
  ·exact h2 i t ht
  ·exact absurd rfl h1)
 have ok1:=b1.ok
 have cx:ma P Sh s1 so o la ta pl mp 0 0 0 s.n three Iv (fun _ _=>False) tms [] (.vs true 0 []):=
  {ok:=ok1,pb:=pb,sb:=sb,st:=(stB.dK okB b1 fun _ _ h=>h),nb:=by omega,lb:=by omega,tb:=by omega,ds:=by decide,vs:=TN,hF:=(fun _ _ h=>h.elim),bl:=⟨b1.get okB gB id⟩,rf:= .nil,md:=(fun k r t h=>by simp at h),b0:=⟨fun h=>gR _ (nof _ (.inl h)),fun h=>gR _ (nof _ (.inr h))⟩,x0:=(fun _ _ _ _ e=>by cases e),tm:=(fun u hu=>(hT.ok u hu).1)}
 try refine go ?_
 refine NH (nl:=false) hS Yb hP hW hV cx hg hlen (fun h=>by cases h) ⟨rfl,rfl,rfl⟩ (by omega) (by omega) (by omega) (by decide) ?_ ?_
 ·simp only [F2,← Qu]; rfl
 rintro s2 ⟨Ds,Vs,n,lv,tk,F,R,x,c1,c2,c3,c4,c5,c6,c7,c8⟩;try refine go ?_
 refine Mb (nl:=false) hS c1 hlen c2 (fun t ht k hk=> ?_) ?_ ?_
 ·obtain⟨i,hi⟩:=cJ ht;have h1:=(hg i t hi).kids k hk;have h2:=(aj.mp hi).1;refine⟨h1.1, ?_⟩;have h3:=h1.2;split at h3 <;> omega
 ·simp only [F3,← Qu]; rfl
 intro s3 d1 d2;have ok3:=d1.ok;have gb3:=d1.bl.go;have lb3:=ok3.lt gb3;have IU:=d1.rf;have n1:=bB.n; have n2:=b1.n; have n3:=c7.n;have b12:aF (bA so o la ta pl) s s3:=by
  refine ((bB.trans b1).mono fun _ h=>h.elim).trans' c7 (fun y hy hl=> ?_) |>.trans' d2 (fun y hy hl=> ?_)
  ·rcases hy with hy | rfl
   ·exact hy
   ·exact absurd hl (gR _)
  ·obtain⟨⟨i,hi⟩,hu⟩:=hy;rcases c8 i y hi with h1 | h1 | h1
   ·exact h1.elim
   ·omega
   ·exact absurd h1 hu
 have fin:∀ {s4:St} {q st:Nat},aF Nil s3 s4->s4.get q=some (.arr 1 3 (ints (R.map Int.ofNat)) st)->st<=R.length->Dk P Sh s so o la ta pl mp tms (.gK [.sl q 0 R.length R.length,.int .i64 0]) s4:=by
  intro s4 q st b4 g4 h4;have d3:=d1.nil b4;have n4:=b4.n;have e1:lv=n:=by omega
  subst e1;have pO:Ds.length<=203:=by have:=c5.2.2.2.2; simp only [aV,bL]at this; omega
  exact⟨b4.ok,b12.trans (b4.mono fun _ h=>h.elim),.inr ⟨q,st,Ds,Vs,lv,tk,F,R,rfl,g4,h4,d3.st,by omega,pO,by omega,d3.vs,c3,c2,d3.md,hgE,fun i j hj=>by
   rcases c8 i j hj with h1 | h1 | h1
   ·exact h1.elim
   ·exact .inl (by omega)
   ·exact .inr (((h1.dK c1.ok d2 fun hw=>hw.2 h1).dK ok3 b4 id))⟩⟩
 rcases IU with _ | ⟨hgr,cE⟩
 ·try refine go ?_
  have h0:s3.get (s3.n+0)=none:=ok3.fresh _ (aq _);refine om (dl:= .int .i64 ((0:Nat):Int)) (dc:= .int .i64 ((0:Nat):Int)) jz jz (aq _) (by omega) (by simp only [aL]; omega) ?_;try refine go ?_
  refine EM (yd:= .vs true 0 []) rfl ?_;try refine go ?_
  refine ai (fin (st:=0) ?_ (gI) (aq _));exact bI
 ·have ur:=gT R;have acj:R.length<=100:=by omega
  have lgr:=ok3.lt hgr;rename_i qo;have fS:=Q4 (R.map Int.ofNat);try refine go ?_
  refine om (dl:= .int .i64 ((0:Nat):Int)) (dc:= .int .i64 (R.length:Int)) jz jz (aS _) (by omega) (by simp only [aL]; omega) ?_;try refine go ?_
  have X0:ints (R.map Int.ofNat)≠ []:=by intro h; rw [h]at ur; exact cE (fX.mp ur.symm)
  refine CS (m:=ints (R.map Int.ofNat)) (es:=[]) (st:=0) (o2:=qo) (off2:=0) (len2:=R.length) (es2:=ints (R.map Int.ofNat)) fS X0 (by rw [gz,← ur,eE]) ?_ (he:=rfl) (hm:=by rw [ur]; simp only [aL]; omega);try refine go ?_
  rw [ur,aN];refine ai (fin (st:=0) ?_ (gI) (aS _));exact bI
end
open Go Go.Ab
noncomputable section
def cd3:=RK.mk (a:=cf Tryz.f3 3) ⟨⟨[.tmp 6],
 .seq (.sn [o 6 (.mv (.c (.bool false)))])
 (.seq (.seq (.sn [m 11 0,o 12 (.call false 4 [.t 11])])
 (.cond (.t 12)
 (.seq (.sn [o 13 (.call false 5 []),m 6 13]) (.ret)) (.skip)))
 (.seq (.seq (.sn [m 14 1,o 15 (.bin .geq (.t 14) (.c (.int .i64 0)))])
 (.cond (.t 15) (.sn [m 16 1,o 17 (.bin .sub (.c (.int .i64 (-1))) (.t 16)),m 1 17]) (.skip)))
 (.seq (.sn [o 7 (.mv (.c (.cz)))])
 (.seq (.seq (.sn [m 18 7,m 19 1,o 20 (.call false 6 [.t 18,.t 19]),o 21 (.build [.int .i64 0,.int .i64 0,.int .i64 0,.int .i64 0,.int .i64 0,.bool false,.int .i64 0,.int .i64 0] []),o 22 (.eq (.st (.cons 0 none (.int) (.cons 1 none (.int) (.cons 2 none (.int) (.cons 3 none (.int) (.cons 4 none (.int) (.cons 5 none (.bool) (.cons 6 none (.int) (.cons 7 none (.int) (.nil)))))))))) true false (.t 20) (.t 21)),
 m 23 22,w 24 (.mv (.t 7)) (23,false),w 25 (.mv (.t 1)) (23,false),w 26 (.call false 7 [.t 24,.t 25]) (23,false),w 27 (.bin .neq (.t 26) (.c (.int .i64 1))) (23,false),o 28 (.pick (.t 23) (.c (.bool true)) (.t 27)),
 m 29 28,w 30 (.mv (.t 7)) (29,false),w 31 (.call false 8 [.t 30]) (29,false),w 32 (.bin .neq (.t 31) (.c (.int .i64 0))) (29,false),o 33 (.pick (.t 29) (.c (.bool true)) (.t 32)),m 34 33,w 35 (.call false 9 [.c (.cz),
 .c (.int .i64 0)]) (34,false),w 36 (.eq (.ptr) true true (.t 35) (.c (.cz))) (34,false),o 37 (.pick (.t 34) (.c (.bool true)) (.t 36)),m 38 37,w 39 (.call false 10 [.c (.cz),.c (.int .i64 0),.c (.int .i64 0)]) (38,
 false),w 40 (.eq (.ptr) true true (.t 39) (.c (.cz))) (38,false),o 41 (.pick (.t 38) (.c (.bool true)) (.t 40)),m 42 41,w 43 (.mv (.t 2)) (42,false),w 44 (.call false 11 [.c (.cz),.c (.int .i64 0),.t 43,.c (.int .i64 0),
 .c (.int .i64 0)]) (42,false),w 45 (.eq (.ptr) true true (.t 44) (.c (.cz))) (42,false),o 46 (.pick (.t 42) (.c (.bool true)) (.t 45)),m 47 46,w 48 (.call false 12 [.c (.cz),.c (.int .i64 0),.c (.int .i64 0)]) (47,
 false),w 49 (.eq (.ptr) true true (.t 48) (.c (.cz))) (47,false),o 50 (.pick (.t 47) (.c (.bool true)) (.t 49))])
 (.cond (.t 50)
 (.seq (.sn [o 6 (.mv (.c (.bool false)))]) (.ret)) (.skip)))
 (.seq (.sn [m 52 0,o 53 (.call false 13 [.c (.int .i64 1000),.t 52]),m 51 53,o 54 (.extract 0 (.t 51)),o 55 (.extract 1 (.t 51)),m 8 54,m 9 55])
 (.seq (.seq (.sn [m 56 8,o 57 (.eq (.ptr) false true (.t 56) (.c (.cz)))])
 (.cond (.t 57)
 (.seq (.sn [m 58 9,m 59 58,w 60 (.call false 5 []) (59,true),o 61 (.pick (.t 59) (.t 60) (.c (.bool false))),m 6 61]) (.ret)) (.skip)))
 (.seq (.seq (.sn [o 10 (.mv (.c (.int .i64 0)))])
 (.block 0
 (.loop [1,2,8,10]
 (.seq (.seq (.sn [m 62 10,m 63 8,o 64 (.iv (.t 63)),o 65 (.ki 1 (.t 64)),o 66 (.load none (.t 65)),o 67 (.len 1 (.t 66)),o 68 (.bin .lss (.t 62) (.t 67))])
 (.cond (.t 68) (.skip) (.exit 0)))
 (.seq (.block 1
 (.seq (.wY 0 [(m 71 8,[]),(o 72 (.iv (.t 71)),[]),(o 73 (.ki 0 (.t 72)),[]),(o 74 (.load none (.t 73)),[]),(m 75 1,[]),(o 76 (.call false 9 [.t 74,.t 75]),[]),(o 77 (.eq (.ptr) true true (.t 76) (.c (.cz))),
 []),(m 78 77,[]),(w 79 (.mv (.t 8)) (78,false),[]),(w 80 (.iv (.t 79)) (78,false),[]),(w 81 (.ki 0 (.t 80)) (78,false),[]),(w 82 (.load none (.t 81)) (78,false),[]),(w 83 (.mv (.t 8)) (78,false),[]),
 (w 84 (.iv (.t 83)) (78,false),[]),(w 85 (.ki 1 (.t 84)) (78,false),[]),(w 86 (.load none (.t 85)) (78,false),[]),(w 87 (.mv (.t 10)) (78,false),[]),(w 88 (.jY 1 (.t 86) (.t 87)) (78,false),[]),(w 89 (.load none (.t 88)) (78,
 false),[]),(w 90 (.mv (.t 1)) (78,false),[]),(w 91 (.call false 10 [.t 82,.t 89,.t 90]) (78,false),[]),(w 92 (.eq (.ptr) true true (.t 91) (.c (.cz))) (78,false),[]),(o 93 (.pick (.t 78) (.c (.bool true)) (.t 92)),
 []),(m 94 93,[]),(w 95 (.mv (.t 8)) (94,false),[]),(w 96 (.iv (.t 95)) (94,false),[]),(w 97 (.ki 0 (.t 96)) (94,false),[]),(w 98 (.load none (.t 97)) (94,false),[]),(w 99 (.mv (.t 1)) (94,false),[]),
 (w 100 (.mv (.t 8)) (94,false),[]),(w 101 (.iv (.t 100)) (94,false),[]),(w 102 (.ki 1 (.t 101)) (94,false),[]),(w 103 (.load none (.t 102)) (94,false),[]),(w 104 (.mv (.t 10)) (94,false),[]),(w 105 (.jY 1 (.t 103) (.t 104)) (94,
 false),[]),(w 106 (.load none (.t 105)) (94,false),[]),(w 107 (.call false 10 [.t 98,.t 99,.t 106]) (94,false),[]),(w 108 (.eq (.ptr) true true (.t 107) (.c (.cz))) (94,false),[]),(o 109 (.pick (.t 94) (.c (.bool true)) (.t 108)),
 []),(m 110 109,[]),(w 111 (.mv (.t 8)) (110,false),[]),(w 112 (.iv (.t 111)) (110,false),[]),(w 113 (.ki 0 (.t 112)) (110,false),[]),(w 114 (.load none (.t 113)) (110,false),[]),(w 115 (.mv (.t 1)) (110,
 false),[]),(w 116 (.mv (.t 2)) (110,false),[]),(w 117 (.mv (.t 8)) (110,false),[]),(w 118 (.iv (.t 117)) (110,false),[]),(w 119 (.ki 1 (.t 118)) (110,false),[]),(w 120 (.load none (.t 119)) (110,false),
 []),(w 121 (.mv (.t 10)) (110,false),[]),(w 122 (.jY 1 (.t 120) (.t 121)) (110,false),[]),(w 123 (.load none (.t 122)) (110,false),[]),(w 124 (.mv (.t 8)) (110,false),[]),(w 125 (.iv (.t 124)) (110,false),
 []),(w 126 (.ki 1 (.t 125)) (110,false),[]),(w 127 (.load none (.t 126)) (110,false),[]),(w 128 (.mv (.t 10)) (110,false),[]),(w 129 (.jY 1 (.t 127) (.t 128)) (110,false),[]),(w 130 (.load none (.t 129)) (110,
 false),[]),(w 131 (.call false 11 [.t 114,.t 115,.t 116,.t 123,.t 130]) (110,false),[]),(w 132 (.eq (.ptr) true true (.t 131) (.c (.cz))) (110,false),[]),(o 133 (.pick (.t 110) (.c (.bool true)) (.t 132)),[]),
 (m 134 133,[]),(w 135 (.mv (.t 8)) (134,false),[]),(w 136 (.iv (.t 135)) (134,false),[]),(w 137 (.ki 0 (.t 136)) (134,false),[]),(w 138 (.load none (.t 137)) (134,false),[]),(w 139 (.mv (.t 8)) (134,false),
 []),(w 140 (.iv (.t 139)) (134,false),[]),(w 141 (.ki 1 (.t 140)) (134,false),[]),(w 142 (.load none (.t 141)) (134,false),[]),(w 143 (.mv (.t 10)) (134,false),[]),(w 144 (.jY 1 (.t 142) (.t 143)) (134,
 false),[]),(w 145 (.load none (.t 144)) (134,false),[]),(w 146 (.mv (.t 2)) (134,false),[]),(w 147 (.mv (.t 1)) (134,false),[]),(w 148 (.mv (.t 8)) (134,false),[]),(w 149 (.iv (.t 148)) (134,false),[]),
 (w 150 (.ki 1 (.t 149)) (134,false),[]),(w 151 (.load none (.t 150)) (134,false),[]),(w 152 (.mv (.t 10)) (134,false),[]),(w 153 (.jY 1 (.t 151) (.t 152)) (134,false),[]),(w 154 (.load none (.t 153)) (134,
 false),[]),(w 155 (.call false 11 [.t 138,.t 145,.t 146,.t 147,.t 154]) (134,false),[]),(w 156 (.eq (.ptr) true true (.t 155) (.c (.cz))) (134,false),[]),(o 157 (.pick (.t 134) (.c (.bool true)) (.t 156)),[]),
 (m 158 157,[]),(w 159 (.mv (.t 8)) (158,false),[]),(w 160 (.iv (.t 159)) (158,false),[]),(w 161 (.ki 0 (.t 160)) (158,false),[]),(w 162 (.load none (.t 161)) (158,false),[]),(w 163 (.mv (.t 1)) (158,false),
 []),(w 164 (.mv (.t 8)) (158,false),[]),(w 165 (.iv (.t 164)) (158,false),[]),(w 166 (.ki 1 (.t 165)) (158,false),[]),(w 167 (.load none (.t 166)) (158,false),[]),(w 168 (.mv (.t 10)) (158,false),[]),
 (w 169 (.jY 1 (.t 167) (.t 168)) (158,false),[]),(w 170 (.load none (.t 169)) (158,false),[]),(w 171 (.call false 12 [.t 162,.t 163,.t 170]) (158,false),[]),(w 172 (.eq (.ptr) true true (.t 171) (.c (.cz))) (158,
 false),[]),(o 173 (.pick (.t 158) (.c (.bool true)) (.t 172)),[]),(m 174 173,[]),(w 175 (.mv (.t 8)) (174,false),[]),(w 176 (.iv (.t 175)) (174,false),[]),(w 177 (.ki 0 (.t 176)) (174,false),[]),(w 178 (.load none (.t 177)) (174,
 false),[]),(w 179 (.mv (.t 8)) (174,false),[]),(w 180 (.iv (.t 179)) (174,false),[]),(w 181 (.ki 1 (.t 180)) (174,false),[]),(w 182 (.load none (.t 181)) (174,false),[]),(w 183 (.mv (.t 10)) (174,false),
 []),(w 184 (.jY 1 (.t 182) (.t 183)) (174,false),[]),(w 185 (.load none (.t 184)) (174,false),[]),(w 186 (.mv (.t 1)) (174,false),[]),(w 187 (.call false 12 [.t 178,.t 185,.t 186]) (174,false),[]),(w 188 (.eq (.ptr) true true (.t 187) (.c (.cz))) (174,
 false),[]),(o 189 (.pick (.t 174) (.c (.bool true)) (.t 188)),[])])
 (.cond (.t 189)
 (.seq (.sn [o 6 (.mv (.c (.bool false)))]) (.ret)) (.skip)))) (.sn [m 69 10,o 70 (.bin .add (.t 69) (.c (.int .i64 1))),m 10 70]))))))
 (.seq (.sn [o 190 (.call false 5 []),m 6 190]) (.ret)))))))))⟩,by kernel_rfl⟩
def cd4:=RK.mk (a:=cf Tryz.f4 4)
def cd6:=RK.mk (a:=cf Tryz.f6 6)
def cd7:=RK.mk (a:=cf Tryz.f7 7)
def cd8:=RK.mk (a:=cf Tryz.f8 8)
def cd9:=RK.mk (a:=cf Tryz.f9 9)
def aay:=RK.mk (a:=cf Tryz.f10 10)
def Z6:=RK.mk (a:=cf Tryz.f11 11)
def aaa:=RK.mk (a:=cf Tryz.f12 12)
def aaq:=RK.mk (a:=cf Tryz.f13 13)
def aaC:=RK.mk (a:=cf Tryz.f15 15)
def ZY:=RK.mk (a:=cf Tryz.f20 20)
def ZO:=RK.mk (a:=cf Tryz.f28 28)
end
structure TQ (T:Nat->Option dU):Prop where
 t3:T 3=some cd3.1
 t4:T 4=some cd4.1
 t6:T 6=some cd6.1
 t7:T 7=some cd7.1
 t8:T 8=some cd8.1
 t9:T 9=some cd9.1
 t10:T 10=some aay.1
 t11:T 11=some Z6.1
 t12:T 12=some aaa.1
 t13:T 13=some aaq.1
 t15:T 15=some aaC.1
 t20:T 20=some ZY.1
 t28:T 28=some ZO.1
section
variable {T:Nat->Option dU}{H:ay}{s:St}{so o la ta pl mp P Sh n lv tk i q st:Nat}{Ds:List D}{d:D}{w:gP}{v:Int}{Q:Nat}{F:Nat->Prop}
theorem IN (hT:TS T)(h:bc s so o la ta pl mp P Sh Ds n lv tk)(hv:v < 0):cu T H 43 [.ptr so 0,.int .i64 v] s fun d s1=>d= .ow/\s1=s:=by
 obtain⟨h1,h2,h3,⟨g1,g2,g3,k1,k2,k3⟩,h5⟩:=h;have hd:=cN (v >= 0);refine ax hT.t43 ?_
 repeat' first | refine go ?_ | refine eW hT.t85 ?_ | refine eW hT.t148 ?_
 exact ai ⟨rfl,rfl⟩
theorem zf (hT:TS T)(h:bc s so o la ta pl mp P Sh Ds n lv tk)(hv:v < 0):cu T H 18 [.ptr so 0,.int .i64 v] s fun d s1=>d= .int .i64 0/\s1=s:=by
 refine ax hT.t18 ?_;try refine go ?_
 refine ak (IN hT h hv) ?_;rintro d s1 ⟨rfl,rfl⟩;try refine go ?_
 exact ai ⟨rfl,rfl⟩
theorem G4 (hQ:TQ T)(hT:TS T)(h:bc s so o la ta pl mp P Sh Ds n lv tk)(hv:v < 0):cu T H 28 [.ptr so 0,.int .i64 v] s fun d s1=>d= .ow/\s1=s:=by
 refine ax hQ.t28 ?_;try refine go ?_
 refine ak (IN hT h hv) ?_;rintro d s1 ⟨rfl,rfl⟩;try refine go ?_
 exact ai ⟨rfl,rfl⟩
theorem BB (hQ:TQ T)(hT:TS T)(hs:s.Ok)(h:bc s so o la ta pl mp P Sh Ds n lv tk)(hv:v < 0){L:List D}(hq:s.get q=some (.arr 1 3 (.int .i64 v::L) 0))(hL:L.length<=1):
  cu T H 20 [.ptr so 0,.sl q 0 (L.length+1) (L.length+1)] s fun d s1=>d= .bool false/\s1=s:=by
 have hd:=eJ ((0:Int) < ((L.length+1:Nat):Int));have oM:(D.int .i64 v::L)[0+0]? =some (.int .i64 v):=rfl;refine ax hQ.t20 ?_;try refine go ?_
 refine ee 0 (fun j=> [(0,.ptr so 0),(7,.sl q 0 (L.length+1) (L.length+1)),(8,.int .i64 (L.length+1:Nat)),(9,.int .i64 (j:Nat))]) (fun j s' =>s' =s) rfl ?_;rintro j s' hj rfl;obtain rfl:j=0:=by omega
 try refine go ?_
 refine ak (zf hT h hv) ?_;rintro d s1 ⟨rfl,rfl⟩;try refine go ?_
 exact ai ⟨rfl,rfl⟩
theorem gP.Er {P:Nat}{F:Nat->Prop}{s:St}{d:D}{w:gP}(h:1<=w.kind):((w.kind:Int)==0)=false:=by
 simp only [bJ,ne_eq]; omega
theorem Og (hQ:TQ T)(hT:TS T)(hs:s.Ok)(h:bc s so o la ta pl mp P Sh Ds n lv tk)(hi:Ds[i]? =some d)(hv:eY Q F s d w)(hk:1<=w.kind)(hq:s.get q=some (.arr 1 3 [.int .i64 (i:Nat)] 0)):
  cu T H 20 [.ptr so 0,.sl q 0 1 1] s fun d s1=>d= .bool true/\s1=s:=by
 have JJ:=Ip (H:=H) hT h hi hv;have e0:((w.kind:Int)==0)=false:=gP.Er (P:=0) (F:=F) (s:=s) (d:=d) hk;generalize (w.kind:Int)=kk at JJ e0;refine ax hQ.t20 ?_;try refine go ?_
 refine ee 1 (fun j=> [(0,.ptr so 0),(7,.sl q 0 1 1),(8,.int .i64 1),(9,.int .i64 (j:Nat))]) (fun j s' =>s' =s) rfl ?_;rintro j s' hj rfl;rcases (show j=0\/j=1 by omega) with rfl | rfl
 ·try refine go ?_
  refine ak JJ ?_;rintro d s1 ⟨rfl,rfl⟩;try refine go ?_
  exact dw (by omega) rfl
 ·try refine go ?_
  exact ai ⟨rfl,rfl⟩
theorem Wo (hQ:TQ T)(hT:TS T)(hs:s.Ok)(h:bc s so o la ta pl mp P Sh Ds n lv tk)(hi:Ds[i]? =some d)(hv:eY Q F s d w)(hk:1<=w.kind)(hn:v < 0)(hq:s.get q=some (.arr 1 3 [.int .i64 (i:Nat),.int .i64 v] 0)):
  cu T H 20 [.ptr so 0,.sl q 0 2 2] s fun d s1=>d= .bool false/\s1=s:=by
 have JJ:=Ip (H:=H) hT h hi hv;have e0:((w.kind:Int)==0)=false:=gP.Er (P:=0) (F:=F) (s:=s) (d:=d) hk;generalize (w.kind:Int)=kk at JJ e0;refine ax hQ.t20 ?_;try refine go ?_
 refine ee 2 (fun j=> [(0,.ptr so 0),(7,.sl q 0 2 2),(8,.int .i64 2),(9,.int .i64 (j:Nat))]) (fun j s' =>s' =s/\j<=1) ⟨rfl,by omega⟩ ?_;rintro j s' hj ⟨rfl,hj1⟩;rcases (show j=0\/j=1 by omega) with rfl | rfl
 ·try refine go ?_
  refine ak JJ ?_;rintro d s1 ⟨rfl,rfl⟩;try refine go ?_
  exact dw (by omega) ⟨rfl,by omega⟩
 ·try refine go ?_
  refine ak (zf hT h hn) ?_;rintro d s1 ⟨rfl,rfl⟩;try refine go ?_
  exact ai ⟨rfl,rfl⟩
end
end Go.Proofs.Tab
