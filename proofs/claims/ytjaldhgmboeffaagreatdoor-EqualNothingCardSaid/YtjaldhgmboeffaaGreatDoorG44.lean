/- Part. -/
import Derived.Test.YtjaldhgmboeffaaGreatDoorG43
import Derived.Test.YtjaldhgmboeffaaGreatDoorG53
import Derived.Test.YtjaldhgmboeffaaGreatDoorG36
set_option linter.unusedSimpArgs false
set_option linter.unusedVariables false
set_option linter.unusedSectionVars false
set_option maxRecDepth 100000
set_option maxHeartbeats 2000000
namespace Go.Proofs.Tab
open Go Go.Ab Go.Ab.Sm
section
variable {T:Nat->Option dU}{H:ay}{s:St}{tms:List Tm}{nz:Bool}{i P:Nat}
theorem Fb {t:Tm}(hT:nB T)(hS:mz T)(hs:s.Ok)(hi:tms[i]? =some t)(gV:t.kd=5)(fK:∀u∈tms,u.Ok)(hN:tms.length<=60000)(hP:tms.length<=P)(tg:P<=65536):cu T H 69 [.vs nz 8 (tms.map Tm.d),.int .i64 (i:Nat),.int .i64 (P:Nat)] s fun d s1=>d= .int .i64 (bM tms i t)/\aF Nil s s1:=by
 have hi' :=ej hi;have pA:=fK t (aM hi);have ja:i < tms.length:=(aj.mp hi).1;have xa:=gV;have hk:dX t.kd:=by unfold dX; omega
 have vf:(tms.map Tm.d).length=tms.length:=aJ _;have gE:∀j k,t.kids[j]? =some k-> ¬ cw tms i t j k->bM tms i t=1:=fun j k h1 h2=>db ja hk (.inr ⟨j,k,h1,h2⟩);have jX: ¬ cR t->bM tms i t=1:=fun h=>db ja hk (.inl h)
 have iW:t.kd≠3->t.kd≠4->cR t->(∀j k,t.kids[j]? =some k->cw tms i t j k)->bM tms i t=0:=fun h3 h4 h1 h2=>by
  rw [fR ja hk h1 h2 (fun h=>by omega),aK];unfold mu;rw [bk (by omega)]; simp
 have rW:=pA.kids;have j9:(ints t.kids).length=t.kids.length:=by simp [ints]
 have tG:=fun (p:St) (okp:p.Ok) h=>iI (H:=H) (nz:=nz) hT hS okp pA fK hN h;generalize x8:bM tms i t=wt at *;obtain⟨kd,b,ng,n1,mag,tx,n2,kids,hh,sm⟩:=t;simp only at gV rW j9 tG gE;refine ax hS.t69 ?_;rcases gV with rfl;by_cases cE:0 < kids.length
 ·have hg:=eJ (((ints kids).length:Int) > 0);try refine go ?_
  refine cg (Cs tms nz ⟨5,b,ng,n1,mag,tx,n2,kids,hh,sm⟩ i P false false false true s) kids.length rfl ⟨0,rfl,aF.refl hs,aS _,rfl,fun x k h=>by omega⟩ ?_;rintro m env s1 ⟨j,rfl,b1,hj,rfl,hf⟩;simp only at hj hf;have ok1:=b1.ok;by_cases dM:j < kids.length
  ·have hd:=eJ ((j:Int) < ((ints kids).length:Nat));have hx:kids[j]? =some kids[j]:=ab dM;generalize kids[j]=x at hx;have nO:(ints kids)[j]? =some (.int .i64 x):=by simp only [ints,aC,hx]; rfl
   have rO:IntKind.wrap .i64 ((j:Int)+1)=((j+1:Nat):Int):=by rw [wrap_small (by omega) (by omega)]; rfl
   by_cases x0:x < 0
   ·have d1:decide (x < 0)=true:=cO x0;try refine go ?_
    exact ai ⟨by rw [gE j x hx (fun h=>by have:=h.1; omega)],b1⟩
   have d1:decide (x < 0)=false:=bk x0;obtain⟨y,rfl⟩:∃y:Nat,x=(y:Int):=⟨x.toNat,by omega⟩;by_cases x1:y < tms.length
   rotate_left
   ·have d2:=eJ ((y:Int) >= ((tms.map Tm.d).length:Nat));try refine go ?_
    exact ai ⟨by rw [gE j y hx (fun h=>by have:=h.2.1; omega)],b1⟩
   have d2:=cN ((y:Int) >= ((tms.map Tm.d).length:Nat));have hu:tms[y]? =some tms[y]:=ab x1;have tL :=ej hu;generalize tms[y]=u at hu tL;have qY:tms[(y:Int).toNat]? =some u:=hu;by_cases x2:y < i
   rotate_left
   ·have d3:=eJ ((y:Int) >= (i:Nat));try refine go ?_
    exact ai ⟨by rw [gE j y hx (fun h=>by have h' :=h.2.2.1; simp only at h'; omega)],b1⟩
   have d3:=cN ((y:Int) >= (i:Nat));have pY:cw tms i ⟨5,b,ng,n1,mag,tx,n2,kids,hh,sm⟩ j y:=⟨by omega,by omega,.inl (by omega),u,qY,fun h=>by simp [eB]at h,fun h=>by simp [isSet,eT]at h⟩;try refine go ?_
   try rw [rO]
   exact bf (kids.length - (j+1)) (by show kids.length - (j+1) < kids.length - j; omega) rfl ⟨j+1,rfl,b1,by show j+1<=kids.length; omega,rfl,fun z k hz hk=>by
    rcases aH z j with h | h
    ·exact hf z k h hk
    ·have:z=j:=by omega
     subst this; rw [hx]at hk; cases hk; exact pY⟩
  ·have hd:=cN ((j:Int) < ((ints kids).length:Nat));have dQ:∀x k,kids[x]? =some k->cw tms i ⟨5,b,ng,n1,mag,tx,n2,kids,hh,sm⟩ x k:=fun x k h=>hf x k (by have:=(aj.mp h).1; omega) h;have d6:=cN (((ints kids).length:Int) > 65536);try refine go ?_
   exact ai ⟨by rw [iW (by simp) (by simp) (by unfold cR; simp [eT,isSet,eB,isRow]) dQ],b1⟩
 ·have hg:=cN (((ints kids).length:Int) > 0);have dQ:∀x k,kids[x]? =some k->cw tms i ⟨5,b,ng,n1,mag,tx,n2,kids,hh,sm⟩ x k:=fun x k h=>absurd (aj.mp h).1 (by omega);have hd:=cN (((0:Nat):Int) < ((ints kids).length:Nat));have Ae :=cN ((0:Int) < ((ints kids).length:Nat));try refine go ?_
  refine cg (Cs tms nz ⟨5,b,ng,n1,mag,tx,n2,kids,hh,sm⟩ i P false false false true s) kids.length rfl ⟨0,rfl,aF.refl hs,aS _,rfl,fun x k h=>by omega⟩ ?_;rintro m env s1 ⟨j,rfl,b1,hj,rfl,hf⟩;simp only at hj;obtain rfl:j=0:=by omega
  have ok1:=b1.ok;have d6:=cN (((ints kids).length:Int) > 65536);try refine go ?_
  exact ai ⟨by rw [iW (by simp) (by simp) (by unfold cR; simp [eT,isSet,eB,isRow]) dQ],b1⟩
theorem EP {t:Tm}(hT:nB T)(hS:mz T)(hs:s.Ok)(hi:tms[i]? =some t)(gV:t.kd=6)(fK:∀u∈tms,u.Ok)(hN:tms.length<=60000)(hP:tms.length<=P)(tg:P<=65536):cu T H 69 [.vs nz 8 (tms.map Tm.d),.int .i64 (i:Nat),.int .i64 (P:Nat)] s fun d s1=>d= .int .i64 (bM tms i t)/\aF Nil s s1:=by
 have hi' :=ej hi;have pA:=fK t (aM hi);have ja:i < tms.length:=(aj.mp hi).1;have xa:=gV;have hk:dX t.kd:=by unfold dX; omega
 have vf:(tms.map Tm.d).length=tms.length:=aJ _;have gE:∀j k,t.kids[j]? =some k-> ¬ cw tms i t j k->bM tms i t=1:=fun j k h1 h2=>db ja hk (.inr ⟨j,k,h1,h2⟩);have jX: ¬ cR t->bM tms i t=1:=fun h=>db ja hk (.inl h)
 have iW:t.kd≠3->t.kd≠4->cR t->(∀j k,t.kids[j]? =some k->cw tms i t j k)->bM tms i t=0:=fun h3 h4 h1 h2=>by
  rw [fR ja hk h1 h2 (fun h=>by omega),aK];unfold mu;rw [bk (by omega)]; simp
 have rW:=pA.kids;have j9:(ints t.kids).length=t.kids.length:=by simp [ints]
 have tG:=fun (p:St) (okp:p.Ok) h=>iI (H:=H) (nz:=nz) hT hS okp pA fK hN h;generalize x8:bM tms i t=wt at *;obtain⟨kd,b,ng,n1,mag,tx,n2,kids,hh,sm⟩:=t;simp only at gV rW j9 tG gE;refine ax hS.t69 ?_;rcases gV with rfl;by_cases cE:0 < kids.length
 ·have hg:=eJ (((ints kids).length:Int) > 0);try refine go ?_
  refine cg (Cs tms nz ⟨6,b,ng,n1,mag,tx,n2,kids,hh,sm⟩ i P false false false true s) kids.length rfl ⟨0,rfl,aF.refl hs,aS _,rfl,fun x k h=>by omega⟩ ?_;rintro m env s1 ⟨j,rfl,b1,hj,rfl,hf⟩;simp only at hj hf;have ok1:=b1.ok;by_cases dM:j < kids.length
  ·have hd:=eJ ((j:Int) < ((ints kids).length:Nat));have hx:kids[j]? =some kids[j]:=ab dM;generalize kids[j]=x at hx;have nO:(ints kids)[j]? =some (.int .i64 x):=by simp only [ints,aC,hx]; rfl
   have rO:IntKind.wrap .i64 ((j:Int)+1)=((j+1:Nat):Int):=by rw [wrap_small (by omega) (by omega)]; rfl
   by_cases x0:x < 0
   ·have d1:decide (x < 0)=true:=cO x0;try refine go ?_
    exact ai ⟨by rw [gE j x hx (fun h=>by have:=h.1; omega)],b1⟩
   have d1:decide (x < 0)=false:=bk x0;obtain⟨y,rfl⟩:∃y:Nat,x=(y:Int):=⟨x.toNat,by omega⟩;by_cases x1:y < tms.length
   rotate_left
   ·have d2:=eJ ((y:Int) >= ((tms.map Tm.d).length:Nat));try refine go ?_
    exact ai ⟨by rw [gE j y hx (fun h=>by have:=h.2.1; omega)],b1⟩
   have d2:=cN ((y:Int) >= ((tms.map Tm.d).length:Nat));have hu:tms[y]? =some tms[y]:=ab x1;have tL :=ej hu;generalize tms[y]=u at hu tL;have qY:tms[(y:Int).toNat]? =some u:=hu;by_cases x2:y < i
   rotate_left
   ·have d3:=eJ ((y:Int) >= (i:Nat));have pY:cw tms i ⟨6,b,ng,n1,mag,tx,n2,kids,hh,sm⟩ j y:=⟨by omega,by omega,.inr rfl,u,qY,fun h=>by simp [eB]at h,fun h=>by simp [isSet,eT]at h⟩;try refine go ?_
    try rw [rO]
    exact bf (kids.length - (j+1)) (by show kids.length - (j+1) < kids.length - j; omega) rfl ⟨j+1,rfl,b1,by show j+1<=kids.length; omega,rfl,fun z k hz hk=>by
     rcases aH z j with h | h
     ·exact hf z k h hk
     ·have:z=j:=by omega
      subst this; rw [hx]at hk; cases hk; exact pY⟩
   have d3:=cN ((y:Int) >= (i:Nat));have pY:cw tms i ⟨6,b,ng,n1,mag,tx,n2,kids,hh,sm⟩ j y:=⟨by omega,by omega,.inl (by omega),u,qY,fun h=>by simp [eB]at h,fun h=>by simp [isSet,eT]at h⟩;try refine go ?_
   try rw [rO]
   exact bf (kids.length - (j+1)) (by show kids.length - (j+1) < kids.length - j; omega) rfl ⟨j+1,rfl,b1,by show j+1<=kids.length; omega,rfl,fun z k hz hk=>by
    rcases aH z j with h | h
    ·exact hf z k h hk
    ·have:z=j:=by omega
     subst this; rw [hx]at hk; cases hk; exact pY⟩
  ·have hd:=cN ((j:Int) < ((ints kids).length:Nat));have dQ:∀x k,kids[x]? =some k->cw tms i ⟨6,b,ng,n1,mag,tx,n2,kids,hh,sm⟩ x k:=fun x k h=>hf x k (by have:=(aj.mp h).1; omega) h;have d6:=cN (((ints kids).length:Int) > 65536);try refine go ?_
   exact ai ⟨by rw [iW (by simp) (by simp) (by unfold cR; simp [eT,isSet,eB,isRow]) dQ],b1⟩
 ·have hg:=cN (((ints kids).length:Int) > 0);have dQ:∀x k,kids[x]? =some k->cw tms i ⟨6,b,ng,n1,mag,tx,n2,kids,hh,sm⟩ x k:=fun x k h=>absurd (aj.mp h).1 (by omega);have hd:=cN (((0:Nat):Int) < ((ints kids).length:Nat));have Ae :=cN ((0:Int) < ((ints kids).length:Nat));try refine go ?_
  refine cg (Cs tms nz ⟨6,b,ng,n1,mag,tx,n2,kids,hh,sm⟩ i P false false false true s) kids.length rfl ⟨0,rfl,aF.refl hs,aS _,rfl,fun x k h=>by omega⟩ ?_;rintro m env s1 ⟨j,rfl,b1,hj,rfl,hf⟩;simp only at hj;obtain rfl:j=0:=by omega
  have ok1:=b1.ok;have d6:=cN (((ints kids).length:Int) > 65536);try refine go ?_
  exact ai ⟨by rw [iW (by simp) (by simp) (by unfold cR; simp [eT,isSet,eB,isRow]) dQ],b1⟩
end
theorem KW {T:Nat->Option dU}{H:ay}{s:St}{tms:List Tm}{nz:Bool}{i P:Nat}{t:Tm}(hT:nB T)(hS:mz T)(hs:s.Ok)(hi:tms[i]? =some t)(fK:∀u∈tms,u.Ok)(hN:tms.length<=60000)(hP:tms.length<=P)(tg:P<=65536):cu T H 69 [.vs nz 8 (tms.map Tm.d),.int .i64 (i:Nat),.int .i64 (P:Nat)] s fun d s1=>d= .int .i64 (bM tms i t)/\aF Nil s s1:=by
 by_cases hk:dX t.kd
 ·have:(t.kd=1\/t.kd=2\/t.kd=14)\/t.kd=3\/t.kd=4\/t.kd=5\/t.kd=6\/t.kd=7\/(t.kd=8\/t.kd=9)\/(t.kd=15\/t.kd=16\/t.kd=17):=by unfold dX at hk; omega
  rcases this with (h | h | h) | h | h | h | h | h | (h | h) | (h | h | h)
  ·exact zQ hT hS hs hi h fK hN hP tg
  ·exact zB hT hS hs hi h fK hN hP tg
  ·exact yV hT hS hs hi h fK hN hP tg
  ·exact FV hT hS hs hi h fK hN hP tg
  ·exact FM hT hS hs hi h fK hN hP tg
  ·exact Fb hT hS hs hi h fK hN hP tg
  ·exact EP hT hS hs hi h fK hN hP tg
  ·exact EX hT hS hs hi h fK hN hP tg
  ·exact CN hT hS hs hi h fK hN hP tg
  ·exact DJ hT hS hs hi h fK hN hP tg
  ·exact zN hT hS hs hi h fK hN hP tg
  ·exact zu hT hS hs hi h fK hN hP tg
  ·exact zq hT hS hs hi h fK hN hP tg
 ·exact DD hS hs hi hk
section
variable {T:Nat->Option dU}{H:ay}{s:St}{wo oL cm P Sh i:Nat}{last:Int}{L:List D}{tms:List Tm}{nz:Bool}
def BwI (tms:List Tm)(nz:Bool)(wo:Nat)(s:St)(m:Nat)(env:Env) (s' :St):Prop:=
 ∃j:Nat,env=[(0,.ptr wo 0),(1,.vs nz 8 (tms.map Tm.d)),(6,.int .i64 (j:Nat))]/\aF Nil s s' /\j<=tms.length/\m=tms.length - j/\∀x u,x < j->tms[x]? =some u->bM tms x u=0
theorem BA (hT:nB T)(hS:mz T){Ev:Env}{k:List iT}{Q:QP}(hs:s.Ok)(h:jT s wo oL cm P Sh last L)(fK:∀u∈tms,u.Ok)(hN:tms.length<=60000)(hP:tms.length<=P)(tg:P<=65536)
  (Ec:Ev.bV [0,1,6]=[(0,.ptr wo 0),(1,.vs nz 8 (tms.map Tm.d)),(6,.int .i64 0)])
  (gE:∀(e:Int) fr s1,qQ tms e->e≠0->aF Nil s s1->fr.defers=[]->fr.env.get 4=some (.vs true 0 [])->fr.env.get 5=some (.int .i64 e)->lg T H .ret k fr s1 Q)
  (h0:∀z1 z2 z3 z4 s1,qQ tms 0->aF Nil s s1->lg T H (.exit 0) k ⟨[(15,z1),(14,z2),(13,z3),(12,z4),(0,.ptr wo 0),(1,.vs nz 8 (tms.map Tm.d)),(6,.int .i64 (tms.length:Nat))],[]⟩ s1 Q):
  eH T H (match KH.1.body with | .seq _ (.seq (.seq _ (.block _ l)) _)=>l | _=> .skip) k ⟨Ev,[]⟩ s Q:=by
 have vf:(tms.map Tm.d).length=tms.length:=aJ _;show eH T H (.loop _ _) k ⟨Ev,[]⟩ s Q;refine cg (BwI tms nz wo s) tms.length rfl ⟨0,Ec,aF.refl hs,aS _,rfl,fun x u h=>by omega⟩ ?_;rintro m env s1 ⟨j,rfl,b1,hj,rfl,hf⟩;have ok1:=b1.ok;have gw:=(h.nil hs b1).go;by_cases dM:j < tms.length
 ·have hd:=eJ ((j:Int) < ((tms.map Tm.d).length:Nat));have hu:tms[j]? =some tms[j]:=ab dM;have hw:=KW (H:=H) (nz:=nz) hT hS ok1 hu fK hN hP tg;generalize tms[j]=u at hu hw;have rO:IntKind.wrap .i64 ((j:Int)+1)=((j+1:Nat):Int):=by rw [wrap_small (by omega) (by omega)]; rfl
  try refine go ?_
  refine ak hw ?_;rintro d s2 ⟨rfl,b2⟩;by_cases he:bM tms j u=0
  ·rw [he];try refine go ?_
   try rw [rO]
   refine bf (tms.length - (j+1)) (by omega) rfl ⟨j+1,rfl,b1.trans b2,by omega,rfl,fun x v hx hv=> ?_⟩;rcases aH x j with h' | h'
   ·exact hf x v h' hv
   ·obtain rfl:x=j:=by omega
    rw [hu]at hv; cases hv; exact he
  ·have cE:(bM tms j u !=0)=true:=by simp [he]
   have CE:qQ tms (bM tms j u):= .inr ⟨he,j,u,hu,rfl,fun i v hi hv=>hf i v hi hv⟩;generalize bM tms j u=e at he cE CE;try refine go ?_
   exact gE e _ s2 CE he (b1.trans b2) rfl rfl rfl
 ·obtain rfl:j=tms.length:=by omega
  have hd:=cN ((tms.length:Int) < ((tms.map Tm.d).length:Nat));try refine go ?_
  exact h0 _ _ _ _ s1 (.inl ⟨rfl,fun i t hi=>hf i t (aj.mp hi).1 hi⟩) b1
end
def EO (tms:List Tm)(R:List Nat)(L:List D)(i:Nat):Prop:=∀k t r,tms[k]? =some t->t.kd=6->R[k]? =some r->(i<=k->∃num,L[r]? =some (OD num))/\∀k' r',k' < k->R[k']? =some r' ->r' < r
structure Bm2 (tms:List Tm)(wo oL cm P Sh:Nat)(s:St)(x:D)(R:List Nat)(L:List D)(last:Int) (s' :St):Prop where
 st:jT s' wo oL cm P Sh last L
 rf:Refs s' x R
 lt:∀r∈R,r < L.length
 l3:3<=L.length
 ll:L.length<=3+2 * R.length
 ls:EO tms R L 0
 nx:∀q a l c,x= .sl q a l c->s.n<=q
 bh:aF (zl wo oL cm) s s'
section
variable {T:Nat->Option dU}{H:ay}{s s1 s2 s3:St}{wo oL cm P Sh i r q:Nat} {last last' :Int}{L M:List D}{tms:List Tm}{t:Tm}{nz:Bool}{x d:D}{R:List Nat}
theorem Bm2.step (hs:s.Ok)(h:Bm2 tms wo oL cm P Sh s x R L last s1)(ht:tms[R.length]? =some t)(h2:jT s2 wo oL cm P Sh last' (L++M))(hr:r < (L++M).length)(hM:M.length<=2)(h6:t.kd=6->r=L.length/\∃num,M=[OD num])(b2:aF (zl wo oL cm) s1 s2)
  (hq:s.n<=q)(zW:(∃a l c,x= .sl q a l c)\/s2.n<=q)(b3:aF (fun j=>j=q) s2 s3)(g:s3.get q=some (.arr 1 3 (ints ((R++ [r]).map Int.ofNat)) 0)):
  Bm2 tms wo oL cm P Sh s (.sl q 0 (R.length+1) (R.length+1)) (R++ [r]) (L++M) last' s3:=by
 have ok2:=b2.ok;obtain⟨l1,l2,l3⟩:=h2.lt ok2;have nq: ¬ zl wo oL cm q:=by
  rcases zW with ⟨a,l,c,rfl⟩ | zW
  ·have IU:=h.rf;cases IU with
   | sl hg hn=>exact h.st.ni hg
  ·rintro (rfl | rfl | rfl) <;> omega
 have sq:=h.ll;have aal:=Refs.sl (s:=s3) (o:=q) (R:=R++ [r]) g (by simp);rw [aG,aZ]at aal;have L5:jF s3 cm:=h2.ct.dK ok2 b3 (fun e=>nq (.inr (.inr e.symm)));refine⟨?_,aal, ?_, ?_, ?_, ?_, ?_, ?_⟩
 ·refine h2.dK ok2 b3 (fun e=>nq (.inl e.symm)) (fun e=>nq (.inr (.inl e.symm))) L5 fun j es st hg e=> ?_;subst e;rcases zW with ⟨a,l,c,rfl⟩ | zW
  ·have IU:=h.rf;cases IU with
   | sl V5 hn=>rw [b2.get h.bh.ok V5 nq]at hg; simp at hg
  ·have:=ok2.lt hg; omega
 ·intro v hv;rw [bK,cH]at hv;rcases hv with hv | rfl
  ·have:=h.lt v hv; rw [aG]; omega
  ·exact hr
 ·have:=h.l3; rw [aG]; omega
 ·rw [aG,aG,aZ]; omega
 ·intro k u v hu hu6 hv;by_cases hk:k < R.length
  ·rw [aP hk]at hv;obtain⟨h1,xr⟩:=h.ls k u v hu hu6 hv;refine⟨fun _=> ?_,fun k' r' wZ Gm => ?_⟩
   ·obtain⟨num,e⟩:=h1 (aS _);exact⟨num,by rw [aP (aj.mp e).1]; exact e⟩
   ·rw [aP (by omega)]at Gm;exact xr k' r' wZ Gm
  ·have j9:=(aj.mp hv).1;rw [aG,aZ]at j9;obtain rfl:k=R.length:=by omega
   rw [ht]at hu; cases hu;rw [aT (aq _),eG]at hv;simp only [aR,aa]at hv;subst hv;obtain⟨rfl,num,rfl⟩:=h6 hu6;refine⟨fun _=>⟨num,by rw [aT (aq _),eG]; rfl⟩,fun k' r' wZ Gm => ?_⟩;rw [aP wZ]at Gm;exact h.lt _ (aM Gm)
 ·intro q' a l c e;simp only [D.sl.injEq]at e;rw [← e.1]; exact hq
 ·refine (h.bh.trans b2).trans' b3 ?_;rintro j rfl hj;omega
def BsI (tms:List Tm)(nz:Bool)(wo oL cm P Sh:Nat)(s:St)(m:Nat)(env:Env) (s' :St):Prop:=
 ∃x R L last,env=[(0,.ptr wo 0),(1,.vs nz 8 (tms.map Tm.d)),(8,x),(9,.int .i64 (R.length:Nat))]/\Bm2 tms wo oL cm P Sh s x R L last s' /\R.length<=tms.length/\m=tms.length - R.length
theorem Bz (hT:nB T)(hR:nK T)(hS:mz T){Ev:Env}{k:List iT}{Q:QP}(hs:s.Ok)(h:jT s wo oL cm P Sh last L)(fK:∀u∈tms,u.Ok)(hg:∀i t,tms[i]? =some t->ka tms i t)(j9:∀u∈tms,u.kids.length<=20000)(hN:tms.length<=60000)(hP:P<=65536)(K7:Sh<=256)(hL:L.length=3)
  (Ec:Ev.bV [0,1,8,9]=[(0,.ptr wo 0),(1,.vs nz 8 (tms.map Tm.d)),(8,.vs true 0 []),(9,.int .i64 0)])
  (h0:∀z1 z2 z3 z4 x R L last s1,Bm2 tms wo oL cm P Sh s x R L last s1->R.length=tms.length->lg T H (.exit 2) k ⟨[(32,z1),(31,z2),(30,z3),(29,z4),(0,.ptr wo 0),(1,.vs nz 8 (tms.map Tm.d)),(8,x),(9,.int .i64 (tms.length:Nat))],[]⟩ s1 Q):
  eH T H (match KH.1.body with | .seq _ (.seq _ (.seq _ (.seq (.seq _ (.block _ l)) _)))=>l | _=> .skip) k ⟨Ev,[]⟩ s Q:=by
 have vf:(tms.map Tm.d).length=tms.length:=aJ _;show eH T H (.loop _ _) k ⟨Ev,[]⟩ s Q;refine cg (BsI tms nz wo oL cm P Sh s) tms.length rfl ⟨_,[],L,last,Ec,⟨h,.nil,(fun r hr=>by cases hr),(by omega),(by rw [hL]; omega),(fun k t r _ _ h=>by simp at h),(fun _ _ _ _ e=>by cases e),aF.refl hs⟩,aS _,rfl⟩ ?_;rintro m env s1 ⟨x,R,L,last,rfl,hI,hj,rfl⟩;have ok1:=hI.bh.ok;have gw:=hI.st.go;have ur:=gT R;by_cases dM:R.length < tms.length
 ·have hd:=eJ ((R.length:Int) < ((tms.map Tm.d).length:Nat));have ht:tms[R.length]? =some tms[R.length]:=ab dM;have sq:=hI.ll;have AO:=Ep (H:=H) (nz:=nz) hT hR hS ok1 hI.st ht fK (hg _ _ ht) (j9 _ (aM ht)) hP K7 hI.l3 (by omega) hI.rf hI.lt;generalize tms[R.length]=t at ht AO;have rO:IntKind.wrap .i64 ((R.length:Int)+1)=((R.length+1:Nat):Int):=by rw [wrap_small (by omega) (by omega)]; rfl
  have Qr:∀r:Nat,(R++ [r]).length=R.length+1:=fun r=>by simp
  have Ul:∀r:Nat,ints ((R++ [r]).map Int.ofNat)=ints (R.map Int.ofNat)++ [.int .i64 (r:Nat)]:=fun r=>by simp [ints]
  have nx:=hI.nx;have IU:=hI.rf;rcases IU with _ | ⟨gx,cE⟩
  ·try refine go ?_
   refine ak AO ?_;rintro d s2 ⟨r,last',M,rfl,h2,hr,hM,h6,b2⟩;have ok2:=b2.ok;have n2:=b2.n; have n1:=hI.bh.n;try refine go ?_
   refine bf (tms.length - 1) (by show tms.length - 1 < tms.length - 0; simp only [bL]at dM; omega) rfl ⟨.sl s2.n 0 1 1,[r],L++M,last',rfl,hI.step hs ht h2 hr hM h6 b2 (q:=s2.n) (by omega) (.inr (aq _)) ((aF.refl ok2).push _) ?_,by simp only [bL]at dM; show 1<=tms.length; omega,rfl⟩;rw [St.bu]; rfl
  ·rename_i q;have nq:=hI.st.ni gx;try refine go ?_
   refine ak AO ?_;rintro d s2 ⟨r,last',M,rfl,h2,hr,hM,h6,b2⟩;have ok2:=b2.ok;have WO:=b2.get ok1 gx nq;have lq:=ok2.lt WO;try refine go ?_
   refine bf (tms.length - (R.length+1)) (by omega) rfl ⟨.sl q 0 (R.length+1) (R.length+1),R++ [r],L++M,last',by rw [Qr]; rfl,hI.step hs ht h2 hr hM h6 b2 (q:=q) (nx _ _ _ _ rfl) (.inl ⟨_,_,_,rfl⟩) (aF.set (aF.refl ok2) _ lq (fun _=>rfl)) ?_,by rw [Qr]; omega,by rw [Qr]⟩;rw [St.aO,Ul]
 ·have hd:=cN ((R.length:Int) < ((tms.map Tm.d).length:Nat));have Cy:R.length=tms.length:=by omega
  have hf:=hI.rf.form;have h00:=fun z1 z2 z3 z4=>h0 z1 z2 z3 z4 x R L last s1 hI Cy;rw [← Cy]at h00;rcases hf with rfl | ⟨o,n,rfl⟩
  all_goals
   try refine go ?_
   exact h00 _ _ _ _
end
@[reducible] def rF (num:Int) (l:D):D:=rv 6 num false false (.vs true 0 []) [] l .cz 0 0 .cz .cz 0 false false
structure Hf (tms:List Tm)(wo oL cm P Sh:Nat)(s:St)(x:D)(R:List Nat)(i:Nat)(L:List D)(last:Int) (s' :St):Prop where
 st:jT s' wo oL cm P Sh last L
 rf:Refs s' x R
 lt:∀r∈R,r < L.length
 ls:EO tms R L i
 lw:wo < s.n/\oL < s.n/\cm < s.n
 nx:∀q a l c,x= .sl q a l c->q < s.n
 bh:aF (zl wo oL cm) s s'
section
variable {T:Nat->Option dU}{H:ay}{s s1 s2:St}{wo oL cm P Sh i r q:Nat}{last num:Int}{L:List D}{tms:List Tm}{t:Tm}{nz:Bool}{x d l:D}{R:List Nat}
theorem EO.next (h:EO tms R L i):EO tms R L (i+1):=fun k t r h1 h2 h3=>⟨fun hk=>(h k t r h1 h2 h3).1 (by omega),(h k t r h1 h2 h3).2⟩
theorem EO.set (h:EO tms R L (i+1))(hr:R[i]? =some r){v:D}:EO tms R (L.set r v) (i+1):=by
 intro k t r' h1 h2 h3;obtain⟨a,b⟩:=h k t r' h1 h2 h3;refine⟨fun hk=> ?_,b⟩;obtain⟨num,e⟩:=a hk;have:=b i r (by omega) hr;exact⟨num,by rw [nH (by omega)]; exact e⟩
def abY (s:St)(V:List Int)(l:D) (s' :St):Prop:=(V=[]/\l= .vs true 0 [])\/(V≠ []/\∃q,l= .sl q 0 V.length V.length/\s.n<=q/\s'.get q=some (.arr 1 3 (ints V) 0))
def FlI (tms:List Tm)(nz:Bool)(wo oL cm P Sh:Nat)(x:D)(R:List Nat)(t:Tm)(i r:Nat)(last num:Int)(s:St)(m:Nat)(env:Env) (s' :St):Prop:=
 ∃V l L,env=[(0,.ptr wo 0),(1,.vs nz 8 (tms.map Tm.d)),(8,x),(10,.int .i64 (i:Nat)),(11,.int .i64 (V.length:Nat))]/\V.length<=t.kids.length/\m=t.kids.length - V.length/\Hf tms wo oL cm P Sh s x R (i+1) L last s' /\L[r]? =some (rF num l)/\abY s V l s'
theorem Hf.set (h:Hf tms wo oL cm P Sh s x R (i+1) L last s1)(hr:R[i]? =some r)(hl:l.sc=true)(hq:s.n<=q)(hu:∀es st,s1.get q≠some (.arr 1 194 es st)){st:Nat}(go:s2.get oL=some (.arr 22 158 (L.set r (rF num l)) st))(dN:st<=L.length)
  (b:aF (fun j=>j=oL\/j=q) s1 s2):Hf tms wo oL cm P Sh s x R (i+1) (L.set r (rF num l)) last s2:=by
 have ok1:=h.bh.ok;obtain⟨k1,k2,k3⟩:=h.lw;obtain⟨e1,e2,e3⟩:=h.st.ne;have tN:(L.set r (rF num l)).length=L.length:=ic ..;have nu:=h.st.nu;refine⟨⟨?_,⟨st,go,by rw [tN]; exact dN⟩,fun d hd=> ?_,h.st.ct.dK ok1 b (by rintro (e | e) <;> omega), ?_⟩,h.rf.dK ok1 b ?_,fun v hv=>by rw [tN]; exact h.lt v hv,h.ls.set hr,h.lw,h.nx,h.bh.trans' b ?_⟩
 ·rw [tN]; exact b.get ok1 h.st.go (by rintro (e | e) <;> omega)
 ·rcases List.mem_or_eq_of_mem_set hd with hd | rfl
  ·refine (h.st.vs d hd).dK ok1 b fun j es st hg=> ?_;rintro (rfl | rfl)
   ·exact nu _ _ _ hg (.inr (.inl rfl))
   ·exact hu _ _ hg
  ·exact kR .nil (aS _) (h3:=hl)
 ·intro h0; have:=congrArg List.length h0; rw [tN]at this; exact h.st.nn (fX.1 this)
 ·rintro o a l c e (rfl | rfl)
  ·obtain⟨mE,g1,_⟩:=h.st.gl;have IU:=h.rf;subst e;cases IU with
   | sl hg hn=>rw [g1]at hg; simp at hg
  ·have:=h.nx _ _ _ _ e; omega
 ·rintro j (rfl | rfl) hj
  ·exact .inr (.inl rfl)
  ·omega
theorem GB (hS:mz T){Ev:Env}{k:List iT}{Q:QP}(h:Hf tms wo oL cm P Sh s x R (i+1) L last s)(hi:tms[i]? =some t)(jd:∀k∈t.kids,∃y:Nat,k=(y:Int)/\y < R.length)(j9:t.kids.length<=60000)(hri:R[i]? =some r)(hlr:L[r]? =some (rF num (.vs true 0 [])))
  (Ec:Ev.bV [0,1,8,10,11]=[(0,.ptr wo 0),(1,.vs nz 8 (tms.map Tm.d)),(8,x),(10,.int .i64 (i:Nat)),(11,.int .i64 0)])
  (h0:∀z1 z2 z3 z4 z5 z6 z7 z8 z9 L s1,Hf tms wo oL cm P Sh s x R (i+1) L last s1->lg T H (.exit 6) k ⟨[(62,z1),(61,z2),(60,z3),(59,z4),(58,z5),(57,z6),(56,z7),(55,z8),(0,.ptr wo 0),(1,.vs nz 8 (tms.map Tm.d)),(8,x),(10,.int .i64 (i:Nat)),(11,z9)],[]⟩ s1 Q):
  eH T H (match KH.1.body with | .seq _ (.seq _ (.seq _ (.seq _ (.seq (.seq _ (.block _ (.loop _ (.seq _ (.seq (.block _ (.seq _ (.cond _ (.seq _ (.block _ l)) _))) _))))) _))))=>l | _=> .skip) k ⟨Ev,[]⟩ s Q:=by
 have hs:=h.bh.ok;have hi' :=ej hi;have ur:=gT R;obtain⟨o,rfl,gx,oM,ja⟩:=h.rf.at' hri;have ho:=h.nx _ _ _ _ rfl;obtain⟨kd,b,ng,n1,mag,tx,n2,kids,hh,sm⟩:=t;simp only at jd j9;have DF:(ints kids).length=kids.length:=by simp [ints]
 have mE:(Tm.mk kd b ng n1 mag tx n2 kids hh sm).d.st=true:=rfl;show eH T H (.loop _ _) k ⟨Ev,[]⟩ s Q;refine cg (FlI tms nz wo oL cm P Sh (.sl o 0 R.length R.length) R ⟨kd,b,ng,n1,mag,tx,n2,kids,hh,sm⟩ i r last num s) kids.length rfl ⟨[],_,L,Ec,aS _,rfl,h,hlr,.inl ⟨rfl,rfl⟩⟩ ?_;rintro m env s1 ⟨V,l,L1,rfl,hV,rfl,hI,hv,hF⟩;simp only at hV;have ok1:=hI.bh.ok;have gw:=hI.st.go;obtain⟨tJ,gl,pB⟩:=hI.st.gl;obtain⟨k1,k2,k3⟩:=h.lw;obtain⟨e1,e2,e3⟩:=h.st.ne;have gx1:s1.get o=some (.arr 1 3 (ints (R.map Int.ofNat)) 0):=by
  obtain⟨o1,e,g1,_,_⟩:=hI.rf.at' hri;cases e; exact g1
 have tQ:o≠oL:=by rintro rfl; rw [gl]at gx1; simp at gx1
 have kz:L1[0+r]? =some (rF num l):=by rw [aN]; exact hv
 have K8:=(aj.mp hv).1;by_cases dM:V.length < kids.length
 ·have hd:=eJ ((V.length:Int) < ((ints kids).length:Nat));obtain⟨y,hy,LS⟩:=jd kids[V.length] (bH dM);have Lg:kids[V.length]? =some (y:Int):=by rw [ab dM,hy]
  have nO:(ints kids)[V.length]? =some (.int .i64 (y:Nat)):=by simp only [ints,aC,Lg]; rfl
  have ab1:(ints (R.map Int.ofNat))[0+y]? =some (.int .i64 (R[y]:Nat)):=by simp only [ints,aN,aC,ab LS,da]; rfl
  have hVl:(ints V).length=V.length:=by simp [ints]
  have ZF:ints (V++ [(R[y]:Int)])=ints V++ [.int .i64 (R[y]:Nat)]:=by simp [ints]
  have L4:(V++ [(R[y]:Int)]).length=V.length+1:=by simp
  have rO:IntKind.wrap .i64 ((V.length:Int)+1)=((V.length+1:Nat):Int):=by rw [wrap_small (by omega) (by omega)]; rfl
  generalize R[y]=v at ab1 ZF L4;have ln:=hI.bh.n;rcases hF with ⟨rfl,rfl⟩ | ⟨R0,q,rfl,hq,gq⟩
  ·try refine go ?_
   refine bf (kids.length - 1) (by show kids.length - 1 < kids.length - 0; simp only [bL]at dM; omega) rfl ⟨[(v:Int)],.sl s1.n 0 1 1,L1.set r (rF num (.sl s1.n 0 1 1)),rfl,by simp only [bL]at dM; show 1<=kids.length; omega,rfl,hI.set (q:=s1.n) hri rfl (by omega) (fun es st e=>by rw [ok1.fresh _ (aq _)]at e; cases e) (st:=L1.length) ?_ (aq _) ?_,jS K8,.inr ⟨by simp,s1.n,rfl,ln, ?_⟩⟩
   ·rw [St.aO,aN]; rfl
   ·refine aF.set (aF.set (aF.up (aF.refl ok1) 1) _ ?_ ?_) _ ?_ ?_
    all_goals first
     | (intro _; exact .inr rfl)
     | (intro _; exact .inl rfl)
     | (simp only [St.fE,St.jx]; omega)
   ·exact St.eS St.aO (by omega)
  ·have lq:=ok1.lt gq;try refine go ?_
   refine bf (kids.length - (V.length+1)) (by show kids.length - (V.length+1) < kids.length - V.length; omega) rfl ⟨V++ [(v:Int)],.sl q 0 (V.length+1) (V.length+1),L1.set r (rF num (.sl q 0 (V.length+1) (V.length+1))),by rw [L4]; rfl,by rw [L4]; show V.length+1<=kids.length; omega,by rw [L4],hI.set (q:=q) hri rfl hq (fun es st e=>by rw [gq]at e; simp at e) (st:=L1.length) ?_ (aq _) ?_,jS K8,.inr ⟨by simp,q,by rw [L4],hq, ?_⟩⟩
   ·rw [St.aO,aN]; rfl
   ·refine aF.set (aF.set (aF.up (aF.refl ok1) 1) _ ?_ ?_) _ ?_ ?_
    all_goals first
     | (intro _; exact .inr rfl)
     | (intro _; exact .inl rfl)
     | (simp only [St.fE,St.jx]; omega)
   ·rw [ZF]; exact St.eS St.aO (by omega)
 ·have hd:=cN ((V.length:Int) < ((ints kids).length:Nat));try refine go ?_
  exact h0 _ _ _ _ _ _ _ _ _ L1 s1 hI
end
section
variable {T:Nat->Option dU}{H:ay}{s s1 s2:St}{wo oL cm P Sh i r q:Nat}{last num:Int}{L:List D}{tms:List Tm}{t:Tm}{nz:Bool}{x d l:D}{R:List Nat}
def BoI (tms:List Tm)(nz:Bool)(wo oL cm P Sh:Nat)(x:D)(R:List Nat)(last:Int)(s:St)(m:Nat)(env:Env) (s' :St):Prop:=
 ∃i L,env=[(0,.ptr wo 0),(1,.vs nz 8 (tms.map Tm.d)),(8,x),(10,.int .i64 (i:Nat))]/\Hf tms wo oL cm P Sh s x R i L last s' /\i<=tms.length/\m=tms.length - i
theorem Hf.of (hs:s1.Ok)(h:Hf tms wo oL cm P Sh s1 x R i L last s2){j:Nat}{L2:List D}(h0:Hf tms wo oL cm P Sh s x R j L2 last s1):Hf tms wo oL cm P Sh s x R i L last s2:=
 ⟨h.st,h.rf,h.lt,h.ls,h0.lw,h0.nx,h0.bh.trans h.bh⟩
theorem BK (hS:mz T){Ev:Env}{k:List iT}{Q:QP}(h:Hf tms wo oL cm P Sh s x R 0 L last s)(hN:tms.length<=60000)(Lb:R.length=tms.length)(hg:∀i t,tms[i]? =some t->ka tms i t)(j9:∀u∈tms,u.kids.length<=20000)
  (Ec:Ev.bV [0,1,8,10]=[(0,.ptr wo 0),(1,.vs nz 8 (tms.map Tm.d)),(8,x),(10,.int .i64 0)])
  (h0:∀z1 z2 z3 z4 z5 L s1,Hf tms wo oL cm P Sh s x R tms.length L last s1->lg T H (.exit 4) k ⟨[(46,z1),(45,z2),(44,z3),(43,z4),(0,.ptr wo 0),(1,.vs nz 8 (tms.map Tm.d)),(8,x),(10,z5)],[]⟩ s1 Q):
  eH T H (match KH.1.body with | .seq _ (.seq _ (.seq _ (.seq _ (.seq (.seq _ (.block _ l)) _))))=>l | _=> .skip) k ⟨Ev,[]⟩ s Q:=by
 have vf:(tms.map Tm.d).length=tms.length:=aJ _;show eH T H (.loop _ _) k ⟨Ev,[]⟩ s Q;refine cg (BoI tms nz wo oL cm P Sh x R last s) tms.length rfl ⟨0,L,Ec,h,aS _,rfl⟩ ?_;rintro m env s1 ⟨i,L1,rfl,hI,hj,rfl⟩;have ok1:=hI.bh.ok;by_cases dM:i < tms.length
 ·have hd:=eJ ((i:Int) < ((tms.map Tm.d).length:Nat));have ht:tms[i]? =some tms[i]:=ab dM;have u7:=hg i _ ht;have QJ:=j9 _ (bH dM);generalize tms[i]=t at ht u7 QJ;have hi' :=ej ht;have rO:IntKind.wrap .i64 ((i:Int)+1)=((i+1:Nat):Int):=by rw [wrap_small (by omega) (by omega)]; rfl
  obtain⟨r,hr⟩:∃r,R[i]? =some r:=⟨_,ab (by omega)⟩;obtain⟨o,rfl,gx,oM,ja⟩:=hI.rf.at' hr;have Jq:=hI.ls i t r ht;have hbs:Hf tms wo oL cm P Sh s1 (.sl o 0 R.length R.length) R (i+1) L1 last s1:=⟨hI.st,hI.rf,hI.lt,hI.ls.next,hI.st.lt ok1,fun q a l c e=>by cases e; exact ok1.lt gx,aF.refl ok1⟩;obtain⟨kd,b,ng,n1,mag,tx,n2,kids,hh,sm⟩:=t;simp only at Jq QJ;have mE:(Tm.mk kd b ng n1 mag tx n2 kids hh sm).d.st=true:=rfl;by_cases h6:kd=6
  ·subst h6;obtain⟨num,hn⟩:=(Jq rfl hr).1 (aq _)
   have hk:∀k∈kids,∃y:Nat,k=(y:Int)/\y < R.length:=fun k hk=>by
    have:=u7.kids k hk;simp only [eu]at this;exact⟨k.toNat,by omega,by omega⟩
   try refine go ?_
   refine GB (num:=num) hS hbs ht hk (by show kids.length<=60000; omega) hr hn rfl ?_;intro z1 z2 z3 z4 z5 z6 z7 z8 z9 L2 s2 h2;try refine go ?_
   exact bf (tms.length - (i+1)) (by omega) rfl ⟨i+1,L2,rfl,h2.of ok1 hI,by omega,rfl⟩
  ·have e0:(kd==6)=false:=by simpa using h6
   try refine go ?_
   exact bf (tms.length - (i+1)) (by omega) rfl ⟨i+1,L1,rfl,hbs.of ok1 hI,by omega,rfl⟩
 ·have hd:=cN ((i:Int) < ((tms.map Tm.d).length:Nat));obtain rfl:i=tms.length:=by omega
  have hf:=hI.rf.form;rcases hf with rfl | ⟨o,n,rfl⟩
  all_goals
   try refine go ?_
   exact h0 _ _ _ _ _ L1 s1 hI
end
def MN (tms:List Tm)(wo oL cm P Sh:Nat)(s:St)(d:D)(s1:St):Prop:=
 ((∃e:Int,e≠0/\qQ tms e/\d= .gK [.vs true 0 [],.int .i64 e])\/(qQ tms 0/\∃x R last L,d= .gK [x,.int .i64 0]/\Refs s1 x R/\R.length=tms.length/\jT s1 wo oL cm P Sh last L))/\aF (zl wo oL cm) s s1
section
variable {T:Nat->Option dU}{H:ay}{s s1 s2:St}{wo oL cm P Sh i r q:Nat}{last num:Int}{L:List D}{tms:List Tm}{t:Tm}{nz:Bool}{x d l:D}{R:List Nat}
theorem Jj (hT:nB T)(hR:nK T)(hS:mz T)(hs:s.Ok)(h:jT s wo oL cm P Sh last L)(hL:L.length=3)(fK:∀u∈tms,u.Ok)(j9:∀u∈tms,u.kids.length<=20000)(hN:tms.length<=60000)(hP:tms.length<=P)(tg:P<=65536)(K7:Sh<=256):
  cu T H 37 [.ptr wo 0,.vs nz 8 (tms.map Tm.d)] s (MN tms wo oL cm P Sh s):=by
 refine ax hS.t37 ?_;try refine go ?_
 refine BA (nz:=nz) hT hS hs h fK hN hP tg rfl ?_ ?_
 ·intro e fr s1 CE he b1 hd h4 h5;try refine go ?_
  refine ai (r:=[.vs true 0 [],.int .i64 e]) ⟨.inl ⟨e,he,CE,rfl⟩,b1.mono fun _ h=>h.elim⟩ (by rw [hd]; rfl) ?_ rfl;show lu fr.env s1 [.tmp 4,.tmp 5]=_;simp only [lu,bP.ev,h4,h5]
 intro z1 z2 z3 z4 s1 CE b1;have ok1:=b1.ok
 have hg:∀i t,tms[i]? =some t->ka tms i t:=fun i t ht=>ry (by
  rcases CE with ⟨_,h2⟩ | ⟨h1,_⟩
  ·exact h2 i t ht
  ·exact absurd rfl h1)
 try refine go ?_
 refine Bz (nz:=nz) hT hR hS ok1 (h.nil hs b1) fK hg j9 hN tg K7 hL rfl ?_;intro z1 z2 z3 z4 x R L2 T6 s2 h2 Lb;have ok2:=h2.bh.ok
 have wX:Hf tms wo oL cm P Sh s2 x R 0 L2 T6 s2:=⟨h2.st,h2.rf,h2.lt,h2.ls,h2.st.lt ok2,fun q a l c e=>by
  have IU:=h2.rf;rw [e]at IU;cases IU with
  | sl hg hn=>exact ok2.lt hg,aF.refl ok2⟩
 try refine go ?_
 refine BK (nz:=nz) hS wX hN Lb hg j9 rfl ?_;intro z1 z2 z3 z4 z5 L3 s3 h3;have hf:=h3.rf.form;have jr:∀d,d= .gK [x,.int .i64 0]->MN tms wo oL cm P Sh s d s3:=fun d e=>⟨.inr ⟨CE,x,R,T6,L3,e,h3.rf,Lb,h3.st⟩,((b1.mono fun _ h=>h.elim).trans h2.bh).trans h3.bh⟩;rcases hf with rfl | ⟨o,n,rfl⟩
 all_goals
  try refine go ?_
  exact ai (jr _ rfl)
end
section
variable {T:Nat->Option dU}{H:ay}{s:St}{P Sh:Nat}
@[reducible] def RU (kd:Int) (b:Bool):D:=rv kd 0 b false (.vs true 0 []) [] (.vs true 0 []) .cz 0 0 .cz .cz 0 false false
theorem Qf (hS:mz T)(hs:s.Ok)(hP:P<=65536)(K7:Sh<=256):cu T H 36 [.agg [.int .i64 0,.int .i64 (P:Nat),.int .i64 (Sh:Nat),.vs true 0 [],.vs true 0 []]] s fun d s1=>
  (∃wo oL cm,d= .gK [.ptr wo 0,.int .i64 0]/\jT s1 wo oL cm P Sh 0 [RU 1 false,RU 2 false,RU 2 true]/\s.n<=wo/\s.n<=oL/\s.n<=cm)/\aF Nil s s1:=by
 have d1:=cN ((P:Int) < 0);have d2:=cN ((P:Int) > 65536);have d3:=cN ((Sh:Int) < 0);have d4:=cN ((Sh:Int) > 256);refine ax hS.t36 ?_;refine run_seq ?_;refine mb ?_;refine j8 rfl ?_;try refine go ?_
 refine BO (fun p=>p.get (s.n+1)=some (.var 152 (.agg [.sl (s.n+2) 0 3 3,.int .i64 0,.int .i64 0,.int .i64 (P:Nat),.int .i64 (Sh:Nat),.vs true 0 [],.vs true 0 [],.ptr s.n 0]))/\p.get (s.n+2)=some (.arr 22 158 [RU 1 false,RU 2 false,RU 2 true] 0)/\jF p s.n/\aF Nil s p) ⟨gI,gI,⟨0,0,0,0,gI⟩,bI⟩ ?_;rintro p ⟨g1,g2,g3,bp⟩;refine ai ⟨⟨s.n+1,s.n+2,s.n,rfl,⟨g1,⟨0,g2,aS _⟩,fun d hd=> ?_,g3,by simp⟩,by omega,by omega,by omega⟩,bp⟩;simp only [bR,fa,kL]at hd;rcases hd with rfl | rfl | rfl <;> exact kR .nil (aS _)
end
section
variable {T:Nat->Option dU}{H:ay}{s:St}{so o la ta pl mp P Sh n lv tk i q st:Nat}{Ds:List D}{d:D}{w:gP}{v goal:Int}{Q:Nat}{F:Nat->Prop}
theorem Dw (hQ:TQ T):cu T H 6 [.cz,.int .i64 v] s fun d s1=>d= .agg [.int .i64 0,.int .i64 0,.int .i64 0,.int .i64 0,.int .i64 0,.bool false,.int .i64 0,.int .i64 0]/\s1=s:=by
 refine ax hQ.t6 ?_;try refine go ?_
 exact ai ⟨rfl,rfl⟩
theorem E4 (hQ:TQ T):cu T H 7 [.cz,.int .i64 v] s fun d s1=>d= .int .i64 1/\s1=s:=by
 refine ax hQ.t7 ?_;try refine go ?_
 exact ai ⟨rfl,rfl⟩
theorem AF (hQ:TQ T):cu T H 8 [.cz] s fun d s1=>d= .int .i64 0/\s1=s:=by
 refine ax hQ.t8 ?_;try refine go ?_
 exact ai ⟨rfl,rfl⟩
theorem CB (hQ:TQ T)(hs:s.Ok){a:Int}:cu T H 9 [.cz,.int .i64 a] s fun d s1=>d= .cz/\aF Nil s s1:=by
 refine ax hQ.t9 ?_;try refine go ?_
 exact ai ⟨rfl,bI⟩
theorem CU (hQ:TQ T)(hs:s.Ok){a b:Int}:cu T H 10 [.cz,.int .i64 a,.int .i64 b] s fun d s1=>d= .cz/\aF Nil s s1:=by
 refine ax hQ.t10 ?_;try refine go ?_
 exact ai ⟨rfl,bI⟩
theorem look_nil (hQ:TQ T)(hs:s.Ok){a b c e:Int}:cu T H 11 [.cz,.int .i64 a,.int .i64 b,.int .i64 c,.int .i64 e] s fun d s1=>d= .cz/\aF Nil s s1:=by
 refine ax hQ.t11 ?_;try refine go ?_
 exact ai ⟨rfl,bI⟩
theorem IE (hQ:TQ T)(hs:s.Ok){a b:Int}:cu T H 12 [.cz,.int .i64 a,.int .i64 b] s fun d s1=>d= .cz/\aF Nil s s1:=by
 refine ax hQ.t12 ?_;try refine go ?_
 exact ai ⟨rfl,bI⟩
theorem N0 (hQ:TQ T)(hT:TS T)(hs:s.Ok)(h:bc s so o la ta pl mp P Sh Ds n lv tk)(hv:v < 0):cu T H 9 [.ptr so 0,.int .i64 v] s fun d s1=>d= .cz/\aF Nil s s1:=by
 refine ax hQ.t9 ?_;try refine go ?_
 refine jL (fun p=>p.get (s.n+1)=some (.arr 1 3 [.int .i64 v] 0)/\aF Nil s p) ⟨gI,bI⟩ ?_;rintro p ⟨g1,bp⟩;refine ak (BB (L:=[]) hQ hT bp.ok (h.dK hs bp fun _ _ h=>h) hv g1 (by simp)) ?_;rintro d s1 ⟨rfl,rfl⟩;try refine go ?_
 exact ai ⟨rfl,bp⟩
theorem KZ (hQ:TQ T)(hT:TS T)(hs:s.Ok)(h:bc s so o la ta pl mp P Sh Ds n lv tk)(hi:Ds[i]? =some d)(hw:eY Q F s d w)(hF:∀j,F j->j < s.n)(hk:1<=w.kind)(hv:v < 0):cu T H 10 [.ptr so 0,.int .i64 (i:Nat),.int .i64 v] s fun d s1=>d= .cz/\aF Nil s s1:=by
 refine ax hQ.t10 ?_;try refine go ?_
 refine jL (fun p=>p.get (s.n+2)=some (.arr 1 3 [.int .i64 (i:Nat),.int .i64 v] 0)/\aF Nil s p) ⟨gI,bI⟩ ?_;rintro p ⟨g1,bp⟩;refine ak (Wo hQ hT bp.ok (h.dK hs bp fun _ _ h=>h) hi (hw.dK hs bp fun _ _ _ h=>h) hk hv g1) ?_;rintro d s1 ⟨rfl,rfl⟩;try refine go ?_
 exact ai ⟨rfl,bp⟩
theorem I9 (hQ:TQ T)(hT:TS T)(hs:s.Ok)(h:bc s so o la ta pl mp P Sh Ds n lv tk)(hv:v < 0){a:Int}:cu T H 10 [.ptr so 0,.int .i64 v,.int .i64 a] s fun d s1=>d= .cz/\aF Nil s s1:=by
 refine ax hQ.t10 ?_;try refine go ?_
 refine jL (fun p=>p.get (s.n+2)=some (.arr 1 3 [.int .i64 v,.int .i64 a] 0)/\aF Nil s p) ⟨gI,bI⟩ ?_;rintro p ⟨g1,bp⟩;refine ak (BB (L:=[.int .i64 a]) hQ hT bp.ok (h.dK hs bp fun _ _ h=>h) hv g1 (by simp)) ?_;rintro d s1 ⟨rfl,rfl⟩;try refine go ?_
 exact ai ⟨rfl,bp⟩
theorem Jw (hQ:TQ T)(hT:TS T)(hs:s.Ok)(h:bc s so o la ta pl mp P Sh Ds n lv tk)(hv:v < 0){a c:Int}:cu T H 11 [.ptr so 0,.int .i64 a,.int .i64 goal,.int .i64 v,.int .i64 c] s fun d s1=>d= .cz/\aF Nil s s1:=by
 refine ax hQ.t11 ?_;try refine go ?_
 refine jL (fun p=>p.get (s.n+3)=some (.arr 1 3 [.int .i64 v] 0)/\p.get s.n=some (.var 3 (.int .i64 goal))/\aF Nil s p) ⟨gI,gI,bI⟩ ?_;rintro p ⟨g1,g2,bp⟩;refine ak (BB (L:=[]) hQ hT bp.ok (h.dK hs bp fun _ _ h=>h) hv g1 (by simp)) ?_;rintro d s1 ⟨rfl,rfl⟩;try refine go ?_
 exact ai ⟨rfl,bp⟩
theorem MT (hQ:TQ T)(hT:TS T)(hs:s.Ok)(h:bc s so o la ta pl mp P Sh Ds n lv tk)(hv:v < 0){a:Int}:cu T H 12 [.ptr so 0,.int .i64 a,.int .i64 v] s fun d s1=>d= .cz/\aF Nil s s1:=by
 refine ax hQ.t12 ?_;try refine go ?_
 refine jL (fun p=>p.get (s.n+2)=some (.arr 1 3 [.int .i64 v] 0)/\aF Nil s p) ⟨gI,bI⟩ ?_;rintro p ⟨g1,bp⟩;refine ak (BB (L:=[]) hQ hT bp.ok (h.dK hs bp fun _ _ h=>h) hv g1 (by simp)) ?_;rintro d s1 ⟨rfl,rfl⟩;try refine go ?_
 exact ai ⟨rfl,bp⟩
theorem LU (hQ:TQ T)(hT:TS T)(hs:s.Ok)(h:bc s so o la ta pl mp P Sh Ds n lv tk)(hi:Ds[i]? =some d)(hw:eY Q F s d w)(hk:1<=w.kind)(hv:v < 0):cu T H 12 [.ptr so 0,.int .i64 v,.int .i64 (i:Nat)] s fun d s1=>d= .cz/\aF Nil s s1:=by
 refine ax hQ.t12 ?_;try refine go ?_
 refine jL (fun p=>p.get (s.n+2)=some (.arr 1 3 [.int .i64 (i:Nat)] 0)/\p.get s.n=some (.var 3 (.int .i64 v))/\aF Nil s p) ⟨gI,gI,bI⟩ ?_;rintro p ⟨g1,g2,bp⟩;have hp:=h.dK hs bp fun _ _ h=>h;refine ak (Og hQ hT bp.ok hp hi (hw.dK hs bp fun _ _ _ h=>h) hk g1) ?_;rintro d s1 ⟨rfl,rfl⟩;try refine go ?_
 refine ak (zf hT hp hv) ?_;rintro d s1 ⟨rfl,rfl⟩;try refine go ?_
 exact ai ⟨rfl,bp⟩
theorem JS (hQ:TQ T)(hT:TS T)(hs:s.Ok)(h:bc s so o la ta pl mp P Sh Ds n lv tk)(hi:Ds[i]? =some d)(hw:eY Q F s d w)(hk:1<=w.kind)(hv:v < 0){c:Int}:cu T H 11 [.ptr so 0,.int .i64 v,.int .i64 goal,.int .i64 (i:Nat),.int .i64 c] s fun d s1=>d= .cz/\aF Nil s s1:=by
 refine ax hQ.t11 ?_;try refine go ?_
 refine jL (fun p=>p.get (s.n+3)=some (.arr 1 3 [.int .i64 (i:Nat)] 0)/\p.get s.n=some (.var 3 (.int .i64 goal))/\aF Nil s p) ⟨gI,gI,bI⟩ ?_;rintro p ⟨g1,g2,bp⟩;have okp:=bp.ok;have hp:=h.dK hs bp fun _ _ h=>h;refine ak (Og hQ hT bp.ok hp hi (hw.dK hs bp fun _ _ _ h=>h) hk g1) ?_;rintro d s1 ⟨rfl,rfl⟩;have ho:=G4 (H:=H) hQ hT hp hv;cases e1:decide (goal < 1)
 ·cases e2:decide (goal > 4)
  ·try refine go ?_
   refine ak ho ?_;rintro d s2 ⟨rfl,rfl⟩;try refine go ?_
   refine ai ⟨rfl,bp.trans ?_⟩;exact bI
  ·try refine go ?_
   exact ai ⟨rfl,bp⟩
 ·try refine go ?_
  exact ai ⟨rfl,bp⟩
end
def Fu (B:Nat)(t:Tm):Prop:=t.kids.length<=B/\t.tx.length<=B/\t.mag.length<=B
section
variable {T:Nat->Option dU}{H:ay}{s:St}{tms:List Tm}
def Wb (nl:Bool)(s:St)(tms:List Tm)(m:Nat)(env:Env) (s' :St):Prop:=
 s' =s/\∃i n:Nat,m=tms.length - i/\i<=tms.length/\n<=4000000000000000000/\(∀j t,j < i->tms[j]? =some t->Fu n t)/\env=[(0,.vs nl 8 (tms.map Tm.d)),(3,.int .i64 (n:Nat)),(4,.int .i64 (i:Nat))]
theorem Hm (hQ:TQ T)(hs:s.Ok){nl:Bool}(hN:tms.length<=1000000000000000000)(hB:∀t∈tms,Fu 1000000000000000000 t):cu T H 4 [.vs nl 8 (tms.map Tm.d)] s fun d s1=>s1=s/\∃b,d= .bool b/\(b=false->tms.length<=100/\∀t∈tms,Fu 2000 t):=by
 have vf:(tms.map Tm.d).length=tms.length:=aJ _;have Qu:(((tms.map Tm.d).length:Nat):Int)=(tms.length:Nat):=by rw [vf]
 refine ax hQ.t4 ?_;by_cases acD:100 < tms.length
 ·have hd:=eJ (((tms.map Tm.d).length:Int) > 100);try refine go ?_
  exact ai ⟨rfl,true,rfl,fun h=>by cases h⟩
 ·have hd:=cN (((tms.map Tm.d).length:Int) > 100);try refine go ?_
  refine cg (Wb nl s tms) tms.length rfl ⟨rfl,0,0,rfl,aS _,by omega,(fun _ _ h=>by omega),rfl⟩ ?_;rintro m env s' ⟨rfl,i,n,rfl,hi,hn,hl,rfl⟩;by_cases dM:i < tms.length
  ·have HP:=eJ ((i:Int) < ((tms.map Tm.d).length:Nat));by_cases h3:n<=2000
   ·have GR:=eJ ((n:Int)<=2000);obtain⟨t,ht⟩:∃t,tms[i]? =some t:=⟨_,ab dM⟩;have ha:=ej ht;obtain⟨b1,b2,b3⟩:=hB t (aM ht);have w1:IntKind.wrap .i64 ((n:Int)+(t.kids.length:Nat))=((n+t.kids.length:Nat):Int):=by rw [wrap_small (by omega) (by omega)]; omega
    have w2:IntKind.wrap .i64 (((n+t.kids.length:Nat):Int)+(t.tx.length:Nat))=((n+t.kids.length+t.tx.length:Nat):Int):=by rw [wrap_small (by omega) (by omega)]; omega
    have w3:IntKind.wrap .i64 (((n+t.kids.length+t.tx.length:Nat):Int)+(t.mag.length:Nat))=((n+t.kids.length+t.tx.length+t.mag.length:Nat):Int):=by rw [wrap_small (by omega) (by omega)]; omega
    have w4:IntKind.wrap .i64 ((i:Int)+1)=((i+1:Nat):Int):=by rw [wrap_small (by omega) (by omega)]; omega
    have e1:=fB t.kids;have e2:(dz t.mag).length=t.mag.length:=aJ _;try refine go ?_
    rw [e1,e2,w1,w2,w3];refine bf (tms.length - (i+1)) (by omega) rfl ⟨rfl,i+1,n+t.kids.length+t.tx.length+t.mag.length,rfl,by omega,by omega,fun j u hj hu=> ?_,rfl⟩;by_cases hji:j=i
    ·subst hji;rw [ht]at hu; cases hu;exact⟨by omega,by omega,by omega⟩
    ·obtain⟨x1,x2,x3⟩:=hl j u (by omega) hu;exact⟨by omega,by omega,by omega⟩
   ·have GR:=cN ((n:Int)<=2000);have H2:=eJ ((n:Int) > 2000);try refine go ?_
    exact ai ⟨rfl,true,rfl,fun h=>by cases h⟩
  ·have HP:=cN ((i:Int) < ((tms.map Tm.d).length:Nat));by_cases h3:n<=2000
   ·have H2:=cN ((n:Int) > 2000);try refine go ?_
    refine ai ⟨rfl,false,rfl,fun _=>⟨by omega,fun t ht=> ?_⟩⟩;obtain⟨j,hj⟩:=cJ ht;have Cy:=(aj.mp hj).1;obtain⟨x1,x2,x3⟩:=hl j t (by omega) hj;exact⟨by omega,by omega,by omega⟩
   ·have H2:=eJ ((n:Int) > 2000);try refine go ?_
    exact ai ⟨rfl,true,rfl,fun h=>by cases h⟩
end
structure Bh (nl:Bool)(tms:List Tm):Prop where
 len:tms.length<=1000000000000000000
 nil:nl=true->tms=[]
 n1:∀t∈tms,t.n1=true->t.mag=[]
 n2:∀t∈tms,t.n2=true->t.kids=[]
 wd:∀t∈tms,∀w∈t.mag,w < 4294967296
 ls:∀t∈tms,Fu 1000000000000000000 t
section
variable {T:Nat->Option dU}{H:ay}{s s1:St}{so bo i:Nat}{x:D}{tms:List Tm}{t:Tm}{o la ta pl mp P Sh n lv tk q st:Nat}{Ds:List D}{Vs:List gP}{F:Nat->Nat->Prop}{R:List Nat}
theorem JH (hS:TS T)(hs:s.Ok)(dN:bc s so o la ta pl mp P Sh three 0 0 0):
  cu T H 16 [.ptr so 0,.vs true 8 []] s (Dk P Sh s so o la ta pl mp []):=by
 have lso:=dN.lt hs (j:=so) (.inl (.inl rfl));have bB:aF Nil s (s.bz (.var 116 (.agg [.ptr so 0,.vs true 8 [],.vs true 0 []]))):=(aF.refl hs).push _;have gB:(s.bz (.var 116 (.agg [.ptr so 0,.vs true 8 [],.vs true 0 []]))).get s.n=some (.var 116 (.agg [.ptr so 0,.vs true 8 [],.vs true 0 []])):=St.bu;generalize hsB:s.bz (.var 116 (.agg [.ptr so 0,.vs true 8 [],.vs true 0 []]))=sB at bB gB;have okB:=bB.ok;have lB:=okB.lt gB;have fin:∀ {s4:St} {q st:Nat},aF Nil sB s4->s4.get q=some (.arr 1 3 (ints (([]:List Nat).map Int.ofNat)) st)->st<=0->Dk P Sh s so o la ta pl mp [] (.gK [.sl q 0 0 0,.int .i64 0]) s4:=by
  intro s4 q st b4 g4 h4;have d3:=(dN.dK hs bB fun _ _ h=>h).dK okB b4 fun _ _ h=>h;exact⟨b4.ok,(bB.trans b4).mono (fun _ h=>h.elim),.inr ⟨q,st,three,Iv,0,0,fun _ _=>False,[],rfl,g4,h4,d3,by omega,by decide,by omega,TN,.nil,rfl,(fun k r t h=>by simp at h),.inl ⟨rfl,fun i t h=>by simp at h⟩,fun _ _ h=>h.elim⟩⟩
 refine ax hS.t16 ?_;try refine go ?_
 show eH T H _ _ _ (s.bz (.var 116 (.agg [.ptr so 0,.vs true 8 [],.vs true 0 []]))) _;rw [hsB];refine ee 0 (fun j=> [(0,.ptr so 0),(1,.vs true 8 []),(6,.ptr s.n 0),(24,.int .i64 0),(25,.int .i64 0)]) (fun j s' =>s' =sB) rfl ?_;rintro j s' hj rfl;try refine go ?_
 refine ee 0 (fun j=> [(0,.ptr so 0),(1,.vs true 8 []),(6,.ptr s.n 0),(35,.vs true 8 []),(36,.int .i64 0),(37,.int .i64 0)]) (fun j s'' =>s'' =s') rfl ?_;rintro j s' hj rfl;try refine go ?_
 refine ee 0 (fun j=> [(0,.ptr so 0),(6,.ptr s.n 0),(54,.vs true 8 []),(55,.int .i64 0),(56,.int .i64 0)]) (fun j s'' =>s'' =s') rfl ?_;rintro j s' hj rfl;try refine go ?_
 have h0:s'.get (s'.n+0)=none:=okB.fresh _ (aq _);refine om (dl:= .int .i64 ((0:Nat):Int)) (dc:= .int .i64 ((0:Nat):Int)) jz jz (aq _) (by omega) (by simp only [aL]; omega) ?_;try refine go ?_
 refine EM (yd:= .vs true 0 []) rfl ?_;try refine go ?_
 refine ai (fin (st:=0) ?_ (gI) (aq _));exact bI
end
theorem Bh.ok {nl:Bool}{tms:List Tm}(h:Bh nl tms)(h1:tms.length<=100)(h2:∀t∈tms,Fu 2000 t):Av tms:=
 ⟨h1,fun u hu=>⟨⟨h.n1 u hu,h.n2 u hu,by have:=(h2 u hu).2.2; omega,by have:=(h2 u hu).2.1; omega,by have:=(h2 u hu).1; omega⟩,h.wd u hu⟩⟩
theorem Av.m {tms:List Tm}(h:Av tms):∀u∈tms,u.Ok:=fun u hu=>(h.ok u hu).1
def YV (P Sh:Nat)(tms:List Tm)(d:D)(s1:St):Prop:=d= .gK [.cz,.bool true]\/
 ∃to so o la ta pl mp q st wo x Ds Vs n tk F R,d= .gK [.ptr to 0,.bool true]/\s1.get to=some (.var 42 (.agg [.ptr so 0,.sl q 0 R.length R.length,.ptr wo 0,x]))/\s1.get q=some (.arr 1 3 (ints (R.map Int.ofNat)) st)/\st<=R.length/\bc s1 so o la ta pl mp P Sh Ds n n tk/\eV P s1 F Ds (nP R tms Vs tms.length)/\Mk tms R (nP R tms Vs tms.length)/\R.length=tms.length/\R.length<=100/\(∀i t,tms[i]? =some t->ka tms i t)
section
variable {T:Nat->Option dU}{H:ay}{s s1:St}{tms:List Tm}{Sh P:Nat}
theorem De (hQ:TQ T):cu T H 15 [.int .i64 (P:Nat)] s fun d s1=>d= .agg [.int .i64 0,.int .i64 (P:Nat),.int .i64 (4:Nat),.vs true 0 [],.vs true 0 []]/\s1=s:=by
 refine ax hQ.t15 ?_;try refine go ?_
 exact ai ⟨rfl,rfl⟩
theorem E6 (hQ:TQ T)(hS:TS T)(Yb:TT T)(hP:TP T)(hW:TW T)(hV:TV T)(hX:TX T)(hU:TU T H)(hRW:nB T)(hRT:nK T)(YR:mz T)(hs:s.Ok){nl:Bool}(hI:Bh nl tms)(hT:Av tms)(hl:∀t∈tms,Fu 2000 t):
  cu T H 13 [.int .i64 (1000:Nat),.vs nl 8 (tms.map Tm.d)] s fun d s1=>YV 1000 4 tms d s1/\s1.Ok:=by
 have hlen:=hT.len
 have V3:∀ {s:St} {so o la ta pl mp:Nat},s.Ok->bc s so o la ta pl mp 1000 4 three 0 0 0->cu T H 16 [.ptr so 0,.vs nl 8 (tms.map Tm.d)] s (Dk 1000 4 s so o la ta pl mp tms):=fun h1 h2=>by
  cases nl with
  | true=>
   obtain rfl:=hI.nil rfl;exact JH hS h1 h2
  | false=>exact MX hS Yb hP hW hV hX hU h1 h2 hT (by omega) (by omega) (by omega)
 refine ax hQ.t13 ?_;try refine go ?_
 refine ak (De hQ) ?_;rintro d s1 ⟨rfl,rfl⟩;try refine go ?_
 refine ak (Xy hS hs (P:=1000) (Sh:=4) (by omega) (by omega)) ?_;rintro d s1 ⟨so,o,la,ta,pl,mp,rfl,dN,aaF,b1⟩;have ok1:=b1.ok;try refine go ?_
 refine ak (De hQ) ?_;rintro d s1 ⟨rfl,rfl⟩;try refine go ?_
 refine ak (Qf YR ok1 (P:=1000) (Sh:=4) (by omega) (by omega)) ?_;rintro d s2 ⟨⟨wo,oL,cm,rfl,hr,m1,m2,m3⟩,b2⟩;have ok2:=b2.ok;have pB:=dN.dK ok1 b2 fun _ _ h=>h;try refine go ?_
 refine ak (V3 ok2 pB) ?_;rintro d s3 ⟨ok3,b3,hB⟩;have nof:∀j,s1.n<=j-> ¬ bA so o la ta pl j:=fun j hj h=>by have:=dN.lt ok1 (j:=j) (.inl h); omega
 have P2:jT s3 wo oL cm 1000 4 0 [RU 1 false,RU 2 false,RU 2 true]:=hr.dK ok2 b3 (nof _ m1) (nof _ m2) (hr.ct.dK ok2 b3 (nof _ m3)) fun j es st hg=>pB.u32 ⟨es,st,hg⟩;have hrb:=Jj (H:=H) (nz:=nl) hRW hRT YR ok3 P2 rfl hT.m (fun u hu=>by have:=(hl u hu).1; omega) (by omega) (by omega) (by omega) (by omega);rcases hB with ⟨e,he,CE,rfl,Mg⟩ | ⟨q,st,Ds,Vs,n,tk,F,R,rfl,gq,hq,Mg,hn,pO,zT,zJ,hma,Lb,AO,CE,hFn⟩
 ·try refine go ?_
  refine ak hrb ?_;rintro d s4 ⟨hR,b4⟩;rcases hR with ⟨e',Pp,OH,rfl⟩ | ⟨OH,_⟩
  ·obtain rfl:=CE.one OH;have hee:(e !=e)=false:=by simp
   try refine go ?_
   exact ai ⟨.inl rfl,b4.ok⟩
  ·exact absurd (CE.one OH) he
 ·try refine go ?_
  refine ak hrb ?_;rintro d s4 ⟨hR,b4⟩;have ok4:=b4.ok;rcases hR with ⟨e',Pp,OH,rfl⟩ | ⟨_,x,R',last,L,rfl,hx,abl,hr4⟩
  ·exact absurd (OH.one CE) Pp
  have OJ:bc s4 so o la ta pl mp 1000 4 Ds n n tk:=Mg.dK ok3 b4 fun j hj=>by
   have:=dN.lt ok1 hj;rintro (h | h | h) <;> omega
  have gq4:=b4.get ok3 gq (P2.ni gq)
  have ab8:=zJ.dK ok3 b4 fun i j hj hw=>by
   rcases hFn i j hj with h1 | ⟨es,st0,h1⟩
   ·obtain⟨y1,y2,y3⟩:=hr.lt ok2;rcases hw with h | h | h <;> omega
   ·exact P2.nu _ _ _ h1 hw
  have OY:∀i t,tms[i]? =some t->ka tms i t:=fun i t ht=>ry (by
   rcases CE with ⟨_,h2⟩ | ⟨h1,_⟩
   ·exact h2 i t ht
   ·exact absurd rfl h1)
  have cE:((R.length:Int) !=(R'.length:Int))=false:=by rw [Lb,abl]; simp
  rcases hx with _ | ⟨gx,hxn⟩
  ·try refine go ?_
   exact ai ⟨.inl rfl,ok4⟩
  ·have h0:((R'.length:Int)==0)=false:=by
    have:R'.length≠0:=fun h=>hxn (fX.1 h);simp only [bJ,ne_eq]; omega
   try refine go ?_
   have b5:∀x:Ab.Obj,aF Nil s4 (s4.bz x):=fun x=>(aF.refl ok4).push _;refine ai ⟨.inr ⟨s4.n,so,o,la,ta,pl,mp,q,st,wo,_,Ds,Vs,n,tk,F,R,rfl,St.bu, ?_,hq, ?_, ?_,AO,Lb,by omega,OY⟩, ?_⟩
   ·exact (b5 _).get ok4 gq4 id
   ·exact OJ.dK ok4 (b5 _) fun _ _ h=>h
   ·exact ab8.dK ok4 (b5 _) fun _ _ _ h=>h
   ·exact (b5 _).ok
end
end Go.Proofs.Tab
