/- Part. -/
import Derived.Test.YtdkejjahldkkoaaGreatDoorG39
import Derived.Test.YtdkejjahldkkoaaGreatDoorG51
set_option linter.unusedSectionVars false
set_option maxRecDepth 100000
set_option maxHeartbeats 2000000
set_option linter.unusedSimpArgs false
set_option linter.unusedVariables false
namespace Go.Proofs.Tab
open Go Go.Ab Go.Ab.Sm
section
variable {T:Nat->Option dS}{H:au}{s:St}{tms:List Tm}{nz:Bool}{i P:Nat}
theorem DJ {t:Tm}(hT:nB T)(hS:mw T)(hs:s.Ok)(hi:tms[i]? =some t)(gW:t.kd=5)(fK:∀u∈tms,u.Ok)(hN:tms.length<=60000)(hP:tms.length<=P)(tr:P<=65536):cu T H 23 [.vs nz 8 (tms.map Tm.d),.int .i64 (i:Nat),.int .i64 (P:Nat)] s fun d s1=>d= .int .i64 (bM tms i t)/\aC Nil s s1:=by
 have hi' :=ee hi;have pw:=fK t (aK hi);have jg:i < tms.length:=(af.mp hi).1;have xg:=gW;have hk:dX t.kd:=by unfold dX; omega
 have vL:(tms.map Tm.d).length=tms.length:=aH _;have gD:∀j k,t.kids[j]? =some k-> ¬ cr tms i t j k->bM tms i t=1:=fun j k h1 h2=>da jg hk (.inr ⟨j,k,h1,h2⟩);have jU: ¬ cO t->bM tms i t=1:=fun h=>da jg hk (.inl h)
 have iX:t.kd≠3->t.kd≠4->cO t->(∀j k,t.kids[j]? =some k->cr tms i t j k)->bM tms i t=0:=fun h3 h4 h1 h2=>by
  rw [fS jg hk h1 h2 (fun h=>by omega),aJ];unfold mn;rw [bk (by omega)]; simp
 have rP:=pw.kids;have j6:(ints t.kids).length=t.kids.length:=by simp [ints]
 have tL:=fun (p:St) (okp:p.Ok) h=>iG (H:=H) (nz:=nz) hT hS okp pw fK hN h;generalize yv:bM tms i t=wt at *;obtain⟨kd,b,ng,n1,mag,tx,n2,kids,hh,sm⟩:=t;simp only at gW rP j6 tL gD;refine ay hS.t23 ?_;rcases gW with rfl;by_cases cC:0 < kids.length
 ·have hg:=eR (((ints kids).length:Int) > 0);try refine go ?_
  refine cg (CN tms nz ⟨5,b,ng,n1,mag,tx,n2,kids,hh,sm⟩ i P false false false true s) kids.length rfl ⟨0,rfl,aC.refl hs,aR _,rfl,fun x k h=>by omega⟩ ?_;rintro m env s1 ⟨j,rfl,b1,hj,rfl,hf⟩;simp only at hj hf;have ok1:=b1.ok;by_cases dQ:j < kids.length
  ·have hd:=eR ((j:Int) < ((ints kids).length:Nat));have hx:kids[j]? =some kids[j]:=ae dQ;generalize kids[j]=x at hx;have nO:(ints kids)[j]? =some (.int .i64 x):=by simp only [ints,aE,hx]; rfl
   have rM:IntKind.wrap .i64 ((j:Int)+1)=((j+1:Nat):Int):=by rw [wrap_small (by omega) (by omega)]; rfl
   by_cases x0:x < 0
   ·have d1:decide (x < 0)=true:=cK x0;try refine go ?_
    exact ai ⟨by rw [gD j x hx (fun h=>by have:=h.1; omega)],b1⟩
   have d1:decide (x < 0)=false:=bk x0;obtain⟨y,rfl⟩:∃y:Nat,x=(y:Int):=⟨x.toNat,by omega⟩;by_cases x1:y < tms.length
   rotate_left
   ·have d2:=eR ((y:Int) >= ((tms.map Tm.d).length:Nat));try refine go ?_
    exact ai ⟨by rw [gD j y hx (fun h=>by have:=h.2.1; omega)],b1⟩
   have d2:=cM ((y:Int) >= ((tms.map Tm.d).length:Nat));have hu:tms[y]? =some tms[y]:=ae x1;have tz :=ee hu;generalize tms[y]=u at hu tz;have rq:tms[(y:Int).toNat]? =some u:=hu;by_cases x2:y < i
   rotate_left
   ·have d3:=eR ((y:Int) >= (i:Nat));try refine go ?_
    exact ai ⟨by rw [gD j y hx (fun h=>by have h' :=h.2.2.1; simp only at h'; omega)],b1⟩
   have d3:=cM ((y:Int) >= (i:Nat));have pZ:cr tms i ⟨5,b,ng,n1,mag,tx,n2,kids,hh,sm⟩ j y:=⟨by omega,by omega,.inl (by omega),u,rq,fun h=>by simp [er]at h,fun h=>by simp [isSet,eV]at h⟩;try refine go ?_
   try rw [rM]
   exact bg (kids.length - (j+1)) (by show kids.length - (j+1) < kids.length - j; omega) rfl ⟨j+1,rfl,b1,by show j+1<=kids.length; omega,rfl,fun z k hz hk=>by
    rcases aG z j with h | h
    ·exact hf z k h hk
    ·have:z=j:=by omega
     subst this; rw [hx]at hk; cases hk; exact pZ⟩
  ·have hd:=cM ((j:Int) < ((ints kids).length:Nat));have dK:∀x k,kids[x]? =some k->cr tms i ⟨5,b,ng,n1,mag,tx,n2,kids,hh,sm⟩ x k:=fun x k h=>hf x k (by have:=(af.mp h).1; omega) h;have d6:=cM (((ints kids).length:Int) > 65536);try refine go ?_
   exact ai ⟨by rw [iX (by simp) (by simp) (by unfold cO; simp [eV,isSet,er,isRow]) dK],b1⟩
 ·have hg:=cM (((ints kids).length:Int) > 0);have dK:∀x k,kids[x]? =some k->cr tms i ⟨5,b,ng,n1,mag,tx,n2,kids,hh,sm⟩ x k:=fun x k h=>absurd (af.mp h).1 (by omega);have hd:=cM (((0:Nat):Int) < ((ints kids).length:Nat));have A1 :=cM ((0:Int) < ((ints kids).length:Nat));try refine go ?_
  refine cg (CN tms nz ⟨5,b,ng,n1,mag,tx,n2,kids,hh,sm⟩ i P false false false true s) kids.length rfl ⟨0,rfl,aC.refl hs,aR _,rfl,fun x k h=>by omega⟩ ?_;rintro m env s1 ⟨j,rfl,b1,hj,rfl,hf⟩;simp only at hj;obtain rfl:j=0:=by omega
  have ok1:=b1.ok;have d6:=cM (((ints kids).length:Int) > 65536);try refine go ?_
  exact ai ⟨by rw [iX (by simp) (by simp) (by unfold cO; simp [eV,isSet,er,isRow]) dK],b1⟩
theorem EY {t:Tm}(hT:nB T)(hS:mw T)(hs:s.Ok)(hi:tms[i]? =some t)(gW:t.kd=6)(fK:∀u∈tms,u.Ok)(hN:tms.length<=60000)(hP:tms.length<=P)(tr:P<=65536):cu T H 23 [.vs nz 8 (tms.map Tm.d),.int .i64 (i:Nat),.int .i64 (P:Nat)] s fun d s1=>d= .int .i64 (bM tms i t)/\aC Nil s s1:=by
 have hi' :=ee hi;have pw:=fK t (aK hi);have jg:i < tms.length:=(af.mp hi).1;have xg:=gW;have hk:dX t.kd:=by unfold dX; omega
 have vL:(tms.map Tm.d).length=tms.length:=aH _;have gD:∀j k,t.kids[j]? =some k-> ¬ cr tms i t j k->bM tms i t=1:=fun j k h1 h2=>da jg hk (.inr ⟨j,k,h1,h2⟩);have jU: ¬ cO t->bM tms i t=1:=fun h=>da jg hk (.inl h)
 have iX:t.kd≠3->t.kd≠4->cO t->(∀j k,t.kids[j]? =some k->cr tms i t j k)->bM tms i t=0:=fun h3 h4 h1 h2=>by
  rw [fS jg hk h1 h2 (fun h=>by omega),aJ];unfold mn;rw [bk (by omega)]; simp
 have rP:=pw.kids;have j6:(ints t.kids).length=t.kids.length:=by simp [ints]
 have tL:=fun (p:St) (okp:p.Ok) h=>iG (H:=H) (nz:=nz) hT hS okp pw fK hN h;generalize yv:bM tms i t=wt at *;obtain⟨kd,b,ng,n1,mag,tx,n2,kids,hh,sm⟩:=t;simp only at gW rP j6 tL gD;refine ay hS.t23 ?_;rcases gW with rfl;by_cases cC:0 < kids.length
 ·have hg:=eR (((ints kids).length:Int) > 0);try refine go ?_
  refine cg (CN tms nz ⟨6,b,ng,n1,mag,tx,n2,kids,hh,sm⟩ i P false false false true s) kids.length rfl ⟨0,rfl,aC.refl hs,aR _,rfl,fun x k h=>by omega⟩ ?_;rintro m env s1 ⟨j,rfl,b1,hj,rfl,hf⟩;simp only at hj hf;have ok1:=b1.ok;by_cases dQ:j < kids.length
  ·have hd:=eR ((j:Int) < ((ints kids).length:Nat));have hx:kids[j]? =some kids[j]:=ae dQ;generalize kids[j]=x at hx;have nO:(ints kids)[j]? =some (.int .i64 x):=by simp only [ints,aE,hx]; rfl
   have rM:IntKind.wrap .i64 ((j:Int)+1)=((j+1:Nat):Int):=by rw [wrap_small (by omega) (by omega)]; rfl
   by_cases x0:x < 0
   ·have d1:decide (x < 0)=true:=cK x0;try refine go ?_
    exact ai ⟨by rw [gD j x hx (fun h=>by have:=h.1; omega)],b1⟩
   have d1:decide (x < 0)=false:=bk x0;obtain⟨y,rfl⟩:∃y:Nat,x=(y:Int):=⟨x.toNat,by omega⟩;by_cases x1:y < tms.length
   rotate_left
   ·have d2:=eR ((y:Int) >= ((tms.map Tm.d).length:Nat));try refine go ?_
    exact ai ⟨by rw [gD j y hx (fun h=>by have:=h.2.1; omega)],b1⟩
   have d2:=cM ((y:Int) >= ((tms.map Tm.d).length:Nat));have hu:tms[y]? =some tms[y]:=ae x1;have tz :=ee hu;generalize tms[y]=u at hu tz;have rq:tms[(y:Int).toNat]? =some u:=hu;by_cases x2:y < i
   rotate_left
   ·have d3:=eR ((y:Int) >= (i:Nat));have pZ:cr tms i ⟨6,b,ng,n1,mag,tx,n2,kids,hh,sm⟩ j y:=⟨by omega,by omega,.inr rfl,u,rq,fun h=>by simp [er]at h,fun h=>by simp [isSet,eV]at h⟩;try refine go ?_
    try rw [rM]
    exact bg (kids.length - (j+1)) (by show kids.length - (j+1) < kids.length - j; omega) rfl ⟨j+1,rfl,b1,by show j+1<=kids.length; omega,rfl,fun z k hz hk=>by
     rcases aG z j with h | h
     ·exact hf z k h hk
     ·have:z=j:=by omega
      subst this; rw [hx]at hk; cases hk; exact pZ⟩
   have d3:=cM ((y:Int) >= (i:Nat));have pZ:cr tms i ⟨6,b,ng,n1,mag,tx,n2,kids,hh,sm⟩ j y:=⟨by omega,by omega,.inl (by omega),u,rq,fun h=>by simp [er]at h,fun h=>by simp [isSet,eV]at h⟩;try refine go ?_
   try rw [rM]
   exact bg (kids.length - (j+1)) (by show kids.length - (j+1) < kids.length - j; omega) rfl ⟨j+1,rfl,b1,by show j+1<=kids.length; omega,rfl,fun z k hz hk=>by
    rcases aG z j with h | h
    ·exact hf z k h hk
    ·have:z=j:=by omega
     subst this; rw [hx]at hk; cases hk; exact pZ⟩
  ·have hd:=cM ((j:Int) < ((ints kids).length:Nat));have dK:∀x k,kids[x]? =some k->cr tms i ⟨6,b,ng,n1,mag,tx,n2,kids,hh,sm⟩ x k:=fun x k h=>hf x k (by have:=(af.mp h).1; omega) h;have d6:=cM (((ints kids).length:Int) > 65536);try refine go ?_
   exact ai ⟨by rw [iX (by simp) (by simp) (by unfold cO; simp [eV,isSet,er,isRow]) dK],b1⟩
 ·have hg:=cM (((ints kids).length:Int) > 0);have dK:∀x k,kids[x]? =some k->cr tms i ⟨6,b,ng,n1,mag,tx,n2,kids,hh,sm⟩ x k:=fun x k h=>absurd (af.mp h).1 (by omega);have hd:=cM (((0:Nat):Int) < ((ints kids).length:Nat));have A1 :=cM ((0:Int) < ((ints kids).length:Nat));try refine go ?_
  refine cg (CN tms nz ⟨6,b,ng,n1,mag,tx,n2,kids,hh,sm⟩ i P false false false true s) kids.length rfl ⟨0,rfl,aC.refl hs,aR _,rfl,fun x k h=>by omega⟩ ?_;rintro m env s1 ⟨j,rfl,b1,hj,rfl,hf⟩;simp only at hj;obtain rfl:j=0:=by omega
  have ok1:=b1.ok;have d6:=cM (((ints kids).length:Int) > 65536);try refine go ?_
  exact ai ⟨by rw [iX (by simp) (by simp) (by unfold cO; simp [eV,isSet,er,isRow]) dK],b1⟩
end
theorem Kw {T:Nat->Option dS}{H:au}{s:St}{tms:List Tm}{nz:Bool}{i P:Nat}{t:Tm}(hT:nB T)(hS:mw T)(hs:s.Ok)(hi:tms[i]? =some t)(fK:∀u∈tms,u.Ok)(hN:tms.length<=60000)(hP:tms.length<=P)(tr:P<=65536):cu T H 23 [.vs nz 8 (tms.map Tm.d),.int .i64 (i:Nat),.int .i64 (P:Nat)] s fun d s1=>d= .int .i64 (bM tms i t)/\aC Nil s s1:=by
 by_cases hk:dX t.kd
 ·have:(t.kd=1\/t.kd=2\/t.kd=14)\/t.kd=3\/t.kd=4\/t.kd=5\/t.kd=6\/t.kd=7\/(t.kd=8\/t.kd=9)\/(t.kd=15\/t.kd=16\/t.kd=17):=by unfold dX at hk; omega
  rcases this with (h | h | h) | h | h | h | h | h | (h | h) | (h | h | h)
  ·exact Am hT hS hs hi h fK hN hP tr
  ·exact zY hT hS hs hi h fK hN hP tr
  ·exact yp hT hS hs hi h fK hN hP tr
  ·exact FI hT hS hs hi h fK hN hP tr
  ·exact F1 hT hS hs hi h fK hN hP tr
  ·exact DJ hT hS hs hi h fK hN hP tr
  ·exact EY hT hS hs hi h fK hN hP tr
  ·exact DO hT hS hs hi h fK hN hP tr
  ·exact C5 hT hS hs hi h fK hN hP tr
  ·exact EW hT hS hs hi h fK hN hP tr
  ·exact zR hT hS hs hi h fK hN hP tr
  ·exact Ah hT hS hs hi h fK hN hP tr
  ·exact Aj hT hS hs hi h fK hN hP tr
 ·exact Fg hS hs hi hk
section
variable {T:Nat->Option dS}{H:au}{s:St}{wo oL cm P Sh i:Nat}{last:Int}{L:List D}{tms:List Tm}{nz:Bool}
def BwI (tms:List Tm)(nz:Bool)(wo:Nat)(s:St)(m:Nat)(env:Env) (s' :St):Prop:=
 ∃j:Nat,env=[(0,.ptr wo 0),(1,.vs nz 8 (tms.map Tm.d)),(6,.int .i64 (j:Nat))]/\aC Nil s s' /\j<=tms.length/\m=tms.length - j/\∀x u,x < j->tms[x]? =some u->bM tms x u=0
theorem CC (hT:nB T)(hS:mw T){Ev:Env}{k:List je}{Q:QP}(hs:s.Ok)(h:jT s wo oL cm P Sh last L)(fK:∀u∈tms,u.Ok)(hN:tms.length<=60000)(hP:tms.length<=P)(tr:P<=65536)
  (C4:Ev.bR [0,1,6]=[(0,.ptr wo 0),(1,.vs nz 8 (tms.map Tm.d)),(6,.int .i64 0)])
  (gD:∀(e:Int) fr s1,rl tms e->e≠0->aC Nil s s1->fr.defers=[]->fr.env.get 4=some (.vs true 0 [])->fr.env.get 5=some (.int .i64 e)->kZ T H .ret k fr s1 Q)
  (h0:∀z1 z2 z3 z4 s1,rl tms 0->aC Nil s s1->kZ T H (.exit 0) k ⟨[(15,z1),(14,z2),(13,z3),(12,z4),(0,.ptr wo 0),(1,.vs nz 8 (tms.map Tm.d)),(6,.int .i64 (tms.length:Nat))],[]⟩ s1 Q):
  eI T H (match I9.1.body with | .seq _ (.seq (.seq _ (.block _ l)) _)=>l | _=> .skip) k ⟨Ev,[]⟩ s Q:=by
 have vL:(tms.map Tm.d).length=tms.length:=aH _;show eI T H (.loop _ _) k ⟨Ev,[]⟩ s Q;refine cg (BwI tms nz wo s) tms.length rfl ⟨0,C4,aC.refl hs,aR _,rfl,fun x u h=>by omega⟩ ?_;rintro m env s1 ⟨j,rfl,b1,hj,rfl,hf⟩;have ok1:=b1.ok;have gw:=(h.nil hs b1).go;by_cases dQ:j < tms.length
 ·have hd:=eR ((j:Int) < ((tms.map Tm.d).length:Nat));have hu:tms[j]? =some tms[j]:=ae dQ;have hw:=Kw (H:=H) (nz:=nz) hT hS ok1 hu fK hN hP tr;generalize tms[j]=u at hu hw;have rM:IntKind.wrap .i64 ((j:Int)+1)=((j+1:Nat):Int):=by rw [wrap_small (by omega) (by omega)]; rfl
  try refine go ?_
  refine ak hw ?_;rintro d s2 ⟨rfl,b2⟩;by_cases he:bM tms j u=0
  ·rw [he];try refine go ?_
   try rw [rM]
   refine bg (tms.length - (j+1)) (by omega) rfl ⟨j+1,rfl,b1.trans b2,by omega,rfl,fun x v hx hv=> ?_⟩;rcases aG x j with h' | h'
   ·exact hf x v h' hv
   ·obtain rfl:x=j:=by omega
    rw [hu]at hv; cases hv; exact he
  ·have cC:(bM tms j u !=0)=true:=by simp [he]
   have FA:rl tms (bM tms j u):= .inr ⟨he,j,u,hu,rfl,fun i v hi hv=>hf i v hi hv⟩;generalize bM tms j u=e at he cC FA;try refine go ?_
   exact gD e _ s2 FA he (b1.trans b2) rfl rfl rfl
 ·obtain rfl:j=tms.length:=by omega
  have hd:=cM ((tms.length:Int) < ((tms.map Tm.d).length:Nat));try refine go ?_
  exact h0 _ _ _ _ s1 (.inl ⟨rfl,fun i t hi=>hf i t (af.mp hi).1 hi⟩) b1
end
def Em (tms:List Tm)(R:List Nat)(L:List D)(i:Nat):Prop:=∀k t r,tms[k]? =some t->t.kd=6->R[k]? =some r->(i<=k->∃num,L[r]? =some (Nc num))/\∀k' r',k' < k->R[k']? =some r' ->r' < r
structure Bm2 (tms:List Tm)(wo oL cm P Sh:Nat)(s:St)(x:D)(R:List Nat)(L:List D)(last:Int) (s' :St):Prop where
 st:jT s' wo oL cm P Sh last L
 rf:Refs s' x R
 lt:∀r∈R,r < L.length
 l3:3<=L.length
 ll:L.length<=3+2 * R.length
 ls:Em tms R L 0
 nx:∀q a l c,x= .sl q a l c->s.n<=q
 bh:aC (yZ wo oL cm) s s'
section
variable {T:Nat->Option dS}{H:au}{s s1 s2 s3:St}{wo oL cm P Sh i r q:Nat} {last last' :Int}{L M:List D}{tms:List Tm}{t:Tm}{nz:Bool}{x d:D}{R:List Nat}
theorem Bm2.step (hs:s.Ok)(h:Bm2 tms wo oL cm P Sh s x R L last s1)(ht:tms[R.length]? =some t)(h2:jT s2 wo oL cm P Sh last' (L++M))(hr:r < (L++M).length)(hM:M.length<=2)(h6:t.kd=6->r=L.length/\∃num,M=[Nc num])(b2:aC (yZ wo oL cm) s1 s2)
  (hq:s.n<=q)(Ar:(∃a l c,x= .sl q a l c)\/s2.n<=q)(b3:aC (fun j=>j=q) s2 s3)(g:s3.get q=some (.arr 1 3 (ints ((R++ [r]).map Int.ofNat)) 0)):
  Bm2 tms wo oL cm P Sh s (.sl q 0 (R.length+1) (R.length+1)) (R++ [r]) (L++M) last' s3:=by
 have ok2:=b2.ok;obtain⟨l1,l2,l3⟩:=h2.lt ok2;have nq: ¬ yZ wo oL cm q:=by
  rcases Ar with ⟨a,l,c,rfl⟩ | Ar
  ·have HB:=h.rf;cases HB with
   | sl hg hn=>exact h.st.ni hg
  ·rintro (rfl | rfl | rfl) <;> omega
 have sv:=h.ll;have aam:=Refs.sl (s:=s3) (o:=q) (R:=R++ [r]) g (by simp);rw [aB,aW]at aam;have MA:jF s3 cm:=h2.ct.dU ok2 b3 (fun e=>nq (.inr (.inr e.symm)));refine⟨?_,aam, ?_, ?_, ?_, ?_, ?_, ?_⟩
 ·refine h2.dU ok2 b3 (fun e=>nq (.inl e.symm)) (fun e=>nq (.inr (.inl e.symm))) MA fun j es st hg e=> ?_;subst e;rcases Ar with ⟨a,l,c,rfl⟩ | Ar
  ·have HB:=h.rf;cases HB with
   | sl Wq hn=>rw [b2.get h.bh.ok Wq nq]at hg; simp at hg
  ·have:=ok2.lt hg; omega
 ·intro v hv;rw [bK,cG]at hv;rcases hv with hv | rfl
  ·have:=h.lt v hv; rw [aB]; omega
  ·exact hr
 ·have:=h.l3; rw [aB]; omega
 ·rw [aB,aB,aW]; omega
 ·intro k u v hu hu6 hv;by_cases hk:k < R.length
  ·rw [aO hk]at hv;obtain⟨h1,xo⟩:=h.ls k u v hu hu6 hv;refine⟨fun _=> ?_,fun k' r' xi D9 => ?_⟩
   ·obtain⟨num,e⟩:=h1 (aR _);exact⟨num,by rw [aO (af.mp e).1]; exact e⟩
   ·rw [aO (by omega)]at D9;exact xo k' r' xi D9
  ·have j6:=(af.mp hv).1;rw [aB,aW]at j6;obtain rfl:k=R.length:=by omega
   rw [ht]at hu; cases hu;rw [aT (an _),eF]at hv;simp only [aQ,aa]at hv;subst hv;obtain⟨rfl,num,rfl⟩:=h6 hu6;refine⟨fun _=>⟨num,by rw [aT (an _),eF]; rfl⟩,fun k' r' xi D9 => ?_⟩;rw [aO xi]at D9;exact h.lt _ (aK D9)
 ·intro q' a l c e;simp only [D.sl.injEq]at e;rw [← e.1]; exact hq
 ·refine (h.bh.trans b2).trans' b3 ?_;rintro j rfl hj;omega
def BsI (tms:List Tm)(nz:Bool)(wo oL cm P Sh:Nat)(s:St)(m:Nat)(env:Env) (s' :St):Prop:=
 ∃x R L last,env=[(0,.ptr wo 0),(1,.vs nz 8 (tms.map Tm.d)),(8,x),(9,.int .i64 (R.length:Nat))]/\Bm2 tms wo oL cm P Sh s x R L last s' /\R.length<=tms.length/\m=tms.length - R.length
theorem BJ (hT:nB T)(hR:nH T)(hS:mw T){Ev:Env}{k:List je}{Q:QP}(hs:s.Ok)(h:jT s wo oL cm P Sh last L)(fK:∀u∈tms,u.Ok)(hg:∀i t,tms[i]? =some t->lg tms i t)(j6:∀u∈tms,u.kids.length<=20000)(hN:tms.length<=60000)(hP:P<=65536)(Lk:Sh<=256)(hL:L.length=3)
  (C4:Ev.bR [0,1,8,9]=[(0,.ptr wo 0),(1,.vs nz 8 (tms.map Tm.d)),(8,.vs true 0 []),(9,.int .i64 0)])
  (h0:∀z1 z2 z3 z4 x R L last s1,Bm2 tms wo oL cm P Sh s x R L last s1->R.length=tms.length->kZ T H (.exit 2) k ⟨[(32,z1),(31,z2),(30,z3),(29,z4),(0,.ptr wo 0),(1,.vs nz 8 (tms.map Tm.d)),(8,x),(9,.int .i64 (tms.length:Nat))],[]⟩ s1 Q):
  eI T H (match I9.1.body with | .seq _ (.seq _ (.seq _ (.seq (.seq _ (.block _ l)) _)))=>l | _=> .skip) k ⟨Ev,[]⟩ s Q:=by
 have vL:(tms.map Tm.d).length=tms.length:=aH _;show eI T H (.loop _ _) k ⟨Ev,[]⟩ s Q;refine cg (BsI tms nz wo oL cm P Sh s) tms.length rfl ⟨_,[],L,last,C4,⟨h,.nil,(fun r hr=>by cases hr),(by omega),(by rw [hL]; omega),(fun k t r _ _ h=>by simp at h),(fun _ _ _ _ e=>by cases e),aC.refl hs⟩,aR _,rfl⟩ ?_;rintro m env s1 ⟨x,R,L,last,rfl,hI,hj,rfl⟩;have ok1:=hI.bh.ok;have gw:=hI.st.go;have vk:=ir R;by_cases dQ:R.length < tms.length
 ·have hd:=eR ((R.length:Int) < ((tms.map Tm.d).length:Nat));have ht:tms[R.length]? =some tms[R.length]:=ae dQ;have sv:=hI.ll;have Kj:=Eu (H:=H) (nz:=nz) hT hR hS ok1 hI.st ht fK (hg _ _ ht) (j6 _ (aK ht)) hP Lk hI.l3 (by omega) hI.rf hI.lt;generalize tms[R.length]=t at ht Kj;have rM:IntKind.wrap .i64 ((R.length:Int)+1)=((R.length+1:Nat):Int):=by rw [wrap_small (by omega) (by omega)]; rfl
  have Rk:∀r:Nat,(R++ [r]).length=R.length+1:=fun r=>by simp
  have TD:∀r:Nat,ints ((R++ [r]).map Int.ofNat)=ints (R.map Int.ofNat)++ [.int .i64 (r:Nat)]:=fun r=>by simp [ints]
  have nx:=hI.nx;have HB:=hI.rf;rcases HB with _ | ⟨gx,cC⟩
  ·try refine go ?_
   refine ak Kj ?_;rintro d s2 ⟨r,last',M,rfl,h2,hr,hM,h6,b2⟩;have ok2:=b2.ok;have n2:=b2.n; have n1:=hI.bh.n;try refine go ?_
   refine bg (tms.length - 1) (by show tms.length - 1 < tms.length - 0; simp only [bL]at dQ; omega) rfl ⟨.sl s2.n 0 1 1,[r],L++M,last',rfl,hI.step hs ht h2 hr hM h6 b2 (q:=s2.n) (by omega) (.inr (an _)) ((aC.refl ok2).push _) ?_,by simp only [bL]at dQ; show 1<=tms.length; omega,rfl⟩;rw [St.ba]; rfl
  ·rename_i q;have nq:=hI.st.ni gx;try refine go ?_
   refine ak Kj ?_;rintro d s2 ⟨r,last',M,rfl,h2,hr,hM,h6,b2⟩;have ok2:=b2.ok;have VT:=b2.get ok1 gx nq;have lq:=ok2.lt VT;try refine go ?_
   refine bg (tms.length - (R.length+1)) (by omega) rfl ⟨.sl q 0 (R.length+1) (R.length+1),R++ [r],L++M,last',by rw [Rk]; rfl,hI.step hs ht h2 hr hM h6 b2 (q:=q) (nx _ _ _ _ rfl) (.inl ⟨_,_,_,rfl⟩) (aC.set (aC.refl ok2) _ lq (fun _=>rfl)) ?_,by rw [Rk]; omega,by rw [Rk]⟩;rw [St.aN,TD]
 ·have hd:=cM ((R.length:Int) < ((tms.map Tm.d).length:Nat));have CP:R.length=tms.length:=by omega
  have hf:=hI.rf.form;have h00:=fun z1 z2 z3 z4=>h0 z1 z2 z3 z4 x R L last s1 hI CP;rw [← CP]at h00;rcases hf with rfl | ⟨o,n,rfl⟩
  all_goals
   try refine go ?_
   exact h00 _ _ _ _
end
@[reducible] def rR (num:Int) (l:D):D:=rv 6 num false false (.vs true 0 []) [] l .cT 0 0 .cT .cT 0 false false
structure G3 (tms:List Tm)(wo oL cm P Sh:Nat)(s:St)(x:D)(R:List Nat)(i:Nat)(L:List D)(last:Int) (s' :St):Prop where
 st:jT s' wo oL cm P Sh last L
 rf:Refs s' x R
 lt:∀r∈R,r < L.length
 ls:Em tms R L i
 lw:wo < s.n/\oL < s.n/\cm < s.n
 nx:∀q a l c,x= .sl q a l c->q < s.n
 bh:aC (yZ wo oL cm) s s'
section
variable {T:Nat->Option dS}{H:au}{s s1 s2:St}{wo oL cm P Sh i r q:Nat}{last num:Int}{L:List D}{tms:List Tm}{t:Tm}{nz:Bool}{x d l:D}{R:List Nat}
theorem Em.next (h:Em tms R L i):Em tms R L (i+1):=fun k t r h1 h2 h3=>⟨fun hk=>(h k t r h1 h2 h3).1 (by omega),(h k t r h1 h2 h3).2⟩
theorem Em.set (h:Em tms R L (i+1))(hr:R[i]? =some r){v:D}:Em tms R (L.set r v) (i+1):=by
 intro k t r' h1 h2 h3;obtain⟨a,b⟩:=h k t r' h1 h2 h3;refine⟨fun hk=> ?_,b⟩;obtain⟨num,e⟩:=a hk;have:=b i r (by omega) hr;exact⟨num,by rw [nF (by omega)]; exact e⟩
def abO (s:St)(V:List Int)(l:D) (s' :St):Prop:=(V=[]/\l= .vs true 0 [])\/(V≠ []/\∃q,l= .sl q 0 V.length V.length/\s.n<=q/\s'.get q=some (.arr 1 3 (ints V) 0))
def FlI (tms:List Tm)(nz:Bool)(wo oL cm P Sh:Nat)(x:D)(R:List Nat)(t:Tm)(i r:Nat)(last num:Int)(s:St)(m:Nat)(env:Env) (s' :St):Prop:=
 ∃V l L,env=[(0,.ptr wo 0),(1,.vs nz 8 (tms.map Tm.d)),(8,x),(10,.int .i64 (i:Nat)),(11,.int .i64 (V.length:Nat))]/\V.length<=t.kids.length/\m=t.kids.length - V.length/\G3 tms wo oL cm P Sh s x R (i+1) L last s' /\L[r]? =some (rR num l)/\abO s V l s'
theorem G3.set (h:G3 tms wo oL cm P Sh s x R (i+1) L last s1)(hr:R[i]? =some r)(hl:l.sc=true)(hq:s.n<=q)(hu:∀es st,s1.get q≠some (.arr 1 263 es st)){st:Nat}(go:s2.get oL=some (.arr 22 94 (L.set r (rR num l)) st))(dT:st<=L.length)
  (b:aC (fun j=>j=oL\/j=q) s1 s2):G3 tms wo oL cm P Sh s x R (i+1) (L.set r (rR num l)) last s2:=by
 have ok1:=h.bh.ok;obtain⟨k1,k2,k3⟩:=h.lw;obtain⟨e1,e2,e3⟩:=h.st.ne;have tV:(L.set r (rR num l)).length=L.length:=gE ..;have nu:=h.st.nu;refine⟨⟨?_,⟨st,go,by rw [tV]; exact dT⟩,fun d hd=> ?_,h.st.ct.dU ok1 b (by rintro (e | e) <;> omega), ?_⟩,h.rf.dU ok1 b ?_,fun v hv=>by rw [tV]; exact h.lt v hv,h.ls.set hr,h.lw,h.nx,h.bh.trans' b ?_⟩
 ·rw [tV]; exact b.get ok1 h.st.go (by rintro (e | e) <;> omega)
 ·rcases List.mem_or_eq_of_mem_set hd with hd | rfl
  ·refine (h.st.vs d hd).dU ok1 b fun j es st hg=> ?_;rintro (rfl | rfl)
   ·exact nu _ _ _ hg (.inr (.inl rfl))
   ·exact hu _ _ hg
  ·exact kK .nil (aR _) (h3:=hl)
 ·intro h0; have:=congrArg List.length h0; rw [tV]at this; exact h.st.nn (ib.1 this)
 ·rintro o a l c e (rfl | rfl)
  ·obtain⟨mu,g1,_⟩:=h.st.gl;have HB:=h.rf;subst e;cases HB with
   | sl hg hn=>rw [g1]at hg; simp at hg
  ·have:=h.nx _ _ _ _ e; omega
 ·rintro j (rfl | rfl) hj
  ·exact .inr (.inl rfl)
  ·omega
theorem GA (hS:mw T){Ev:Env}{k:List je}{Q:QP}(h:G3 tms wo oL cm P Sh s x R (i+1) L last s)(hi:tms[i]? =some t)(jh:∀k∈t.kids,∃y:Nat,k=(y:Int)/\y < R.length)(j6:t.kids.length<=60000)(hri:R[i]? =some r)(hlr:L[r]? =some (rR num (.vs true 0 [])))
  (C4:Ev.bR [0,1,8,10,11]=[(0,.ptr wo 0),(1,.vs nz 8 (tms.map Tm.d)),(8,x),(10,.int .i64 (i:Nat)),(11,.int .i64 0)])
  (h0:∀z1 z2 z3 z4 z5 z6 z7 z8 z9 L s1,G3 tms wo oL cm P Sh s x R (i+1) L last s1->kZ T H (.exit 6) k ⟨[(62,z1),(61,z2),(60,z3),(59,z4),(58,z5),(57,z6),(56,z7),(55,z8),(0,.ptr wo 0),(1,.vs nz 8 (tms.map Tm.d)),(8,x),(10,.int .i64 (i:Nat)),(11,z9)],[]⟩ s1 Q):
  eI T H (match I9.1.body with | .seq _ (.seq _ (.seq _ (.seq _ (.seq (.seq _ (.block _ (.loop _ (.seq _ (.seq (.block _ (.seq _ (.cond _ (.seq _ (.block _ l)) _))) _))))) _))))=>l | _=> .skip) k ⟨Ev,[]⟩ s Q:=by
 have hs:=h.bh.ok;have hi' :=ee hi;have vk:=ir R;obtain⟨o,rfl,gx,oP,jg⟩:=h.rf.at' hri;have ho:=h.nx _ _ _ _ rfl;obtain⟨kd,b,ng,n1,mag,tx,n2,kids,hh,sm⟩:=t;simp only at jh j6;have DA:(ints kids).length=kids.length:=by simp [ints]
 have mu:(Tm.mk kd b ng n1 mag tx n2 kids hh sm).d.st=true:=rfl;show eI T H (.loop _ _) k ⟨Ev,[]⟩ s Q;refine cg (FlI tms nz wo oL cm P Sh (.sl o 0 R.length R.length) R ⟨kd,b,ng,n1,mag,tx,n2,kids,hh,sm⟩ i r last num s) kids.length rfl ⟨[],_,L,C4,aR _,rfl,h,hlr,.inl ⟨rfl,rfl⟩⟩ ?_;rintro m env s1 ⟨V,l,L1,rfl,hV,rfl,hI,hv,hF⟩;simp only at hV;have ok1:=hI.bh.ok;have gw:=hI.st.go;obtain⟨tR,gl,pB⟩:=hI.st.gl;obtain⟨k1,k2,k3⟩:=h.lw;obtain⟨e1,e2,e3⟩:=h.st.ne;have gx1:s1.get o=some (.arr 1 3 (ints (R.map Int.ofNat)) 0):=by
  obtain⟨o1,e,g1,_,_⟩:=hI.rf.at' hri;cases e; exact g1
 have tU:o≠oL:=by rintro rfl; rw [gl]at gx1; simp at gx1
 have kq:L1[0+r]? =some (rR num l):=by rw [aM]; exact hv
 have Lb:=(af.mp hv).1;by_cases dQ:V.length < kids.length
 ·have hd:=eR ((V.length:Int) < ((ints kids).length:Nat));obtain⟨y,hy,Lr⟩:=jh kids[V.length] (bH dQ);have Ll:kids[V.length]? =some (y:Int):=by rw [ae dQ,hy]
  have nO:(ints kids)[V.length]? =some (.int .i64 (y:Nat)):=by simp only [ints,aE,Ll]; rfl
  have abT:(ints (R.map Int.ofNat))[0+y]? =some (.int .i64 (R[y]:Nat)):=by simp only [ints,aM,aE,ae Lr,dn]; rfl
  have hVl:(ints V).length=V.length:=by simp [ints]
  have hVs:ints (V++ [(R[y]:Int)])=ints V++ [.int .i64 (R[y]:Nat)]:=by simp [ints]
  have Ns:(V++ [(R[y]:Int)]).length=V.length+1:=by simp
  have rM:IntKind.wrap .i64 ((V.length:Int)+1)=((V.length+1:Nat):Int):=by rw [wrap_small (by omega) (by omega)]; rfl
  generalize R[y]=v at abT hVs Ns;have ln:=hI.bh.n;rcases hF with ⟨rfl,rfl⟩ | ⟨QX,q,rfl,hq,gq⟩
  ·try refine go ?_
   refine bg (kids.length - 1) (by show kids.length - 1 < kids.length - 0; simp only [bL]at dQ; omega) rfl ⟨[(v:Int)],.sl s1.n 0 1 1,L1.set r (rR num (.sl s1.n 0 1 1)),rfl,by simp only [bL]at dQ; show 1<=kids.length; omega,rfl,hI.set (q:=s1.n) hri rfl (by omega) (fun es st e=>by rw [ok1.fresh _ (an _)]at e; cases e) (st:=L1.length) ?_ (an _) ?_,jS Lb,.inr ⟨by simp,s1.n,rfl,ln, ?_⟩⟩
   ·rw [St.aN,aM]; rfl
   ·refine aC.set (aC.set (aC.up (aC.refl ok1) 1) _ ?_ ?_) _ ?_ ?_
    all_goals first
     | (intro _; exact .inr rfl)
     | (intro _; exact .inl rfl)
     | (simp only [St.fE,St.jw]; omega)
   ·exact St.eP St.aN (by omega)
  ·have lq:=ok1.lt gq;try refine go ?_
   refine bg (kids.length - (V.length+1)) (by show kids.length - (V.length+1) < kids.length - V.length; omega) rfl ⟨V++ [(v:Int)],.sl q 0 (V.length+1) (V.length+1),L1.set r (rR num (.sl q 0 (V.length+1) (V.length+1))),by rw [Ns]; rfl,by rw [Ns]; show V.length+1<=kids.length; omega,by rw [Ns],hI.set (q:=q) hri rfl hq (fun es st e=>by rw [gq]at e; simp at e) (st:=L1.length) ?_ (an _) ?_,jS Lb,.inr ⟨by simp,q,by rw [Ns],hq, ?_⟩⟩
   ·rw [St.aN,aM]; rfl
   ·refine aC.set (aC.set (aC.up (aC.refl ok1) 1) _ ?_ ?_) _ ?_ ?_
    all_goals first
     | (intro _; exact .inr rfl)
     | (intro _; exact .inl rfl)
     | (simp only [St.fE,St.jw]; omega)
   ·rw [hVs]; exact St.eP St.aN (by omega)
 ·have hd:=cM ((V.length:Int) < ((ints kids).length:Nat));try refine go ?_
  exact h0 _ _ _ _ _ _ _ _ _ L1 s1 hI
end
section
variable {T:Nat->Option dS}{H:au}{s s1 s2:St}{wo oL cm P Sh i r q:Nat}{last num:Int}{L:List D}{tms:List Tm}{t:Tm}{nz:Bool}{x d l:D}{R:List Nat}
def BoI (tms:List Tm)(nz:Bool)(wo oL cm P Sh:Nat)(x:D)(R:List Nat)(last:Int)(s:St)(m:Nat)(env:Env) (s' :St):Prop:=
 ∃i L,env=[(0,.ptr wo 0),(1,.vs nz 8 (tms.map Tm.d)),(8,x),(10,.int .i64 (i:Nat))]/\G3 tms wo oL cm P Sh s x R i L last s' /\i<=tms.length/\m=tms.length - i
theorem G3.of (hs:s1.Ok)(h:G3 tms wo oL cm P Sh s1 x R i L last s2){j:Nat}{L2:List D}(h0:G3 tms wo oL cm P Sh s x R j L2 last s1):G3 tms wo oL cm P Sh s x R i L last s2:=
 ⟨h.st,h.rf,h.lt,h.ls,h0.lw,h0.nx,h0.bh.trans h.bh⟩
theorem B2 (hS:mw T){Ev:Env}{k:List je}{Q:QP}(h:G3 tms wo oL cm P Sh s x R 0 L last s)(hN:tms.length<=60000)(hRl:R.length=tms.length)(hg:∀i t,tms[i]? =some t->lg tms i t)(j6:∀u∈tms,u.kids.length<=20000)
  (C4:Ev.bR [0,1,8,10]=[(0,.ptr wo 0),(1,.vs nz 8 (tms.map Tm.d)),(8,x),(10,.int .i64 0)])
  (h0:∀z1 z2 z3 z4 z5 L s1,G3 tms wo oL cm P Sh s x R tms.length L last s1->kZ T H (.exit 4) k ⟨[(46,z1),(45,z2),(44,z3),(43,z4),(0,.ptr wo 0),(1,.vs nz 8 (tms.map Tm.d)),(8,x),(10,z5)],[]⟩ s1 Q):
  eI T H (match I9.1.body with | .seq _ (.seq _ (.seq _ (.seq _ (.seq (.seq _ (.block _ l)) _))))=>l | _=> .skip) k ⟨Ev,[]⟩ s Q:=by
 have vL:(tms.map Tm.d).length=tms.length:=aH _;show eI T H (.loop _ _) k ⟨Ev,[]⟩ s Q;refine cg (BoI tms nz wo oL cm P Sh x R last s) tms.length rfl ⟨0,L,C4,h,aR _,rfl⟩ ?_;rintro m env s1 ⟨i,L1,rfl,hI,hj,rfl⟩;have ok1:=hI.bh.ok;by_cases dQ:i < tms.length
 ·have hd:=eR ((i:Int) < ((tms.map Tm.d).length:Nat));have ht:tms[i]? =some tms[i]:=ae dQ;have vh:=hg i _ ht;have Q8:=j6 _ (bH dQ);generalize tms[i]=t at ht vh Q8;have hi' :=ee ht;have rM:IntKind.wrap .i64 ((i:Int)+1)=((i+1:Nat):Int):=by rw [wrap_small (by omega) (by omega)]; rfl
  obtain⟨r,hr⟩:∃r,R[i]? =some r:=⟨_,ae (by omega)⟩;obtain⟨o,rfl,gx,oP,jg⟩:=hI.rf.at' hr;have KV:=hI.ls i t r ht;have hbs:G3 tms wo oL cm P Sh s1 (.sl o 0 R.length R.length) R (i+1) L1 last s1:=⟨hI.st,hI.rf,hI.lt,hI.ls.next,hI.st.lt ok1,fun q a l c e=>by cases e; exact ok1.lt gx,aC.refl ok1⟩;obtain⟨kd,b,ng,n1,mag,tx,n2,kids,hh,sm⟩:=t;simp only at KV Q8;have mu:(Tm.mk kd b ng n1 mag tx n2 kids hh sm).d.st=true:=rfl;by_cases h6:kd=6
  ·subst h6;obtain⟨num,hn⟩:=(KV rfl hr).1 (an _)
   have hk:∀k∈kids,∃y:Nat,k=(y:Int)/\y < R.length:=fun k hk=>by
    have:=vh.kids k hk;simp only [ep]at this;exact⟨k.toNat,by omega,by omega⟩
   try refine go ?_
   refine GA (num:=num) hS hbs ht hk (by show kids.length<=60000; omega) hr hn rfl ?_;intro z1 z2 z3 z4 z5 z6 z7 z8 z9 L2 s2 h2;try refine go ?_
   exact bg (tms.length - (i+1)) (by omega) rfl ⟨i+1,L2,rfl,h2.of ok1 hI,by omega,rfl⟩
  ·have e0:(kd==6)=false:=by simpa using h6
   try refine go ?_
   exact bg (tms.length - (i+1)) (by omega) rfl ⟨i+1,L1,rfl,hbs.of ok1 hI,by omega,rfl⟩
 ·have hd:=cM ((i:Int) < ((tms.map Tm.d).length:Nat));obtain rfl:i=tms.length:=by omega
  have hf:=hI.rf.form;rcases hf with rfl | ⟨o,n,rfl⟩
  all_goals
   try refine go ?_
   exact h0 _ _ _ _ _ L1 s1 hI
end
def Mt (tms:List Tm)(wo oL cm P Sh:Nat)(s:St)(d:D)(s1:St):Prop:=
 ((∃e:Int,e≠0/\rl tms e/\d= .gJ [.vs true 0 [],.int .i64 e])\/(rl tms 0/\∃x R last L,d= .gJ [x,.int .i64 0]/\Refs s1 x R/\R.length=tms.length/\jT s1 wo oL cm P Sh last L))/\aC (yZ wo oL cm) s s1
section
variable {T:Nat->Option dS}{H:au}{s s1 s2:St}{wo oL cm P Sh i r q:Nat}{last num:Int}{L:List D}{tms:List Tm}{t:Tm}{nz:Bool}{x d l:D}{R:List Nat}
theorem K7 (hT:nB T)(hR:nH T)(hS:mw T)(hs:s.Ok)(h:jT s wo oL cm P Sh last L)(hL:L.length=3)(fK:∀u∈tms,u.Ok)(j6:∀u∈tms,u.kids.length<=20000)(hN:tms.length<=60000)(hP:tms.length<=P)(tr:P<=65536)(Lk:Sh<=256):
  cu T H 11 [.ptr wo 0,.vs nz 8 (tms.map Tm.d)] s (Mt tms wo oL cm P Sh s):=by
 refine ay hS.t11 ?_;try refine go ?_
 refine CC (nz:=nz) hT hS hs h fK hN hP tr rfl ?_ ?_
 ·intro e fr s1 FA he b1 hd h4 h5;try refine go ?_
  refine ai (r:=[.vs true 0 [],.int .i64 e]) ⟨.inl ⟨e,he,FA,rfl⟩,b1.mono fun _ h=>h.elim⟩ (by rw [hd]; rfl) ?_ rfl;show kY fr.env s1 [.tmp 4,.tmp 5]=_;simp only [kY,bP.ev,h4,h5]
 intro z1 z2 z3 z4 s1 FA b1;have ok1:=b1.ok
 have hg:∀i t,tms[i]? =some t->lg tms i t:=fun i t ht=>wU (by
  rcases FA with ⟨_,h2⟩ | ⟨h1,_⟩
  ·exact h2 i t ht
  ·exact absurd rfl h1)
 try refine go ?_
 refine BJ (nz:=nz) hT hR hS ok1 (h.nil hs b1) fK hg j6 hN tr Lk hL rfl ?_;intro z1 z2 z3 z4 x R L2 S3 s2 h2 hRl;have ok2:=h2.bh.ok
 have xd:G3 tms wo oL cm P Sh s2 x R 0 L2 S3 s2:=⟨h2.st,h2.rf,h2.lt,h2.ls,h2.st.lt ok2,fun q a l c e=>by
  have HB:=h2.rf;rw [e]at HB;cases HB with
  | sl hg hn=>exact ok2.lt hg,aC.refl ok2⟩
 try refine go ?_
 refine B2 (nz:=nz) hS xd hN hRl hg j6 rfl ?_;intro z1 z2 z3 z4 z5 L3 s3 h3;have hf:=h3.rf.form;have jr:∀d,d= .gJ [x,.int .i64 0]->Mt tms wo oL cm P Sh s d s3:=fun d e=>⟨.inr ⟨FA,x,R,S3,L3,e,h3.rf,hRl,h3.st⟩,((b1.mono fun _ h=>h.elim).trans h2.bh).trans h3.bh⟩;rcases hf with rfl | ⟨o,n,rfl⟩
 all_goals
  try refine go ?_
  exact ai (jr _ rfl)
end
end Go.Proofs.Tab
