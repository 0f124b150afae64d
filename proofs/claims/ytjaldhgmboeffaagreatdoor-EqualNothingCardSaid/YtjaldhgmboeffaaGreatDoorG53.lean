/- Part. -/
import Derived.Test.YtjaldhgmboeffaaGreatDoorG42
set_option linter.unusedSimpArgs false
set_option linter.unusedVariables false
set_option linter.unusedSectionVars false
set_option maxRecDepth 100000
set_option maxHeartbeats 2000000
namespace Go.Proofs.Tab
open Go Go.Ab Go.Ab.Sm
section
variable {T:Nat->Option dU}{H:ay}{s:St}{tms:List Tm}{nz:Bool}{i P:Nat}
theorem zQ {t:Tm}(hT:nB T)(hS:mz T)(hs:s.Ok)(hi:tms[i]? =some t)(gV:t.kd=1)(fK:∀u∈tms,u.Ok)(hN:tms.length<=60000)(hP:tms.length<=P)(tg:P<=65536):cu T H 69 [.vs nz 8 (tms.map Tm.d),.int .i64 (i:Nat),.int .i64 (P:Nat)] s fun d s1=>d= .int .i64 (bM tms i t)/\aF Nil s s1:=by
 have hi' :=ej hi;have pA:=fK t (aM hi);have ja:i < tms.length:=(aj.mp hi).1;have xa:=gV;have hk:dX t.kd:=by unfold dX; omega
 have vf:(tms.map Tm.d).length=tms.length:=aJ _;have gE:∀j k,t.kids[j]? =some k-> ¬ cw tms i t j k->bM tms i t=1:=fun j k h1 h2=>db ja hk (.inr ⟨j,k,h1,h2⟩);have jX: ¬ cR t->bM tms i t=1:=fun h=>db ja hk (.inl h)
 have iW:t.kd≠3->t.kd≠4->cR t->(∀j k,t.kids[j]? =some k->cw tms i t j k)->bM tms i t=0:=fun h3 h4 h1 h2=>by
  rw [fR ja hk h1 h2 (fun h=>by omega),aK];unfold mu;rw [bk (by omega)]; simp
 have rW:=pA.kids;have j9:(ints t.kids).length=t.kids.length:=by simp [ints]
 have tG:=fun (p:St) (okp:p.Ok) h=>iI (H:=H) (nz:=nz) hT hS okp pA fK hN h;generalize x8:bM tms i t=wt at *;obtain⟨kd,b,ng,n1,mag,tx,n2,kids,hh,sm⟩:=t;simp only at gV rW j9 tG gE;refine ax hS.t69 ?_;rcases gV with rfl;by_cases cE:0 < kids.length
 ·have hg:=eJ (((ints kids).length:Int) > 0);try refine go ?_
  exact ai ⟨by rw [jX (fun h=>by have:=h.1 cE; simp [eT,isSet,eB,isRow]at this)],aF.refl hs⟩
 have hg:=cN (((ints kids).length:Int) > 0);have dQ:∀x k,kids[x]? =some k->cw tms i ⟨1,b,ng,n1,mag,tx,n2,kids,hh,sm⟩ x k:=fun x k h=>absurd (aj.mp h).1 (by omega);have hlen:cR ⟨1,b,ng,n1,mag,tx,n2,kids,hh,sm⟩:=⟨fun h=>absurd h cE,fun h=>by simp [eT]at h,fun h=>by simp [eB]at h⟩;have hd:=cN (((0:Nat):Int) < ((ints kids).length:Nat));have Ae :=cN ((0:Int) < ((ints kids).length:Nat));try refine go ?_
 refine cg (Cs tms nz ⟨1,b,ng,n1,mag,tx,n2,kids,hh,sm⟩ i P false false false false s) kids.length rfl ⟨0,rfl,aF.refl hs,aS _,rfl,fun x k h=>by omega⟩ ?_;rintro m env s1 ⟨j,rfl,b1,hj,rfl,hf⟩;simp only at hj;obtain rfl:j=0:=by omega
 have ok1:=b1.ok;try refine go ?_
 exact ai ⟨by rw [iW (by simp) (by simp) hlen dQ],b1⟩
theorem zB {t:Tm}(hT:nB T)(hS:mz T)(hs:s.Ok)(hi:tms[i]? =some t)(gV:t.kd=2)(fK:∀u∈tms,u.Ok)(hN:tms.length<=60000)(hP:tms.length<=P)(tg:P<=65536):cu T H 69 [.vs nz 8 (tms.map Tm.d),.int .i64 (i:Nat),.int .i64 (P:Nat)] s fun d s1=>d= .int .i64 (bM tms i t)/\aF Nil s s1:=by
 have hi' :=ej hi;have pA:=fK t (aM hi);have ja:i < tms.length:=(aj.mp hi).1;have xa:=gV;have hk:dX t.kd:=by unfold dX; omega
 have vf:(tms.map Tm.d).length=tms.length:=aJ _;have gE:∀j k,t.kids[j]? =some k-> ¬ cw tms i t j k->bM tms i t=1:=fun j k h1 h2=>db ja hk (.inr ⟨j,k,h1,h2⟩);have jX: ¬ cR t->bM tms i t=1:=fun h=>db ja hk (.inl h)
 have iW:t.kd≠3->t.kd≠4->cR t->(∀j k,t.kids[j]? =some k->cw tms i t j k)->bM tms i t=0:=fun h3 h4 h1 h2=>by
  rw [fR ja hk h1 h2 (fun h=>by omega),aK];unfold mu;rw [bk (by omega)]; simp
 have rW:=pA.kids;have j9:(ints t.kids).length=t.kids.length:=by simp [ints]
 have tG:=fun (p:St) (okp:p.Ok) h=>iI (H:=H) (nz:=nz) hT hS okp pA fK hN h;generalize x8:bM tms i t=wt at *;obtain⟨kd,b,ng,n1,mag,tx,n2,kids,hh,sm⟩:=t;simp only at gV rW j9 tG gE;refine ax hS.t69 ?_;rcases gV with rfl;by_cases cE:0 < kids.length
 ·have hg:=eJ (((ints kids).length:Int) > 0);try refine go ?_
  exact ai ⟨by rw [jX (fun h=>by have:=h.1 cE; simp [eT,isSet,eB,isRow]at this)],aF.refl hs⟩
 have hg:=cN (((ints kids).length:Int) > 0);have dQ:∀x k,kids[x]? =some k->cw tms i ⟨2,b,ng,n1,mag,tx,n2,kids,hh,sm⟩ x k:=fun x k h=>absurd (aj.mp h).1 (by omega);have hlen:cR ⟨2,b,ng,n1,mag,tx,n2,kids,hh,sm⟩:=⟨fun h=>absurd h cE,fun h=>by simp [eT]at h,fun h=>by simp [eB]at h⟩;have hd:=cN (((0:Nat):Int) < ((ints kids).length:Nat));have Ae :=cN ((0:Int) < ((ints kids).length:Nat));try refine go ?_
 refine cg (Cs tms nz ⟨2,b,ng,n1,mag,tx,n2,kids,hh,sm⟩ i P false false false false s) kids.length rfl ⟨0,rfl,aF.refl hs,aS _,rfl,fun x k h=>by omega⟩ ?_;rintro m env s1 ⟨j,rfl,b1,hj,rfl,hf⟩;simp only at hj;obtain rfl:j=0:=by omega
 have ok1:=b1.ok;try refine go ?_
 exact ai ⟨by rw [iW (by simp) (by simp) hlen dQ],b1⟩
theorem yV {t:Tm}(hT:nB T)(hS:mz T)(hs:s.Ok)(hi:tms[i]? =some t)(gV:t.kd=14)(fK:∀u∈tms,u.Ok)(hN:tms.length<=60000)(hP:tms.length<=P)(tg:P<=65536):cu T H 69 [.vs nz 8 (tms.map Tm.d),.int .i64 (i:Nat),.int .i64 (P:Nat)] s fun d s1=>d= .int .i64 (bM tms i t)/\aF Nil s s1:=by
 have hi' :=ej hi;have pA:=fK t (aM hi);have ja:i < tms.length:=(aj.mp hi).1;have xa:=gV;have hk:dX t.kd:=by unfold dX; omega
 have vf:(tms.map Tm.d).length=tms.length:=aJ _;have gE:∀j k,t.kids[j]? =some k-> ¬ cw tms i t j k->bM tms i t=1:=fun j k h1 h2=>db ja hk (.inr ⟨j,k,h1,h2⟩);have jX: ¬ cR t->bM tms i t=1:=fun h=>db ja hk (.inl h)
 have iW:t.kd≠3->t.kd≠4->cR t->(∀j k,t.kids[j]? =some k->cw tms i t j k)->bM tms i t=0:=fun h3 h4 h1 h2=>by
  rw [fR ja hk h1 h2 (fun h=>by omega),aK];unfold mu;rw [bk (by omega)]; simp
 have rW:=pA.kids;have j9:(ints t.kids).length=t.kids.length:=by simp [ints]
 have tG:=fun (p:St) (okp:p.Ok) h=>iI (H:=H) (nz:=nz) hT hS okp pA fK hN h;generalize x8:bM tms i t=wt at *;obtain⟨kd,b,ng,n1,mag,tx,n2,kids,hh,sm⟩:=t;simp only at gV rW j9 tG gE;refine ax hS.t69 ?_;rcases gV with rfl;by_cases cE:0 < kids.length
 ·have hg:=eJ (((ints kids).length:Int) > 0);try refine go ?_
  exact ai ⟨by rw [jX (fun h=>by have:=h.1 cE; simp [eT,isSet,eB,isRow]at this)],aF.refl hs⟩
 have hg:=cN (((ints kids).length:Int) > 0);have dQ:∀x k,kids[x]? =some k->cw tms i ⟨14,b,ng,n1,mag,tx,n2,kids,hh,sm⟩ x k:=fun x k h=>absurd (aj.mp h).1 (by omega);have hlen:cR ⟨14,b,ng,n1,mag,tx,n2,kids,hh,sm⟩:=⟨fun h=>absurd h cE,fun h=>by simp [eT]at h,fun h=>by simp [eB]at h⟩;have hd:=cN (((0:Nat):Int) < ((ints kids).length:Nat));have Ae :=cN ((0:Int) < ((ints kids).length:Nat));try refine go ?_
 refine cg (Cs tms nz ⟨14,b,ng,n1,mag,tx,n2,kids,hh,sm⟩ i P false false false false s) kids.length rfl ⟨0,rfl,aF.refl hs,aS _,rfl,fun x k h=>by omega⟩ ?_;rintro m env s1 ⟨j,rfl,b1,hj,rfl,hf⟩;simp only at hj;obtain rfl:j=0:=by omega
 have ok1:=b1.ok;try refine go ?_
 exact ai ⟨by rw [iW (by simp) (by simp) hlen dQ],b1⟩
theorem FV {t:Tm}(hT:nB T)(hS:mz T)(hs:s.Ok)(hi:tms[i]? =some t)(gV:t.kd=3)(fK:∀u∈tms,u.Ok)(hN:tms.length<=60000)(hP:tms.length<=P)(tg:P<=65536):cu T H 69 [.vs nz 8 (tms.map Tm.d),.int .i64 (i:Nat),.int .i64 (P:Nat)] s fun d s1=>d= .int .i64 (bM tms i t)/\aF Nil s s1:=by
 have hi' :=ej hi;have pA:=fK t (aM hi);have ja:i < tms.length:=(aj.mp hi).1;have xa:=gV;have hk:dX t.kd:=by unfold dX; omega
 have vf:(tms.map Tm.d).length=tms.length:=aJ _;have gE:∀j k,t.kids[j]? =some k-> ¬ cw tms i t j k->bM tms i t=1:=fun j k h1 h2=>db ja hk (.inr ⟨j,k,h1,h2⟩);have jX: ¬ cR t->bM tms i t=1:=fun h=>db ja hk (.inl h)
 have iW:t.kd≠3->t.kd≠4->cR t->(∀j k,t.kids[j]? =some k->cw tms i t j k)->bM tms i t=0:=fun h3 h4 h1 h2=>by
  rw [fR ja hk h1 h2 (fun h=>by omega),aK];unfold mu;rw [bk (by omega)]; simp
 have rW:=pA.kids;have j9:(ints t.kids).length=t.kids.length:=by simp [ints]
 have tG:=fun (p:St) (okp:p.Ok) h=>iI (H:=H) (nz:=nz) hT hS okp pA fK hN h;have rN:=fun h1 h2 (h3:t.kd=3)=>fR (tms:=tms) (i:=i) (t:=t) ja hk h1 h2 (fun h=>by omega);have hF:=fun (p:St) (okp:p.Ok)=>uB (H:=H) (s:=p) (d:= .agg [.bool t.ng,.vs t.n1 1 (dz t.mag)]) (n:=(t.ng,t.mag)) hT okp ⟨_,rfl,.vs t.n1 t.mag pA.n1⟩ (by have:=pA.mag; simp only [aL]; omega);generalize x8:bM tms i t=wt at *;obtain⟨kd,b,ng,n1,mag,tx,n2,kids,hh,sm⟩:=t;simp only at gV rW j9 tG gE;refine ax hS.t69 ?_;rcases gV with rfl;by_cases cE:0 < kids.length
 ·have hg:=eJ (((ints kids).length:Int) > 0);try refine go ?_
  exact ai ⟨by rw [jX (fun h=>by have:=h.1 cE; simp [eT,isSet,eB,isRow]at this)],aF.refl hs⟩
 have hg:=cN (((ints kids).length:Int) > 0);have dQ:∀x k,kids[x]? =some k->cw tms i ⟨3,b,ng,n1,mag,tx,n2,kids,hh,sm⟩ x k:=fun x k h=>absurd (aj.mp h).1 (by omega);have hlen:cR ⟨3,b,ng,n1,mag,tx,n2,kids,hh,sm⟩:=⟨fun h=>absurd h cE,fun h=>by simp [eT]at h,fun h=>by simp [eB]at h⟩;have hd:=cN (((0:Nat):Int) < ((ints kids).length:Nat));have Ae :=cN ((0:Int) < ((ints kids).length:Nat));try refine go ?_
 refine cg (Cs tms nz ⟨3,b,ng,n1,mag,tx,n2,kids,hh,sm⟩ i P false false false false s) kids.length rfl ⟨0,rfl,aF.refl hs,aS _,rfl,fun x k h=>by omega⟩ ?_;rintro m env s1 ⟨j,rfl,b1,hj,rfl,hf⟩;simp only at hj;obtain rfl:j=0:=by omega
 have ok1:=b1.ok;try refine go ?_
 refine ak (hF s1 ok1) ?_;rintro d s2 ⟨⟨y,rfl,hy⟩,b2⟩;have hyl:=hy.row.sh;have hul:=cQ (bU mag);rw [vY]at hy hyl;rw [rN hlen dQ rfl];unfold mu;simp only [decide_true,fM,aY];rcases hyl with ⟨nl,z,rfl⟩ | ⟨o,off,cp,rfl⟩
 all_goals
  by_cases Zb:256 < (bU mag).length
  ·have d7:=eJ (((dz (bU mag)).length:Int) > 256);try refine go ?_
   exact ai ⟨by rw [bT Zb],b1.trans b2⟩
  ·have d7:=cN (((dz (bU mag)).length:Int) > 256);try refine go ?_
   exact ai ⟨by rw [aK Zb],b1.trans b2⟩
theorem FM {t:Tm}(hT:nB T)(hS:mz T)(hs:s.Ok)(hi:tms[i]? =some t)(gV:t.kd=4)(fK:∀u∈tms,u.Ok)(hN:tms.length<=60000)(hP:tms.length<=P)(tg:P<=65536):cu T H 69 [.vs nz 8 (tms.map Tm.d),.int .i64 (i:Nat),.int .i64 (P:Nat)] s fun d s1=>d= .int .i64 (bM tms i t)/\aF Nil s s1:=by
 have hi' :=ej hi;have pA:=fK t (aM hi);have ja:i < tms.length:=(aj.mp hi).1;have xa:=gV;have hk:dX t.kd:=by unfold dX; omega
 have vf:(tms.map Tm.d).length=tms.length:=aJ _;have gE:∀j k,t.kids[j]? =some k-> ¬ cw tms i t j k->bM tms i t=1:=fun j k h1 h2=>db ja hk (.inr ⟨j,k,h1,h2⟩);have jX: ¬ cR t->bM tms i t=1:=fun h=>db ja hk (.inl h)
 have iW:t.kd≠3->t.kd≠4->cR t->(∀j k,t.kids[j]? =some k->cw tms i t j k)->bM tms i t=0:=fun h3 h4 h1 h2=>by
  rw [fR ja hk h1 h2 (fun h=>by omega),aK];unfold mu;rw [bk (by omega)]; simp
 have rW:=pA.kids;have j9:(ints t.kids).length=t.kids.length:=by simp [ints]
 have tG:=fun (p:St) (okp:p.Ok) h=>iI (H:=H) (nz:=nz) hT hS okp pA fK hN h;have rN:=fun h1 h2 (h4:Lib.validD t.tx=true) (h3:t.kd=4)=>fR (tms:=tms) (i:=i) (t:=t) ja hk h1 h2 (fun _=>h4);have Lr:=fun (h4:Lib.validD t.tx=false) (h3:t.kd=4)=>DE (tms:=tms) (i:=i) (t:=t) hk h3 h4;have Eb:=pA.tx;have hG:=Lp (H:=H) (l:=t.tx) hT hs (by omega);have hL:=fun (p:St) (okp:p.Ok)=>Qj (H:=H) (l:=t.tx) hT okp (by omega);generalize x8:bM tms i t=wt at *;obtain⟨kd,b,ng,n1,mag,tx,n2,kids,hh,sm⟩:=t;simp only at gV rW j9 tG gE;refine ax hS.t69 ?_;rcases gV with rfl;by_cases cE:0 < kids.length
 ·have hg:=eJ (((ints kids).length:Int) > 0);try refine go ?_
  exact ai ⟨by rw [jX (fun h=>by have:=h.1 cE; simp [eT,isSet,eB,isRow]at this)],aF.refl hs⟩
 have hg:=cN (((ints kids).length:Int) > 0);have dQ:∀x k,kids[x]? =some k->cw tms i ⟨4,b,ng,n1,mag,tx,n2,kids,hh,sm⟩ x k:=fun x k h=>absurd (aj.mp h).1 (by omega);have hlen:cR ⟨4,b,ng,n1,mag,tx,n2,kids,hh,sm⟩:=⟨fun h=>absurd h cE,fun h=>by simp [eT]at h,fun h=>by simp [eB]at h⟩;have hd:=cN (((0:Nat):Int) < ((ints kids).length:Nat));have Ae :=cN ((0:Int) < ((ints kids).length:Nat));try refine go ?_
 refine ak hG ?_;rintro d s0 ⟨rfl,b0⟩;have ok0:=b0.ok;simp only at rN Lr Eb;cases hv:Lib.validD tx
 ·try refine go ?_
  exact ai ⟨by rw [Lr hv (by simp)],b0⟩
 try refine go ?_
 refine cg (Cs tms nz ⟨4,b,ng,n1,mag,tx,n2,kids,hh,sm⟩ i P false false false false s) kids.length rfl ⟨0,rfl,b0,aS _,rfl,fun x k h=>by omega⟩ ?_;rintro m env s1 ⟨j,rfl,b1,hj,rfl,hf⟩;simp only at hj;obtain rfl:j=0:=by omega
 have ok1:=b1.ok;try refine go ?_
 refine ak (hL s1 ok1) ?_;rintro d s2 ⟨⟨n,rfl,hn⟩,b2⟩;simp only at hn;have d7:=cN ((n:Int) > 65536);try refine go ?_
 exact ai ⟨by rw [rN hlen dQ hv (by simp),aK (by unfold mu; simp)],b1.trans b2⟩
end
section
variable {T:Nat->Option dU}{H:ay}{s:St}{tms:List Tm}{nz:Bool}{i P:Nat}
theorem EX {t:Tm}(hT:nB T)(hS:mz T)(hs:s.Ok)(hi:tms[i]? =some t)(gV:t.kd=7)(fK:∀u∈tms,u.Ok)(hN:tms.length<=60000)(hP:tms.length<=P)(tg:P<=65536):cu T H 69 [.vs nz 8 (tms.map Tm.d),.int .i64 (i:Nat),.int .i64 (P:Nat)] s fun d s1=>d= .int .i64 (bM tms i t)/\aF Nil s s1:=by
 have hi' :=ej hi;have pA:=fK t (aM hi);have ja:i < tms.length:=(aj.mp hi).1;have xa:=gV;have hk:dX t.kd:=by unfold dX; omega
 have vf:(tms.map Tm.d).length=tms.length:=aJ _;have gE:∀j k,t.kids[j]? =some k-> ¬ cw tms i t j k->bM tms i t=1:=fun j k h1 h2=>db ja hk (.inr ⟨j,k,h1,h2⟩);have jX: ¬ cR t->bM tms i t=1:=fun h=>db ja hk (.inl h)
 have iW:t.kd≠3->t.kd≠4->cR t->(∀j k,t.kids[j]? =some k->cw tms i t j k)->bM tms i t=0:=fun h3 h4 h1 h2=>by
  rw [fR ja hk h1 h2 (fun h=>by omega),aK];unfold mu;rw [bk (by omega)]; simp
 have rW:=pA.kids;have j9:(ints t.kids).length=t.kids.length:=by simp [ints]
 have tG:=fun (p:St) (okp:p.Ok) h=>iI (H:=H) (nz:=nz) hT hS okp pA fK hN h;generalize x8:bM tms i t=wt at *;obtain⟨kd,b,ng,n1,mag,tx,n2,kids,hh,sm⟩:=t;simp only at gV rW j9 tG gE;refine ax hS.t69 ?_;rcases gV with rfl;by_cases cE:0 < kids.length
 ·have hg:=eJ (((ints kids).length:Int) > 0);rcases iR kids.length with zH | zH;rotate_left
  ·have e9:Int.tmod (((ints kids).length:Nat):Int) 2=((1:Nat):Int):=by rw [j9,bZ (by omega)]; omega
   try refine go ?_
   exact ai ⟨by rw [jX (by unfold cR; simp [eT,isSet,eB,zH])],aF.refl hs⟩
  have e9:Int.tmod (((ints kids).length:Nat):Int) 2=((0:Nat):Int):=by rw [j9,bZ (by omega)]; omega
  try refine go ?_
  refine cg (Cs tms nz ⟨7,b,ng,n1,mag,tx,n2,kids,hh,sm⟩ i P false true false false s) kids.length rfl ⟨0,rfl,aF.refl hs,aS _,rfl,fun x k h=>by omega⟩ ?_;rintro m env s1 ⟨j,rfl,b1,hj,rfl,hf⟩;simp only at hj hf;have ok1:=b1.ok;by_cases dM:j < kids.length
  ·have hd:=eJ ((j:Int) < ((ints kids).length:Nat));have hx:kids[j]? =some kids[j]:=ab dM;generalize kids[j]=x at hx;have nO:(ints kids)[j]? =some (.int .i64 x):=by simp only [ints,aC,hx]; rfl
   have rO:IntKind.wrap .i64 ((j:Int)+1)=((j+1:Nat):Int):=by rw [wrap_small (by omega) (by omega)]; rfl
   by_cases x0:x < 0
   ·have d1:decide (x < 0)=true:=cO x0;try refine go ?_
    exact ai ⟨by rw [gE j x hx (fun h=>by have:=h.1; omega)],b1⟩
   have d1:decide (x < 0)=false:=bk x0;obtain⟨y,rfl⟩:∃y:Nat,x=(y:Int):=⟨x.toNat,by omega⟩;by_cases x1:y < tms.length
   rotate_left
   ·have d2:=eJ ((y:Int) >= ((tms.map Tm.d).length:Nat));try refine go ?_
    exact ai ⟨by rw [gE j y hx (fun h=>by have:=h.2.1; omega)],b1⟩
   have d2:=cN ((y:Int) >= ((tms.map Tm.d).length:Nat));have hu:tms[y]? =some tms[y]:=ab x1;have tL :=ej hu;generalize tms[y]=u at hu tL;have qY:tms[(y:Int).toNat]? =some u:=hu;by_cases x2:y < i
   rotate_left
   ·have d3:=eJ ((y:Int) >= (i:Nat));try refine go ?_
    exact ai ⟨by rw [gE j y hx (fun h=>by have h' :=h.2.2.1; simp only at h'; omega)],b1⟩
   have d3:=cN ((y:Int) >= (i:Nat));rcases iR j with hm | hm
   ·have em:Int.tmod (j:Int) 2=((0:Nat):Int):=by rw [bZ (by omega)]; omega
    have Mm: ¬ IsKey u->wt=1:=fun hn=>gE j y hx fun h=>by
     obtain⟨_,_,_,u',h1,_,h3⟩:=h;rw [qY]at h1; cases h1;exact hn (h3 (.inr ⟨by simp [eT],hm⟩))
    obtain⟨ukd,ub,ung,MH,umag,utx,Ox,ukids,uhh,usm⟩:=u;rcases vz ⟨ukd,ub,ung,MH,umag,utx,Ox,ukids,uhh,usm⟩ with c | c | c | c
    ·simp only at c;have e1:=cN (ukd >= 1);have X4:(ukd==14)=false:=by simp only [bJ]; omega
     try refine go ?_
     exact ai ⟨by rw [Mm (by unfold IsKey; simp only; omega)],b1⟩
    ·simp only at c;have e1:=eJ (ukd >= 1);have e2:=eJ (ukd<=4);have pY:cw tms i ⟨7,b,ng,n1,mag,tx,n2,kids,hh,sm⟩ j y:=⟨by omega,by omega,.inl (by omega),_,qY,fun h=>by simp [eB]at h,fun _=> .inl c⟩;try refine go ?_
     try rw [rO]
     exact bf (kids.length - (j+1)) (by show kids.length - (j+1) < kids.length - j; omega) rfl ⟨j+1,rfl,b1,by show j+1<=kids.length; omega,rfl,fun z k hz hk=>by
      rcases aH z j with h | h
      ·exact hf z k h hk
      ·have:z=j:=by omega
       subst this; rw [hx]at hk; cases hk; exact pY⟩
    ·simp only at c;subst c;have pY:(uhh=true\/usm=false)->cw tms i ⟨7,b,ng,n1,mag,tx,n2,kids,hh,sm⟩ j y:=fun hq=>⟨by omega,by omega,.inl (by omega),_,qY,fun h=>by simp [eB]at h,fun _=> .inr ⟨rfl,hq⟩⟩;cases uhh
     ·cases usm
      ·have pY:=pY (.inr rfl);try refine go ?_
       try rw [rO]
       exact bf (kids.length - (j+1)) (by show kids.length - (j+1) < kids.length - j; omega) rfl ⟨j+1,rfl,b1,by show j+1<=kids.length; omega,rfl,fun z k hz hk=>by
        rcases aH z j with h | h
        ·exact hf z k h hk
        ·have:z=j:=by omega
         subst this; rw [hx]at hk; cases hk; exact pY⟩
      ·try refine go ?_
       exact ai ⟨by rw [Mm (by unfold IsKey; simp)],b1⟩
     ·have pY:=pY (.inl rfl);try refine go ?_
      try rw [rO]
      exact bf (kids.length - (j+1)) (by show kids.length - (j+1) < kids.length - j; omega) rfl ⟨j+1,rfl,b1,by show j+1<=kids.length; omega,rfl,fun z k hz hk=>by
       rcases aH z j with h | h
       ·exact hf z k h hk
       ·have:z=j:=by omega
        subst this; rw [hx]at hk; cases hk; exact pY⟩
    ·simp only at c;have e1:=eJ (ukd >= 1);have e2:=cN (ukd<=4);have X4:(ukd==14)=false:=by simp only [bJ]; omega
     try refine go ?_
     exact ai ⟨by rw [Mm (by unfold IsKey; simp only; omega)],b1⟩
   ·have em:Int.tmod (j:Int) 2=((1:Nat):Int):=by rw [bZ (by omega)]; omega
    have pY:cw tms i ⟨7,b,ng,n1,mag,tx,n2,kids,hh,sm⟩ j y:=⟨by omega,by omega,.inl (by omega),u,qY,fun h=>by simp [eB]at h,fun h=>by simp [isSet,eT,hm]at h⟩;try refine go ?_
    try rw [rO]
    exact bf (kids.length - (j+1)) (by show kids.length - (j+1) < kids.length - j; omega) rfl ⟨j+1,rfl,b1,by show j+1<=kids.length; omega,rfl,fun z k hz hk=>by
     rcases aH z j with h | h
     ·exact hf z k h hk
     ·have:z=j:=by omega
      subst this; rw [hx]at hk; cases hk; exact pY⟩
  ·have hd:=cN ((j:Int) < ((ints kids).length:Nat));have dQ:∀x k,kids[x]? =some k->cw tms i ⟨7,b,ng,n1,mag,tx,n2,kids,hh,sm⟩ x k:=fun x k h=>hf x k (by have:=(aj.mp h).1; omega) h
   have mD:∀k∈kids,∃x:Nat,k=(x:Int)/\x < tms.length:=fun k hk=>by
    obtain⟨j,hj⟩:=cJ hk;obtain⟨h1,h2,_⟩:=dQ j k hj;exact⟨k.toNat,by omega,by omega⟩
   try refine go ?_
   refine ak (tG s1 ok1 mD) ?_;rintro d s2 ⟨⟨n,rfl,hn⟩,b2⟩;have d5:=cN ((n:Int) > (P:Nat));try refine go ?_
   exact ai ⟨by rw [iW (by simp) (by simp) (by unfold cR; simp [eT,isSet,eB,isRow,zH]) dQ],b1.trans b2⟩
 ·have hg:=cN (((ints kids).length:Int) > 0);rcases iR kids.length with zH | zH;rotate_left
  ·have e9:Int.tmod (((ints kids).length:Nat):Int) 2=((1:Nat):Int):=by rw [j9,bZ (by omega)]; omega
   try refine go ?_
   exact ai ⟨by rw [jX (by unfold cR; simp [eT,isSet,eB,zH])],aF.refl hs⟩
  have e9:Int.tmod (((ints kids).length:Nat):Int) 2=((0:Nat):Int):=by rw [j9,bZ (by omega)]; omega
  have dQ:∀x k,kids[x]? =some k->cw tms i ⟨7,b,ng,n1,mag,tx,n2,kids,hh,sm⟩ x k:=fun x k h=>absurd (aj.mp h).1 (by omega);have hd:=cN (((0:Nat):Int) < ((ints kids).length:Nat));have Ae :=cN ((0:Int) < ((ints kids).length:Nat));try refine go ?_
  refine cg (Cs tms nz ⟨7,b,ng,n1,mag,tx,n2,kids,hh,sm⟩ i P false true false false s) kids.length rfl ⟨0,rfl,aF.refl hs,aS _,rfl,fun x k h=>by omega⟩ ?_;rintro m env s1 ⟨j,rfl,b1,hj,rfl,hf⟩;simp only at hj;obtain rfl:j=0:=by omega
  have ok1:=b1.ok
  have mD:∀k∈kids,∃x:Nat,k=(x:Int)/\x < tms.length:=fun k hk=>by
   obtain⟨j,hj⟩:=cJ hk;obtain⟨h1,h2,_⟩:=dQ j k hj;exact⟨k.toNat,by omega,by omega⟩
  try refine go ?_
  refine ak (tG s1 ok1 mD) ?_;rintro d s2 ⟨⟨n,rfl,hn⟩,b2⟩;have d5:=cN ((n:Int) > (P:Nat));try refine go ?_
  exact ai ⟨by rw [iW (by simp) (by simp) (by unfold cR; simp [eT,isSet,eB,isRow,zH]) dQ],b1.trans b2⟩
end
end Go.Proofs.Tab
