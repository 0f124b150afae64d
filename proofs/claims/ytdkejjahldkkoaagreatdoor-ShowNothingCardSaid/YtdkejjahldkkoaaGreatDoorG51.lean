/- Part. -/
import Derived.Test.YtdkejjahldkkoaaGreatDoorG38
set_option linter.unusedSectionVars false
set_option maxRecDepth 100000
set_option maxHeartbeats 2000000
set_option linter.unusedSimpArgs false
set_option linter.unusedVariables false
namespace Go.Proofs.Tab
open Go Go.Ab Go.Ab.Sm
section
variable {T:Nat->Option dS}{H:au}{s:St}{tms:List Tm}{nz:Bool}{i P:Nat}
theorem Am {t:Tm}(hT:nB T)(hS:mw T)(hs:s.Ok)(hi:tms[i]? =some t)(gW:t.kd=1)(fK:∀u∈tms,u.Ok)(hN:tms.length<=60000)(hP:tms.length<=P)(tr:P<=65536):cu T H 23 [.vs nz 8 (tms.map Tm.d),.int .i64 (i:Nat),.int .i64 (P:Nat)] s fun d s1=>d= .int .i64 (bM tms i t)/\aC Nil s s1:=by
 have hi' :=ee hi;have pw:=fK t (aK hi);have jg:i < tms.length:=(af.mp hi).1;have xg:=gW;have hk:dX t.kd:=by unfold dX; omega
 have vL:(tms.map Tm.d).length=tms.length:=aH _;have gD:∀j k,t.kids[j]? =some k-> ¬ cr tms i t j k->bM tms i t=1:=fun j k h1 h2=>da jg hk (.inr ⟨j,k,h1,h2⟩);have jU: ¬ cO t->bM tms i t=1:=fun h=>da jg hk (.inl h)
 have iX:t.kd≠3->t.kd≠4->cO t->(∀j k,t.kids[j]? =some k->cr tms i t j k)->bM tms i t=0:=fun h3 h4 h1 h2=>by
  rw [fS jg hk h1 h2 (fun h=>by omega),aJ];unfold mn;rw [bk (by omega)]; simp
 have rP:=pw.kids;have j6:(ints t.kids).length=t.kids.length:=by simp [ints]
 have tL:=fun (p:St) (okp:p.Ok) h=>iG (H:=H) (nz:=nz) hT hS okp pw fK hN h;generalize yv:bM tms i t=wt at *;obtain⟨kd,b,ng,n1,mag,tx,n2,kids,hh,sm⟩:=t;simp only at gW rP j6 tL gD;refine ay hS.t23 ?_;rcases gW with rfl;by_cases cC:0 < kids.length
 ·have hg:=eR (((ints kids).length:Int) > 0);try refine go ?_
  exact ai ⟨by rw [jU (fun h=>by have:=h.1 cC; simp [eV,isSet,er,isRow]at this)],aC.refl hs⟩
 have hg:=cM (((ints kids).length:Int) > 0);have dK:∀x k,kids[x]? =some k->cr tms i ⟨1,b,ng,n1,mag,tx,n2,kids,hh,sm⟩ x k:=fun x k h=>absurd (af.mp h).1 (by omega);have hlen:cO ⟨1,b,ng,n1,mag,tx,n2,kids,hh,sm⟩:=⟨fun h=>absurd h cC,fun h=>by simp [eV]at h,fun h=>by simp [er]at h⟩;have hd:=cM (((0:Nat):Int) < ((ints kids).length:Nat));have A1 :=cM ((0:Int) < ((ints kids).length:Nat));try refine go ?_
 refine cg (CN tms nz ⟨1,b,ng,n1,mag,tx,n2,kids,hh,sm⟩ i P false false false false s) kids.length rfl ⟨0,rfl,aC.refl hs,aR _,rfl,fun x k h=>by omega⟩ ?_;rintro m env s1 ⟨j,rfl,b1,hj,rfl,hf⟩;simp only at hj;obtain rfl:j=0:=by omega
 have ok1:=b1.ok;try refine go ?_
 exact ai ⟨by rw [iX (by simp) (by simp) hlen dK],b1⟩
theorem zY {t:Tm}(hT:nB T)(hS:mw T)(hs:s.Ok)(hi:tms[i]? =some t)(gW:t.kd=2)(fK:∀u∈tms,u.Ok)(hN:tms.length<=60000)(hP:tms.length<=P)(tr:P<=65536):cu T H 23 [.vs nz 8 (tms.map Tm.d),.int .i64 (i:Nat),.int .i64 (P:Nat)] s fun d s1=>d= .int .i64 (bM tms i t)/\aC Nil s s1:=by
 have hi' :=ee hi;have pw:=fK t (aK hi);have jg:i < tms.length:=(af.mp hi).1;have xg:=gW;have hk:dX t.kd:=by unfold dX; omega
 have vL:(tms.map Tm.d).length=tms.length:=aH _;have gD:∀j k,t.kids[j]? =some k-> ¬ cr tms i t j k->bM tms i t=1:=fun j k h1 h2=>da jg hk (.inr ⟨j,k,h1,h2⟩);have jU: ¬ cO t->bM tms i t=1:=fun h=>da jg hk (.inl h)
 have iX:t.kd≠3->t.kd≠4->cO t->(∀j k,t.kids[j]? =some k->cr tms i t j k)->bM tms i t=0:=fun h3 h4 h1 h2=>by
  rw [fS jg hk h1 h2 (fun h=>by omega),aJ];unfold mn;rw [bk (by omega)]; simp
 have rP:=pw.kids;have j6:(ints t.kids).length=t.kids.length:=by simp [ints]
 have tL:=fun (p:St) (okp:p.Ok) h=>iG (H:=H) (nz:=nz) hT hS okp pw fK hN h;generalize yv:bM tms i t=wt at *;obtain⟨kd,b,ng,n1,mag,tx,n2,kids,hh,sm⟩:=t;simp only at gW rP j6 tL gD;refine ay hS.t23 ?_;rcases gW with rfl;by_cases cC:0 < kids.length
 ·have hg:=eR (((ints kids).length:Int) > 0);try refine go ?_
  exact ai ⟨by rw [jU (fun h=>by have:=h.1 cC; simp [eV,isSet,er,isRow]at this)],aC.refl hs⟩
 have hg:=cM (((ints kids).length:Int) > 0);have dK:∀x k,kids[x]? =some k->cr tms i ⟨2,b,ng,n1,mag,tx,n2,kids,hh,sm⟩ x k:=fun x k h=>absurd (af.mp h).1 (by omega);have hlen:cO ⟨2,b,ng,n1,mag,tx,n2,kids,hh,sm⟩:=⟨fun h=>absurd h cC,fun h=>by simp [eV]at h,fun h=>by simp [er]at h⟩;have hd:=cM (((0:Nat):Int) < ((ints kids).length:Nat));have A1 :=cM ((0:Int) < ((ints kids).length:Nat));try refine go ?_
 refine cg (CN tms nz ⟨2,b,ng,n1,mag,tx,n2,kids,hh,sm⟩ i P false false false false s) kids.length rfl ⟨0,rfl,aC.refl hs,aR _,rfl,fun x k h=>by omega⟩ ?_;rintro m env s1 ⟨j,rfl,b1,hj,rfl,hf⟩;simp only at hj;obtain rfl:j=0:=by omega
 have ok1:=b1.ok;try refine go ?_
 exact ai ⟨by rw [iX (by simp) (by simp) hlen dK],b1⟩
theorem yp {t:Tm}(hT:nB T)(hS:mw T)(hs:s.Ok)(hi:tms[i]? =some t)(gW:t.kd=14)(fK:∀u∈tms,u.Ok)(hN:tms.length<=60000)(hP:tms.length<=P)(tr:P<=65536):cu T H 23 [.vs nz 8 (tms.map Tm.d),.int .i64 (i:Nat),.int .i64 (P:Nat)] s fun d s1=>d= .int .i64 (bM tms i t)/\aC Nil s s1:=by
 have hi' :=ee hi;have pw:=fK t (aK hi);have jg:i < tms.length:=(af.mp hi).1;have xg:=gW;have hk:dX t.kd:=by unfold dX; omega
 have vL:(tms.map Tm.d).length=tms.length:=aH _;have gD:∀j k,t.kids[j]? =some k-> ¬ cr tms i t j k->bM tms i t=1:=fun j k h1 h2=>da jg hk (.inr ⟨j,k,h1,h2⟩);have jU: ¬ cO t->bM tms i t=1:=fun h=>da jg hk (.inl h)
 have iX:t.kd≠3->t.kd≠4->cO t->(∀j k,t.kids[j]? =some k->cr tms i t j k)->bM tms i t=0:=fun h3 h4 h1 h2=>by
  rw [fS jg hk h1 h2 (fun h=>by omega),aJ];unfold mn;rw [bk (by omega)]; simp
 have rP:=pw.kids;have j6:(ints t.kids).length=t.kids.length:=by simp [ints]
 have tL:=fun (p:St) (okp:p.Ok) h=>iG (H:=H) (nz:=nz) hT hS okp pw fK hN h;generalize yv:bM tms i t=wt at *;obtain⟨kd,b,ng,n1,mag,tx,n2,kids,hh,sm⟩:=t;simp only at gW rP j6 tL gD;refine ay hS.t23 ?_;rcases gW with rfl;by_cases cC:0 < kids.length
 ·have hg:=eR (((ints kids).length:Int) > 0);try refine go ?_
  exact ai ⟨by rw [jU (fun h=>by have:=h.1 cC; simp [eV,isSet,er,isRow]at this)],aC.refl hs⟩
 have hg:=cM (((ints kids).length:Int) > 0);have dK:∀x k,kids[x]? =some k->cr tms i ⟨14,b,ng,n1,mag,tx,n2,kids,hh,sm⟩ x k:=fun x k h=>absurd (af.mp h).1 (by omega);have hlen:cO ⟨14,b,ng,n1,mag,tx,n2,kids,hh,sm⟩:=⟨fun h=>absurd h cC,fun h=>by simp [eV]at h,fun h=>by simp [er]at h⟩;have hd:=cM (((0:Nat):Int) < ((ints kids).length:Nat));have A1 :=cM ((0:Int) < ((ints kids).length:Nat));try refine go ?_
 refine cg (CN tms nz ⟨14,b,ng,n1,mag,tx,n2,kids,hh,sm⟩ i P false false false false s) kids.length rfl ⟨0,rfl,aC.refl hs,aR _,rfl,fun x k h=>by omega⟩ ?_;rintro m env s1 ⟨j,rfl,b1,hj,rfl,hf⟩;simp only at hj;obtain rfl:j=0:=by omega
 have ok1:=b1.ok;try refine go ?_
 exact ai ⟨by rw [iX (by simp) (by simp) hlen dK],b1⟩
theorem FI {t:Tm}(hT:nB T)(hS:mw T)(hs:s.Ok)(hi:tms[i]? =some t)(gW:t.kd=3)(fK:∀u∈tms,u.Ok)(hN:tms.length<=60000)(hP:tms.length<=P)(tr:P<=65536):cu T H 23 [.vs nz 8 (tms.map Tm.d),.int .i64 (i:Nat),.int .i64 (P:Nat)] s fun d s1=>d= .int .i64 (bM tms i t)/\aC Nil s s1:=by
 have hi' :=ee hi;have pw:=fK t (aK hi);have jg:i < tms.length:=(af.mp hi).1;have xg:=gW;have hk:dX t.kd:=by unfold dX; omega
 have vL:(tms.map Tm.d).length=tms.length:=aH _;have gD:∀j k,t.kids[j]? =some k-> ¬ cr tms i t j k->bM tms i t=1:=fun j k h1 h2=>da jg hk (.inr ⟨j,k,h1,h2⟩);have jU: ¬ cO t->bM tms i t=1:=fun h=>da jg hk (.inl h)
 have iX:t.kd≠3->t.kd≠4->cO t->(∀j k,t.kids[j]? =some k->cr tms i t j k)->bM tms i t=0:=fun h3 h4 h1 h2=>by
  rw [fS jg hk h1 h2 (fun h=>by omega),aJ];unfold mn;rw [bk (by omega)]; simp
 have rP:=pw.kids;have j6:(ints t.kids).length=t.kids.length:=by simp [ints]
 have tL:=fun (p:St) (okp:p.Ok) h=>iG (H:=H) (nz:=nz) hT hS okp pw fK hN h;have rX:=fun h1 h2 (h3:t.kd=3)=>fS (tms:=tms) (i:=i) (t:=t) jg hk h1 h2 (fun h=>by omega);have hF:=fun (p:St) (okp:p.Ok)=>ud (H:=H) (s:=p) (d:= .agg [.bool t.ng,.vs t.n1 1 (dz t.mag)]) (n:=(t.ng,t.mag)) hT okp ⟨_,rfl,.vs t.n1 t.mag pw.n1⟩ (by have:=pw.mag; simp only [aL]; omega);generalize yv:bM tms i t=wt at *;obtain⟨kd,b,ng,n1,mag,tx,n2,kids,hh,sm⟩:=t;simp only at gW rP j6 tL gD;refine ay hS.t23 ?_;rcases gW with rfl;by_cases cC:0 < kids.length
 ·have hg:=eR (((ints kids).length:Int) > 0);try refine go ?_
  exact ai ⟨by rw [jU (fun h=>by have:=h.1 cC; simp [eV,isSet,er,isRow]at this)],aC.refl hs⟩
 have hg:=cM (((ints kids).length:Int) > 0);have dK:∀x k,kids[x]? =some k->cr tms i ⟨3,b,ng,n1,mag,tx,n2,kids,hh,sm⟩ x k:=fun x k h=>absurd (af.mp h).1 (by omega);have hlen:cO ⟨3,b,ng,n1,mag,tx,n2,kids,hh,sm⟩:=⟨fun h=>absurd h cC,fun h=>by simp [eV]at h,fun h=>by simp [er]at h⟩;have hd:=cM (((0:Nat):Int) < ((ints kids).length:Nat));have A1 :=cM ((0:Int) < ((ints kids).length:Nat));try refine go ?_
 refine cg (CN tms nz ⟨3,b,ng,n1,mag,tx,n2,kids,hh,sm⟩ i P false false false false s) kids.length rfl ⟨0,rfl,aC.refl hs,aR _,rfl,fun x k h=>by omega⟩ ?_;rintro m env s1 ⟨j,rfl,b1,hj,rfl,hf⟩;simp only at hj;obtain rfl:j=0:=by omega
 have ok1:=b1.ok;try refine go ?_
 refine ak (hF s1 ok1) ?_;rintro d s2 ⟨⟨y,rfl,hy⟩,b2⟩;have Z4:=hy.row.sh;have hul:=cN (bU mag);rw [wy]at hy Z4;rw [rX hlen dK rfl];unfold mn;simp only [decide_true,fM,aX];rcases Z4 with ⟨nl,z,rfl⟩ | ⟨o,off,cp,rfl⟩
 all_goals
  by_cases aas:256 < (bU mag).length
  ·have d7:=eR (((dz (bU mag)).length:Int) > 256);try refine go ?_
   exact ai ⟨by rw [bJ aas],b1.trans b2⟩
  ·have d7:=cM (((dz (bU mag)).length:Int) > 256);try refine go ?_
   exact ai ⟨by rw [aJ aas],b1.trans b2⟩
theorem F1 {t:Tm}(hT:nB T)(hS:mw T)(hs:s.Ok)(hi:tms[i]? =some t)(gW:t.kd=4)(fK:∀u∈tms,u.Ok)(hN:tms.length<=60000)(hP:tms.length<=P)(tr:P<=65536):cu T H 23 [.vs nz 8 (tms.map Tm.d),.int .i64 (i:Nat),.int .i64 (P:Nat)] s fun d s1=>d= .int .i64 (bM tms i t)/\aC Nil s s1:=by
 have hi' :=ee hi;have pw:=fK t (aK hi);have jg:i < tms.length:=(af.mp hi).1;have xg:=gW;have hk:dX t.kd:=by unfold dX; omega
 have vL:(tms.map Tm.d).length=tms.length:=aH _;have gD:∀j k,t.kids[j]? =some k-> ¬ cr tms i t j k->bM tms i t=1:=fun j k h1 h2=>da jg hk (.inr ⟨j,k,h1,h2⟩);have jU: ¬ cO t->bM tms i t=1:=fun h=>da jg hk (.inl h)
 have iX:t.kd≠3->t.kd≠4->cO t->(∀j k,t.kids[j]? =some k->cr tms i t j k)->bM tms i t=0:=fun h3 h4 h1 h2=>by
  rw [fS jg hk h1 h2 (fun h=>by omega),aJ];unfold mn;rw [bk (by omega)]; simp
 have rP:=pw.kids;have j6:(ints t.kids).length=t.kids.length:=by simp [ints]
 have tL:=fun (p:St) (okp:p.Ok) h=>iG (H:=H) (nz:=nz) hT hS okp pw fK hN h;have rX:=fun h1 h2 (h4:Lib.validD t.tx=true) (h3:t.kd=4)=>fS (tms:=tms) (i:=i) (t:=t) jg hk h1 h2 (fun _=>h4);have O4:=fun (h4:Lib.validD t.tx=false) (h3:t.kd=4)=>D5 (tms:=tms) (i:=i) (t:=t) hk h3 h4;have BZ:=pw.tx;have hG:=Mv (H:=H) (l:=t.tx) hT hs (by omega);have hL:=fun (p:St) (okp:p.Ok)=>Q9 (H:=H) (l:=t.tx) hT okp (by omega);generalize yv:bM tms i t=wt at *;obtain⟨kd,b,ng,n1,mag,tx,n2,kids,hh,sm⟩:=t;simp only at gW rP j6 tL gD;refine ay hS.t23 ?_;rcases gW with rfl;by_cases cC:0 < kids.length
 ·have hg:=eR (((ints kids).length:Int) > 0);try refine go ?_
  exact ai ⟨by rw [jU (fun h=>by have:=h.1 cC; simp [eV,isSet,er,isRow]at this)],aC.refl hs⟩
 have hg:=cM (((ints kids).length:Int) > 0);have dK:∀x k,kids[x]? =some k->cr tms i ⟨4,b,ng,n1,mag,tx,n2,kids,hh,sm⟩ x k:=fun x k h=>absurd (af.mp h).1 (by omega);have hlen:cO ⟨4,b,ng,n1,mag,tx,n2,kids,hh,sm⟩:=⟨fun h=>absurd h cC,fun h=>by simp [eV]at h,fun h=>by simp [er]at h⟩;have hd:=cM (((0:Nat):Int) < ((ints kids).length:Nat));have A1 :=cM ((0:Int) < ((ints kids).length:Nat));try refine go ?_
 refine ak hG ?_;rintro d s0 ⟨rfl,b0⟩;have ok0:=b0.ok;simp only at rX O4 BZ;cases hv:Lib.validD tx
 ·try refine go ?_
  exact ai ⟨by rw [O4 hv (by simp)],b0⟩
 try refine go ?_
 refine cg (CN tms nz ⟨4,b,ng,n1,mag,tx,n2,kids,hh,sm⟩ i P false false false false s) kids.length rfl ⟨0,rfl,b0,aR _,rfl,fun x k h=>by omega⟩ ?_;rintro m env s1 ⟨j,rfl,b1,hj,rfl,hf⟩;simp only at hj;obtain rfl:j=0:=by omega
 have ok1:=b1.ok;try refine go ?_
 refine ak (hL s1 ok1) ?_;rintro d s2 ⟨⟨n,rfl,hn⟩,b2⟩;simp only at hn;have d7:=cM ((n:Int) > 65536);try refine go ?_
 exact ai ⟨by rw [rX hlen dK hv (by simp),aJ (by unfold mn; simp)],b1.trans b2⟩
end
section
variable {T:Nat->Option dS}{H:au}{s:St}{tms:List Tm}{nz:Bool}{i P:Nat}
theorem DO {t:Tm}(hT:nB T)(hS:mw T)(hs:s.Ok)(hi:tms[i]? =some t)(gW:t.kd=7)(fK:∀u∈tms,u.Ok)(hN:tms.length<=60000)(hP:tms.length<=P)(tr:P<=65536):cu T H 23 [.vs nz 8 (tms.map Tm.d),.int .i64 (i:Nat),.int .i64 (P:Nat)] s fun d s1=>d= .int .i64 (bM tms i t)/\aC Nil s s1:=by
 have hi' :=ee hi;have pw:=fK t (aK hi);have jg:i < tms.length:=(af.mp hi).1;have xg:=gW;have hk:dX t.kd:=by unfold dX; omega
 have vL:(tms.map Tm.d).length=tms.length:=aH _;have gD:∀j k,t.kids[j]? =some k-> ¬ cr tms i t j k->bM tms i t=1:=fun j k h1 h2=>da jg hk (.inr ⟨j,k,h1,h2⟩);have jU: ¬ cO t->bM tms i t=1:=fun h=>da jg hk (.inl h)
 have iX:t.kd≠3->t.kd≠4->cO t->(∀j k,t.kids[j]? =some k->cr tms i t j k)->bM tms i t=0:=fun h3 h4 h1 h2=>by
  rw [fS jg hk h1 h2 (fun h=>by omega),aJ];unfold mn;rw [bk (by omega)]; simp
 have rP:=pw.kids;have j6:(ints t.kids).length=t.kids.length:=by simp [ints]
 have tL:=fun (p:St) (okp:p.Ok) h=>iG (H:=H) (nz:=nz) hT hS okp pw fK hN h;generalize yv:bM tms i t=wt at *;obtain⟨kd,b,ng,n1,mag,tx,n2,kids,hh,sm⟩:=t;simp only at gW rP j6 tL gD;refine ay hS.t23 ?_;rcases gW with rfl;by_cases cC:0 < kids.length
 ·have hg:=eR (((ints kids).length:Int) > 0);rcases iU kids.length with Ae | Ae;rotate_left
  ·have e9:Int.tmod (((ints kids).length:Nat):Int) 2=((1:Nat):Int):=by rw [j6,bY (by omega)]; omega
   try refine go ?_
   exact ai ⟨by rw [jU (by unfold cO; simp [eV,isSet,er,Ae])],aC.refl hs⟩
  have e9:Int.tmod (((ints kids).length:Nat):Int) 2=((0:Nat):Int):=by rw [j6,bY (by omega)]; omega
  try refine go ?_
  refine cg (CN tms nz ⟨7,b,ng,n1,mag,tx,n2,kids,hh,sm⟩ i P false true false false s) kids.length rfl ⟨0,rfl,aC.refl hs,aR _,rfl,fun x k h=>by omega⟩ ?_;rintro m env s1 ⟨j,rfl,b1,hj,rfl,hf⟩;simp only at hj hf;have ok1:=b1.ok;by_cases dQ:j < kids.length
  ·have hd:=eR ((j:Int) < ((ints kids).length:Nat));have hx:kids[j]? =some kids[j]:=ae dQ;generalize kids[j]=x at hx;have nO:(ints kids)[j]? =some (.int .i64 x):=by simp only [ints,aE,hx]; rfl
   have rM:IntKind.wrap .i64 ((j:Int)+1)=((j+1:Nat):Int):=by rw [wrap_small (by omega) (by omega)]; rfl
   by_cases x0:x < 0
   ·have d1:decide (x < 0)=true:=cK x0;try refine go ?_
    exact ai ⟨by rw [gD j x hx (fun h=>by have:=h.1; omega)],b1⟩
   have d1:decide (x < 0)=false:=bk x0;obtain⟨y,rfl⟩:∃y:Nat,x=(y:Int):=⟨x.toNat,by omega⟩;by_cases x1:y < tms.length
   rotate_left
   ·have d2:=eR ((y:Int) >= ((tms.map Tm.d).length:Nat));try refine go ?_
    exact ai ⟨by rw [gD j y hx (fun h=>by have:=h.2.1; omega)],b1⟩
   have d2:=cM ((y:Int) >= ((tms.map Tm.d).length:Nat));have hu:tms[y]? =some tms[y]:=ae x1;have tz :=ee hu;generalize tms[y]=u at hu tz;have rq:tms[(y:Int).toNat]? =some u:=hu;by_cases x2:y < i
   rotate_left
   ·have d3:=eR ((y:Int) >= (i:Nat));try refine go ?_
    exact ai ⟨by rw [gD j y hx (fun h=>by have h' :=h.2.2.1; simp only at h'; omega)],b1⟩
   have d3:=cM ((y:Int) >= (i:Nat));rcases iU j with hm | hm
   ·have em:Int.tmod (j:Int) 2=((0:Nat):Int):=by rw [bY (by omega)]; omega
    have Mf: ¬ IsKey u->wt=1:=fun hn=>gD j y hx fun h=>by
     obtain⟨_,_,_,u',h1,_,h3⟩:=h;rw [rq]at h1; cases h1;exact hn (h3 (.inr ⟨by simp [eV],hm⟩))
    obtain⟨ukd,ub,ung,LJ,umag,utx,Mz,ukids,uhh,usm⟩:=u;rcases vp ⟨ukd,ub,ung,LJ,umag,utx,Mz,ukids,uhh,usm⟩ with c | c | c | c
    ·simp only at c;have e1:=cM (ukd >= 1);have X3:(ukd==14)=false:=by simp only [bQ]; omega
     try refine go ?_
     exact ai ⟨by rw [Mf (by unfold IsKey; simp only; omega)],b1⟩
    ·simp only at c;have e1:=eR (ukd >= 1);have e2:=eR (ukd<=4);have pZ:cr tms i ⟨7,b,ng,n1,mag,tx,n2,kids,hh,sm⟩ j y:=⟨by omega,by omega,.inl (by omega),_,rq,fun h=>by simp [er]at h,fun _=> .inl c⟩;try refine go ?_
     try rw [rM]
     exact bg (kids.length - (j+1)) (by show kids.length - (j+1) < kids.length - j; omega) rfl ⟨j+1,rfl,b1,by show j+1<=kids.length; omega,rfl,fun z k hz hk=>by
      rcases aG z j with h | h
      ·exact hf z k h hk
      ·have:z=j:=by omega
       subst this; rw [hx]at hk; cases hk; exact pZ⟩
    ·simp only at c;subst c;have pZ:(uhh=true\/usm=false)->cr tms i ⟨7,b,ng,n1,mag,tx,n2,kids,hh,sm⟩ j y:=fun hq=>⟨by omega,by omega,.inl (by omega),_,rq,fun h=>by simp [er]at h,fun _=> .inr ⟨rfl,hq⟩⟩;cases uhh
     ·cases usm
      ·have pZ:=pZ (.inr rfl);try refine go ?_
       try rw [rM]
       exact bg (kids.length - (j+1)) (by show kids.length - (j+1) < kids.length - j; omega) rfl ⟨j+1,rfl,b1,by show j+1<=kids.length; omega,rfl,fun z k hz hk=>by
        rcases aG z j with h | h
        ·exact hf z k h hk
        ·have:z=j:=by omega
         subst this; rw [hx]at hk; cases hk; exact pZ⟩
      ·try refine go ?_
       exact ai ⟨by rw [Mf (by unfold IsKey; simp)],b1⟩
     ·have pZ:=pZ (.inl rfl);try refine go ?_
      try rw [rM]
      exact bg (kids.length - (j+1)) (by show kids.length - (j+1) < kids.length - j; omega) rfl ⟨j+1,rfl,b1,by show j+1<=kids.length; omega,rfl,fun z k hz hk=>by
       rcases aG z j with h | h
       ·exact hf z k h hk
       ·have:z=j:=by omega
        subst this; rw [hx]at hk; cases hk; exact pZ⟩
    ·simp only at c;have e1:=eR (ukd >= 1);have e2:=cM (ukd<=4);have X3:(ukd==14)=false:=by simp only [bQ]; omega
     try refine go ?_
     exact ai ⟨by rw [Mf (by unfold IsKey; simp only; omega)],b1⟩
   ·have em:Int.tmod (j:Int) 2=((1:Nat):Int):=by rw [bY (by omega)]; omega
    have pZ:cr tms i ⟨7,b,ng,n1,mag,tx,n2,kids,hh,sm⟩ j y:=⟨by omega,by omega,.inl (by omega),u,rq,fun h=>by simp [er]at h,fun h=>by simp [isSet,eV,hm]at h⟩;try refine go ?_
    try rw [rM]
    exact bg (kids.length - (j+1)) (by show kids.length - (j+1) < kids.length - j; omega) rfl ⟨j+1,rfl,b1,by show j+1<=kids.length; omega,rfl,fun z k hz hk=>by
     rcases aG z j with h | h
     ·exact hf z k h hk
     ·have:z=j:=by omega
      subst this; rw [hx]at hk; cases hk; exact pZ⟩
  ·have hd:=cM ((j:Int) < ((ints kids).length:Nat));have dK:∀x k,kids[x]? =some k->cr tms i ⟨7,b,ng,n1,mag,tx,n2,kids,hh,sm⟩ x k:=fun x k h=>hf x k (by have:=(af.mp h).1; omega) h
   have mr:∀k∈kids,∃x:Nat,k=(x:Int)/\x < tms.length:=fun k hk=>by
    obtain⟨j,hj⟩:=cH hk;obtain⟨h1,h2,_⟩:=dK j k hj;exact⟨k.toNat,by omega,by omega⟩
   try refine go ?_
   refine ak (tL s1 ok1 mr) ?_;rintro d s2 ⟨⟨n,rfl,hn⟩,b2⟩;have d5:=cM ((n:Int) > (P:Nat));try refine go ?_
   exact ai ⟨by rw [iX (by simp) (by simp) (by unfold cO; simp [eV,isSet,er,isRow,Ae]) dK],b1.trans b2⟩
 ·have hg:=cM (((ints kids).length:Int) > 0);rcases iU kids.length with Ae | Ae;rotate_left
  ·have e9:Int.tmod (((ints kids).length:Nat):Int) 2=((1:Nat):Int):=by rw [j6,bY (by omega)]; omega
   try refine go ?_
   exact ai ⟨by rw [jU (by unfold cO; simp [eV,isSet,er,Ae])],aC.refl hs⟩
  have e9:Int.tmod (((ints kids).length:Nat):Int) 2=((0:Nat):Int):=by rw [j6,bY (by omega)]; omega
  have dK:∀x k,kids[x]? =some k->cr tms i ⟨7,b,ng,n1,mag,tx,n2,kids,hh,sm⟩ x k:=fun x k h=>absurd (af.mp h).1 (by omega);have hd:=cM (((0:Nat):Int) < ((ints kids).length:Nat));have A1 :=cM ((0:Int) < ((ints kids).length:Nat));try refine go ?_
  refine cg (CN tms nz ⟨7,b,ng,n1,mag,tx,n2,kids,hh,sm⟩ i P false true false false s) kids.length rfl ⟨0,rfl,aC.refl hs,aR _,rfl,fun x k h=>by omega⟩ ?_;rintro m env s1 ⟨j,rfl,b1,hj,rfl,hf⟩;simp only at hj;obtain rfl:j=0:=by omega
  have ok1:=b1.ok
  have mr:∀k∈kids,∃x:Nat,k=(x:Int)/\x < tms.length:=fun k hk=>by
   obtain⟨j,hj⟩:=cH hk;obtain⟨h1,h2,_⟩:=dK j k hj;exact⟨k.toNat,by omega,by omega⟩
  try refine go ?_
  refine ak (tL s1 ok1 mr) ?_;rintro d s2 ⟨⟨n,rfl,hn⟩,b2⟩;have d5:=cM ((n:Int) > (P:Nat));try refine go ?_
  exact ai ⟨by rw [iX (by simp) (by simp) (by unfold cO; simp [eV,isSet,er,isRow,Ae]) dK],b1.trans b2⟩
end
end Go.Proofs.Tab
