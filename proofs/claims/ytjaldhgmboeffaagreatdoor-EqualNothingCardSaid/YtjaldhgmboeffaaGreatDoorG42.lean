/- Part. -/
import Derived.Test.YtjaldhgmboeffaaGreatDoorG41
import Derived.Test.YtjaldhgmboeffaaGreatDoorG35
set_option linter.unusedSimpArgs false
set_option linter.unusedVariables false
set_option linter.unusedSectionVars false
set_option maxRecDepth 100000
set_option maxHeartbeats 2000000
namespace Go.Proofs.Tab
open Go Go.Ab Go.Ab.Sm
section
variable {T:Nat->Option dU}{H:ay}{s:St}{wo oL cm P Sh:Nat}{last:Int}{L:List D}{tms:List Tm}{nz:Bool}{t:Tm}{x:D}{R:List Nat}
theorem HN.of {s1:St}{kd:Int}{d:D}(h6:kd≠6)(h:∃(last' :Int) (v:D),d= .int .i64 (L.length:Nat)/\jT s1 wo oL cm P Sh last' (L++ [v])/\aF (fun j=>zl wo oL cm j\/s.n<=j) s s1):HN s wo oL cm P Sh L kd d s1:=by
 obtain⟨la,v,rfl,h1,b1⟩:=h;exact⟨L.length,la,[v],rfl,h1,by simp,by simp,fun h=>absurd h h6,b1.n,b1.ok,fun o ho hn=>b1.same o ho (by rintro (h | h); exact hn h; omega)⟩
theorem Refs.form (h:Refs s x R):x= .vs true 0 []\/∃o n,x= .sl o 0 n n:=by
 rcases h with _ | ⟨g,hn⟩
 ·exact .inl rfl
 ·exact .inr ⟨_,_,rfl⟩
theorem Ep (hT:nB T)(hR:nK T)(hS:mz T)(hs:s.Ok)(h:jT s wo oL cm P Sh last L)(hi:tms[R.length]? =some t)(fK:∀u∈tms,u.Ok)(hg:ka tms R.length t)(j9:t.kids.length<=20000)(hP:P<=65536)(K7:Sh<=256)(PF:3<=L.length)(hL:L.length<=900000)(hx:Refs s x R)(PC:∀r∈R,r < L.length):
  cu T H 70 [.ptr wo 0,.vs nz 8 (tms.map Tm.d),x,.int .i64 (R.length:Nat)] s (HN s wo oL cm P Sh L t.kd):=by
 have ho:=fK t (aM hi);have SI:R.length<=tms.length:=Nat.le_of_lt (aj.mp hi).1;have hf:=hx.form
 have jd:t.kd≠6->∀k∈t.kids,∃y:Nat,k=(y:Int)/\y < R.length:=fun h6 k hk=>by
  have h1:=hg.kids k hk;rw [aK h6]at h1;exact⟨k.toNat,by omega,by omega⟩
 have gV:=hg.kind;by_cases k1:t.kd=1
 ·exact GL hT hR hS hs h hi ho k1 PF (by omega) hf
 by_cases k2:t.kd=2
 ·exact FG hT hR hS hs h hi ho k2 PF (by omega) hf
 by_cases k3:t.kd=3
 ·exact Kg hT hR hS hs h hi ho k3 PF (by omega) hf
 by_cases k4:t.kd=4
 ·exact KM hT hR hS hs h hi ho k4 PF (by omega) hf
 by_cases k5:t.kd=5
 ·exact CK hS hs h hi ho k5 (jd (by omega)) hx (by omega)
 by_cases k6:t.kd=6
 ·exact FF hT hR hS hs h hi ho k6 PF (by omega) hf
 by_cases XM:t.kd=14
 ·exact FB hR hS hs h hi XM hP K7 hL hf
 by_cases kv:t.kd=15\/t.kd=16\/t.kd=17
 ·obtain⟨k,hk⟩:∃k,t.kids=[k]:=by
   have h1:=hg.view (by omega)
   match hh:t.kids,h1 with
   | [k],_=>exact ⟨k,rfl⟩
  obtain⟨y,hy,LS⟩:=jd (by omega) k (by rw [hk]; exact cH.2 rfl);subst hy;exact GX hS hs h hi kv hk hx (ab LS) (by omega)
 have abj:t.kd=7\/t.kd=8\/t.kd=9:=by omega
 rcases hx with _ | ⟨g,hn⟩
 ·have NP:t.kids=[]:=by
   cases hh:t.kids with
   | nil=>rfl
   | cons k r=>obtain ⟨y,_,hy⟩:=jd (by omega) k (by rw [hh]; simp); cases hy
  exact (Gx hR hS hs h hi abj hP hL NP).mono fun d s1 h=>HN.of (by omega) h
 ·by_cases k7:t.kd=7
  ·exact (Gu hT hR hS hs h hi fK k7 (hg.even k7) hP hL g PC SI j9 (jd (by omega))).mono fun d s1 h=>HN.of (by omega) h
  ·exact (JY hT hR hS hs h hi fK (by omega) hP hL g PC SI j9 (jd (by omega))).mono fun d s1 h=>HN.of (by omega) h
end
section
variable {T:Nat->Option dU}{H:ay}{s:St}{tms:List Tm}{nz:Bool}
theorem P3 {A:List Int}{n:Nat}(h:A.Nodup)(hA:∀a∈A,∃x:Nat,a=(x:Int)/\x < n):A.length<=n:=by
 have:=ye A ((List.range n).map Int.ofNat) h (fun a ha=>by
  obtain⟨x,rfl,hx⟩:=hA a ha;exact jO.2 ⟨x,mi.2 hx,rfl⟩)
 simpa using this
theorem Dv {S j k:Nat}(hS:S=1\/S=2)(h1:S ∣ j)(h2:S ∣ k)(h:k < j):k+S<=j:=by
 rcases hS with rfl | rfl <;> omega
def PrI (tms:List Tm)(nz:Bool)(td:Tm)(S:Nat)(s:St)(m:Nat)(env:Env) (s' :St):Prop:=
 ∃(j:Nat) (A:List Int),env=[(0,.vs nz 8 (tms.map Tm.d)),(3,.lv td.d),(5,.int .i64 (S:Nat)),(6,.int .i64 (A.length:Nat)),(7,.int .i64 (j:Nat))]/\aF Nil s s' /\A.Nodup/\S ∣ j/\j<=td.kids.length+1/\m=td.kids.length+1 - j/\∀a∈A,∃i,i < j/\S ∣ i/\td.kids[i]? =some a
def PrJ (tms:List Tm)(nz:Bool)(td:Tm)(S n j:Nat)(s:St)(m:Nat)(env:Env) (s' :St):Prop:=
 ∃(f:Bool) (i:Nat),env=[(0,.vs nz 8 (tms.map Tm.d)),(3,.lv td.d),(5,.int .i64 (S:Nat)),(6,.int .i64 (n:Nat)),(7,.int .i64 (j:Nat)),(8,.bool f),(9,.int .i64 (i:Nat))]/\aF Nil s s' /\S ∣ i/\i<=j/\m=j - i/\(f=true->∀x,x < i->S ∣ x->td.kids[x]? ≠td.kids[j]?)
theorem wz (hT:nB T)(hS:mz T){td:Tm}{S:Nat}{Ev:Env}{k:List iT}{Q:QP}(hs:s.Ok)(hSt:S=1\/S=2)(ho:∀u∈tms,u.Ok)(j9:td.kids.length<=60000)(hN:tms.length<=60000)
  (mD:∀k∈td.kids,∃x:Nat,k=(x:Int)/\x < tms.length)(Ec:Ev.bV [0,3,5,6,7]=[(0,.vs nz 8 (tms.map Tm.d)),(3,.lv td.d),(5,.int .i64 (S:Nat)),(6,.int .i64 0),(7,.int .i64 0)])
  (h:∀(n j:Nat) z1 z2 z3 z4 z5 s1,n<=tms.length->aF Nil s s1->lg T H (.exit 0) k ⟨[(17,z1),(16,z2),(15,z3),(14,z4),(13,z5),(0,.vs nz 8 (tms.map Tm.d)),(3,.lv td.d),(5,.int .i64 (S:Nat)),(6,.int .i64 (n:Nat)),(7,.int .i64 (j:Nat))],[]⟩ s1 Q):
  eH T H (match Nr.1.body with | .seq _ (.seq _ (.seq _ (.seq _ (.seq (.seq _ (.block _ l)) _))))=>l | _=> .skip) k ⟨Ev,[]⟩ s Q:=by
 obtain⟨kd,b,ng,n1,mag,tx,n2,kids,hh,sm⟩:=td;simp only at j9 mD;have ja:(ints kids).length=kids.length:=by simp [ints]
 show eH T H (.loop _ _) k ⟨Ev,[]⟩ s Q;refine cg (PrI tms nz ⟨kd,b,ng,n1,mag,tx,n2,kids,hh,sm⟩ S s) (kids.length+1) rfl ⟨0,[],Ec,aF.refl hs,fN,Nat.dvd_zero _,aS _,rfl,fun _ h=>by cases h⟩ ?_;rintro m env s1 ⟨j,A,rfl,b1,hA,hdj,hj,rfl,hAm⟩;simp only at hj hAm
 have hAl:A.length<=tms.length:=P3 hA fun a ha=>by
  obtain⟨i,_,_,h3⟩:=hAm a ha;exact mD a (aM h3)
 by_cases dM:j < kids.length
 ·have hd:=eJ ((j:Int) < ((ints kids).length:Nat));obtain⟨x,hx,hxl⟩:=mD kids[j] (bH dM);have Lg:kids[j]? =some (x:Int):=by rw [ab dM,hx]
  have nO:(ints kids)[j]? =some (.int .i64 (x:Nat)):=by simp only [ints,aC,Lg]; rfl
  have hwA:IntKind.wrap .i64 ((A.length:Int)+1)=((A.length+1:Nat):Int):=by rw [wrap_small (by omega) (by omega)]; rfl
  have rO:IntKind.wrap .i64 ((j:Int)+(S:Nat))=((j+S:Nat):Int):=by rw [wrap_small (by omega) (by omega)]; rfl
  try refine go ?_
  refine cg (PrJ tms nz ⟨kd,b,ng,n1,mag,tx,n2,kids,hh,sm⟩ S A.length j s1) j rfl ⟨true,0,rfl,aF.refl b1.ok,Nat.dvd_zero _,aS _,rfl,fun _ x hx=>by omega⟩ ?_;rintro m env s2 ⟨f,i,rfl,b2,hdi,hi,rfl,hf⟩;simp only at hf;have ok2:=b2.ok;by_cases Gb:i < j/\f=true
  ·obtain⟨Gb,rfl⟩:=Gb;have GR:=eJ ((i:Int) < (j:Nat));have QC:i < kids.length:=by omega
   obtain⟨y,hy,hyl⟩:=mD kids[i] (bH QC);have Cm:kids[i]? =some (y:Int):=by rw [ab QC,hy]
   have hii:(ints kids)[i]? =some (.int .i64 (y:Nat)):=by simp only [ints,aC,Cm]; rfl
   have hwi:IntKind.wrap .i64 ((i:Int)+(S:Nat))=((i+S:Nat):Int):=by rw [wrap_small (by omega) (by omega)]; rfl
   try refine go ?_
   refine aX (Ml hT hS ok2 (ab hyl) (ab hxl) (ho _ (bH hyl)) (ho _ (bH hxl))) ?_;rintro d s3 ⟨⟨c,rfl,hc⟩,b3⟩;have ok3:=b3.ok;refine⟨rfl,by simp [lost,eQ.kind,cK,dE,cF,aI,bC,bC.cW,gk,bP.ev,Env.get,cS,D.flat,D.isAgg,cP,D.fw,D.beq,aA,Obj.aW,bE,br,D.bW,D.aW,cB], ?_⟩;try refine go ?_
   rw [hwi];have hn:=Dv hSt hdj hdi Gb;refine bf (j - (i+S)) (by omega) rfl ⟨!c,i+S,rfl,b2.trans b3,Nat.dvd_add hdi (Nat.dvd_refl _),hn,rfl,fun hc' z hz hdz=> ?_⟩;simp only;by_cases hzi:z < i
   ·exact hf rfl z hzi hdz
   ·have:z=i:=by
     rcases aH i z with h | h
     ·have:=Dv hSt hdz hdi h; omega
     ·omega
    subst this;rw [Cm,Lg];intro e;have:y=x:=by have:=Option.some.inj e; omega
    have:=hc this;subst this; simp at hc'
  ·have hjn:j+S<=kids.length+1+S:=by omega
   have hjm:j+S<=kids.length+1\/kids.length+1 < j+S:=by omega
   have iW:∀(A' :List Int),A'.Nodup->(∀a∈A',∃i,i < j+S/\S ∣ i/\kids[i]? =some a)->PrI tms nz ⟨kd,b,ng,n1,mag,tx,n2,kids,hh,sm⟩ S s (kids.length+1 - (j+S)) [(0,.vs nz 8 (tms.map Tm.d)),(3,.lv (Tm.d ⟨kd,b,ng,n1,mag,tx,n2,kids,hh,sm⟩)),(5,.int .i64 (S:Nat)),(6,.int .i64 (A'.length:Nat)),(7,.int .i64 ((j+S:Nat):Int))] s2:=fun A' h1 h2=>
    ⟨j+S,A',rfl,b1.trans b2,h1,Nat.dvd_add hdj (Nat.dvd_refl _),by show j+S<=kids.length+1; omega,rfl,h2⟩
   have hold:∀a∈A,∃i,i < j+S/\S ∣ i/\kids[i]? =some a:=fun a ha=>by
    obtain⟨i,h1,h2,h3⟩:=hAm a ha;exact⟨i,by omega,h2,h3⟩
   cases f
   ·have GR:∃c,decide ((i:Int) < (j:Nat))=c:=⟨_,rfl⟩;obtain⟨c,GR⟩:=GR;cases c
    all_goals
     try refine go ?_
     rw [rO];exact bf (kids.length+1 - (j+S)) (by show kids.length+1 - (j+S) < kids.length+1 - j; omega) rfl (iW A hA hold)
   ·have aaP :i=j:=by
     have: ¬ i < j:=fun h=>Gb ⟨h,rfl⟩;omega
    subst aaP;have GR:decide ((i:Int) < (i:Nat))=false:=by simp
    have aaF:(x:Int) ∉ A:=fun ha=>by
     obtain⟨z,h1,h2,h3⟩:=hAm _ ha;exact hf rfl z h1 h2 (by rw [h3,Lg])
    have hAx:(A++ [(x:Int)]).length=A.length+1:=by simp
    have hA' :(A++ [(x:Int)]).Nodup:=by
     rw [List.nodup_append];exact⟨hA,by simp,fun a ha b hb=>by simp at hb; subst hb; exact fun e=>aaF (e ▸ ha)⟩
    have jr:=iW _ hA' fun a ha=>by
     rw [bK,cH]at ha;rcases ha with ha | rfl
     ·exact hold a ha
     ·exact⟨i,by omega,hdj,Lg⟩
    rw [hAx]at jr;try refine go ?_
    rw [rO];exact bf (kids.length+1 - (i+S)) (by show kids.length+1 - (i+S) < kids.length+1 - i; omega) rfl jr
 ·have hd:=cN ((j:Int) < ((ints kids).length:Nat));try refine go ?_
  exact h _ _ _ _ _ _ _ s1 hAl b1
theorem iI (hT:nB T)(hS:mz T){td:Tm}(hs:s.Ok)(pA:td.Ok)(ho:∀u∈tms,u.Ok)(hN:tms.length<=60000)(mD:∀k∈td.kids,∃x:Nat,k=(x:Int)/\x < tms.length):
  cu T H 124 [.vs nz 8 (tms.map Tm.d),td.d] s fun d s1=>(∃n:Nat,d= .int .i64 n/\n<=tms.length)/\aF Nil s s1:=by
 have GJ:=td.st;have hk:=pA.kids;refine ax hS.t124 ?_;refine run_seq ?_;refine mb ?_;refine j8 GJ ?_;cases h7:(td.kd==7)
 ·try refine go ?_
  refine wz hT hS hs (.inl rfl) ho hk hN mD rfl ?_;intro n j z1 z2 z3 z4 z5 s1 hn b1;try refine go ?_
  exact ai ⟨⟨n,rfl,hn⟩,b1⟩
 ·try refine go ?_
  refine wz hT hS hs (.inr rfl) ho hk hN mD rfl ?_;intro n j z1 z2 z3 z4 z5 s1 hn b1;try refine go ?_
  exact ai ⟨⟨n,rfl,hn⟩,b1⟩
end
def eB (kd:Int):Bool:=decide (15<=kd) && decide (kd<=17)
def eT (kd:Int):Bool:=decide (kd=7)
def isSet (kd:Int):Bool:=decide (kd=8) || decide (kd=9)
def isRow (kd:Int):Bool:=decide (kd=5) || decide (kd=6)
def cw (tms:List Tm)(i:Nat)(t:Tm)(j:Nat)(k:Int):Prop:=0<=k/\k < (tms.length:Nat)/\(k < (i:Nat)\/t.kd=6)/\∃u,tms[k.toNat]? =some u/\(eB t.kd=true->u.kd=7)/\(isSet t.kd=true\/eT t.kd=true/\j % 2=0->IsKey u)
def cR (t:Tm):Prop:=(0 < t.kids.length->eT t.kd=true\/isSet t.kd=true\/isRow t.kd=true\/eB t.kd=true)/\(eT t.kd=true->t.kids.length % 2=0)/\(eB t.kd=true->t.kids.length=1)
theorem CL {tms:List Tm}{i:Nat}{t:Tm}(hi:i < tms.length)(hk:dX t.kd):(cR t/\∀j k,t.kids[j]? =some k->cw tms i t j k)↔mS tms i t:=by
 unfold cR cw mS rA uV eB eT isSet isRow;unfold dX at hk;simp only [aB,eD,aY];constructor
 ·rintro⟨⟨h1,h2,h3⟩,h4⟩;refine⟨fun k hm=> ?_,fun k hm=> ?_, ?_⟩
  ·obtain⟨j,hj⟩:=cJ hm;obtain⟨a1,a2,a3,_⟩:=h4 j k hj;refine⟨a1, ?_⟩;split <;> omega
  ·unfold fi at hm;split at hm
   ·rename_i hs;obtain⟨j,hj⟩:=cJ hm;obtain⟨_,_,_,u,a4,_,a5⟩:=h4 j k hj;exact⟨u,a4,a5 (.inl hs)⟩
   ·split at hm
    ·rename_i hs hd;obtain⟨j,hj⟩:=cJ hm;rw [tU]at hj;obtain⟨_,_,_,u,a4,_,a5⟩:=h4 (2 * j) k hj;exact⟨u,a4,a5 (.inr ⟨hd,by omega⟩)⟩
    ·cases hm
  ·split
   ·trivial
   ·rename_i n1;split
    ·rename_i hd;exact h2 hd
    ·rename_i n2;split
     ·rename_i hv;have hl:=h3 (by omega)
      obtain⟨k,CC⟩:∃k,t.kids=[k]:=by
       match t.kids,hl with
       | [k],_=>exact ⟨k,rfl⟩
      obtain⟨_,_,_,u,a4,a5,_⟩:=h4 0 k (by rw [CC]; rfl);exact⟨k,u,CC,a4,a5 (by omega)⟩
     ·rename_i n3;rcases ec t.kids.length with h0 | h0
      ·exact fX.mp h0
      ·exfalso;have:=h1 h0;omega
 ·rintro⟨h1,h2,h3⟩;refine⟨⟨fun h0=> ?_,fun hd=> ?_,fun hv=> ?_⟩,fun j k hj=> ?_⟩
  ·by_cases a1:t.kd=5\/t.kd=6\/t.kd=8\/t.kd=9
   ·omega
   rw [aK a1]at h3;by_cases a2:t.kd=7
   ·omega
   rw [aK a2]at h3;by_cases a3:t.kd=15\/t.kd=16\/t.kd=17
   ·omega
   rw [aK a3]at h3;rw [h3]at h0; cases h0
  ·rw [aK (by omega),bT hd]at h3; exact h3
  ·rw [aK (by omega),aK (by omega),bT (by omega)]at h3;obtain⟨k,u,e1,_⟩:=h3;rw [e1]; rfl
  ·have hm:=aM hj;obtain⟨b1,b2⟩:=h1 k hm;have b3:k < (tms.length:Nat)/\(k < (i:Nat)\/t.kd=6):=by split at b2 <;> omega
   obtain⟨u,hu⟩:∃u,tms[k.toNat]? =some u:=⟨_,ab (by omega)⟩;refine⟨b1,b3.1,b3.2,u,hu,fun hv=> ?_,fun hs=> ?_⟩
   ·rw [aK (by omega),aK (by omega),bT (by omega)]at h3;obtain⟨k',u',e1,e2,e3⟩:=h3;rw [e1,cH]at hm;subst hm;rw [hu]at e2; cases e2; exact e3
   ·have AO:k∈fi t:=by
     unfold fi;rcases hs with hs | ⟨hd,Rs⟩
     ·rw [bT hs]; exact hm
     ·rw [aK (by omega),bT hd];have:(iU t.kids)[j / 2]? =some k:=by rw [tU,show 2 * (j / 2)=j by omega]; exact hj
      exact aM this
    obtain⟨u',e1,e2⟩:=h2 k AO;rw [hu]at e1; cases e1; exact e2
section
variable {T:Nat->Option dU}{H:ay}{s:St}{tms:List Tm}{nz:Bool}{i P:Nat}
theorem DC {t:Tm}(h: ¬ dX t.kd):bM tms i t=12:=by unfold bM; rw [bT h]
theorem db {t:Tm}(hi:i < tms.length)(hk:dX t.kd)(h: ¬ cR t\/∃j k,t.kids[j]? =some k/\ ¬ cw tms i t j k):bM tms i t=1:=by
 unfold bM
 have: ¬ mS tms i t:=fun h' =>by
  obtain⟨h1,h2⟩:=(CL hi hk).2 h';rcases h with h | ⟨j,k,hj,h⟩
  ·exact h h1
  ·exact h (h2 j k hj)
 rw [aK (fun h=>h hk),bT this]
theorem DE {t:Tm}(hk:dX t.kd)(h4:t.kd=4)(h:Lib.validD t.tx=false):bM tms i t=1:=by
 unfold bM;rw [aK (fun h=>h hk)];by_cases hK:mS tms i t
 ·rw [aK (fun h=>h hK),bT ⟨h4,h⟩]
 ·rw [bT hK]
theorem fR {t:Tm}(hi:i < tms.length)(hk:dX t.kd)(h1:cR t)(h2:∀j k,t.kids[j]? =some k->cw tms i t j k)(h3:t.kd=4->Lib.validD t.tx=true):bM tms i t=if mu t=true then 3 else 0:=by
 unfold bM;rw [aK (fun h=>h hk),aK (fun h=>h ((CL hi hk).1 ⟨h1,h2⟩)),aK];rintro⟨h4,h5⟩;rw [h3 h4]at h5; cases h5
def Cs (tms:List Tm)(nz:Bool)(t:Tm)(i P:Nat)(v d z r:Bool)(s:St)(m:Nat)(env:Env) (s' :St):Prop:=
 ∃j:Nat,env=[(0,.vs nz 8 (tms.map Tm.d)),(1,.int .i64 (i:Nat)),(2,.int .i64 (P:Nat)),(7,.lv t.d),(8,.bool v),(9,.bool d),(10,.bool z),(11,.bool r),(12,.int .i64 (j:Nat))]/\aF Nil s s' /\j<=t.kids.length/\m=t.kids.length - j/\∀x k,x < j->t.kids[x]? =some k->cw tms i t x k
theorem DD {t:Tm}(hS:mz T)(hs:s.Ok)(hi:tms[i]? =some t)(hk: ¬ dX t.kd):cu T H 69 [.vs nz 8 (tms.map Tm.d),.int .i64 (i:Nat),.int .i64 (P:Nat)] s fun d s1=>d= .int .i64 (bM tms i t)/\aF Nil s s1:=by
 have hi' :=ej hi;rw [DC hk];obtain⟨kd,b,ng,n1,mag,tx,n2,kids,hh,sm⟩:=t;unfold dX at hk;simp only at hk;refine ax hS.t69 ?_;have g14:(kd==14)=false:=by simp only [bJ]; omega
 by_cases c1:kd < 1
 ·have d1:=cN (kd >= 1);have d2:=cN (kd >= 15);try refine go ?_
  exact ai ⟨rfl,aF.refl hs⟩
 have d1:=eJ (kd >= 1);have d3:=cN (kd<=9);by_cases c2:kd < 15
 ·have d2:=cN (kd >= 15);try refine go ?_
  exact ai ⟨rfl,aF.refl hs⟩
 have d2:=eJ (kd >= 15);have d4:=cN (kd<=17);try refine go ?_
 exact ai ⟨rfl,aF.refl hs⟩
theorem vz (u:Tm):u.kd < 1\/(1<=u.kd/\u.kd<=4)\/u.kd=14\/(4 < u.kd/\u.kd≠14):=by omega
end
end Go.Proofs.Tab
