/- Part. -/
import Derived.Test.YthaiegafejbmoaaGreatDoorG39
set_option linter.unusedSectionVars false
set_option maxRecDepth 100000
set_option maxHeartbeats 1000000
set_option linter.unusedSimpArgs false
set_option linter.unusedVariables false
namespace Go.Proofs.Tab
open Go Go.Ab Go.Ab.Sm
def qq (Ds:List D)(p:Nat)(b:Bool):Prop:=(b=false/\Ds[p]? =some (.eM 98 (.agg [])))\/(b=true/\Ds[p]? =some (.eM 100 (.agg [.bool true])))
section
variable {T:Nat->Option dJ}{H:au}{s:St}{so o la ta pl mp P Sh n lv tk i k Q ko c mo ro p:Nat}{Ds:List D}{W F:Nat->Prop}{t:Nat}{h v e:Int}{y wt en b:Bool}{d:D}{g:ua}{a:sQ}{tn:Int}{L:List Int}
theorem QK (hE:lC T)(hS:TS T)(cG:aX s so o la ta pl mp P Sh Ds n lv tk)(hp:qq Ds p b):bY T H 62 [.ptr so 0,.int .i64 (p:Nat)] s fun d s1=>d= .bool b/\s1=s:=by
 rcases hp with ⟨rfl,hp⟩ | ⟨rfl,hp⟩
 all_goals
  refine aD hE.t62 ?_;try refine go ?_
  refine af (cz hS cG hp) ?_;rintro d s1 ⟨rfl,rfl⟩;try refine go ?_
  exact ai ⟨rfl,rfl⟩
theorem T4 (hE:lC T)(hS:TS T)(hs:s.Ok)(cG:aX s so o la ta pl mp P Sh Ds n lv tk)(hp:qq Ds p b){wo bw:Nat}(gw:s.get wo=some (.var 115 (.agg [.ptr so 0,.ptr mo 0])))(gb:s.get bw=some (.var 60 (.ptr wo 0))):
  bY T H 60 [.agg [.int .i64 h,.bool y,.int .i64 (p:Nat),.int .i64 e],.ptr bw 0] s fun d s1=>d= .agg [.int .i64 2,.jc,.int .i64 0,.bool b,.int .i64 0,.int .i64 0,.int .i64 0,.int .i64 0,.int .i64 0,.int .i64 0,.int .i64 0,.bool false,.int .i64 0,.int .i64 0]/\s1=s:=by
 have ht:=QK (H:=H) hE hS cG hp;refine aD hE.t60 ?_;simp only [lW];try refine go ?_
 refine aV ht ?_;rintro d s1 ⟨rfl,rfl⟩;refine⟨rfl,by rfl, ?_⟩;try refine go ?_
 refine aV (Yn hE) ?_;rintro d s1 ⟨rfl,rfl⟩;refine⟨rfl,by rfl, ?_⟩
 repeat' first | refine go ?_ | refine fW ?_
 exact ai ⟨rfl,rfl⟩
theorem ji.dT {W W' :Nat->Prop}{s s1:St}{mo dv so most:Nat}{E:List dY}{h k v state entry told:Int}(hm:ji W s mo dv so most E h k v state entry told)(hs:s.Ok)(hb:aH W' s s1)(hw:∀j,j < s.n->W j-> ¬ W' j)(h1: ¬ W' mo)(h2: ¬ W' so):ji W s1 mo dv so most E h k v state entry told:=by
 obtain⟨⟨to,eo,co,ro,log,b,st,x,C,ver,J,scans,t0,t1,t2,t3,t4,g1,g2,w1,w2,w3,w4,w5,g3,g4,g5,g6⟩,nm,ns,nq⟩:=hm;exact⟨⟨to,eo,co,ro,log,b,st,x,C,ver,J,scans,t0,t1,t2,t3,t4,hb.get hs g1 (hw _ (hs.lt g1) w1),g2.dT hs hb (hw _ (hs.lt g2.go) w2) (fun es st hq=>hw _ (hs.lt hq) w3) (hw _ (hs.lt g2.ce.go) w4) (hw _ (hs.lt g2.ce.gr) w5),w1,w2,w3,w4,w5,g3,hb.get hs g4 h1,hb.get hs g5 h2,g6⟩,nm,ns,nq⟩
theorem Yd (hP:TP T){W:Nat->Prop}{s:St}{mo dv so most:Nat}{E:List dY}{h k v entry told:Int}{same:Bool}(hs:s.Ok)(hm:ji W s mo dv so most E h k v 2 entry told):
  bY T H 77 [.ptr mo 0,.bool same] s fun d s1=>d= .int .i64 0/\ji W s1 mo dv so most E h k v (if same then 3 else 1) entry told/\aH (fun j=>j=mo) s s1:=by
 obtain⟨⟨to,eo,co,ro,log,b,st,x,C,ver,J,scans,t0,t1,t2,t3,t4,h1,h2,w1,w2,w3,w4,w5,h3,h4,h5,h6⟩,nm,ns,nq⟩:=hm;obtain⟨d,s1,e1,rfl,e2,e3⟩:=LI (H:=H) (same:=same) hP hs h4;have ne:∀o,W o->o≠mo:=fun o ho e=>nm (e ▸ ho);exact⟨_,s1,e1,rfl,⟨⟨to,eo,co,ro,log,b,st,x,C,ver,J,scans,t0,t1,t2,t3,t4,e3.get hs h1 (ne _ w1),h2.dT hs e3 (ne _ w2) (fun _ _ _=>ne _ w3) (ne _ w4) (ne _ w5),w1,w2,w3,w4,w5,h3,e2,e3.get hs h5 (fun e=>nq e.symm),h6⟩,nm,ns,nq⟩,e3⟩
theorem JQ (hE:lC T)(hP:TP T)(hs:s.Ok){wo bm bt bw bk bs pm dv sk most m:Nat}{b0 same:Bool}{E:List dY}{hh kk vv entry tld:Int}{cs:List D}(hg:As s t bm bt bw bk bs wo pm k)(ht:bX s t b0 m cs)(hM:ji W s pm dv sk most E hh kk vv 2 entry tld)(n1:∀j,j∈ [bm,bt,bw,bk,bs,t]->j≠pm)(n2: ¬ W t/\t≠sk)(n3:t≠pm):
  bY T H 76 [.agg [.int .i64 h,.bool same,.int .i64 v,.int .i64 e],.ptr bm 0,.ptr bt 0,.ptr bs 0] s fun d s1=>d= .agg [.int .i64 0,.jc,.int .i64 0,.bool false,.int .i64 0,.int .i64 0,.int .i64 0,.int .i64 0,.int .i64 0,.int .i64 0,.int .i64 0,.bool false,.int .i64 0,.int .i64 0]/\bX s1 t b0 74 [.ptr bm 0,.ptr bt 0,.ptr bw 0,.ptr bk 0,.ptr bs 0]/\ji W s1 pm dv sk most E hh kk vv (if same then 3 else 1) entry tld/\aH (fun j=>j=pm\/j=t) s s1:=by
 obtain⟨xm,xt,xw,xk,xs⟩:=hg;have xO:=Yd (H:=H) (same:=same) hP hs hM;refine aD hE.t76 ?_;simp only [lW];try refine go ?_
 refine af xO ?_;rintro d s1 ⟨rfl,hM1,b1⟩;have ok1:=b1.ok;have Vj:=b1.get hs xt (n1 _ (by simp));have xs1:=b1.get hs xs (n1 _ (by simp));have FU:bX s1 t b0 m cs:=b1.get hs ht n3;try refine go ?_
 refine af (XY hE ok1 FU) ?_;rintro d s2 ⟨rfl,Ic,b2⟩;try refine go ?_
 exact ai ⟨rfl,Ic,hM1.dT ok1 b2 (by rintro j _ hw rfl; exact n2.1 hw) (bE n3) (bE n2.2),(b1.mono fun j hj=> .inl hj).trans (b2.mono fun j hj=> .inr hj)⟩
end
section
variable {T:Nat->Option dJ}{H:au}{s:St}{so o la ta pl mp P Sh n lv tk i k Q ko c mo ro p:Nat}{Ds:List D}{W F:Nat->Prop}{t:Nat}{h v e:Int}{y wt en b:Bool}{d:D}{g:ua}{a:sQ}{tn:Int}{L:List Int}
theorem JR (hE:lC T)(hS:TS T)(hs:s.Ok){wo bm bt bw bk bs pm dv sk most m:Nat}{b0:Bool}{E:List dY}{hh kk vv entry tld:Int}{cs:List D}(hg:As s t bm bt bw bk bs wo pm k)(ht:bX s t b0 m cs)(gw:s.get wo=some (.var 115 (.agg [.ptr so 0,.ptr mo 0])))(cG:aX s so o la ta pl mp P Sh Ds n lv tk)(hi:ow Ds i)(hk:ow Ds k)(JZ:i≠k)
  (uC:bY T H 75 [.ptr pm 0] s fun d s1=>d=fM 1 (i:Nat) false 0 0/\ji W s1 pm dv sk most E hh kk vv 2 entry tld/\aH (fun j=>j=pm\/j=sk) s s1)
  (n1:∀j,j∈ [bm,bt,bw,bk,bs,t,wo]->j≠pm/\j≠sk)(n2: ¬ W t)(n3:∀j,(br so o la ta pl j\/j=mp)->j≠pm/\j≠sk):
  bY T H 74 [.agg [.int .i64 h,.bool y,.int .i64 v,.int .i64 e],.ptr bm 0,.ptr bt 0,.ptr bw 0,.ptr bk 0,.ptr bs 0] s fun d s1=>∃t4 Jl vk ba bb,d= .agg [.int .i64 1,.eM 61 (.ptr t4 0),.int .i64 0,.bool false,.int .i64 0,.int .i64 0,.int .i64 0,.int .i64 0,.int .i64 0,.int .i64 0,.int .i64 0,.bool false,.int .i64 0,.int .i64 0]/\bX s1 t b0 76 [.ptr bm 0,.ptr bt 0,.ptr bs 0]/\
   bX s1 t4 true 59 [.ptr vk 0,.ptr ba 0,.ptr bb 0,.ptr Jl 0]/\Dd s1 t4 Jl vk ba bb wo i k/\ji W s1 pm dv sk most E hh kk vv 2 entry tld/\aH (fun j=>j=pm\/j=sk\/j=t) s s1/\(∀j,j∈ [t4,Jl,vk,ba,bb]->s.n<=j/\j < s1.n)/\ [t4,Jl,vk,ba,bb].Nodup:=by
 obtain⟨xm,xt,xw,xk,xs⟩:=hg;have nn:∀ {j},j∈ [bm,bt,bw,bk,bs,t,wo]-> ¬ (j=pm\/j=sk):=fun hj=>by rintro (h | h); exact (n1 _ hj).1 h; exact (n1 _ hj).2 h
 refine aD hE.t74 ?_;simp only [lW];try refine go ?_
 refine af uC ?_;rintro d s1 ⟨rfl,hM,b1⟩;have ok1:=b1.ok;have xm1:=b1.get hs xm (nn (by simp)); have Vj:=b1.get hs xt (nn (by simp)); have Ym:=b1.get hs xw (nn (by simp)); have Yk:=b1.get hs xk (nn (by simp)); have xs1:=b1.get hs xs (nn (by simp));have FU:bX s1 t b0 m cs:=b1.get hs ht (nn (by simp));have gw1:=b1.get hs gw (nn (by simp));have kV:=cG.dT hs b1 fun j hj hw=>by rcases hw with h | h; exact (n3 j hj).1 h; exact (n3 j hj).2 h
 have l1:=ok1.lt xm1; have l2:=ok1.lt Vj; have l3:=ok1.lt Ym; have l4:=ok1.lt Yk; have l5:=ok1.lt FU;have hsm:=Qt (H:=H) hE hS ok1 kV hi hk JZ gw1;try refine go ?_
 refine aV hsm ?_;rintro d s2 ⟨t4,Jl,vk,ba,bb,rfl,c1,c2,b2,c3,c4⟩;have ok2:=b2.ok;have xt2:=b2.get ok1 Vj fun h=>h;have xw2:=b2.get ok1 Ym fun h=>h;have xk2:=b2.get ok1 Yk fun h=>h;have Ic:bX s2 t b0 m cs:=b2.get ok1 FU fun h=>h;refine⟨rfl,by simp [lost,eE.kind,cF,dG,cl,aJ,bD,bD.cL,gF,bO.ev,Env.get,cQ,D.flat,D.isAgg,cK,D.fC,D.beq,aA,Obj.a8,bH,bC,D.bU,D.a8,Vj,xt2,Ym,xw2,Yk,xk2], ?_⟩;try refine go ?_
 refine aV (NU (t2:=t4) (m:=76) (cs' :=[.ptr bm 0,.ptr bt 0,.ptr bs 0]) hE ok2 Ic) ?_;rintro d s3 ⟨rfl,g3,b3⟩;refine⟨rfl,by rfl, ?_⟩
 repeat' first | refine go ?_ | refine fW ?_
 have hn:=b1.n;have nb:∀j,j∈ [t4,Jl,vk,ba,bb]->j≠t:=fun j hj=>by have:=(c3 j hj).1; omega
 have pmt:=n1 t (by simp);refine ai ⟨t4,Jl,vk,ba,bb,rfl,g3,b3.get ok2 c1 (nb _ (by simp)),c2.dT ok2 b3 (fun j hj=>nb j (cW _ hj)),(hM.dT ok1 b2 (fun _ _ _ h=>h) (fun h=>h) fun h=>h).dT ok2 b3 (by rintro j _ hw rfl; exact n2 hw) (bE pmt.1) (bE pmt.2), ?_,fun j hj=>⟨by have:=(c3 j hj).1; omega,cC (c3 j hj).2 b3.n⟩,c4⟩;exact ((b1.mono fun j hj=>hj.imp id .inl).trans (b2.mono fun _ h=>h.elim)).trans (b3.mono fun j hj=> .inr (.inr hj))
theorem JS (hE:lC T)(hs:s.Ok){wo bm bt bw bk bs pm:Nat}{f:Bool}{v1 e1:Int}(hg:As s t bm bt bw bk bs wo pm k){X:St->Prop}
  (uC:bY T H 75 [.ptr pm 0] s fun d s1=>d=fM 2 0 f v1 e1/\X s1):
  bY T H 74 [.agg [.int .i64 h,.bool y,.int .i64 v,.int .i64 e],.ptr bm 0,.ptr bt 0,.ptr bw 0,.ptr bk 0,.ptr bs 0] s fun d s1=>d= .agg [.int .i64 2,.jc,.int .i64 0,.bool f,.int .i64 v1,.int .i64 e1,.int .i64 0,.int .i64 0,.int .i64 0,.int .i64 0,.int .i64 0,.bool false,.int .i64 0,.int .i64 0]/\X s1:=by
 obtain⟨xm,xt,xw,xk,xs⟩:=hg;refine aD hE.t74 ?_;simp only [lW];try refine go ?_
 refine af uC ?_;rintro d s1 ⟨rfl,hX⟩;try refine go ?_
 refine af (xH hE) ?_;rintro d s2 ⟨rfl,rfl⟩;try refine go ?_
 exact ai ⟨rfl,hX⟩
end
section
variable {T:Nat->Option dJ}{H:au}{b kk:Nat}{k:List iI}{s:St}{Q:QP}{l:List (bz×List Nat)}{acc:List Fp}{q:List Nat}{t:Nat}{e:Env}{ds:List (D×List D)}{g:Option (Nat×Bool)}
theorem lg {fp:Fp}{pC:List (Nat×Nat×Recv)}{x:bO}{args:List bO}{y:List D}{ty f:Nat}{v u:D}{r:Recv}{R:D->St->Prop}(hE:bY T H f (u::y) s R)(h:∀d s1,R d s1->Env.cE ((t,d)::e) (some t)=false/\lost acc s s1 ⟨some t,.invoke pC x args,g,none⟩ q=false/\fF T H b kk l (acc++ [ZA fp s s1]) k ⟨(t,d)::e,ds⟩ s1 Q)
  (hw:aJ e g=some true:=by rfl)(hv:x.ev e=some (.eM ty v):=by rfl)(hx:tF e args=some y:=by rfl)(ht:xA pC ty=some (f,r):=by rfl)(hu:qb s v r=some u:=by rfl)(hf:cl b e ⟨some t,.invoke pC x args,g,none⟩=fp:=by exact fI)(hc:eQ acc fp q=true:=by exact cI)(kB:Env.cE e (some t)=false:=by rfl)(hs:s.Ok:=by exact oI):
  fF T H b kk ((⟨some t,.invoke pC x args,g,none⟩,q)::l) acc k ⟨e,ds⟩ s Q:=by
 subst hf;obtain⟨d,s1,h1,h2⟩:=hE;obtain⟨h3,h4,h5⟩:=h d s1 h2;exact⟨sd (r:=(d,s1)) hc kB ⟨s,h1,fun C hC=>gG (o:=⟨some t,.invoke pC x args,g,none⟩) (fr:=⟨e,ds⟩) hw (by simp only [cg,hv,hx,ht,hu]; exact Gn hs.ro hC)⟩ h3 h4 h5.out⟩
end
noncomputable def mr:AC:=match NC.1.body with
 | .seq _ (.seq _ (.seq _ (.seq (.seq _ (.block _ c)) _)))=>c
 | _=> .skip
noncomputable def j8:AC:=match mr with
 | .loop _ a=>a
 | _=> .skip
def FS (mo:Nat)(most r:Int):Env:=[(0,.ptr mo 0),(1,.int .i64 most),(4,.lv (.agg [.int .i64 0,.int .i64 0,.int .i64 0,.int .i64 0,.int .i64 0,.bool false,.int .i64 0,.int .i64 0])),(5,.int .i64 r)]
def gK (s:St)(ko:Nat)(K:List Nat):Prop:=∃st,st<=1/\s.get ko=some (.arr 1 76 (K.map fun t=> .eM 61 (.ptr t 0)) st)
section
variable {T:Nat->Option dJ}{H:au}{s:St}{so ko c mo ro m t n:Nat}{K:List Nat}{h v e most r:Int}{y wt en b:Bool}{d:D}{g:ua}{a:sQ}{tn:Int}{L:List Int}{cs:List D}
theorem TA (hE:lC T)(hs:s.Ok)(hm:gP s mo so ko (m+1) K.length g false false a tn ro L)(hk:gK s ko K)(hn:m+1<=K.length)(H5:K.length<=1000)(yZ:K[m]? =some t)(ht:bX s t false n cs){X:St->Prop}
  (hf:bY T H n (.agg [.int .i64 g.h,.bool g.y,.int .i64 g.v,.int .i64 g.e]::cs) s fun d s1=>d= .agg [.int .i64 0,.jc,.int .i64 0,.bool false,.int .i64 0,.int .i64 0,.int .i64 0,.int .i64 0,.int .i64 0,.int .i64 0,.int .i64 0,.bool false,.int .i64 0,.int .i64 0]/\s1.Ok/\gP s1 mo so ko (m+1) K.length g false false a tn ro L/\X s1)
  {Q:QP}{k:List iI}(hq:∀s1 s2 E,E.bM [0,1,4,5]=FS mo most r->X s1->s1.Ok->gP s2 mo so ko (m+1) K.length ⟨0,false,0,0⟩ false false a tn ro L->aH (fun j=>j=mo) s1 s2->dR T H mr k ⟨E,[]⟩ s2 Q):
  dR T H j8 (.again [0,1,4,5] j8::k) ⟨FS mo most r,[]⟩ s Q:=by
 have gm:=hm.gm; have gr:=hm.gr;have w1:IntKind.wrap .i64 (((m+1:Nat):Int) - 1)=((m:Nat):Int):=by rw [wrap_small (by omega) (by omega)]; omega
 have d1:=ur (((m+1:Nat):Int) > 0);have w2:(IntKind.wrap .i64 (((m+1:Nat):Int) - 1)).toNat=m:=by rw [w1,aQ]
 have uy:(K.map fun t=>D.eM 61 (.ptr t 0))[0+(IntKind.wrap .i64 (((m+1:Nat):Int) - 1)).toNat]? =some (.eM 61 (.ptr t 0)):=by rw [w2,aU,aO,yZ]; rfl
 have sD:(K.map fun t=>D.eM 61 (.ptr t 0)).length=K.length:=aY _;obtain⟨st,cG,hk⟩:=hk;show dR T H (.seq _ _) _ ⟨[(0,.ptr mo 0),(1,.int .i64 most),(4,.lv (.agg [.int .i64 0,.int .i64 0,.int .i64 0,.int .i64 0,.int .i64 0,.bool false,.int .i64 0,.int .i64 0])),(5,.int .i64 r)],[]⟩ _ _;try refine go ?_
 refine af (qi hE ht) ?_;rintro d s1 ⟨rfl,rfl⟩;try refine go ?_
 have Ia:=vY (R:=fun d s1=>d= .agg [.int .i64 0,.jc,.int .i64 0,.bool false,.int .i64 0,.int .i64 0,.int .i64 0,.int .i64 0,.int .i64 0,.int .i64 0,.int .i64 0,.bool false,.int .i64 0,.int .i64 0]/\s1.Ok/\gP s1 mo so ko (m+1) K.length g false false a tn ro L/\X s1) hE hs ht (hf.mono fun d s2 h=>⟨⟨0,0,0,0,0,0,0,0,0,0,0,false,false,.inl h.1⟩,h⟩);refine lg Ia ?_;rintro d s2 ⟨rfl,ok2,m2,hX⟩;refine⟨rfl,by rfl, ?_⟩;have sZ:=m2.gm;have GU:=ok2.lt sZ;try refine go ?_
 have nmr:mo≠ro:=by
  have Bf:=m2.gr;rintro rfl; rw [sZ]at Bf; cases Bf
 refine qI (hq s2 _ _ rfl hX ok2 ⟨St.aG,St.cu m2.gr (bE nmr)⟩ (aH.set (aH.refl ok2) _ GU (fun _=>rfl)))
theorem CK (hE:lC T){g1:ua}(hs:s.Ok)(h0:0 < m)(hm:gP s mo so ko (m+1) K.length g false false a tn ro L)(hk:gK s ko K)(hn:m+1<=K.length)(H5:K.length<=1000)(yZ:K[m]? =some t)(ht:bX s t false n cs){X:St->Prop}
  (hf:bY T H n (.agg [.int .i64 g.h,.bool g.y,.int .i64 g.v,.int .i64 g.e]::cs) s fun d s1=>d= .agg [.int .i64 2,.jc,.int .i64 g1.h,.bool g1.y,.int .i64 g1.v,.int .i64 g1.e,.int .i64 0,.int .i64 0,.int .i64 0,.int .i64 0,.int .i64 0,.bool false,.int .i64 0,.int .i64 0]/\s1.Ok/\gP s1 mo so ko (m+1) K.length g false false a tn ro L/\gK s1 ko K/\X s1)
  {Q:QP}{k:List iI}(hq:∀s1 s2 E,E.bM [0,1,4,5]=FS mo most r->X s1->s1.Ok->gP s2 mo so ko m K.length g1 false false a tn ro L->aH (fun j=>j=mo) s1 s2->dR T H mr k ⟨E,[]⟩ s2 Q):
  dR T H j8 (.again [0,1,4,5] j8::k) ⟨FS mo most r,[]⟩ s Q:=by
 have gm:=hm.gm; have gr:=hm.gr;have w1:IntKind.wrap .i64 (((m+1:Nat):Int) - 1)=((m:Nat):Int):=by rw [wrap_small (by omega) (by omega)]; omega
 have d1:=ur (((m+1:Nat):Int) > 0);have w2:(IntKind.wrap .i64 (((m+1:Nat):Int) - 1)).toNat=m:=by rw [w1,aQ]
 have uy:(K.map fun t=>D.eM 61 (.ptr t 0))[0+(IntKind.wrap .i64 (((m+1:Nat):Int) - 1)).toNat]? =some (.eM 61 (.ptr t 0)):=by rw [w2,aU,aO,yZ]; rfl
 have sD:(K.map fun t=>D.eM 61 (.ptr t 0)).length=K.length:=aY _;obtain⟨st,cG,hk⟩:=hk;show dR T H (.seq _ _) _ ⟨[(0,.ptr mo 0),(1,.int .i64 most),(4,.lv (.agg [.int .i64 0,.int .i64 0,.int .i64 0,.int .i64 0,.int .i64 0,.bool false,.int .i64 0,.int .i64 0])),(5,.int .i64 r)],[]⟩ _ _;try refine go ?_
 refine af (qi hE ht) ?_;rintro d s1 ⟨rfl,rfl⟩;try refine go ?_
 have Ia:=vY (R:=fun d s1=>d= .agg [.int .i64 2,.jc,.int .i64 g1.h,.bool g1.y,.int .i64 g1.v,.int .i64 g1.e,.int .i64 0,.int .i64 0,.int .i64 0,.int .i64 0,.int .i64 0,.bool false,.int .i64 0,.int .i64 0]/\s1.Ok/\gP s1 mo so ko (m+1) K.length g false false a tn ro L/\gK s1 ko K/\X s1) hE hs ht (hf.mono fun d s2 h=>⟨⟨2,g1.h,g1.v,g1.e,0,0,0,0,0,0,0,g1.y,false,.inl h.1⟩,h⟩);refine lg Ia ?_;rintro d s2 ⟨rfl,ok2,m2,pQ,hX⟩;refine⟨rfl,by rfl, ?_⟩;have sZ:=m2.gm;have GU:=ok2.lt sZ;have nmr:mo≠ro:=by
  have Bf:=m2.gr;rintro rfl; rw [sZ]at Bf; cases Bf
 obtain⟨xh,yX,pQ⟩:=pQ;have nmk:mo≠ko:=by
  rintro rfl; rw [sZ]at pQ; cases pQ
 have D7 :0+(m+1)<=(K.map fun t=>D.eM 61 (.ptr t 0)).length:=by rw [sD]; omega
 try refine go ?_
 simp only [w1];have d2:(((m - 0:Nat):Int)==0)=false:=by simp only [eu,ne_eq]; omega
 try refine go ?_
 refine qI (hq s2 _ _ rfl hX ok2 ⟨?_, ?_⟩ ?_)
 ·exact St.aG
 ·exact St.cu (St.cu (St.cu m2.gr (bE nmr)) (bE nmr)) (bE nmr)
 ·exact aH.set (W:=fun j=>j=mo) (aH.set (W:=fun j=>j=mo) (aH.set (W:=fun j=>j=mo) (aH.refl ok2) _ GU (fun _=>rfl)) _ GU (fun _=>rfl)) _ GU (fun _=>rfl)
end
section
variable {T:Nat->Option dJ}{H:au}{b kk:Nat}{k:List iI}{s:St}{Q:QP}{l:List (bz×List Nat)}{acc:List Fp}{q:List Nat}{t:Nat}{e:Env}{ds:List (D×List D)}{g:Option (Nat×Bool)}
theorem Au {sz ty o off len cp st j:Nat}{es m:List D}(hs:s.Ok)(hg:s.get o=some (.arr sz ty es st))(he:off+len < es.length)(cG:st<=off+len)(hm:len+m.length<=aM)(hn:m≠ [])(hk:s.get j=none)(hl:j < s.n):
  ff s (some j) sz ty (.sl o off len cp) m=some (.sl j off (len+m.length) (len+m.length),(s.bn o .dead).bn j (.arr sz ty (es.take (off+len)++m) 0)):=by
 have lo:=hs.lt hg;have jo:j≠o:=by rintro rfl; rw [hk]at hg; cases hg
 have e1:Nat.ble (off+len) es.length=true:=ax (Nat.le_of_lt he);have e2:Nat.ble st (off+len)=true:=ax cG;have e3:Nat.ble (len+m.length) aM=true:=ax hm;have e4:Nat.beq (off+len) es.length=false:=by
  cases h:Nat.beq (off+len) es.length
  ·rfl
  ·have:=ay h; omega
 have e5:(s.bn o .dead).get j=none:=St.cu hk jo;have e6:(s.bn o .dead).ro=false:=hs.ro;have e7:Nat.blt j (s.bn o .dead).n=true:=by rw [Nat.blt_eq]; exact hl
 cases m with
 | nil=>exact absurd rfl hn
 | cons d m=>
  simp only [ff,hg,aA,dS,e1,e2,e3,e4,hs.set,St.mk',e5,e6,e7]
theorem DG {fp:Fp}{r sz bytes ty:Nat}{x y:bO}{o off len cp st:Nat}{nl:Bool}{es m:List D}(h:fF T H b kk l (acc++ [fp]) k ⟨(t,.sl (b+r) off (len+m.length) (len+m.length))::e,ds⟩ ((s.bn o .dead).bn (b+r) (.arr sz ty (es.take (off+len)++m) 0)) Q)(he:off+len < es.length)(cG:st<=off+len)(hw:aJ e g=some true:=by rfl)(hx:x.ev e=some (.sl o off len cp):=by rfl)(hy:y.ev e=some (.vs nl sz m):=by rfl)(hs:s.Ok:=by exact oI)(hg:s.get o=some (.arr sz ty es st):=by exact gI)(hgn:s.get (b+r)=none:=by exact nI)(hl:b+r < s.n:=by first | assumption | omega | (simp only [St.ck,St.ej,St.iK]; omega))(hb:Nat.ble bytes 4096=true:=by rfl)(ha:eC sz m=true:=by rfl)(hn:m≠ []:=by simp)(hm:len+m.length<=aM:=by exact sI)(hf:cl b e ⟨some t,.append sz bytes ty x y,g,some r⟩=fp:=by exact fI)(hc:eQ acc fp q=true:=by exact cI)(kB:Env.cE e (some t)=false:=by rfl)(hk:Nat.beq (bz.op ⟨some t,.append sz bytes ty x y,g,some r⟩).kind 5=false:=by rfl):
  fF T H b kk ((⟨some t,.append sz bytes ty x y,g,some r⟩,q)::l) acc k ⟨e,ds⟩ s Q:=by
 subst hf;refine fk hc kB (lP rfl) h hw ?_ hk;simp only [cg,hx,hy,items,aA,eG,hb,ha,Au hs hg he cG hm hn hgn hl]
end
section
variable {T:Nat->Option dJ}{H:au}{s:St}{so ko c mo ro m t n:Nat}{K:List Nat}{h v e most r:Int}{y wt en b:Bool}{d:D}{g:ua}{a:sQ}{tn:Int}{L:List Int}{cs:List D}
theorem IS (hE:lC T){t2:Nat}(hs:s.Ok)(hm:gP s mo so ko (m+1) K.length g false false a tn ro L)(hk:gK s ko K)(hn:m+1=K.length)(H5:K.length<=1000)(yZ:K[m]? =some t)(ht:bX s t false n cs){X:St->Prop}
  (hf:bY T H n (.agg [.int .i64 g.h,.bool g.y,.int .i64 g.v,.int .i64 g.e]::cs) s fun d s1=>d= .agg [.int .i64 1,.eM 61 (.ptr t2 0),.int .i64 0,.bool false,.int .i64 0,.int .i64 0,.int .i64 0,.int .i64 0,.int .i64 0,.int .i64 0,.int .i64 0,.bool false,.int .i64 0,.int .i64 0]/\s1.Ok/\gP s1 mo so ko (m+1) K.length g false false a tn ro L/\gK s1 ko K/\X s1)
  {Q:QP}{k:List iI}(hq:∀s1 s2 E,E.bM [0,1,4,5]=FS mo most r->X s1->s1.Ok->gP s2 mo so ko (m+1+1) (K++ [t2]).length ⟨0,false,0,0⟩ false false a tn ro L->gK s2 ko (K++ [t2])->aH (fun j=>j=mo\/j=ko) s1 s2->dR T H mr k ⟨E,[]⟩ s2 Q):
  dR T H j8 (.again [0,1,4,5] j8::k) ⟨FS mo most r,[]⟩ s Q:=by
 have gm:=hm.gm; have gr:=hm.gr;have w1:IntKind.wrap .i64 (((m+1:Nat):Int) - 1)=((m:Nat):Int):=by rw [wrap_small (by omega) (by omega)]; omega
 have d1:=ur (((m+1:Nat):Int) > 0);have w2:(IntKind.wrap .i64 (((m+1:Nat):Int) - 1)).toNat=m:=by rw [w1,aQ]
 have uy:(K.map fun t=>D.eM 61 (.ptr t 0))[0+(IntKind.wrap .i64 (((m+1:Nat):Int) - 1)).toNat]? =some (.eM 61 (.ptr t 0)):=by rw [w2,aU,aO,yZ]; rfl
 have sD:(K.map fun t=>D.eM 61 (.ptr t 0)).length=K.length:=aY _;obtain⟨st,cG,hk⟩:=hk;show dR T H (.seq _ _) _ ⟨[(0,.ptr mo 0),(1,.int .i64 most),(4,.lv (.agg [.int .i64 0,.int .i64 0,.int .i64 0,.int .i64 0,.int .i64 0,.bool false,.int .i64 0,.int .i64 0])),(5,.int .i64 r)],[]⟩ _ _;try refine go ?_
 refine af (qi hE ht) ?_;rintro d s1 ⟨rfl,rfl⟩;try refine go ?_
 have Ia:=vY (R:=fun d s1=>d= .agg [.int .i64 1,.eM 61 (.ptr t2 0),.int .i64 0,.bool false,.int .i64 0,.int .i64 0,.int .i64 0,.int .i64 0,.int .i64 0,.int .i64 0,.int .i64 0,.bool false,.int .i64 0,.int .i64 0]/\s1.Ok/\gP s1 mo so ko (m+1) K.length g false false a tn ro L/\gK s1 ko K/\X s1) hE hs ht (hf.mono fun d s2 h=>⟨⟨1,0,0,0,0,0,0,0,0,0,0,false,false,.inr ⟨t2,h.1⟩⟩,h⟩);refine lg Ia ?_;rintro d s2 ⟨rfl,ok2,m2,pQ,hX⟩;refine⟨rfl,by rfl, ?_⟩;have sZ:=m2.gm;have GU:=ok2.lt sZ;have nmr:mo≠ro:=by
  have Bf:=m2.gr;rintro rfl; rw [sZ]at Bf; cases Bf
 obtain⟨xh,yX,pQ⟩:=pQ;have nmk:mo≠ko:=by
  rintro rfl; rw [sZ]at pQ; cases pQ
 have lk2:=ok2.lt pQ;have D7 :0+(m+1)<=(K.map fun t=>D.eM 61 (.ptr t 0)).length:=by rw [sD]; omega
 try refine go ?_
 have nkr:ko≠ro:=by
  have Bf:=m2.gr;rintro rfl; rw [pQ]at Bf; simp at Bf
 have e1:(K++ [t2]).length=m+1+1:=by rw [an,aC]; omega
 refine qI (hq s2 _ _ rfl hX ok2 ⟨?_, ?_⟩ ?_ ?_)
 ·rw [e1];exact St.aG
 ·exact St.cu (St.cu (St.yN (St.cu m2.gr (bE nmr))) (bE nkr)) (bE nmr)
 ·refine⟨xh,yX, ?_⟩;rw [eX];exact St.cu St.aG (bE nmk)
 ·exact aH.set (W:=fun j=>j=mo\/j=ko) (aH.set (W:=fun j=>j=mo\/j=ko) ((aH.set (W:=fun j=>j=mo\/j=ko) (aH.refl ok2) _ GU (fun _=> .inl rfl)).up 1) _ (by simp only [St.iK,St.ej]; omega) (fun _=> .inr rfl)) _ (by simp only [St.ej,St.iK]; omega) (fun _=> .inl rfl)
theorem EZ (hE:lC T){t2:Nat}(hs:s.Ok)(hm:gP s mo so ko (m+1) K.length g false false a tn ro L)(hk:gK s ko K)(hn:m+1 < K.length)(H5:K.length<=1000)(yZ:K[m]? =some t)(ht:bX s t false n cs){X:St->Prop}
  (hf:bY T H n (.agg [.int .i64 g.h,.bool g.y,.int .i64 g.v,.int .i64 g.e]::cs) s fun d s1=>d= .agg [.int .i64 1,.eM 61 (.ptr t2 0),.int .i64 0,.bool false,.int .i64 0,.int .i64 0,.int .i64 0,.int .i64 0,.int .i64 0,.int .i64 0,.int .i64 0,.bool false,.int .i64 0,.int .i64 0]/\s1.Ok/\gP s1 mo so ko (m+1) K.length g false false a tn ro L/\gK s1 ko K/\X s1)
  {Q:QP}{k:List iI}(hq:∀s1 s2 E kn,E.bM [0,1,4,5]=FS mo most r->X s1->s1.Ok->s1.n<=kn->gP s2 mo so kn (m+1+1) (K.take (m+1)++ [t2]).length ⟨0,false,0,0⟩ false false a tn ro L->gK s2 kn (K.take (m+1)++ [t2])->aH (fun j=>j=mo\/j=ko) s1 s2->dR T H mr k ⟨E,[]⟩ s2 Q):
  dR T H j8 (.again [0,1,4,5] j8::k) ⟨FS mo most r,[]⟩ s Q:=by
 have gm:=hm.gm; have gr:=hm.gr;have w1:IntKind.wrap .i64 (((m+1:Nat):Int) - 1)=((m:Nat):Int):=by rw [wrap_small (by omega) (by omega)]; omega
 have d1:=ur (((m+1:Nat):Int) > 0);have w2:(IntKind.wrap .i64 (((m+1:Nat):Int) - 1)).toNat=m:=by rw [w1,aQ]
 have uy:(K.map fun t=>D.eM 61 (.ptr t 0))[0+(IntKind.wrap .i64 (((m+1:Nat):Int) - 1)).toNat]? =some (.eM 61 (.ptr t 0)):=by rw [w2,aU,aO,yZ]; rfl
 have sD:(K.map fun t=>D.eM 61 (.ptr t 0)).length=K.length:=aY _;obtain⟨st,cG,hk⟩:=hk;show dR T H (.seq _ _) _ ⟨[(0,.ptr mo 0),(1,.int .i64 most),(4,.lv (.agg [.int .i64 0,.int .i64 0,.int .i64 0,.int .i64 0,.int .i64 0,.bool false,.int .i64 0,.int .i64 0])),(5,.int .i64 r)],[]⟩ _ _;try refine go ?_
 refine af (qi hE ht) ?_;rintro d s1 ⟨rfl,rfl⟩;try refine go ?_
 have Ia:=vY (R:=fun d s1=>d= .agg [.int .i64 1,.eM 61 (.ptr t2 0),.int .i64 0,.bool false,.int .i64 0,.int .i64 0,.int .i64 0,.int .i64 0,.int .i64 0,.int .i64 0,.int .i64 0,.bool false,.int .i64 0,.int .i64 0]/\s1.Ok/\gP s1 mo so ko (m+1) K.length g false false a tn ro L/\gK s1 ko K/\X s1) hE hs ht (hf.mono fun d s2 h=>⟨⟨1,0,0,0,0,0,0,0,0,0,0,false,false,.inr ⟨t2,h.1⟩⟩,h⟩);refine lg Ia ?_;rintro d s2 ⟨rfl,ok2,m2,pQ,hX⟩;refine⟨rfl,by rfl, ?_⟩;have sZ:=m2.gm;have GU:=ok2.lt sZ;have nmr:mo≠ro:=by
  have Bf:=m2.gr;rintro rfl; rw [sZ]at Bf; cases Bf
 obtain⟨xh,yX,pQ⟩:=pQ;have nmk:mo≠ko:=by
  rintro rfl; rw [sZ]at pQ; cases pQ
 have lk2:=ok2.lt pQ;have D7 :0+(m+1)<=(K.map fun t=>D.eM 61 (.ptr t 0)).length:=by rw [sD]; omega
 try refine go ?_
 have he' :0+(m+1) < (K.map fun t=>D.eM 61 (.ptr t 0)).length:=by rw [sD]; omega
 have SF :xh<=0+(m+1):=by omega
 refine DG ?_ he' SF;have nkn:mo≠s2.n+0:=by omega
 try refine go ?_
 have nkr:ko≠ro:=by
  have Bf:=m2.gr;rintro rfl; rw [pQ]at Bf; simp at Bf
 have lr2:=ok2.lt m2.gr;have e1:(K.take (m+1)++ [t2]).length=m+1+1:=by rw [an,aC,dB]; omega
 have e2:(K.map fun t=>D.eM 61 (.ptr t 0)).take (0+(m+1))=(K.take (m+1)).map fun t=>D.eM 61 (.ptr t 0):=by rw [aU,List.map_take]
 refine qI (hq s2 _ _ (s2.n+0) rfl hX ok2 (aq _) ⟨?_, ?_⟩ ?_ ?_)
 ·rw [e1];exact St.aG
 ·exact St.cu (St.cu (St.cu (St.yN (St.cu m2.gr (bE nmr))) (bE nkr)) (by simp only [St.ej]; omega)) (bE nmr)
 ·refine⟨0,cH _, ?_⟩;rw [eX,← e2];exact St.cu St.aG (bE nkn)
 ·exact aH.set (W:=fun j=>j=mo\/j=ko) (aH.set (W:=fun j=>j=mo\/j=ko) (aH.set (W:=fun j=>j=mo\/j=ko) ((aH.set (W:=fun j=>j=mo\/j=ko) (aH.refl ok2) _ GU (fun _=> .inl rfl)).up 1) _ (by simp only [St.iK,St.ej]; omega) (fun _=> .inr rfl)) _ (by simp only [St.iK,St.ej]; omega) (fun h=>by simp only [St.ej]at h; omega)) _ (by simp only [St.ej,St.iK]; omega) (fun _=> .inl rfl)
end
section
variable {T:Nat->Option dJ}{H:au}{s:St}{so ko c mo ro m t n:Nat}{K:List Nat}{h v e most r:Int}{y wt en b:Bool}{d:D}{g:ua}{a:sQ}{tn:Int}{L:List Int}{cs:List D}
theorem Qi (hE:lC T){w' x1 x2:Int} {L' :List Int}(hs:s.Ok)(hm:gP s mo so ko (m+1) K.length g false false a tn ro L)(hk:gK s ko K)(hn:m+1<=K.length)(H5:K.length<=1000)(yZ:K[m]? =some t)(ht:bX s t true n cs)(hr:r < most)(hr0:0<=r/\r < 1000000)(SI:0<=tn/\tn < 1000000){X:St->Prop}
  (hf:∀s1,s1.Ok->aH (fun j=>j=mo\/j=t) s s1->bX s1 t false n cs->gP s1 mo so ko (m+1) K.length g false false a (tn+1) ro L->bY T H n (.agg [.int .i64 g.h,.bool g.y,.int .i64 g.v,.int .i64 g.e]::cs) s1 fun d s2=>d= .agg [.int .i64 3,.jc,.int .i64 0,.bool false,.int .i64 0,.int .i64 0,.int .i64 1,.int .i64 w',.int .i64 x1,.int .i64 x2,.int .i64 0,.bool false,.int .i64 0,.int .i64 0]/\s2.Ok/\gP s2 mo so ko (m+1) K.length g false false a (tn+1) ro L' /\X s2)
  {Q:QP}{k:List iI}(hq:∀s1 s2 E,E.get 4=some (.lv (.agg [.int .i64 1,.int .i64 w',.int .i64 x1,.int .i64 x2,.int .i64 0,.bool false,.int .i64 0,.int .i64 0]))->X s1->s1.Ok->gP s2 mo so ko (m+1) K.length ⟨0,false,0,0⟩ true false ⟨1,w',x1,x2,0,false,0,0⟩ (tn+1) ro L' ->aH (fun j=>j=mo) s1 s2->lB T H .ret k ⟨E,[]⟩ s2 Q):
  dR T H j8 (.again [0,1,4,5] j8::k) ⟨FS mo most r,[]⟩ s Q:=by
 have gm:=hm.gm; have gr:=hm.gr;have lm:=hs.lt gm;have w1:IntKind.wrap .i64 (((m+1:Nat):Int) - 1)=((m:Nat):Int):=by rw [wrap_small (by omega) (by omega)]; omega
 have w2:(IntKind.wrap .i64 (((m+1:Nat):Int) - 1)).toNat=m:=by rw [w1,aQ]
 have w3:IntKind.wrap .i64 (tn+1)=tn+1:=wrap_small (by omega) (by omega);have d1:=ur (((m+1:Nat):Int) > 0);have d3:=qV (r >= most);have uy:(K.map fun t=>D.eM 61 (.ptr t 0))[0+(IntKind.wrap .i64 (((m+1:Nat):Int) - 1)).toNat]? =some (.eM 61 (.ptr t 0)):=by rw [w2,aU,aO,yZ]; rfl
 have sD:(K.map fun t=>D.eM 61 (.ptr t 0)).length=K.length:=aY _;obtain⟨st,cG,hk⟩:=hk;show dR T H (.seq _ _) _ ⟨[(0,.ptr mo 0),(1,.int .i64 most),(4,.lv (.agg [.int .i64 0,.int .i64 0,.int .i64 0,.int .i64 0,.int .i64 0,.bool false,.int .i64 0,.int .i64 0])),(5,.int .i64 r)],[]⟩ _ _;try refine go ?_
 refine af (qi hE ht) ?_;rintro d s1 ⟨rfl,rfl⟩;try refine go ?_
 have nmr:mo≠ro:=by rintro rfl; rw [gm]at gr; cases gr
 have nmt:t≠mo:=by
  rintro rfl;have:=gm.symm.trans ht;simp at this
 have nrt:t≠ro:=by
  rintro rfl;have:=gr.symm.trans ht;cases this
 have kb:∀x,aH (fun j=>j=mo) s1 (s1.bn mo x):=fun x=>aH.set (W:=fun j=>j=mo) (aH.refl hs) _ lm (fun _=>rfl);simp only [w3];refine af (QC hE (kb _).ok ((kb _).get hs ht nmt)) ?_;rintro d s3 ⟨rfl,t3,b3⟩;have ok3:=b3.ok;have b13:=((kb _).mono (W' :=fun j=>j=mo\/j=t) fun j hj=> .inl hj).trans (b3.mono fun j hj=> .inr hj);have m3:gP s3 mo so ko (m+1) K.length g false false a (tn+1) ro L:=⟨b3.get (kb _).ok St.aG (bE nmt),b3.get (kb _).ok (St.cu gr (bE nmr)) (bE nrt)⟩;have Ia:=vY (R:=fun d s2=>d= .agg [.int .i64 3,.jc,.int .i64 0,.bool false,.int .i64 0,.int .i64 0,.int .i64 1,.int .i64 w',.int .i64 x1,.int .i64 x2,.int .i64 0,.bool false,.int .i64 0,.int .i64 0]/\s2.Ok/\gP s2 mo so ko (m+1) K.length g false false a (tn+1) ro L' /\X s2) hE ok3 t3 ((hf s3 ok3 b13 t3 m3).mono fun d s2 h=>⟨⟨3,0,0,0,1,w',x1,x2,0,0,0,false,false,.inl h.1⟩,h⟩);have CZ:=m3.gm;try refine go ?_
 refine lg Ia ?_;rintro d s4 ⟨rfl,ok4,m4,hX⟩;refine⟨rfl,by rfl, ?_⟩;have WU:=m4.gm;have lm4:=ok4.lt WU;try refine go ?_
 refine hq s4 _ _ rfl hX ok4 ⟨?_, ?_⟩ ?_
 ·exact St.aG
 ·exact St.cu (St.cu (St.cu m4.gr (bE nmr)) (bE nmr)) (bE nmr)
 ·exact aH.set (W:=fun j=>j=mo) (aH.set (W:=fun j=>j=mo) (aH.set (W:=fun j=>j=mo) (aH.refl ok4) _ lm4 (fun _=>rfl)) _ lm4 (fun _=>rfl)) _ lm4 (fun _=>rfl)
theorem Je (hE:lC T):bY T H 21 [.agg [.int .i64 h,.bool y,.int .i64 v,.int .i64 e]] s fun d s1=>d= .agg [.int .i64 2,.int .i64 0,.int .i64 0,.int .i64 0,.int .i64 0,.bool y,.int .i64 v,.int .i64 0]/\s1=s:=by
 refine aD hE.t21 ?_;try refine go ?_
 exact ai ⟨rfl,rfl⟩
theorem S4 (hE:lC T)(hs:s.Ok)(gm:s.get mo=some (.var 74 (aaH so ko n c g false false a tn ro m))){v1:Int}:bY T H 22 [.ptr mo 0,.agg [.int .i64 2,.int .i64 0,.int .i64 0,.int .i64 0,.int .i64 0,.bool y,.int .i64 v1,.int .i64 0]] s fun d s1=>d= .agg [.int .i64 2,.int .i64 0,.int .i64 0,.int .i64 0,.int .i64 0,.bool y,.int .i64 v1,.int .i64 0]/\
   s1.get mo=some (.var 74 (.agg [.ptr so 0,.vs true 0 [],.int .i64 g.h,.bool g.y,.int .i64 g.v,.int .i64 g.e,.bool false,.bool true,.int .i64 2,.int .i64 0,.int .i64 0,.int .i64 0,.int .i64 0,.bool y,.int .i64 v1,.int .i64 0,.int .i64 tn,.fn (.func 21) [] [],.sl ro 0 m m]))/\aH (fun j=>j=mo) s s1:=by
 have lm:=hs.lt gm;refine aD hE.t22 ?_;try refine go ?_
 exact ai ⟨rfl,St.aG,aH.set (W:=fun j=>j=mo) (aH.set (W:=fun j=>j=mo) (aH.set (W:=fun j=>j=mo) (aH.refl hs) _ lm (fun _=>rfl)) _ lm (fun _=>rfl)) _ lm (fun _=>rfl)⟩
theorem X5 (hE:lC T){g1:ua}(hs:s.Ok)(h0:m=0)(hm:gP s mo so ko (m+1) K.length g false false a tn ro L)(hk:gK s ko K)(hn:m+1<=K.length)(H5:K.length<=1000)(yZ:K[m]? =some t)(ht:bX s t false n cs){X:St->Prop}
  (hf:bY T H n (.agg [.int .i64 g.h,.bool g.y,.int .i64 g.v,.int .i64 g.e]::cs) s fun d s1=>d= .agg [.int .i64 2,.jc,.int .i64 g1.h,.bool g1.y,.int .i64 g1.v,.int .i64 g1.e,.int .i64 0,.int .i64 0,.int .i64 0,.int .i64 0,.int .i64 0,.bool false,.int .i64 0,.int .i64 0]/\s1.Ok/\gP s1 mo so ko (m+1) K.length g false false a tn ro L/\gK s1 ko K/\X s1)
  {Q:QP}{k:List iI}(hq:∀s1 s2 E,E.get 4=some (.lv (.agg [.int .i64 2,.int .i64 0,.int .i64 0,.int .i64 0,.int .i64 0,.bool g1.y,.int .i64 g1.v,.int .i64 0]))->X s1->s1.Ok->(∃x,s2.get mo=some (.var 74 (.agg [.ptr so 0,.vs true 0 [],.int .i64 0,.bool false,.int .i64 0,.int .i64 0,.bool false,.bool true,.int .i64 2,.int .i64 0,.int .i64 0,.int .i64 0,.int .i64 0,.bool g1.y,.int .i64 g1.v,.int .i64 0,.int .i64 tn,.fn (.func 21) [] [],x]))/\x= .sl ro 0 L.length L.length)->aH (fun j=>j=mo) s1 s2->lB T H .ret k ⟨E,[]⟩ s2 Q):
  dR T H j8 (.again [0,1,4,5] j8::k) ⟨FS mo most r,[]⟩ s Q:=by
 have gm:=hm.gm; have gr:=hm.gr;have w1:IntKind.wrap .i64 (((m+1:Nat):Int) - 1)=((m:Nat):Int):=by rw [wrap_small (by omega) (by omega)]; omega
 have w2:(IntKind.wrap .i64 (((m+1:Nat):Int) - 1)).toNat=m:=by rw [w1,aQ]
 have d1:=ur (((m+1:Nat):Int) > 0);have uy:(K.map fun t=>D.eM 61 (.ptr t 0))[0+(IntKind.wrap .i64 (((m+1:Nat):Int) - 1)).toNat]? =some (.eM 61 (.ptr t 0)):=by rw [w2,aU,aO,yZ]; rfl
 have sD:(K.map fun t=>D.eM 61 (.ptr t 0)).length=K.length:=aY _;obtain⟨st,cG,hk⟩:=hk;show dR T H (.seq _ _) _ ⟨[(0,.ptr mo 0),(1,.int .i64 most),(4,.lv (.agg [.int .i64 0,.int .i64 0,.int .i64 0,.int .i64 0,.int .i64 0,.bool false,.int .i64 0,.int .i64 0])),(5,.int .i64 r)],[]⟩ _ _;try refine go ?_
 refine af (qi hE ht) ?_;rintro d s1 ⟨rfl,rfl⟩;try refine go ?_
 have Ia:=vY (R:=fun d s1=>d= .agg [.int .i64 2,.jc,.int .i64 g1.h,.bool g1.y,.int .i64 g1.v,.int .i64 g1.e,.int .i64 0,.int .i64 0,.int .i64 0,.int .i64 0,.int .i64 0,.bool false,.int .i64 0,.int .i64 0]/\s1.Ok/\gP s1 mo so ko (m+1) K.length g false false a tn ro L/\gK s1 ko K/\X s1) hE hs ht (hf.mono fun d s2 h=>⟨⟨2,g1.h,g1.v,g1.e,0,0,0,0,0,0,0,g1.y,false,.inl h.1⟩,h⟩);refine lg Ia ?_;rintro d s2 ⟨rfl,ok2,m2,pQ,hX⟩;refine⟨rfl,by rfl, ?_⟩;have sZ:=m2.gm;have GU:=ok2.lt sZ;have nmr:mo≠ro:=by
  have Bf:=m2.gr;rintro rfl; rw [sZ]at Bf; cases Bf
 obtain⟨xh,yX,pQ⟩:=pQ;have nmk:mo≠ko:=by
  rintro rfl; rw [sZ]at pQ; cases pQ
 have D7 :0+(m+1)<=(K.map fun t=>D.eM 61 (.ptr t 0)).length:=by rw [sD]; omega
 try refine go ?_
 simp only [w1];have d2:(((m - 0:Nat):Int)==0)=true:=by subst h0; rfl
 try refine go ?_
 refine oK (Je hE) ?_;rintro d s3 ⟨rfl,rfl⟩;refine⟨rfl,by rfl, ?_⟩;try refine go ?_
 have kb:∀x x',aH (fun j=>j=mo) s2 ((s2.bn mo x).bn mo x'):=fun x x' =>aH.set (W:=fun j=>j=mo) (aH.set (W:=fun j=>j=mo) (aH.refl ok2) _ GU (fun _=>rfl)) _ GU (fun _=>rfl);refine aV (S4 (so:=so) (ko:=ko) (n:=m) (c:=K.length) (g:=⟨0,false,0,0⟩) (a:=a) (tn:=tn) (ro:=ro) (m:=L.length) hE (kb _ _).ok St.aG) ?_;rintro d s4 ⟨rfl,g4,b4⟩;refine⟨rfl,by rfl, ?_⟩
 repeat' first | refine go ?_ | refine fW ?_
 exact hq s2 s4 _ rfl hX ok2 ⟨_,g4,rfl⟩ ((kb _ _).trans b4)
end
end Go.Proofs.Tab
