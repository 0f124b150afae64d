/- Part. -/
import Derived.Test.YthaiegafejbmoaaGreatDoorG41
set_option linter.unusedSectionVars false
set_option maxRecDepth 100000
set_option maxHeartbeats 4000000
set_option linter.unusedSimpArgs false
set_option linter.unusedVariables false
namespace Go.Proofs.Tab
open Go Go.Ab Go.Ab.Sm
def xC (Q:Nat)(s0:St)(Ds:List D)(kp:Nat)(h:Int)(EE:List dY):Prop:=∀e∈EE,e.h=h/\∃x:Nat,e.k=(x:Int)/\x≠kp/\kI Q s0 Ds x (fun j=>s0.n<=j)
def Lx (s0 s:St)(mo so kp dv most:Nat)(WD:Nat->Prop)(EE:List dY)(h v:Int)(i x:Nat)(tn:Int)(m:Nat):Prop:=∃ro wo t t3 bm bt bw bk bs pm kn t4 vk sk L,L.length=m/\Vo s0 s mo so ro wo t t3 bm bt bw bk bs pm kp kn t4 vk sk dv most WD EE h v i x tn L
def Ja (s0:St)(mo so kp dv most:Nat)(WD:Nat->Prop)(EE:List dY)(h v:Int)(i:Nat)(tn:Int)(m:Nat)(d:D)(s1:St):Prop:=
 (∃(e:dY) (x:Nat),EE[i]? =some e/\e.k=(x:Int)/\d= .agg [.int .i64 1,.int .i64 2,.int .i64 (x:Nat),.int .i64 (kp:Nat),.int .i64 0,.bool false,.int .i64 0,.int .i64 0]/\Lx s0 s1 mo so kp dv most WD EE h v i x (tn+1) (m+2))\/
 (EE.length<=i/\d= .agg [.int .i64 2,.int .i64 0,.int .i64 0,.int .i64 0,.int .i64 0,.bool false,.int .i64 0,.int .i64 0]/\LC s0 s1 mo so tn)
section
variable {T:Nat->Option dJ}{H:au}{s0 s:St}{so o la ta pl mp P Sh n lv tk i k Q ko c mo ro p:Nat}{Ds:List D}{W WD F:Nat->Prop}{t:Nat}{d:D}{a:sQ}{tn:Int}{L:List Int}{wo t3 bm bt bw bk bs pm kp kn t4 vk sk dv most' x:Nat}{EE:List dY}{h v most:Int}
theorem Ol (hE:lC T)(hS:TS T)(jQ:s0.Ok)(cG:aX s0 so o la ta pl mp P Sh Ds n lv tk)(Rf:kI Q s0 Ds x (fun j=>s0.n<=j))(hk:ow Ds kp)(UU:x≠kp)
  (hG:GS s0 s mo so ro wo t t3 bm bt bw bk bs pm kp){K:List Nat}(hK:K=[t,t3]\/∃t',K=[t,t3,t'])(hm:gP s mo so kn 2 K.length ⟨0,false,0,0⟩ false false a tn ro L)(xM:gK s kn K)
  (zu:bX s t3 false 74 [.ptr bm 0,.ptr bt 0,.ptr bw 0,.ptr bk 0,.ptr bs 0])
  (uC:bY T H 75 [.ptr pm 0] s fun d s1=>d=fM 1 (x:Nat) false 0 0/\ji WD s1 pm dv sk most' EE h (kp:Nat) v 2 (i:Nat) (i:Nat)/\aH (fun j=>j=pm\/j=sk) s s1)
  {dp dk:D}(gp:s.get pm=some (.var 226 dp))(gs:s.n<=sk\/s.get sk=some (.var 281 dk))
  (hL:L.length<=9000)(SI:0<=tn/\tn < 100000)(gR:1<=most)(zn:s0.n<=kn/\s0.n<=sk)(hW:∀j,WD j->j < s0.n)
  {E:Env}(D8:E.bM [0,1,4,5]=FS mo most 0){r:AC}{R:D->St->Prop}(hR:∀s1,Lx s0 s1 mo so kp dv most' WD EE h v i x (tn+1) (L.length+2)->R (.agg [.int .i64 1,.int .i64 2,.int .i64 (x:Nat),.int .i64 (kp:Nat),.int .i64 0,.bool false,.int .i64 0,.int .i64 0]) s1):
  dR T H mr [.block 0,.seq r] ⟨E,[]⟩ s (QF NC.1.results R):=by
 have hs:=hG.zb.ok;have gm:=hm.gm; have gr:=hm.gr;have jmo:=hG.zj mo (by simp); have jro:=hG.zj ro (by simp); have jpm:=hG.zj pm (by simp); have jt3:=hG.zj t3 (by simp);have Su :=xM;obtain⟨st,kV,gk⟩:=xM;have nbs:=hG.zb.n
 have nps:∀ {j:Nat} {y:Ab.Obj},s.get j=some y->(0,226)≠tag y->(0,281)≠tag y->j≠pm/\j≠sk:=fun {j y} hj y1 y2=>by
  have:=hs.lt hj;refine⟨fun q=>bj gp hj y1 q.symm,fun q=> ?_⟩;rcases gs with gs | gs
  ·omega
  ·exact bj gs hj y2 q.symm
 have n1:∀j,j∈ [bm,bt,bw,bk,bs,t3,wo]->j≠pm/\j≠sk:=by
  intro j hj;simp only [aN,bA,cJ]at hj;rcases hj with rfl | rfl | rfl | rfl | rfl | rfl | rfl
  ·exact nps hG.zg.xm (by simp [tag]) (by simp [tag])
  ·exact nps hG.zg.xt (by simp [tag]) (by simp [tag])
  ·exact nps hG.zg.xw (by simp [tag]) (by simp [tag])
  ·exact nps hG.zg.xk (by simp [tag]) (by simp [tag])
  ·exact nps hG.zg.xs (by simp [tag]) (by simp [tag])
  ·exact nps zu (by simp [tag]) (by simp [tag])
  ·exact nps hG.zw (by simp [tag]) (by simp [tag])
 have hO:∀j,(br so o la ta pl j\/j=mp)->j < s0.n:=fun j hj=>cG.lt jQ hj;obtain⟨d1,s1,Qo,t4,Jl,vk,ba,bb,rfl,u1,u2,u3,u4,b1,c1,c2⟩:=JR (H:=H) (i:=x) (k:=kp) (h:=0) (y:=false) (v:=0) (e:=0) hE hS hs hG.zg zu hG.zw (cG.dT jQ hG.zb fun _ _ hh=>hh) Rf.GM hk UU uC n1 (fun hw=>by have:=hW _ hw; omega) (fun j hj=>by have:=hO j hj; omega);have ok1:=b1.ok;have nn1:=b1.n
 have bx:∀ {j:Nat} {y:Ab.Obj},s.get j=some y->(0,226)≠tag y->(0,281)≠tag y->(0,118)≠tag y->s1.get j=some y:=fun {j y} hj y1 y2 y3=>b1.get hs hj (by
  rintro (q | q | q)
  ·exact (nps hj y1 y2).1 q
  ·exact (nps hj y1 y2).2 q
  ·exact bj zu hj y3 q.symm)
 have m1:gP s1 mo so kn 2 K.length ⟨0,false,0,0⟩ false false a tn ro L:=⟨bx gm (by simp [tag]) (by simp [tag]) (by simp [tag]),bx gr (by simp [tag]) (by simp [tag]) (by simp [tag])⟩;have k1:gK s1 kn K:=⟨st,kV,bx gk (by simp [tag]) (by simp [tag]) (by simp [tag])⟩
 have hG1:GS s0 s1 mo so ro wo t t3 bm bt bw bk bs pm kp:=hG.dT b1 (fun j hj=>by
  simp only [aN,bA,cJ]at hj;rintro (q | q | q)
  ·subst q;rcases hj with hj | hj | hj
   ·exact (n1 j (by simp [hj])).1 rfl
   ·subst hj; exact (nps hG.zt (by simp [tag]) (by simp [tag])).1 rfl
   ·exact (n1 j (by simp only [aN,bA,cJ]; omega)).1 rfl
  ·subst q;rcases hj with hj | hj | hj
   ·exact (n1 j (by simp [hj])).2 rfl
   ·subst hj; exact (nps hG.zt (by simp [tag]) (by simp [tag])).2 rfl
   ·exact (n1 j (by simp only [aN,bA,cJ]; omega)).2 rfl
  ·exact hG.neT zu hG.nt j (by simp only [aN,bA,cJ]; exact hj) q) (by rintro j (q | q | q) <;> omega)
 have fin:∀ {s2:St} {kn' :Nat} {E2:Env},E2.bM [0,1,4,5]=FS mo most 0->gP s2 mo so kn' 3 3 ⟨0,false,0,0⟩ false false a tn ro L->gK s2 kn' [t,t3,t4]->aH (fun j=>j=mo\/j=kn) s1 s2->s0.n<=kn' ->dR T H mr [.block 0,.seq r] ⟨E2,[]⟩ s2 (QF NC.1.results R):=by
  intro s2 kn' E2 H4 m2 k2 b2 J1;have xo:=m1.gm;obtain⟨st',SF,gk1⟩:=k1;have cx:=fun j hj=>(c1 j hj).1;have lk:=hs.lt gk; have lm:=hs.lt gm;have nj:∀j,j∈ [t4,Jl,vk,ba,bb]-> ¬ (j=mo\/j=kn):=fun j hj=>by have:=cx j hj; omega
  have e1:=hG1.ne xo (by simp [tag]); have e2:=hG1.ne gk1 (by simp [tag]);have u4x:=u4;obtain⟨dp1,gp1⟩:=u4.pm;obtain⟨dk1,gs1⟩:=u4.sk;refine QB (Q:=Q) hE hS jQ cG Rf hk UU (hG1.dT b2 (fun j hj=>by rintro (q | q); exact e1 j hj q; exact e2 j hj q) (by rintro j (q | q) <;> omega)) m2 k2 (b2.get ok1 u1 (by rintro (q | q); exact bj u1 xo (by simp [tag]) q; exact bj u1 gk1 (by simp [tag]) q)) (b2.get ok1 u2 (nj _ (by simp))) (u3.dT ok1 b2 fun j hj=>nj j (by simp only [aN,bA,cJ]at hj ⊢; omega)) (u4.dT ok1 b2 (fun j _ hw=>by have:=hW j hw; rintro (q | q) <;> omega) (by rintro (q | q); exact bj gp1 xo (by simp [tag]) q; exact bj gp1 gk1 (by simp [tag]) q) (by rintro (q | q); exact bj gs1 xo (by simp [tag]) q; exact bj gs1 gk1 (by simp [tag]) q)) hL SI gR ⟨J1,zn.2,by have:=cx t4 (by simp); omega,by have:=cx vk (by simp); omega⟩ ⟨?_, ?_⟩ hW H4 (fun s3 hA=>hR s3 ⟨_,_,_,_,_,_,_,_,_,_,_,_,_,_,_,by simp,hA⟩)
  ·have:=hs.lt hG.zt; have:=cx t4 (by simp); omega
  ·have:=hs.lt zu; have:=cx t4 (by simp); omega
 have hf:bY T H 74 (.agg [.int .i64 0,.bool false,.int .i64 0,.int .i64 0]::[.ptr bm 0,.ptr bt 0,.ptr bw 0,.ptr bk 0,.ptr bs 0]) s fun d s2=>d= .agg [.int .i64 1,.eM 61 (.ptr t4 0),.int .i64 0,.bool false,.int .i64 0,.int .i64 0,.int .i64 0,.int .i64 0,.int .i64 0,.int .i64 0,.int .i64 0,.bool false,.int .i64 0,.int .i64 0]/\s2.Ok/\gP s2 mo so kn 2 K.length ⟨0,false,0,0⟩ false false a tn ro L/\gK s2 kn K/\s2=s1:=⟨_,s1,Qo,rfl,ok1,m1,k1,rfl⟩;refine kJ D8 ?_;rcases hK with rfl | ⟨t',rfl⟩
 ·refine IS (t:=t3) (K:=[t,t3]) (m:=1) (t2:=t4) (X:=fun s' =>s' =s1) hE hs hm Su rfl (by simp) rfl zu hf ?_;rintro s' s2 E2 H4 rfl - m2 k2 b2;exact fin H4 m2 k2 b2 zn.1
 ·refine EZ (t:=t3) (K:=[t,t3,t']) (m:=1) (t2:=t4) (X:=fun s' =>s' =s1) hE hs hm Su (by simp) (by simp) rfl zu hf ?_;rintro s' s2 E2 kn' H4 rfl - J1 m2 k2 b2;exact fin H4 m2 k2 b2 (by omega)
end
section
variable {T:Nat->Option dJ}{H:au}{s0 s s2:St}{so o la ta pl mp P Sh n lv tk i k Q Q' ko c mo ro p:Nat}{Ds:List D}{W WD F:Nat->Prop}{t:Nat}{d:D}{a:sQ}{tn:Int} {L L' :List Int}{wo t3 bm bt bw bk bs pm kp kn t4 vk sk dv most' x:Nat}{EE:List dY}{h v most:Int}
theorem D5 (hE:lC T)(hS:TS T)(jQ:s0.Ok)(cG:aX s0 so o la ta pl mp P Sh Ds n lv tk)(hKE:xC Q s0 Ds kp h EE)(wZ:ow Ds kp)
  (hG:GS s0 s mo so ro wo t t3 bm bt bw bk bs pm kp){K:List Nat}(hK:K=[t,t3]\/∃t',K=[t,t3,t'])(hm:gP s mo so kn 2 K.length ⟨0,false,0,0⟩ false false a tn ro L)(xM:gK s kn K)
  (zu:bX s t3 false 74 [.ptr bm 0,.ptr bt 0,.ptr bw 0,.ptr bk 0,.ptr bs 0]){told:Int}(FU:told=(i:Int) - 1)
  {s6:St}(b6:aH (fun j=>j=pm\/j=sk) s s6){s7:St}{d7:D}(run:Ev T H 75 [.ptr pm 0] s (d7,s7))(Ux:ue WD s6 pm dv sk most' EE h (kp:Nat) v told d7 s7)
  {dp dk:D}(gp:s.get pm=some (.var 226 dp))(gs:s.n<=sk\/s.get sk=some (.var 281 dk))
  (hL:L.length<=9000)(SI:0<=tn/\tn < 100000)(gR:1<=most)(zn:s0.n<=kn/\s0.n<=sk)(hW:∀j,WD j->j < s0.n)
  {E:Env}(D8:E.bM [0,1,4,5]=FS mo most 0){r:AC}{R:D->St->Prop}(hR:∀d s1,Ja s0 mo so kp dv most' WD EE h v i tn L.length d s1->R d s1):
  dR T H mr [.block 0,.seq r] ⟨E,[]⟩ s (QF NC.1.results R):=by
 have hh:∀e∈EE,e.h=h:=fun e he=>(hKE e he).1;have H5:2<=K.length/\K.length<=3/\K[0]? =some t/\K[1]? =some t3:=by
  rcases hK with rfl | ⟨t',rfl⟩ <;> exact ⟨by simp,by simp,rfl,rfl⟩
 rcases Ux with ⟨n,e,q1,q2,q3,rfl,q4,q5⟩ | ⟨n,e,q1,q2,q3,rfl,q4,q5⟩ | ⟨q1,rfl,q4,q5⟩
 ·have hn:=Kw hh (by omega) q1;obtain rfl:n=i:=by omega
  obtain⟨_,x,hx,UU,Rf⟩:=hKE e (bG q2);refine Ol (i:=n) (x:=x) (sk:=sk) hE hS jQ cG Rf wZ UU hG hK hm xM zu ⟨_,s7,run,by rw [← hx],q4,b6.trans q5⟩ gp gs hL SI gR zn hW D8 fun s1 hA=>hR _ _ (.inl ⟨e,x,q2,hx,rfl,hA⟩)
 ·obtain⟨_,x,hx,UU,Rf⟩:=hKE e (bG q2);exact absurd (by omega) UU
 ·have hn:=Kv hh (by omega) q1;refine Fs (WM:=fun j=>j=pm\/j=sk) hE hG ⟨H5.1,H5.2.1⟩ H5.2.2.1 H5.2.2.2 hm xM zu (sk:=sk) ⟨_,s7,run,rfl,b6.trans q5⟩ (fun j hj=>by rcases hj with q | q; exact .inl q; exact .inr (.inl q)) gp gs zn D8 fun s1 hA=>hR _ _ (.inr ⟨by omega,rfl,hA⟩)
theorem Qw (hE:lC T)(hS:TS T)(hT:TT T)(hW:TW T)(hV:TV T)(hP:TP T)(jQ:s0.Ok)(cG:aX s0 so o la ta pl mp P Sh Ds n lv tk){t2 bd bg bv wI dp vp:Nat}{m:Bool×List Nat}
  (hA:Vm s0 s mo so ko ro wo t t2 bt bw bd bg bk bv wI dv dp kp vp)(hm:gP s2 mo so ko 2 2 ⟨0,false,(p:Nat),0⟩ false false a 1 ro L)(hb:aH (fun j=>j=mo\/j=ro) s s2)
  (hp:Ds[p]? =some d)(hv:eK Q F s0 d (.int m))(hd:dQ WD s0 dv most' EE)(Sn:∀j,WD j->j < s0.n)(hK:xC Q' s0 Ds kp (fq m) EE)(hl:EE.length<=10000)(wZ:ow Ds kp)(gR:1<=most)(hL:L.length<=9000):
  bY T H 7 [.ptr mo 0,.int .i64 most] s2 (Ja s0 mo so kp dv most' WD EE (fq m) (vp:Nat) 0 1 L.length):=by
 obtain⟨zm,zk,zw,zt,zu,zx,zh,zb,zg⟩:=hA;have hs:=zb.ok;have jmo:=zg mo (by simp); have jro:=zg ro (by simp); have jko:=zg ko (by simp); have jt:=zg t (by simp); have jwo:=zg wo (by simp);have zb2:aH Nil s0 s2:=zb.trans' hb fun o q1 q2=>by rcases q1 with q1 | q1 <;> omega
 have o7:=hb.ok;have gm:=zm.gm; have gr:=zm.gr;obtain⟨st,kV,gk⟩:=zk;have bx:∀ {j:Nat} {y:Ab.Obj},s.get j=some y->(0,74)≠tag y->(1,3)≠tag y->j≠mo/\j≠ro:=fun {j y} hj y1 y2=>⟨fun q=>bj gm hj y1 q.symm,fun q=>bj gr hj y2 q.symm⟩
 have bg' :∀ {j:Nat} {y:Ab.Obj},s.get j=some y->(0,74)≠tag y->(1,3)≠tag y->s2.get j=some y:=fun {j y} hj y1 y2=>hb.get hs hj (by
  rintro (q | q)
  ·exact (bx hj y1 y2).1 q
  ·exact (bx hj y1 y2).2 q)
 have Uz:∀j,j∈ [bt,bw,bd,bg,bk,bv]->j≠mo/\j≠ro:=fun j hj=>by
  simp only [aN,bA,cJ]at hj;rcases hj with rfl | rfl | rfl | rfl | rfl | rfl
  ·exact bx zh.xt (by simp [tag]) (by simp [tag])
  ·exact bx zh.xw (by simp [tag]) (by simp [tag])
  ·exact bx zh.xd (by simp [tag]) (by simp [tag])
  ·exact bx zh.xg (by simp [tag]) (by simp [tag])
  ·exact bx zh.xk (by simp [tag]) (by simp [tag])
  ·exact bx zh.xv (by simp [tag]) (by simp [tag])
 refine CS hE hm fun E ZO=>kJ ZO ?_
 refine Yb (Q:=Q) (F:=F) (d:=d) (m:=m) hE hS hW hV hP jQ zb2 cG hp hv hd hm ⟨st,kV,bg' gk (by simp [tag]) (by simp [tag])⟩ (bg' zw (by simp [tag]) (by simp [tag])) (bg' zt (by simp [tag]) (by simp [tag])) (bg' zu (by simp [tag]) (by simp [tag])) (bg' zx (by simp [tag]) (by simp [tag])) (zh.dT hs hb fun j hj=>by rintro (q | q); exact (Uz j hj).1 q; exact (Uz j hj).2 q)
  ⟨jmo.1,jko.1,jt.1⟩ ⟨(bx zt (by simp [tag]) (by simp [tag])).1,bj zt gk (by simp [tag]),(bx zt (by simp [tag]) (by simp [tag])).2,bj gm gr (by simp [tag]),(bx gk (by simp [tag]) (by simp [tag])).1,(bx gk (by simp [tag]) (by simp [tag])).2,bj zt zw (by simp [tag]),bj gm zw (by simp [tag]),bj gk zw (by simp [tag])⟩ (fun j hj=>(Uz j hj).1) ?_
 intro s3 E3 t3 bm Du Dx Dp bs pm kn hE3 z3 m3 k3 zt3 Lv zg3 Gz zw3 J1 hj3 sE;have Ll:=z3.ok;have n02:=zb2.n;have cx:=fun j hj=>(hj3 j hj).1;have lt:t < s2.n:=o7.lt (bg' zt (by simp [tag]) (by simp [tag]))
 have hG:GS s0 s3 mo so ro wo t t3 bm Du Dx Dp bs pm kp:=⟨zw3,zt3,zg3,z3,fun j hj=>by
  simp only [aN,bA,cJ]at hj;rcases hj with rfl | rfl | rfl | rfl | hj
  ·exact jmo.1
  ·exact jro.1
  ·exact jwo.1
  ·exact jt.1
  ·have:=cx j (by simp only [aN,bA,cJ]; exact hj);omega,by have:=cx t3 (by simp); omega⟩
 have hpm:=cx pm (by simp);have n3:=z3.n;obtain⟨d7,s7,run,s6,b6,_,Ux⟩:=CR (H:=H) hT hP Ll (by omega) (hd.dT jQ z3 fun _ _ _ hh=>hh) (fun hw=>by have:=Sn _ hw; omega) (fun hw=>by have:=Sn _ hw; omega) Gz;exact D5 (i:=0) (sk:=s3.n) (K:=[t,t3]) (dk:= .dU) hE hS jQ cG hK wZ hG (.inl rfl) m3 k3 Lv (by omega) (b6.mono fun j hj=> .inl hj) run Ux Gz (.inl (aq _)) hL (by omega) gR ⟨by omega,n3⟩ Sn hE3 fun d s1 hh=>hh
theorem Qx (hE:lC T)(hS:TS T)(hT:TT T)(hP:TP T)(jQ:s0.Ok)(cG:aX s0 so o la ta pl mp P Sh Ds n lv tk){b:Bool}{e:dY}
  (hA:Vo s0 s mo so ro wo t t3 bm bt bw bk bs pm kp kn t4 vk sk dv most' WD EE h v i x tn L)(hm:gP s2 mo so kn 3 3 ⟨0,false,(p:Nat),0⟩ false false a tn ro L')(hb:aH (fun j=>j=mo\/j=ro) s s2)
  (hp:qq Ds p b)(Le:EE[i]? =some e)(Sn:∀j,WD j->j < s0.n)(hK:xC Q' s0 Ds kp h EE)(hl:EE.length<=10000)(wZ:ow Ds kp)(gR:1<=most)(hL:L'.length<=9000)(SI:0<=tn/\tn < 100000):
  bY T H 7 [.ptr mo 0,.int .i64 most] s2 fun d s1=>(b=true/\d= .agg [.int .i64 2,.int .i64 0,.int .i64 0,.int .i64 0,.int .i64 0,.bool true,.int .i64 e.v,.int .i64 0]/\LC s0 s1 mo so tn)\/(b=false/\Ja s0 mo so kp dv most' WD EE h v (i+1) tn L'.length d s1):=by
 obtain⟨zs,zm,zk,zu,zx,z4,zM,zn,n4⟩:=hA;obtain⟨zn1,zn2,zn3,zn4⟩:=zn;have hs:=zs.zb.ok;have hi:i < EE.length:=(aj.mp Le).1;have jmo:=zs.zj mo (by simp); have jro:=zs.zj ro (by simp); have jt:=zs.zj t (by simp); have jwo:=zs.zj wo (by simp); have jpm:=zs.zj pm (by simp); have jt3:=zs.zj t3 (by simp);have o7:=hb.ok;have gm:=zm.gm; have gr:=zm.gr;obtain⟨st,kV,gk⟩:=zk;obtain⟨dp,gp⟩:=zM.pm;obtain⟨dk,gs⟩:=zM.sk
 have bg' :∀ {j:Nat} {y:Ab.Obj},s.get j=some y->(0,74)≠tag y->(1,3)≠tag y->s2.get j=some y:=fun {j y} hj y1 y2=>hb.get hs hj (by
  rintro (q | q)
  ·exact bj gm hj y1 q.symm
  ·exact bj gr hj y2 q.symm)
 have e1:=zs.ne gm (by simp [tag]); have e2:=zs.ne gr (by simp [tag]);have hG2:GS s0 s2 mo so ro wo t t3 bm bt bw bk bs pm kp:=zs.dT hb (fun j hj=>by rintro (q | q); exact e1 j hj q; exact e2 j hj q) (by rintro j (q | q) <;> omega);have hM2:ji WD s2 pm dv sk most' EE h (kp:Nat) v 2 (i:Nat) (i:Nat):=zM.dT hs hb (fun j _ hw=>by have:=Sn j hw; rintro (q | q) <;> omega) (by rintro (q | q); exact bj gp gm (by simp [tag]) q; exact bj gp gr (by simp [tag]) q) (by rintro (q | q); exact bj gs gm (by simp [tag]) q; exact bj gs gr (by simp [tag]) q);have zx2:bX s2 t4 false _ _:=bg' zx (by simp [tag]) (by simp [tag]);have zu2:bX s2 t3 false _ _:=bg' zu (by simp [tag]) (by simp [tag]);have gk2:=bg' gk (by simp [tag]) (by simp [tag]);have gp2:=bg' gp (by simp [tag]) (by simp [tag]);have ZK:=bg' gs (by simp [tag]) (by simp [tag]);have sZ:=hm.gm;refine CS hE hm fun E ZO=>kJ ZO ?_;refine CK (t:=t4) (K:=[t,t3,t4]) (m:=2) (g1:=⟨0,b,0,0⟩) (X:=fun s' =>s' =s2) hE o7 (by omega) hm ⟨st,kV,gk2⟩ (by simp) (by simp) rfl zx2 ((T4 (H:=H) (h:=0) (y:=false) (e:=0) hE hS o7 (cG.dT jQ hG2.zb fun _ _ hh=>hh) hp hG2.zw (bg' z4 (by simp [tag]) (by simp [tag]))).mono ?_) ?_
 ·rintro d s3 ⟨rfl,rfl⟩;exact⟨rfl,o7,hm,⟨st,kV,gk2⟩,rfl⟩
 rintro s' s3 E3 hE3 rfl - m3 b3;have ok3:=b3.ok;have CZ:=m3.gm
 have bg3:∀ {j:Nat} {y:Ab.Obj},s'.get j=some y->(0,74)≠tag y->s3.get j=some y:=fun {j y} hj y1=>b3.get o7 hj (by
  intro q;exact bj sZ hj y1 q.symm)
 have Oo:GS s0 s3 mo so ro wo t t3 bm bt bw bk bs pm kp:=hG2.dT b3 (hG2.ne sZ (by simp [tag])) (by rintro j rfl; exact jmo);have hM3:ji WD s3 pm dv sk most' EE h (kp:Nat) v 2 (i:Nat) (i:Nat):=hM2.dT o7 b3 (fun j _ hw=>by have:=Sn j hw; omega) (bj gp2 sZ (by simp [tag])) (bj ZK sZ (by simp [tag]));have Lv:bX s3 t3 false _ _:=bg3 zu2 (by simp [tag]);have gk3:=bg3 gk2 (by simp [tag]);have Gz:=bg3 gp2 (by simp [tag]);have gs3:=bg3 ZK (by simp [tag]);have gr3:=m3.gr
 have npm:∀j,j∈ [bm,bt,bw,bk,bs,t3]->j≠pm:=fun j hj=>by
  simp only [aN,bA,cJ]at hj;rcases hj with rfl | rfl | rfl | rfl | rfl | rfl
  ·exact bj Oo.zg.xm Gz (by simp [tag])
  ·exact bj Oo.zg.xt Gz (by simp [tag])
  ·exact bj Oo.zg.xw Gz (by simp [tag])
  ·exact bj Oo.zg.xk Gz (by simp [tag])
  ·exact bj Oo.zg.xs Gz (by simp [tag])
  ·exact bj Lv Gz (by simp [tag])
 have hg:=JQ (H:=H) (h:=0) (same:=b) (v:=0) (e:=0) hE hP ok3 Oo.zg Lv hM3 npm ⟨fun hw=>by have:=Sn _ hw; omega,bj Lv gs3 (by simp [tag])⟩ (bj Lv Gz (by simp [tag]));refine kJ hE3 ?_;refine TA (t:=t3) (K:=[t,t3,t4]) (m:=1) (X:=fun s4=>bX s4 t3 false 74 [.ptr bm 0,.ptr bt 0,.ptr bw 0,.ptr bk 0,.ptr bs 0]/\ji WD s4 pm dv sk most' EE h (kp:Nat) v (if b then 3 else 1) (i:Nat) (i:Nat)/\aH (fun j=>j=pm\/j=t3) s3 s4) hE ok3 m3 ⟨st,kV,gk3⟩ (by simp) (by simp) rfl Lv (hg.mono ?_) ?_
 ·rintro d s4 ⟨rfl,y1,y2,y3⟩;exact⟨rfl,y3.ok,m3.dT ok3 y3 (by rintro (q | q); exact bj CZ Gz (by simp [tag]) q; exact bj CZ Lv (by simp [tag]) q) (by rintro (q | q); exact bj gr3 Gz (by simp [tag]) q; exact bj gr3 Lv (by simp [tag]) q),y1,y2,y3⟩
 rintro s4 s5 E5 Ys ⟨y1,y2,y3⟩ ok4 m5 b5;have b35:aH (fun j=>j=pm\/j=t3\/j=mo) s3 s5:=(y3.mono fun j hj=>by rcases hj with q | q; exact .inl q; exact .inr (.inl q)).trans (b5.mono fun j hj=> .inr (.inr hj));have ok5:=b5.ok
 have bg5:∀ {j:Nat} {y:Ab.Obj},s3.get j=some y->(0,74)≠tag y->(0,226)≠tag y->(0,118)≠tag y->s5.get j=some y:=fun {j y} hj z1 z2 z3=>b35.get ok3 hj (by
  rintro (q | q | q)
  ·exact bj Gz hj z2 q.symm
  ·exact bj Lv hj z3 q.symm
  ·exact bj CZ hj z1 q.symm)
 have f1:=Oo.ne Gz (by simp [tag]); have f2:=Oo.neT Lv Oo.nt; have f3:=Oo.ne CZ (by simp [tag]);have hG5:GS s0 s5 mo so ro wo t t3 bm bt bw bk bs pm kp:=Oo.dT b35 (fun j hj=>by rintro (q | q | q); exact f1 j hj q; exact f2 j hj q; exact f3 j hj q) (by rintro j (q | q | q) <;> omega);have WU:∃dm,s4.get mo=some (.var 74 dm):=⟨_,y3.get ok3 CZ (by rintro (q | q); exact bj CZ Gz (by simp [tag]) q; exact bj CZ Lv (by simp [tag]) q)⟩;obtain⟨dm,WU⟩:=WU;have zu5:bX s5 t3 false _ _:=b5.get ok4 y1 (bj y1 WU (by simp [tag]));obtain⟨dp4,gp4⟩:=y2.pm;obtain⟨dk4,gs4⟩:=y2.sk;have hM5:ji WD s5 pm dv sk most' EE h (kp:Nat) v (if b then 3 else 1) (i:Nat) (i:Nat):=y2.dT ok4 b5 (fun j _ hw=>by have:=Sn j hw; omega) (bj gp4 WU (by simp [tag])) (bj gs4 WU (by simp [tag]));have k5:gK s5 kn [t,t3,t4]:=⟨st,kV,bg5 gk3 (by simp [tag]) (by simp [tag]) (by simp [tag])⟩;obtain⟨dp5,gp5⟩:=hM5.pm;obtain⟨dk5,gs5⟩:=hM5.sk;cases b with
 | true=>
  have o9:=Hk (H:=H) hT hP ok5 hM5 Le;refine Fs (WM:=fun j=>j=pm) (sk:=sk) hE hG5 (K:=[t,t3,t4]) (by simp) rfl rfl m5 k5 zu5 (o9.mono fun d s1 hh=>⟨hh.1,hh.2.2⟩) (fun j hj=> .inl hj) gp5 (.inr gs5) ⟨zn1,zn2⟩ Ys fun s1 hh=> .inl ⟨rfl,rfl,hh⟩
 | false=>
  obtain⟨d7,s7,run,Ux⟩:=Hj (H:=H) hT hP ok5 (by omega) (by omega) hM5;exact D5 (i:=i+1) (sk:=sk) (K:=[t,t3,t4]) hE hS jQ cG hK wZ hG5 (.inr ⟨t4,rfl⟩) m5 k5 zu5 (by omega) (aH.refl ok5) run Ux gp5 (.inr gs5) hL SI gR ⟨zn1,zn2⟩ Sn Ys fun d s1 hh=> .inr ⟨rfl,hh⟩
end
def tI (g:Bool)(m:List Nat):Tm:=⟨14,false,g,false,m,[],true,[],true,true⟩
def jq (n:Nat):List Int:=(List.range n).flatMap fun (i:Nat)=> [(i:Int),(i:Int)]
def tD (n:Nat):Tm:=⟨7,false,false,true,[],[],Nat.beq n 0,jq n,false,false⟩
def tB:Tm:=⟨2,true,false,true,[],[],true,[],false,false⟩
def tN:Tm:=⟨1,false,false,true,[],[],true,[],false,false⟩
def tZ (g:Bool)(m:List Nat):Tm:=⟨3,false,g,false,m,[],true,[],false,false⟩
def o5 (n:Nat)(g:Bool)(m:List Nat):List Tm:=List.replicate (n+1) (tI g m)++ [tD n,tB,tN,tZ g m]
theorem tO (n:Nat):jq (n+1)=jq n++ [(n:Int),(n:Int)]:=by
 simp [jq,kO]
theorem nX (n:Nat):(jq n).length=2 * n:=by
 induction n with
 | zero=>rfl
 | succ n ih=>rw [tO,an,ih]; simp; omega
theorem zi:∀ {n i:Nat},i < n->(jq n)[2 * i]? =some (i:Int)/\(jq n)[2 * i+1]? =some (i:Int)
 | 0,i,h=>absurd h (jM i)
 | n+1,i,h=>by
  have qx:=nX n;rw [tO];by_cases hi:i < n
  ·obtain⟨h1,h2⟩:=zi hi;rw [aK (by omega),aK (by omega)];exact⟨h1,h2⟩
  ·obtain rfl:i=n:=by omega
   rw [aF (by omega),aF (by omega),qx,ef,show 2 * i+1 - 2 * i=1 by omega];exact⟨rfl,rfl⟩
theorem Ke {n:Nat}{k:Int}(h:k∈jq n):0<=k/\k < n:=by
 simp only [jq,List.mem_flatMap,oy,aN,bA,cJ]at h;obtain⟨i,h1,h2⟩:=h;omega
theorem Af {n:Nat}{g:Bool}{m:List Nat}:(o5 n g m).length=n+5:=by simp [o5]
theorem xW {n:Nat}{g:Bool}{m:List Nat}{i:Nat}(h:i<=n):(o5 n g m)[i]? =some (tI g m):=by
 rw [o5,aK (by rw [cM]; omega),k9,bQ (by omega)]
theorem vf {n:Nat}{g:Bool}{m:List Nat}(j:Nat):(o5 n g m)[n+1+j]? =[tD n,tB,tN,tZ g m][j]? :=by
 rw [o5,aF (by rw [cM]; omega),cM,show n+1+j - (n+1)=j by omega]
theorem Fv {n:Nat}{g:Bool}{m:List Nat}{i:Nat}{t:Tm}(h:(o5 n g m)[i]? =some t):(i<=n/\t=tI g m)\/(i=n+1/\t=tD n)\/(i=n+2/\t=tB)\/(i=n+3/\t=tN)\/(i=n+4/\t=tZ g m):=by
 have hl:=(aj.mp h).1;rw [Af]at hl;by_cases hi:i<=n
 ·rw [xW hi]at h; cases h; exact .inl ⟨hi,rfl⟩
 ·obtain⟨j,rfl⟩:∃j,i=n+1+j:=⟨i - (n+1),by omega⟩;rw [vf]at h;rcases (show j=0\/j=1\/j=2\/j=3 by omega) with rfl | rfl | rfl | rfl <;> cases h
  ·exact .inr (.inl ⟨rfl,rfl⟩)
  ·exact .inr (.inr (.inl ⟨rfl,rfl⟩))
  ·exact .inr (.inr (.inr (.inl ⟨rfl,rfl⟩)))
  ·exact .inr (.inr (.inr (.inr ⟨rfl,rfl⟩)))
theorem O8 (n:Nat):er (tD n)=iz (jq n):=by
 show (if (7:Int)=8\/(7:Int)=9 then _ else if (7:Int)=7 then iz (jq n) else [])=_;rw [aI (by omega),bQ rfl]
theorem zf (n:Nat):(er (tD n)).length=n:=by rw [O8,nU,nX]; omega
theorem Bn {n i:Nat}(h:i < n):(er (tD n))[i]? =some (i:Int):=by rw [O8,yJ]; exact (zi h).1
theorem T3 {n:Nat}{g:Bool}{m:List Nat}(hn:n<=40)(hm:m.length<=2)(hw:∀w∈m,w < 4294967296):LJ (o5 n g m):=by
 refine⟨by rw [Af]; omega,fun u hu=> ?_⟩;obtain⟨i,hi⟩:=ed hu;have hk:=nX n;rcases Fv hi with ⟨_,rfl⟩ | ⟨_,rfl⟩ | ⟨_,rfl⟩ | ⟨_,rfl⟩ | ⟨_,rfl⟩
 ·exact⟨⟨fun (h:false=true)=>(by cases h),fun _=>rfl,(show m.length<=60000 by omega),(show 0<=60000 by omega),(show 0<=20000 by omega)⟩,hw⟩
 ·refine⟨⟨fun _=>rfl,fun h=> ?_,(show 0<=60000 by omega),(show 0<=60000 by omega),(show (jq n).length<=20000 by omega)⟩,fun w h=>by cases h⟩;have:n=0:=ay h;subst this; exact (rfl:jq 0=[])
 ·exact⟨⟨fun _=>rfl,fun _=>rfl,(show 0<=60000 by omega),(show 0<=60000 by omega),(show 0<=20000 by omega)⟩,fun w h=>by cases h⟩
 ·exact⟨⟨fun _=>rfl,fun _=>rfl,(show 0<=60000 by omega),(show 0<=60000 by omega),(show 0<=20000 by omega)⟩,fun w h=>by cases h⟩
 ·exact⟨⟨fun (h:false=true)=>(by cases h),fun _=>rfl,(show m.length<=60000 by omega),(show 0<=60000 by omega),(show 0<=20000 by omega)⟩,hw⟩
theorem mS {tms:List Tm}{i:Nat}{t:Tm}(h1:mc t.kd)(h2:ox tms i t)(h3:t.kd≠4)(h4:vw t=false):ni tms i t=0:=by
 unfold ni;rw [aI (fun h=>h h1),aI (fun h=>h h2),aI (fun h=>h3 h.1),aI (by rw [h4]; simp)]
theorem qC {tms:List Tm}{i:Nat}{t:Tm}(h1:t.kids=[])(h2:t.kd=14\/t.kd=1\/t.kd=2\/t.kd=3):ox tms i t:=by
 refine⟨fun k hk=> ?_,fun k hk=> ?_, ?_⟩
 ·rw [h1]at hk; cases hk
 ·unfold er at hk;rw [aI (by omega),aI (by omega)]at hk; cases hk
 ·unfold ud;rw [aI (by omega),aI (by omega),aI (by omega)]; exact h1
theorem Hu {n:Nat}{g:Bool}{m:List Nat}(hm:m.length<=2){i:Nat}{t:Tm}(h:(o5 n g m)[i]? =some t):ni (o5 n g m) i t=0:=by
 rcases Fv h with ⟨_,rfl⟩ | ⟨rfl,rfl⟩ | ⟨_,rfl⟩ | ⟨_,rfl⟩ | ⟨_,rfl⟩
 ·exact mS (.inr (by show (14:Int)<=14/\(14:Int)<=17; omega)) (qC rfl (.inl rfl)) (by show (14:Int)≠4; omega) rfl
 ·refine mS (.inl (by show (1:Int)<=7/\(7:Int)<=9; omega)) ⟨fun k hk=> ?_,fun k hk=> ?_, ?_⟩ (by show (7:Int)≠4; omega) rfl
  ·have:=Ke (n:=n) hk;refine⟨this.1, ?_⟩;show k < (if (7:Int)=6 then _ else ((n+1:Nat)):Nat);rw [aI (by omega)]; omega
  ·obtain⟨j,hj⟩:=ed hk;have OD:=(aj.mp hj).1;rw [zf]at OD;rw [Bn OD]at hj;cases hj;exact⟨tI g m,by rw [aQ]; exact xW (by omega),.inr ⟨rfl,.inl rfl⟩⟩
  ·show (if (7:Int)=5\/(7:Int)=6\/(7:Int)=8\/(7:Int)=9 then True else if (7:Int)=7 then (jq n).length % 2=0 else _);rw [aI (by omega),bQ rfl,nX]; omega
 ·exact mS (.inl (by show (1:Int)<=2/\(2:Int)<=9; omega)) (qC rfl (.inr (.inr (.inl rfl)))) (by show (2:Int)≠4; omega) rfl
 ·exact mS (.inl (by show (1:Int)<=1/\(1:Int)<=9; omega)) (qC rfl (.inr (.inl rfl))) (by show (1:Int)≠4; omega) rfl
 ·refine mS (.inl (by show (1:Int)<=3/\(3:Int)<=9; omega)) (qC rfl (.inr (.inr (.inr rfl)))) (by show (3:Int)≠4; omega) ?_;have:=jx m;have h2:=qV (256 < (bV m).length);show (decide ((3:Int)=3) && decide (256 < (bV m).length))=false;rw [h2,Bool.and_false]
theorem Ht {n:Nat}{g:Bool}{m:List Nat}(hm:m.length<=2){e:Int}(h:wE (o5 n g m) e):e=0:=by
 rcases h with ⟨h,_⟩ | ⟨h,j,t,h1,h2,_⟩
 ·exact h
 ·rw [Hu hm h1]at h2; exact h2.symm
def LD:fE->Prop
 | .row .. =>True
 | _=>False
structure Pre (R:List Nat)(Vs:List fE)(k:Nat):Prop where
 ln:Vs.length=3+2 * R.length
 kk:k=2 * R.length
 at' :∀i,i < R.length->R[i]? =some (4+2 * i)/\Vs[4+2 * i]? =some (.inst (2 * i+2) (3+2 * i))/\Vs[3+2 * i]? =some (.cls (2 * i+1) true true)
 b3:rj Vs
 nr:∀v∈Vs, ¬ LD v
theorem Ew {n P:Nat}{g:Bool}{m:List Nat}:∀ {R:List Nat} {Vs:List fE} {k:Nat},qn P (o5 n g m) AQ 0 R Vs k->R.length<=n+1->Pre R Vs k
 | _,_,_,.nil,_=>⟨rfl,rfl,fun i hi=>absurd hi (jM i),⟨rfl,rfl,rfl⟩,fun v hv=>by
  simp only [AQ,aN,bA,cJ]at hv;rcases hv with rfl | rfl | rfl <;> exact fun h=>h⟩
 | _,_,_,.snoc (R:=R) (Vs:=Vs) (n:=k) h ht hm,hl=>by
  rw [an,aC]at hl;obtain⟨p1,p2,p3,p4,p5⟩:=Ew h (by omega);rw [xW (by omega)]at ht;cases ht;rcases hm with q | q | q | q | q | q | q | q <;> simp only [tI]at q <;> first | omega | skip
  refine⟨?_, ?_,fun i hi=> ?_,p4.app _,fun v hv=> ?_⟩
  ·rw [an,an,aC]; simp only [aT,b9]; omega
  ·rw [an,aC]; omega
  ·rw [an,aC]at hi;by_cases h1:i < R.length
   ·obtain⟨a1,a2,a3⟩:=p3 i h1;exact⟨mX a1,mX a2,mX a3⟩
   ·obtain rfl:i=R.length:=by omega
    refine⟨by rw [uI]; congr 1; omega, ?_, ?_⟩
    ·rw [aF (by omega),show 4+2 * R.length - Vs.length=1 by omega];show some (fE.inst (k+2) Vs.length)=_;rw [p1,p2]
    ·rw [aF (by omega),show 3+2 * R.length - Vs.length=0 by omega];show some (fE.cls (k+1) true true)=_;rw [p2]
  ·rcases cN.1 hv with h1 | h1
   ·exact p5 v h1
   ·simp only [aN,bA,cJ]at h1;rcases h1 with rfl | rfl <;> exact fun h=>h
theorem FF (g:Bool)(m:List Nat):fq (db g m)=fq (g,m):=by
 have h1:uW (db g m).2=uW m:=by unfold uW; rw [wW,kY]
 unfold fq;rw [h1];cases hm:bV m with
 | nil=>
  have h2:uW m=0:=by unfold uW; rw [hm]; rfl
  rw [h2];have e:IntKind.wrap .i64 (0 - 0)=0:=rfl;simp only [e,ite_self]
 | cons v W=>
  have:(db g m).1=g:=by unfold db; rw [hm]
  rw [this]
structure Uf (n:Nat)(g:Bool)(m:List Nat)(R:List Nat)(Vs:List fE)(E:List dY):Prop where
 ri:∀i,i<=n->R[i]? =some (4+2 * i)
 rd:R[n+1]? =some (2 * n+5)
 rb:R[n+2]? =some 2
 rn:R[n+3]? =some 0
 rz:R[n+4]? =some (2 * n+6)
 vi:∀i,i<=n->Vs[4+2 * i]? =some (.inst (2 * i+2) (3+2 * i))/\Vs[3+2 * i]? =some (.cls (2 * i+1) true true)
 vd:Vs[2 * n+5]? =some (.pC (2 * n+3) 7 E)
 vz:Vs[2 * n+6]? =some (.int (db g m))
 vb:rj Vs
 el:E.length=n
 ea:∀i,i < n->∃b,E[i]? =some ⟨fq (g,m),((4+2 * i:Nat):Int),((4+2 * i:Nat):Int),b⟩
 nr:∀v∈Vs, ¬ LD v
theorem Qb {n P:Nat}{g:Bool}{m:List Nat}{R:List Nat}{Vs:List fE}{k:Nat}(h:Pre R Vs k)(hl:R.length=n+1){i:Nat}(hi:i < n):(pA (o5 n g m) Vs (tD n) R n)[i]? =some (fq (g,m),4+2 * i,((4+2 * i:Nat):Int)):=by
 obtain⟨a1,a2,a3⟩:=h.at' i (by omega);have e1:(er (tD n)).getD i 0=(i:Int):=by rw [bZ,Bn hi]; rfl
 have e2:(tD n).kids.getD (2 * i+1) 0=(i:Int):=by
  show (jq n).getD (2 * i+1) 0=_;rw [bZ,(zi hi).2]; rfl
 have e3:R.getD i 0=4+2 * i:=by rw [bZ,a1]; rfl
 have e4:vN (o5 n g m) Vs R i=fq (g,m):=by
  unfold vN;rw [xW (show i<=n by omega),e3,a2];rfl
 rw [pA,aO,List.getElem?_range hi,dh,e1,e2,aQ,e3,e4];rw [bQ (show (tD n).kd=7 from rfl)]
theorem Pr {n P:Nat}{g:Bool}{m:List Nat}{R:List Nat}{Vs:List fE}{k:Nat}(h:qn P (o5 n g m) AQ 0 R Vs k)(hl:R.length=n+5)(hP:n<=P):∃E,Uf n g m R Vs E:=by
 cases h with
 | nil=>simp at hl
 | snoc h4 t4 m4=>
 rename_i R4 V4 k4 u4 W4 r4;rw [an,aC]at hl;cases h4 with
 | nil=>simp at hl
 | snoc h3 t3 m3=>
 rename_i R3 V3 k3 u3 W3 r3;rw [an,aC]at hl;cases h3 with
 | nil=>simp at hl
 | snoc h2 t2 m2=>
 rename_i R2 V2 k2 u2 W2 r2;rw [an,aC]at hl;cases h2 with
 | nil=>simp at hl
 | snoc h1 t1 m1=>
 rename_i R1 V1 k1 u1 W1 r1;rw [an,aC]at hl;have sS:R1.length=n+1:=by omega
 have hp:=Ew h1 (by omega);have e1:u1=tD n:=by
  rw [sS,show n+1=n+1+0 by omega,vf]at t1; cases t1; rfl
 have e2:u2=tB:=by
  rw [an,aC,sS,vf 1]at t2; cases t2; rfl
 have e3:u3=tN:=by
  rw [an,an,aC,aC,sS,show n+1+1+1=n+1+2 by omega,vf 2]at t3; cases t3; rfl
 have e4:u4=tZ g m:=by
  rw [an,an,an,aC,aC,aC,sS,show n+1+1+1+1=n+1+3 by omega,vf 3]at t4; cases t4; rfl
 subst e1; subst e2; subst e3; subst e4;rcases m1 with q | q | q | q | q | ⟨q,E,hk,UP⟩ | q | q <;> simp only [tD]at q <;> first | omega | skip
 rcases m2 with q2 | q2 | q2 | q2 | q2 | q2 | q2 | q2 <;> simp only [tB]at q2 <;> first | omega | skip
 rcases m3 with q3 | q3 | q3 | q3 | q3 | q3 | q3 | q3 <;> simp only [tN]at q3 <;> first | omega | skip
 rcases m4 with q4 | q4 | q4 | q4 | q4 | q4 | q4 | q4 <;> simp only [tZ]at q4 <;> first | omega | skip
 rw [zf]at UP;have FR:(pA (o5 n g m) V1 (tD n) R1 n).length=n:=by rw [pA,aY,lH]
 have YH:=fun {i:Nat} (hi:i < n)=>Qb (P:=P) (g:=g) (m:=m) hp sS hi
 have hpi:=BF UP (by omega) (fun x hx=>by
  obtain⟨i,hi⟩:=ed hx;have s9:=(aj.mp hi).1;rw [FR]at s9;rw [YH s9]at hi;cases hi;exact⟨_,_,(hp.at' i (by omega)).2.1⟩) (by
  have e:(pA (o5 n g m) V1 (tD n) R1 n).map (fun x=>x.2.1)=(List.range n).map fun i=>4+2 * i:=by
   refine iQ fun i=> ?_;rw [aO,aO];by_cases hi:i < n
   ·rw [YH hi,List.getElem?_range hi]; rfl
   ·rw [dK (by omega),dK (by rw [lH]; omega)]; rfl
  rw [e];exact List.pairwise_map.2 (List.nodup_range.imp fun h=>by omega))
 have ql:=hp.ln;refine⟨E, ?_⟩;have hV:∀ {j:Nat} {v:fE},V1[j]? =some v->(V1++ [fE.pC (k1+1) (tD n).kd.toNat E]++ []++ []++ [fE.int (db (tZ g m).ng (tZ g m).ft)])[j]? =some v:=fun h=>mX (mX (mX (mX h)));refine⟨fun i hi=> ?_, ?_, ?_, ?_, ?_,fun i hi=> ?_, ?_, ?_, ?_, ?_,fun i hi=> ?_,fun v hv=> ?_⟩
 ·exact mX (mX (mX (mX (hp.at' i (by omega)).1)))
 ·refine mX (mX (mX ?_));rw [aF (by omega),sS,ef];show some V1.length=_;rw [ql,sS]; congr 1; omega
 ·refine mX (mX ?_);rw [aF (by rw [an,aC]; omega),an,aC,sS,show n+2 - (n+1+1)=0 by omega];rfl
 ·refine mX ?_;rw [aF (by simp only [an,aC]; omega)];simp only [an,aC,sS,show n+3 - (n+1+1+1)=0 by omega];rfl
 ·rw [aF (by simp only [an,aC]; omega)];simp only [an,aC,sS,show n+4 - (n+1+1+1+1)=0 by omega,de];show some (V1.length+1)=_;rw [ql,sS]; congr 1; omega
 ·obtain⟨_,a2,a3⟩:=hp.at' i (by omega);exact⟨hV a2,hV a3⟩
 ·simp only [de];refine mX ?_;rw [aF (by omega),show 2 * n+5 - V1.length=0 by omega];show some (fE.pC (k1+1) 7 E)=_;rw [hp.kk,sS,show 2 * (n+1)+1=2 * n+3 by omega]
 ·simp only [de];rw [aF (by simp only [an,aC]; omega)];simp only [an,aC,show 2 * n+6 - (V1.length+1)=0 by omega];rfl
 ·exact ((((hp.b3.app _).app _).app _).app _)
 ·rw [hpi.1,FR]
 ·exact hpi.2 i _ (YH hi)
 ·simp only [de]at hv;rcases cN.1 hv with h1 | h1
  ·rcases cN.1 h1 with h1 | h1
   ·exact hp.nr v h1
   ·rw [eI.1 h1]; exact fun h=>h
  ·rw [eI.1 h1]; exact fun h=>h
theorem vH {R:List Nat}{tms:List Tm}{Vs:List fE}(h:∀v∈Vs, ¬ LD v):∀j,mW R tms Vs j=Vs
 | 0=>rfl
 | j+1=>by
  unfold mW;split
  ·rw [vH h j];unfold nJ;split
   ·rename_i hv;exact absurd trivial (h _ (bG hv))
   ·rfl
  ·exact vH h j
open Go Go.Ab
noncomputable section
def Jn:=RK.mk (a:=cf Tryz.f3 3) ⟨⟨[.tmp 8],
 .seq (.AL [o 8 (.mv (.c (.bool false)))])
 (.seq (.seq (.AL [m 20 0,o 21 (.bin .lss (.t 20) (.c (.int .i64 0))),m 22 21,w 23 (.mv (.t 0)) (22,false),w 24 (.bin .gtr (.t 23) (.c (.int .i64 40))) (22,false),o 25 (.pick (.t 22) (.c (.bool true)) (.t 24))])
 (.cond (.t 25)
 (.seq (.AL [o 26 (.call false 4 []),m 8 26]) (.ret)) (.skip)))
 (.seq (.AL [m 27 2,o 28 (.toInt .u64 (.t 27)),m 9 28])
 (.seq (.AL [m 29 2,o 30 (.bin .lss (.t 29) (.c (.int .i64 0))),m 10 30])
 (.seq (.seq (.AL [m 31 10])
 (.cond (.t 31) (.AL [m 32 9,o 33 (.un .neg (.t 32)),m 9 33]) (.skip)))
 (.seq (.AL [o 11 (.mv (.c (.vs true 0 [])))])
 (.seq (.AL [o 12 (.mv (.c (.vs true 0 [])))])
 (.seq (.seq (.AL [o 13 (.mv (.c (.int .i64 0)))])
 (.block 0
 (.loop [0,1,3,9,10,11,12,13]
 (.seq (.seq (.AL [m 34 13,m 35 0,o 36 (.bin .leq (.t 34) (.t 35))])
 (.cond (.t 36) (.skip) (.exit 0)))
 (.seq (.block 1
 (.seq (.AL [m 39 11,m 40 10,m 41 9,o 42 (.toInt .u32 (.t 41)),m 43 9,o 44 (.bin .shr (.t 43) (.c (.int .u64 32))),o 45 (.toInt .u32 (.t 44)),o 46 (.pP 1 (.int .u32 0) 2 [(0,.t 42),(1,.t 45)]),o 47 (.build [.bool false,
 .vs true 0 []] [(0,1,.t 40),(1,1,.t 46)]),o 48 (.build [.int .i64 0,.bool false,.bool false,.vs true 0 [],.str [],.vs true 0 [],.bool false,.bool false] [(0,1,.c (.int .i64 14)),(2,2,.t 47),(6,1,.c (.bool true)),
 (7,1,.c (.bool true))]),o 49 (.pP 8 (.agg [.int .i64 0,.bool false,.bool false,.vs true 0 [],.str [],.vs true 0 [],.bool false,.bool false]) 1 [(0,.t 48)]),o 50 (.append 8 96 32 (.t 39) (.t 49)),m 11 50])
 (.seq (.AL [m 51 13,m 52 0,o 53 (.bin .lss (.t 51) (.t 52))])
 (.cond (.t 53) (.AL [m 54 12,m 55 13,m 56 13,o 57 (.pP 1 (.int .i64 0) 2 [(0,.t 55),(1,.t 56)]),o 58 (.append 1 8 3 (.t 54) (.t 57)),m 12 58]) (.skip))))) (.AL [m 37 13,o 38 (.bin .add (.t 37) (.c (.int .i64 1))),
 m 13 38]))))))
 (.seq (.AL [m 59 11,m 60 12,o 61 (.build [.int .i64 0,.bool false,.bool false,.vs true 0 [],.str [],.vs true 0 [],.bool false,.bool false] [(0,1,.c (.int .i64 7)),(5,1,.t 60)]),o 62 (.build [.int .i64 0,.bool false,
 .bool false,.vs true 0 [],.str [],.vs true 0 [],.bool false,.bool false] [(0,1,.c (.int .i64 2)),(1,1,.c (.bool true))]),o 63 (.build [.int .i64 0,.bool false,.bool false,.vs true 0 [],.str [],.vs true 0 [],
 .bool false,.bool false] [(0,1,.c (.int .i64 1))]),m 64 11,o 65 (.oP 8 (.t 64) (.c (.int .i64 0))),o 66 (.wU 2 (.t 65)),o 67 (.load (some 2) (.t 66)),o 68 (.build [.int .i64 0,.bool false,.bool false,.vs true 0 [],
 .str [],.vs true 0 [],.bool false,.bool false] [(0,1,.c (.int .i64 3)),(2,2,.t 67)]),o 69 (.pP 8 (.agg [.int .i64 0,.bool false,.bool false,.vs true 0 [],.str [],.vs true 0 [],.bool false,.bool false]) 4 [(0,
 .t 61),(1,.t 62),(2,.t 63),(3,.t 68)]),o 70 (.append 8 96 32 (.t 59) (.t 69)),m 11 70])
 (.seq (.AL [m 72 11,o 73 (.call false 5 [.t 72]),m 71 73,o 74 (.extract 0 (.t 71)),o 75 (.extract 1 (.t 71)),o 76 (.extract 2 (.t 71)),m 14 74,m 15 75,m 16 76])
 (.seq (.seq (.AL [m 77 16,o 78 (.un .not (.t 77)),m 79 78,w 80 (.mv (.t 14)) (79,false),w 81 (.eq (.ptr) false true (.t 80) (.c (.dU))) (79,false),o 82 (.pick (.t 79) (.c (.bool true)) (.t 81))])
 (.cond (.t 82)
 (.seq (.AL [o 8 (.mv (.c (.bool false)))]) (.ret)) (.skip)))
 (.seq (.seq (.AL [m 83 3,o 84 (.bin .lss (.t 83) (.c (.int .i64 1))),m 85 84,w 86 (.mv (.t 3)) (85,false),w 87 (.bin .gtr (.t 86) (.c (.int .i64 100))) (85,false),o 88 (.pick (.t 85) (.c (.bool true)) (.t 87))])
 (.cond (.t 88) (.AL [o 3 (.mv (.c (.int .i64 100)))]) (.skip)))
 (.seq (.yF 0 [(m 89 14,[]),(m 90 15,[]),(m 91 0,[]),(o 92 (.bin .add (.t 91) (.c (.int .i64 1))),[]),(o 93 (.oP 1 (.t 90) (.t 92)),[]),(o 94 (.load none (.t 93)),[]),(m 95 15,[]),(m 96 0,[]),(o 97 (.oP 1 (.t 95) (.t 96)),
 []),(o 98 (.load none (.t 97)),[]),(m 99 15,[]),(o 100 (.oP 1 (.t 99) (.c (.int .i64 0))),[]),(o 101 (.load none (.t 100)),[]),(o 102 (.call false 6 [.t 89,.t 94,.c (.int .i64 1),.t 98,.t 101]),[]),(m 17 102,
 [])])
 (.seq (.seq (.AL [m 103 17,o 104 (.eq (.ptr) false true (.t 103) (.c (.dU)))])
 (.cond (.t 104)
 (.seq (.AL [o 8 (.mv (.c (.bool false)))]) (.ret)) (.skip)))
 (.seq (.AL [m 105 17,m 106 3,o 107 (.call false 7 [.t 105,.t 106]),o 18 (.mZ (.c (.agg [.int .i64 0,.int .i64 0,.int .i64 0,.int .i64 0,.int .i64 0,.bool false,.int .i64 0,.int .i64 0]))),⟨none,.iX 18 8 (.t 18) (.t 107),
 none,none⟩])
 (.seq (.seq (.yF 0 [(o 108 (.tf 18 (some 8) (.t 18)),[]),(m 109 15,[]),(m 110 0,[]),(o 111 (.oP 1 (.t 109) (.t 110)),[]),(o 112 (.load none (.t 111)),[]),(o 113 (.build [.int .i64 0,.int .i64 0,.int .i64 0,
 .int .i64 0,.int .i64 0,.bool false,.int .i64 0,.int .i64 0] [(0,1,.c (.int .i64 1)),(1,1,.c (.int .i64 1)),(2,1,.t 112)]),[]),(o 114 (.eq (.st (.cons 0 none (.int) (.cons 1 none (.int) (.cons 2 none (.int) (.cons 3 none (.int) (.cons 4 none (.int) (.cons 5 none (.bool) (.cons 6 none (.int) (.cons 7 none (.int) (.nil)))))))))) true false (.t 108) (.t 113)),
 []),(m 115 114,[]),(w 116 (.mv (.t 17)) (115,false),[]),(w 117 (.mv (.t 15)) (115,false),[]),(w 118 (.mv (.t 0)) (115,false),[]),(w 119 (.bin .add (.t 118) (.c (.int .i64 4))) (115,false),[]),(w 120 (.oP 1 (.t 117) (.t 119)) (115,
 false),[]),(w 121 (.load none (.t 120)) (115,false),[]),(w 122 (.call false 8 [.t 116,.t 121]) (115,false),[]),(w 123 (.bin .neq (.t 122) (.c (.int .i64 0))) (115,false),[]),(o 124 (.pick (.t 115) (.c (.bool true)) (.t 123)),
 [])])
 (.cond (.t 124)
 (.seq (.AL [o 8 (.mv (.c (.bool false)))]) (.ret)) (.skip)))
 (.seq (.seq (.AL [o 19 (.mv (.c (.int .i64 0)))])
 (.block 2
 (.loop [0,1,3,15,17,18,19]
 (.seq (.seq (.AL [m 125 19,m 126 0,o 127 (.bin .lss (.t 125) (.t 126))])
 (.cond (.t 127) (.skip) (.exit 2)))
 (.seq (.block 3
 (.seq (.AL [m 130 17,m 131 3,o 132 (.call false 7 [.t 130,.t 131]),⟨none,.iX 18 8 (.t 18) (.t 132),none,none⟩])
 (.seq (.seq (.yF 0 [(o 133 (.tf 18 (some 8) (.t 18)),[]),(m 134 15,[]),(m 135 19,[]),(o 136 (.oP 1 (.t 134) (.t 135)),[]),(o 137 (.load none (.t 136)),[]),(m 138 15,[]),(m 139 0,[]),(o 140 (.oP 1 (.t 138) (.t 139)),
 []),(o 141 (.load none (.t 140)),[]),(o 142 (.build [.int .i64 0,.int .i64 0,.int .i64 0,.int .i64 0,.int .i64 0,.bool false,.int .i64 0,.int .i64 0] [(0,1,.c (.int .i64 1)),(1,1,.c (.int .i64 2)),(2,1,.t 137),
 (3,1,.t 141)]),[]),(o 143 (.eq (.st (.cons 0 none (.int) (.cons 1 none (.int) (.cons 2 none (.int) (.cons 3 none (.int) (.cons 4 none (.int) (.cons 5 none (.bool) (.cons 6 none (.int) (.cons 7 none (.int) (.nil)))))))))) true false (.t 133) (.t 142)),
 [])])
 (.cond (.t 143)
 (.seq (.AL [o 8 (.mv (.c (.bool false)))]) (.ret)) (.skip)))
 (.seq (.seq (.AL [m 144 19,m 145 1,o 146 (.bin .eql (.t 144) (.t 145))])
 (.cond (.t 146)
 (.seq (.AL [m 147 17,m 148 15,m 149 0,o 150 (.bin .add (.t 149) (.c (.int .i64 2))),o 151 (.oP 1 (.t 148) (.t 150)),o 152 (.load none (.t 151)),o 153 (.call false 8 [.t 147,.t 152])])
 (.seq (.AL [m 154 17,m 155 3,o 156 (.call false 7 [.t 154,.t 155]),⟨none,.iX 18 8 (.t 18) (.t 156),none,none⟩])
 (.seq (.yF 0 [(o 157 (.tf 18 (some 8) (.t 18)),[]),(m 158 15,[]),(m 159 19,[]),(o 160 (.oP 1 (.t 158) (.t 159)),[]),(o 161 (.load none (.t 160)),[]),(o 162 (.build [.int .i64 0,.int .i64 0,.int .i64 0,
 .int .i64 0,.int .i64 0,.bool false,.int .i64 0,.int .i64 0] [(0,1,.c (.int .i64 2)),(5,1,.c (.bool true)),(6,1,.t 161)]),[]),(o 163 (.eq (.st (.cons 0 none (.int) (.cons 1 none (.int) (.cons 2 none (.int) (.cons 3 none (.int) (.cons 4 none (.int) (.cons 5 none (.bool) (.cons 6 none (.int) (.cons 7 none (.int) (.nil)))))))))) false false (.t 157) (.t 162)),
 []),(m 164 163,[]),(w 165 (.mv (.t 17)) (164,true),[]),(w 166 (.call false 9 [.t 165]) (164,true),[]),(w 167 (.mv (.t 19)) (164,true),[]),(w 168 (.bin .add (.t 167) (.c (.int .i64 2))) (164,true),[]),(w 169 (.bin .eql (.t 166) (.t 168)) (164,
 true),[]),(o 170 (.pick (.t 164) (.t 169) (.c (.bool false))),[]),(m 171 170,[]),(w 172 (.call false 4 []) (171,true),[]),(o 173 (.pick (.t 171) (.t 172) (.c (.bool false))),[]),(m 8 173,[])]) (.ret)))) (.skip))) (.AL [m 174 17,
 m 175 15,m 176 0,o 177 (.bin .add (.t 176) (.c (.int .i64 3))),o 178 (.oP 1 (.t 175) (.t 177)),o 179 (.load none (.t 178)),o 180 (.call false 8 [.t 174,.t 179])]))))) (.AL [m 128 19,o 129 (.bin .add (.t 128) (.c (.int .i64 1))),
 m 19 129]))))))
 (.seq (.AL [m 181 17,m 182 3,o 183 (.call false 7 [.t 181,.t 182]),⟨none,.iX 18 8 (.t 18) (.t 183),none,none⟩])
 (.seq (.AL [o 184 (.wU 0 (.t 18)),o 185 (.tf 18 none (.t 184)),o 186 (.bin .eql (.t 185) (.c (.int .i64 2))),m 187 186,w 188 (.wU 5 (.t 18)) (187,true),w 189 (.tf 18 none (.t 188)) (187,true),w 190 (.un .not (.t 189)) (187,
 true),o 191 (.pick (.t 187) (.t 190) (.c (.bool false))),m 192 191,w 193 (.mv (.t 17)) (192,true),w 194 (.call false 9 [.t 193]) (192,true),w 195 (.mv (.t 0)) (192,true),w 196 (.bin .add (.t 195) (.c (.int .i64 1))) (192,
 true),w 197 (.bin .eql (.t 194) (.t 196)) (192,true),o 198 (.pick (.t 192) (.t 197) (.c (.bool false))),m 199 198,w 200 (.call false 4 []) (199,true),o 201 (.pick (.t 199) (.t 200) (.c (.bool false))),m 8 201]) (.ret)))))))))))))))))))⟩,by kernel_rfl⟩
def cd5:=RK.mk (a:=cf Tryz.f5 5)
def Y3:=RK.mk (a:=cf Tryz.f11 11)
end
structure TQ (T:Nat->Option dJ):Prop where
 t3:T 3=some Jn.1
 t5:T 5=some cd5.1
 t11:T 11=some Y3.1
end Go.Proofs.Tab
