/- Part. -/
import Derived.Test.YtjaldhgmboeffaaGreatDoorG40
set_option linter.unusedSimpArgs false
set_option linter.unusedVariables false
set_option linter.unusedSectionVars false
set_option maxRecDepth 100000
set_option maxHeartbeats 2000000
namespace Go.Proofs.Tab
open Go Go.Ab Go.Ab.Sm
section
variable {T:Nat->Option dU}{H:ay}{s:St}{wo oL cm P Sh:Nat}{last:Int}{L:List D}{tms:List Tm}{nz:Bool}
theorem Tm.st (t:Tm):t.d.st=true:=rfl
theorem Pn (hS:mz T){c:Bool}:cu T H 125 [.bool c] s fun d s1=>d= .int .i64 (if c then 2 else 1)/\s1=s:=by
 refine ax hS.t125 ?_;cases c
 ·try refine go ?_
  exact ai ⟨rfl,rfl⟩
 ·try refine go ?_
  exact ai ⟨rfl,rfl⟩
theorem AM (hT:nB T)(hS:mz T){t:Tm}{v:Nat}(hs:s.Ok)(h:jT s wo oL cm P Sh last L)(ho:t.Ok)(hv:v < L.length):cu T H 132 [t.d,.ptr wo 0,.int .i64 (v:Nat)] s fun d s1=>(∃(n:Int) (c:Bool),d= .gK [.int .i64 n,.bool c])/\aF Nil s s1:=by
 have gw:=h.go;obtain⟨st,gl,dN⟩:=h.gl;have Ct :=h.at (ab hv);have Cq:=mR (H:=H) hT hS hs Ct;have pB:=Ct.st;obtain⟨kd',num',b',ng',mag',tx',items',dd',cls',base',fo',sp',of',RQ,ss',V',he,FZ,xr⟩:=Ct;rw [he]at Cq pB;have oM:L[0+v]? =some (rv kd' num' b' ng' mag' tx' items' dd' cls' base' fo' sp' of' RQ ss'):=by rw [aN,ab hv,he]
 have Eb:=ho.tx; have hmg:=ho.mag; have zA:=ho.n1;obtain⟨kd,b,ng,n1,mag,tx,n2,kids,hh,sm⟩:=t;have GJ:(Tm.mk kd b ng n1 mag tx n2 kids hh sm).d.st=true:=rfl;simp only at Eb hmg zA;refine ax hS.t132 ?_;refine run_seq ?_;refine mb ?_;refine j8 GJ ?_;by_cases k1:kd=1
 ·subst k1;try refine go ?_
  refine ak (Hc hT hs (.inr (.inr rfl))) ?_;rintro d s1 ⟨⟨n,hn,qV⟩,b1⟩;have hw:=vE (H:=H) hT hn (by omega);have mE:=hn.st;obtain⟨y,rfl,hy⟩:=hn;try refine go ?_
  refine ak hw ?_;rintro d s2 ⟨rfl,⟨q,rfl⟩⟩;try refine go ?_
  exact ai ⟨⟨_,_,rfl⟩,b1⟩
 have e1:(kd==1)=false:=by simpa using k1
 by_cases k2:kd=2\/kd=3
 ·have xo:∀kd,kd=2\/kd=3->True:=fun _ _=>trivial;rcases k2 with rfl | rfl
  all_goals
   try refine go ?_
   refine ak Cq ?_;rintro d s1 ⟨⟨n,hn,qV⟩,b1⟩;have hw:=vE (H:=H) hT hn (by omega);have mE:=hn.st;obtain⟨y,rfl,hy⟩:=hn;try refine go ?_
   refine ak hw ?_;rintro d s2 ⟨rfl,⟨q,rfl⟩⟩;try refine go ?_
   exact ai ⟨⟨_,_,rfl⟩,b1⟩
 have e2:(kd==2)=false:=by simpa using fun e=>k2 (.inl e)
 have e3:(kd==3)=false:=by simpa using fun e=>k2 (.inr e)
 by_cases k4:kd=4
 ·subst k4;try refine go ?_
  refine ak (OS (l:=tx) hT (by omega)) ?_;rintro d s2 ⟨rfl,⟨q,rfl⟩⟩;try refine go ?_
  exact ai ⟨⟨_,_,rfl⟩,aF.refl hs⟩
 have e4:(kd==4)=false:=by simpa using k4
 by_cases XM:kd=14
 ·subst XM;cases hh
  ·try refine go ?_
   refine aX (Gr hT) ?_;rintro d s2 ⟨rfl,⟨q,rfl⟩⟩;refine⟨rfl,by simp [lost,eQ.kind,cK,dE,cF,aI,bC,bC.cW,gk,bP.ev,Env.get,cS,D.flat,D.isAgg,cP,D.fw,D.beq,aA,Obj.aW,bE,br,D.bW,D.aW,gw,gl], ?_⟩;try refine go ?_
   exact ai ⟨⟨_,_,rfl⟩,aF.refl hs⟩
  ·try refine go ?_
   refine ak (vE (n:=(ng,mag)) hT ⟨_,rfl,.vs n1 mag zA⟩ (by simpa using hmg)) ?_;rintro d s2 ⟨rfl,⟨q,rfl⟩⟩;try refine go ?_
   exact ai ⟨⟨_,_,rfl⟩,aF.refl hs⟩
 have X4:(kd==14)=false:=by simpa using XM
 try refine go ?_
 exact ai ⟨⟨_,_,rfl⟩,aF.refl hs⟩
theorem Ml (hT:nB T)(hS:mz T){i j:Nat}{t u:Tm}(hs:s.Ok)(hi:tms[i]? =some t)(hj:tms[j]? =some u)(ht:t.Ok)(hu:u.Ok):cu T H 183 [.vs nz 8 (tms.map Tm.d),.int .i64 (i:Nat),.int .i64 (j:Nat)] s fun d s1=>(∃c,d= .bool c/\(i=j->c=true))/\aF Nil s s1:=by
 have hi' :=ej hi;have V9 :=ej hj;have q1:=ht.mag; have q2:=ht.n1; have q3:=hu.mag; have q4:=hu.n1;obtain⟨kd,b,ng,n1,mag,tx,n2,kids,hh,sm⟩:=t;obtain⟨kd',b',ng',Sl,mag',tx',Vb,kids',RQ,sm'⟩:=u;have mE:(Tm.mk kd b ng n1 mag tx n2 kids hh sm).d.st=true:=rfl;have tJ:(Tm.mk kd' b' ng' Sl mag' tx' Vb kids' RQ sm').d.st=true:=rfl;simp only at q1 q2 q3 q4;refine ax hS.t183 ?_;have hn:=fun (p:St) (okp:p.Ok)=>mR (H:=H) (d:=rv kd 0 b ng (.vs n1 1 (dz mag)) [] (.vs true 0 []) .cz 0 0 .cz .cz 0 false false) hT hS okp (kR (.vs n1 mag q2) q1);have Fm :=fun (p:St) (okp:p.Ok)=>mR (H:=H) (d:=rv kd' 0 b' ng' (.vs Sl 1 (dz mag')) [] (.vs true 0 []) .cz 0 0 .cz .cz 0 false false) hT hS okp (kR (.vs Sl mag' q4) q3);have c1:kd=3\/kd=2\/((kd==3)=false/\(kd==2)=false):=by
  simp only [bJ]; omega
 have c2:kd' =3\/kd' =2\/((kd' ==3)=false/\(kd' ==2)=false):=by
  simp only [bJ]; omega
 by_cases nO:i=j
 ·subst nO;have hji:((i:Int)==(i:Int))=true:=by simp
  rcases c1 with rfl | rfl | ⟨a3,a2⟩ <;> rcases c2 with rfl | rfl | ⟨b3,b2⟩
  all_goals
   try refine go ?_
   exact ai ⟨⟨_,rfl,fun _=>rfl⟩,aF.refl hs⟩
 have cE:((i:Int)==(j:Int))=false:=by simp only [bJ]; omega
 have lZ:aL=2147483648:=rfl;have hd:∀(x:Int),(x==3)=true->x=3:=fun x h=>by simpa using h
 by_cases hpq:(kd=3\/kd=2)/\(kd' =3\/kd' =2)
 ·obtain⟨r1,r2⟩:=hpq;rcases r1 with rfl | rfl <;> rcases r2 with rfl | rfl
  all_goals
   try refine go ?_
   refine aX (hn s hs) ?_;rintro d p ⟨⟨n1,zA,sq⟩,b7⟩;obtain⟨y1,rfl,w7⟩:=zA;have ok7:=b7.ok;refine⟨rfl,by simp [lost,eQ.kind,cK,dE,cF,aI,bC,bC.cW,gk,bP.ev,Env.get,cS,D.flat,D.isAgg,cP,D.fw,D.beq,aA,Obj.aW,bE,br,D.bW,D.aW,cB], ?_⟩;try refine go ?_
   refine aX (Fm p b7.ok) ?_;rintro d p2 ⟨⟨n2,hn3,hl3⟩,b8⟩;obtain⟨y3,rfl,hy3⟩:=hn3;have ok8:=b8.ok;refine⟨rfl,by simp [lost,eQ.kind,cK,dE,cF,aI,bC,bC.cW,gk,bP.ev,Env.get,cS,D.flat,D.isAgg,cP,D.fw,D.beq,aA,Obj.aW,bE,br,D.bW,D.aW,cB], ?_⟩;try refine go ?_
   refine aX (wT (n:=n1) (m:=n2) hT b8.ok ⟨y1,rfl,w7.dK b7.ok b8 fun _ _ _ _=>id⟩ ⟨y3,rfl,hy3⟩ (by omega) (by omega)) ?_;rintro d p3 ⟨⟨r,rfl⟩,b9⟩;have ok9:=b9.ok;refine⟨rfl,by simp [lost,eQ.kind,cK,dE,cF,aI,bC,bC.cW,gk,bP.ev,Env.get,cS,D.flat,D.isAgg,cP,D.fw,D.beq,aA,Obj.aW,bE,br,D.bW,D.aW,cB], ?_⟩;try refine go ?_
   exact ai ⟨⟨_,rfl,fun h=>absurd h nO⟩,(b7.trans b8).trans b9⟩
 rcases c1 with rfl | rfl | ⟨a3,a2⟩
 ·rcases c2 with rfl | rfl | ⟨b3,b2⟩
  ·exact absurd ⟨.inl rfl,.inl rfl⟩ hpq
  ·exact absurd ⟨.inl rfl,.inr rfl⟩ hpq
  ·have g:((3:Int) !=kd')=true:=by simp only [bJ]at b3; simp only [bne_iff_ne]; omega
   try refine go ?_
   exact ai ⟨⟨_,rfl,fun h=>absurd h nO⟩,aF.refl hs⟩
 ·rcases c2 with rfl | rfl | ⟨b3,b2⟩
  ·exact absurd ⟨.inr rfl,.inl rfl⟩ hpq
  ·exact absurd ⟨.inr rfl,.inr rfl⟩ hpq
  ·have g:((2:Int) !=kd')=true:=by simp only [bJ]at b2; simp only [bne_iff_ne]; omega
   try refine go ?_
   exact ai ⟨⟨_,rfl,fun h=>absurd h nO⟩,aF.refl hs⟩
 ·have Ih:∀b:Bool,((kd==1)=b)->(kd !=kd')=true\/(kd !=kd')=false:=fun b _=>by cases (kd !=kd') <;> simp
  rcases c2 with rfl | rfl | ⟨b3,b2⟩
  ·have g:(kd !=(3:Int))=true:=by simp only [bJ]at a3; simp only [bne_iff_ne]; omega
   try refine go ?_
   exact ai ⟨⟨_,rfl,fun h=>absurd h nO⟩,aF.refl hs⟩
  ·have g:(kd !=(2:Int))=true:=by simp only [bJ]at a2; simp only [bne_iff_ne]; omega
   try refine go ?_
   exact ai ⟨⟨_,rfl,fun h=>absurd h nO⟩,aF.refl hs⟩
  ·cases g:(kd !=kd')
   ·cases g14:(kd==14)
    ·cases g1:(kd==1)
     ·try refine go ?_
      exact ai ⟨⟨_,rfl,fun h=>absurd h nO⟩,aF.refl hs⟩
     ·try refine go ?_
      exact ai ⟨⟨_,rfl,fun h=>absurd h nO⟩,aF.refl hs⟩
    ·try refine go ?_
     exact ai ⟨⟨_,rfl,fun h=>absurd h nO⟩,aF.refl hs⟩
   ·try refine go ?_
    exact ai ⟨⟨_,rfl,fun h=>absurd h nO⟩,aF.refl hs⟩
end
@[reducible] def OD (num:Int):D:=rv 6 num false false (.vs true 0 []) [] (.vs true 0 []) .cz 0 0 .cz .cz 0 false false
def HN (s:St)(wo oL cm P Sh:Nat)(L:List D)(kd:Int)(d:D)(s1:St):Prop:=
 ∃(r:Nat) (last' :Int) (M:List D),d= .int .i64 (r:Nat)/\jT s1 wo oL cm P Sh last' (L++M)/\r < (L++M).length/\M.length<=2/\(kd=6->r=L.length/\∃num,M=[OD num])/\aF (zl wo oL cm) s s1
section
variable {T:Nat->Option dU}{H:ay}{s:St}{wo oL cm P Sh i:Nat}{last:Int}{L:List D}{tms:List Tm}{nz:Bool}{t:Tm}{x:D}{R:List Nat}
theorem GL (hT:nB T)(hR:nK T)(hS:mz T)(hs:s.Ok)(h:jT s wo oL cm P Sh last L)(hi:tms[i]? =some t)(ho:t.Ok)(hk:t.kd=1)(PF:3<=L.length)(hL:L.length<=1000000)(hx:x= .vs true 0 []\/∃o n,x= .sl o 0 n n):
  cu T H 70 [.ptr wo 0,.vs nz 8 (tms.map Tm.d),x,.int .i64 (i:Nat)] s (HN s wo oL cm P Sh L t.kd):=by
 have hi' :=ej hi;have q1:=ho.mag; have q2:=ho.n1; have q3:=ho.tx;obtain⟨kd,b,ng,n1,mag,tx,n2,kids,hh,sm⟩:=t;have mE:(Tm.mk kd b ng n1 mag tx n2 kids hh sm).d.st=true:=rfl;simp only at hk q1 q2 q3; subst hk;rcases hx with rfl | ⟨o,n,rfl⟩
 all_goals
  refine ax hS.t70 ?_;try refine go ?_
  exact ai ⟨0,last,[],rfl,by simpa using h,by simp; omega,by simp,fun h=>by simp at h,aF.refl hs⟩
theorem FG (hT:nB T)(hR:nK T)(hS:mz T)(hs:s.Ok)(h:jT s wo oL cm P Sh last L)(hi:tms[i]? =some t)(ho:t.Ok)(hk:t.kd=2)(PF:3<=L.length)(hL:L.length<=1000000)(hx:x= .vs true 0 []\/∃o n,x= .sl o 0 n n):
  cu T H 70 [.ptr wo 0,.vs nz 8 (tms.map Tm.d),x,.int .i64 (i:Nat)] s (HN s wo oL cm P Sh L t.kd):=by
 have hi' :=ej hi;have q1:=ho.mag; have q2:=ho.n1; have q3:=ho.tx;obtain⟨kd,b,ng,n1,mag,tx,n2,kids,hh,sm⟩:=t;have mE:(Tm.mk kd b ng n1 mag tx n2 kids hh sm).d.st=true:=rfl;simp only at hk q1 q2 q3; subst hk;rcases hx with rfl | ⟨o,n,rfl⟩
 all_goals
  refine ax hS.t70 ?_;try refine go ?_
  refine ak (Pn hS) ?_;rintro d s1 ⟨rfl,rfl⟩;cases b
  ·try refine go ?_
   exact ai ⟨1,last,[],rfl,by simpa using h,by simp; omega,by simp,fun h=>by simp at h,aF.refl hs⟩
  ·try refine go ?_
   exact ai ⟨2,last,[],rfl,by simpa using h,by simp; omega,by simp,fun h=>by simp at h,aF.refl hs⟩
theorem Kg (hT:nB T)(hR:nK T)(hS:mz T)(hs:s.Ok)(h:jT s wo oL cm P Sh last L)(hi:tms[i]? =some t)(ho:t.Ok)(hk:t.kd=3)(PF:3<=L.length)(hL:L.length<=1000000)(hx:x= .vs true 0 []\/∃o n,x= .sl o 0 n n):
  cu T H 70 [.ptr wo 0,.vs nz 8 (tms.map Tm.d),x,.int .i64 (i:Nat)] s (HN s wo oL cm P Sh L t.kd):=by
 have hi' :=ej hi;have q1:=ho.mag; have q2:=ho.n1; have q3:=ho.tx;obtain⟨kd,b,ng,n1,mag,tx,n2,kids,hh,sm⟩:=t;have mE:(Tm.mk kd b ng n1 mag tx n2 kids hh sm).d.st=true:=rfl;simp only at hk q1 q2 q3; subst hk;rcases hx with rfl | ⟨o,n,rfl⟩
 all_goals
  refine ax hS.t70 ?_;try refine go ?_
  refine ak (PQ (n:=(ng,mag)) hT hS hs h ⟨_,rfl,.vs n1 mag q2⟩ q1 hL) ?_;rintro d s1 ⟨rfl,⟨v,h1⟩,b1⟩;try refine go ?_
  exact ai ⟨L.length,last,[v],rfl,h1,by simp,by simp,fun h=>by simp at h,b1⟩
theorem KM (hT:nB T)(hR:nK T)(hS:mz T)(hs:s.Ok)(h:jT s wo oL cm P Sh last L)(hi:tms[i]? =some t)(ho:t.Ok)(hk:t.kd=4)(PF:3<=L.length)(hL:L.length<=1000000)(hx:x= .vs true 0 []\/∃o n,x= .sl o 0 n n):
  cu T H 70 [.ptr wo 0,.vs nz 8 (tms.map Tm.d),x,.int .i64 (i:Nat)] s (HN s wo oL cm P Sh L t.kd):=by
 have hi' :=ej hi;have q1:=ho.mag; have q2:=ho.n1; have q3:=ho.tx;obtain⟨kd,b,ng,n1,mag,tx,n2,kids,hh,sm⟩:=t;have mE:(Tm.mk kd b ng n1 mag tx n2 kids hh sm).d.st=true:=rfl;simp only at hk q1 q2 q3; subst hk;rcases hx with rfl | ⟨o,n,rfl⟩
 all_goals
  refine ax hS.t70 ?_;try refine go ?_
  refine ak (Ri hS hs h hL) ?_;rintro d s1 ⟨rfl,⟨v,h1⟩,b1⟩;try refine go ?_
  exact ai ⟨L.length,last,[v],rfl,h1,by simp,by simp,fun h=>by simp at h,b1⟩
theorem FF (hT:nB T)(hR:nK T)(hS:mz T)(hs:s.Ok)(h:jT s wo oL cm P Sh last L)(hi:tms[i]? =some t)(ho:t.Ok)(hk:t.kd=6)(PF:3<=L.length)(hL:L.length<=1000000)(hx:x= .vs true 0 []\/∃o n,x= .sl o 0 n n):
  cu T H 70 [.ptr wo 0,.vs nz 8 (tms.map Tm.d),x,.int .i64 (i:Nat)] s (HN s wo oL cm P Sh L t.kd):=by
 have hi' :=ej hi;have q1:=ho.mag; have q2:=ho.n1; have q3:=ho.tx;obtain⟨kd,b,ng,n1,mag,tx,n2,kids,hh,sm⟩:=t;have mE:(Tm.mk kd b ng n1 mag tx n2 kids hh sm).d.st=true:=rfl;simp only at hk q1 q2 q3; subst hk;rcases hx with rfl | ⟨o,n,rfl⟩
 all_goals
  refine ax hS.t70 ?_;try refine go ?_
  refine ak (mH hS hs h (fun num=>kR .nil (aS _)) hL) ?_;rintro d s1 ⟨rfl,⟨l1,num,h1⟩,b1,n1⟩;try refine go ?_
  exact ai ⟨L.length,l1,[_],rfl,h1,by simp,by simp,fun _=>⟨rfl,num,rfl⟩,b1⟩
end
section
variable {T:Nat->Option dU}{H:ay}{s:St}{wo oL cm P Sh i:Nat}{last:Int}{L:List D}{tms:List Tm}{nz:Bool}{t:Tm}{x:D}{R:List Nat}
theorem jT.ni (h:jT s wo oL cm P Sh last L){o:Nat}{es:List D}{st:Nat}(g:s.get o=some (.arr 1 3 es st)): ¬ zl wo oL cm o:=by
 obtain⟨st',g1,_⟩:=h.gl;obtain⟨a1,a2,a3,a4,g2⟩:=h.ct;have g3:=h.go;rintro (rfl | rfl | rfl)
 ·rw [g3]at g; cases g
 ·rw [g1]at g; simp at g
 ·rw [g2]at g; simp at g
theorem GX (hS:mz T)(hs:s.Ok)(h:jT s wo oL cm P Sh last L)(hi:tms[i]? =some t)(hk:t.kd=15\/t.kd=16\/t.kd=17){y r:Nat}(Y6:t.kids=[(y:Int)])(hx:Refs s x R)(hy:R[y]? =some r)(hL:L.length<=1000000):
  cu T H 70 [.ptr wo 0,.vs nz 8 (tms.map Tm.d),x,.int .i64 (i:Nat)] s (HN s wo oL cm P Sh L t.kd):=by
 have hi' :=ej hi;have ur:=gT R;obtain⟨o,rfl,g,oM,hl⟩:=hx.at' hy;obtain⟨kd,b,ng,n1,mag,tx,n2,kids,hh,sm⟩:=t;simp only at hk Y6;subst Y6;have Cm:(ints [(y:Int)])[0]? =some (.int .i64 (y:Nat)):=rfl;have mE:(Tm.mk kd b ng n1 mag tx n2 [(y:Int)] hh sm).d.st=true:=rfl;have lG:=fun kd:Int=>mH (H:=H) (kd:=kd) (num:=0) (b:=false) (ng:=false) (hh:=false) (ss:=false) (mag:= .vs true 0 []) (items:= .vs true 0 []) (dd:= .cz) (fo:= .cz) (sp:= .cz) (tx:=[]) (cls:=0) (base:=0) (of' :=(r:Nat)) hS hs h (fun num=>kR .nil (aS _)) hL;rcases hk with rfl | rfl | rfl
 all_goals
  refine ax hS.t70 ?_;try refine go ?_
  refine aX (lG _) ?_;rintro d s1 ⟨rfl,⟨l1,num,h1⟩,b1,n1⟩;have g1:=b1.get hs g (h.ni g);refine⟨rfl,by simp [lost,eQ.kind,cK,dE,cF,aI,bC,bC.cW,gk,bP.ev,Env.get,cS,D.flat,D.isAgg,cP,D.fw,D.beq,aA,Obj.aW,bE,br,D.bW,D.aW,g,g1], ?_⟩;try refine go ?_
  exact ai ⟨L.length,l1,[_],rfl,h1,by simp,by simp,fun h=>by simp at h,b1⟩
end
section
variable {T:Nat->Option dU}{H:ay}{s:St}{wo oL cm P Sh i N dv:Nat}{last:Int}{L:List D}{tms:List Tm}{nz:Bool}{t:Tm}{x:D}{R:List Nat}
def DcI (tms:List Tm)(nz:Bool)(t:Tm)(x:D)(v S wo oL cm P Sh N dv:Nat)(last:Int)(L:List D)(s:St)(m:Nat)(env:Env) (s' :St):Prop:=
 ∃(j n:Nat),env=[(0,.ptr wo 0),(1,.vs nz 8 (tms.map Tm.d)),(2,x),(9,.lv t.d),(13,.int .i64 (v:Nat)),(14,.int .i64 (S:Nat)),(15,.int .i64 (j:Nat))]/\jT s' wo oL cm P Sh last L/\l9 s' N cm dv (fun k=>∃i:Nat,k=(i:Int)/\i < L.length) n/\aF (fun j=>N<=j\/j=cm) s s' /\n<=j/\j<=t.kids.length/\m=t.kids.length - j
theorem KX (hT:nB T)(hR:nK T)(hS:mz T){Ev:Env}{k:List iT}{Q:QP}{o v:Nat}{kd num:Int}{b ng hh ss:Bool}{mag items fo sp:D}{tx:List UInt8} {cls base of' :Int}(hs:s.Ok)(h:jT s wo oL cm P Sh last L)(fK:∀u∈tms,u.Ok)
  (hv:L[v]? =some (rv kd num b ng mag tx items (.ptr dv 0) cls base fo sp of' hh ss))(hD:l9 s N cm dv (fun k=>∃i:Nat,k=(i:Int)/\i < L.length) 0)(h1:wo < N)(h2:oL < N)(hm:∀d∈L,Aq N d)(hN:N<=s.n)
  (g:s.get o=some (.arr 1 3 (ints (R.map Int.ofNat)) 0))(hoN:o < N)(PC:∀r∈R,r < L.length)(SI:R.length<=tms.length)(j9:t.kids.length<=20000)(jd:∀k∈t.kids,∃y:Nat,k=(y:Int)/\y < R.length)
  (Ec:Ev.bV [0,1,2,9,13,14,15]=[(0,.ptr wo 0),(1,.vs nz 8 (tms.map Tm.d)),(2,.sl o 0 R.length R.length),(9,.lv t.d),(13,.int .i64 (v:Nat)),(14,.int .i64 1),(15,.int .i64 0)])
  (h0:∀z1 z2 z3 z4 z5 (j:Int) s1,jT s1 wo oL cm P Sh last L->aF (fun j=>N<=j\/j=cm) s s1->lg T H (.exit 3) k ⟨[(117,z1),(116,z2),(115,z3),(114,z4),(113,z5),(0,.ptr wo 0),(1,.vs nz 8 (tms.map Tm.d)),(2,.sl o 0 R.length R.length),(9,.lv t.d),(13,.int .i64 (v:Nat)),(14,.int .i64 1),(15,.int .i64 j)],[]⟩ s1 Q):
  eH T H (match RM.1.body with
   | .seq _ (.seq _ (.seq (.seq _ (.block _ c)) _))=>match c with
    | .seq _ (.cond _ _ (.seq _ (.cond _ _ (.seq _ (.cond _ _ (.seq _ (.cond _ _ (.seq _ (.cond _ _ (.seq _ (.cond _ _ (.seq _ (.cond _ _ (.seq _ (.cond _ (.seq _ (.seq _ (.seq _ (.seq (.seq _ (.block _ l)) _)))) _)))))))))))))))=>l
    | _=> .skip
   | _=> .skip) k ⟨Ev,[]⟩ s Q:=by
 have ur:=gT R;have DF:(ints t.kids).length=t.kids.length:=by simp [ints]
 obtain⟨kd',b',ng',n1,mag',tx',n2,kids,RQ,sm⟩:=t;simp only at j9 jd DF;show eH T H (.loop _ _) k ⟨Ev,[]⟩ s Q;refine cg (DcI tms nz ⟨kd',b',ng',n1,mag',tx',n2,kids,RQ,sm⟩ (.sl o 0 R.length R.length) v 1 wo oL cm P Sh N dv last L s) kids.length rfl ⟨0,0,Ec,h,hD,aF.refl hs,aq _,aS _,rfl⟩ ?_;rintro m env s1 ⟨j,n,rfl,hr,HP,b1,hnj,hj,rfl⟩;simp only at hj;have ok1:=b1.ok
 have gx:=b1.get hs g (by rintro (h' | rfl); · omega
                          ·exact h.ni g (.inr (.inr rfl)))
 have gw:=hr.go;by_cases dM:j < kids.length
 ·have hd:=eJ ((j:Int) < ((ints kids).length:Nat));obtain⟨y,hy,LS⟩:=jd kids[j] (bH dM);have Lg:kids[j]? =some (y:Int):=by rw [ab dM,hy]
  have nO:(ints kids)[j]? =some (.int .i64 (y:Nat)):=by simp only [ints,aC,Lg]; rfl
  have oM:(ints (R.map Int.ofNat))[0+y]? =some (.int .i64 (R[y]:Nat)):=by simp only [ints,aN,aC,ab LS,da]; rfl
  have K8:=PC R[y] (bH LS);generalize R[y]=r at oM K8;have hu:tms[y]? =some tms[y]:=ab (by omega);have tL :=ej hu;have huo:=fK _ (aM hu);generalize tms[y]=u at hu tL huo;have rO:IntKind.wrap .i64 ((j:Int)+((1:Nat):Int))=((j+1:Nat):Int):=by rw [wrap_small (by omega) (by omega)]; rfl
  have JJ:=AM (H:=H) hT hS ok1 hr huo K8;try refine go ?_
  refine aX JJ ?_;rintro d s2 ⟨⟨q,c,rfl⟩,b2⟩;have ok2:=b2.ok;have WO:=b2.get ok1 gx id;have zx:=hr.nil ok1 b2;have gw2:=zx.go;refine⟨rfl,by simp [lost,eQ.kind,cK,dE,cF,aI,bC,bC.cW,gk,bP.ev,Env.get,cS,D.flat,D.isAgg,cP,D.fw,D.beq,aA,Obj.aW,bE,br,D.bW,D.aW,gx,WO], ?_⟩;try refine go ?_
  refine ak (HC hR hT hS ok2 zx hv (HP.dK ok1 b2 (fun _ _=>id) zx.ct) K8 (by omega) h1 h2 hm (by have:=b1.n; have:=b2.n; omega)) ?_;rintro d s3 ⟨P2,H2,b3⟩;try refine go ?_
  rw [rO];exact bf (kids.length - (j+1)) (by show kids.length - (j+1) < kids.length - j; omega) rfl ⟨j+1,n+1,rfl,P2,H2,(b1.trans (b2.mono fun _ h=>h.elim)).trans b3,by omega,by show j+1<=kids.length; omega,rfl⟩
 ·have hd:=cN ((j:Int) < ((ints kids).length:Nat));try refine go ?_
  exact h0 _ _ _ _ _ _ s1 hr b1
end
section
variable {T:Nat->Option dU}{H:ay}{s:St}{wo oL cm P Sh i:Nat}{last:Int}{L:List D}{tms:List Tm}{nz:Bool}{t:Tm}{x:D}{R:List Nat}
theorem JY (hT:nB T)(hR:nK T)(hS:mz T)(hs:s.Ok)(h:jT s wo oL cm P Sh last L)(hi:tms[i]? =some t)(fK:∀u∈tms,u.Ok)(hk:t.kd=8\/t.kd=9)(hP:P<=65536)(hL:L.length<=900000){o:Nat}
  (g:s.get o=some (.arr 1 3 (ints (R.map Int.ofNat)) 0))(PC:∀r∈R,r < L.length)(SI:R.length<=tms.length)(j9:t.kids.length<=20000)(jd:∀k∈t.kids,∃y:Nat,k=(y:Int)/\y < R.length):
  cu T H 70 [.ptr wo 0,.vs nz 8 (tms.map Tm.d),.sl o 0 R.length R.length,.int .i64 (i:Nat)] s (fun d s1=>∃(last' :Int) (v:D),d= .int .i64 (L.length:Nat)/\jT s1 wo oL cm P Sh last' (L++ [v])/\aF (fun j=>zl wo oL cm j\/s.n<=j) s s1):=by
 have hi' :=ej hi;obtain⟨l1,l2,l3⟩:=h.lt hs;have lo:=hs.lt g;have Fh:=fun kd=>x7 (H:=H) (kd:=kd) hR hS (fun k=>∃i:Nat,k=(i:Int)/\i < L.length+1) hs h hP (by omega);have zT:∀u,u=t->u.kids.length<=20000/\∀k∈u.kids,∃y:Nat,k=(y:Int)/\y < R.length:=fun u e=>by subst e; exact ⟨j9,jd⟩
 obtain⟨kd,b,ng,n1,mag,tx,n2,kids,hh,sm⟩:=t;simp only at hk;have mE:(Tm.mk kd b ng n1 mag tx n2 kids hh sm).d.st=true:=rfl;rcases hk with rfl | rfl
 all_goals
  refine ax hS.t70 ?_;try refine go ?_
  refine ak (Fh _) ?_;rintro d s1 ⟨rfl,⟨la,num,dv,h1,hD⟩,b1,Sl⟩;have ok1:=b1.ok;have RN:∀v:D,(L++ [v])[L.length]? =some v:=fun v=>by simp
  have Ff :∀v:D,(L++ [v]).length=L.length+1:=fun v=>by simp
  try refine go ?_
  refine KX (N:=s.n) hT hR hS ok1 h1 fK (v:=L.length) (RN _) (by rw [Ff]; exact hD) l1 l2 ?_ Sl (b1.get hs g (h.ni g)) lo (fun r hr=>by rw [Ff]; have:=PC r hr; omega) SI (zT _ rfl).1 (zT _ rfl).2 rfl ?_
  ·intro d hd;rw [bK,cH]at hd;rcases hd with hd | rfl
   ·exact (h.vs d hd).mag hs
   ·intro o a n c h; cases h
  ·intro z1 z2 z3 z4 z5 j s2 h2 b2;try refine go ?_
   exact ai ⟨la,_,rfl,h2,(b1.mono fun j hj=> .inl hj).trans (b2.mono fun j hj=>by
    rcases hj with hj | hj
    ·exact .inr hj
    ·exact .inl (.inr (.inr hj)))⟩
end
section
variable {T:Nat->Option dU}{H:ay}{s:St}{wo oL cm P Sh i:Nat}{last:Int}{L:List D}{tms:List Tm}{nz:Bool}{t:Tm}
theorem Gx (hR:nK T)(hS:mz T)(hs:s.Ok)(h:jT s wo oL cm P Sh last L)(hi:tms[i]? =some t)(hk:t.kd=7\/t.kd=8\/t.kd=9)(hP:P<=65536)(hL:L.length<=900000)(jd:t.kids=[]):
  cu T H 70 [.ptr wo 0,.vs nz 8 (tms.map Tm.d),.vs true 0 [],.int .i64 (i:Nat)] s (fun d s1=>∃(last' :Int) (v:D),d= .int .i64 (L.length:Nat)/\jT s1 wo oL cm P Sh last' (L++ [v])/\aF (fun j=>zl wo oL cm j\/s.n<=j) s s1):=by
 have hi' :=ej hi;have Fh:=fun kd=>x7 (H:=H) (kd:=kd) hR hS (fun k=>∃i:Nat,k=(i:Int)/\i < L.length+1) hs h hP (by omega);obtain⟨kd,b,ng,n1,mag,tx,n2,kids,hh,sm⟩:=t;simp only at hk jd;subst jd;have mE:(Tm.mk kd b ng n1 mag tx n2 [] hh sm).d.st=true:=rfl;rcases hk with rfl | rfl | rfl
 all_goals
  refine ax hS.t70 ?_;try refine go ?_
  refine ak (Fh _) ?_;rintro d s1 ⟨rfl,⟨la,num,dv,h1,hD⟩,b1,Sl⟩;have ok1:=b1.ok;try refine go ?_
  refine ee 0 (fun j=>_) (fun j s' =>s' =s1) rfl ?_;rintro j s2 hj rfl;try refine go ?_
  exact ai ⟨la,_,rfl,h1,b1.mono fun j hj=> .inl hj⟩
end
section
variable {T:Nat->Option dU}{H:ay}{s:St}{wo oL cm P Sh i N dv:Nat}{last:Int}{L:List D}{tms:List Tm}{nz:Bool}{t:Tm}{x:D}{R:List Nat}
def DdI (tms:List Tm)(nz:Bool)(t:Tm)(x:D)(v wo oL cm P Sh N dv:Nat)(last:Int)(L:List D)(s:St)(m:Nat)(env:Env) (s' :St):Prop:=
 ∃(j n:Nat),env=[(0,.ptr wo 0),(1,.vs nz 8 (tms.map Tm.d)),(2,x),(9,.lv t.d),(13,.int .i64 (v:Nat)),(14,.int .i64 (2:Nat)),(15,.int .i64 (j:Nat))]/\jT s' wo oL cm P Sh last L/\l9 s' N cm dv (fun k=>∃i:Nat,k=(i:Int)/\i < L.length) n/\aF (fun j=>N<=j\/j=cm) s s' /\n<=j/\j<=t.kids.length/\j % 2=0/\m=t.kids.length - j
theorem I4 (hT:nB T)(hR:nK T)(hS:mz T){Ev:Env}{k:List iT}{Q:QP}{o v:Nat}{kd num:Int}{b ng hh ss:Bool}{mag items fo sp:D}{tx:List UInt8} {cls base of' :Int}(hs:s.Ok)(h:jT s wo oL cm P Sh last L)(fK:∀u∈tms,u.Ok)
  (hv:L[v]? =some (rv kd num b ng mag tx items (.ptr dv 0) cls base fo sp of' hh ss))(hD:l9 s N cm dv (fun k=>∃i:Nat,k=(i:Int)/\i < L.length) 0)(h1:wo < N)(h2:oL < N)(hm:∀d∈L,Aq N d)(hN:N<=s.n)
  (g:s.get o=some (.arr 1 3 (ints (R.map Int.ofNat)) 0))(hoN:o < N)(PC:∀r∈R,r < L.length)(SI:R.length<=tms.length)(j9:t.kids.length<=20000)(Qp:t.kids.length % 2=0)(jd:∀k∈t.kids,∃y:Nat,k=(y:Int)/\y < R.length)
  (Ec:Ev.bV [0,1,2,9,13,14,15]=[(0,.ptr wo 0),(1,.vs nz 8 (tms.map Tm.d)),(2,.sl o 0 R.length R.length),(9,.lv t.d),(13,.int .i64 (v:Nat)),(14,.int .i64 2),(15,.int .i64 0)])
  (h0:∀z1 z2 z3 z4 z5 (j:Int) s1,jT s1 wo oL cm P Sh last L->aF (fun j=>N<=j\/j=cm) s s1->lg T H (.exit 3) k ⟨[(117,z1),(116,z2),(115,z3),(114,z4),(113,z5),(0,.ptr wo 0),(1,.vs nz 8 (tms.map Tm.d)),(2,.sl o 0 R.length R.length),(9,.lv t.d),(13,.int .i64 (v:Nat)),(14,.int .i64 2),(15,.int .i64 j)],[]⟩ s1 Q):
  eH T H (match RM.1.body with
   | .seq _ (.seq _ (.seq (.seq _ (.block _ c)) _))=>match c with
    | .seq _ (.cond _ _ (.seq _ (.cond _ _ (.seq _ (.cond _ _ (.seq _ (.cond _ _ (.seq _ (.cond _ _ (.seq _ (.cond _ _ (.seq _ (.cond _ _ (.seq _ (.cond _ (.seq _ (.seq _ (.seq _ (.seq (.seq _ (.block _ l)) _)))) _)))))))))))))))=>l
    | _=> .skip
   | _=> .skip) k ⟨Ev,[]⟩ s Q:=by
 have ur:=gT R;have DF:(ints t.kids).length=t.kids.length:=by simp [ints]
 obtain⟨kd',b',ng',n1,mag',tx',n2,kids,RQ,sm⟩:=t;simp only at j9 jd DF Qp;show eH T H (.loop _ _) k ⟨Ev,[]⟩ s Q;refine cg (DdI tms nz ⟨kd',b',ng',n1,mag',tx',n2,kids,RQ,sm⟩ (.sl o 0 R.length R.length) v wo oL cm P Sh N dv last L s) kids.length rfl ⟨0,0,Ec,h,hD,aF.refl hs,aq _,aS _,rfl,rfl⟩ ?_;rintro m env s1 ⟨j,n,rfl,hr,HP,b1,hnj,hj,Rs,rfl⟩;simp only at hj;have ok1:=b1.ok
 have gx:=b1.get hs g (by rintro (h' | rfl); · omega
                          ·exact h.ni g (.inr (.inr rfl)))
 have gw:=hr.go;by_cases dM:j < kids.length
 ·have Gb:j+1 < kids.length:=by omega
  have hd:=eJ ((j:Int) < ((ints kids).length:Nat));obtain⟨y,hy,LS⟩:=jd kids[j] (bH dM);have Lg:kids[j]? =some (y:Int):=by rw [ab dM,hy]
  have nO:(ints kids)[j]? =some (.int .i64 (y:Nat)):=by simp only [ints,aC,Lg]; rfl
  obtain⟨y',JD,abI⟩:=jd kids[j+1] (bH Gb);have abU :kids[j+1]? =some (y' :Int):=by rw [ab Gb,JD]
  have aaP :(ints kids)[j+1]? =some (.int .i64 (y' :Nat)):=by simp only [ints,aC,abU]; rfl
  have oM:(ints (R.map Int.ofNat))[0+y]? =some (.int .i64 (R[y]:Nat)):=by simp only [ints,aN,aC,ab LS,da]; rfl
  have R5 :(ints (R.map Int.ofNat))[0+y']? =some (.int .i64 (R[y']:Nat)):=by simp only [ints,aN,aC,ab abI,da]; rfl
  have K8:=PC R[y] (bH LS);generalize R[y]=r at oM K8;generalize R[y']=r' at R5;have hu:tms[y]? =some tms[y]:=ab (by omega);have tL :=ej hu;have huo:=fK _ (aM hu);generalize tms[y]=u at hu tL huo;have rO:IntKind.wrap .i64 ((j:Int)+((2:Nat):Int))=((j+2:Nat):Int):=by rw [wrap_small (by omega) (by omega)]; rfl
  have acG:IntKind.wrap .i64 ((j:Int)+1)=((j+1:Nat):Int):=by rw [wrap_small (by omega) (by omega)]; rfl
  have JJ:=AM (H:=H) hT hS ok1 hr huo K8;try refine go ?_
  refine aX JJ ?_;rintro d s2 ⟨⟨q,c,rfl⟩,b2⟩;have ok2:=b2.ok;have WO:=b2.get ok1 gx id;have zx:=hr.nil ok1 b2;have gw2:=zx.go;refine⟨rfl,by simp [lost,eQ.kind,cK,dE,cF,aI,bC,bC.cW,gk,bP.ev,Env.get,cS,D.flat,D.isAgg,cP,D.fw,D.beq,aA,Obj.aW,bE,br,D.bW,D.aW,gx,WO], ?_⟩;try refine go ?_
  refine ak (HC hR hT hS ok2 zx hv (HP.dK ok1 b2 (fun _ _=>id) zx.ct) K8 (by omega) h1 h2 hm (by have:=b1.n; have:=b2.n; omega)) ?_;rintro d s3 ⟨P2,H2,b3⟩;try refine go ?_
  rw [rO];exact bf (kids.length - (j+2)) (by show kids.length - (j+2) < kids.length - j; omega) rfl ⟨j+2,n+1,rfl,P2,H2,(b1.trans (b2.mono fun _ h=>h.elim)).trans b3,by omega,by show j+2<=kids.length; omega,by omega,rfl⟩
 ·have hd:=cN ((j:Int) < ((ints kids).length:Nat));try refine go ?_
  exact h0 _ _ _ _ _ _ s1 hr b1
end
section
variable {T:Nat->Option dU}{H:ay}{s:St}{wo oL cm P Sh i:Nat}{last:Int}{L:List D}{tms:List Tm}{nz:Bool}{t:Tm}{x:D}{R:List Nat}
theorem Gu (hT:nB T)(hR:nK T)(hS:mz T)(hs:s.Ok)(h:jT s wo oL cm P Sh last L)(hi:tms[i]? =some t)(fK:∀u∈tms,u.Ok)(hk:t.kd=7)(Qp:t.kids.length % 2=0)(hP:P<=65536)(hL:L.length<=900000){o:Nat}
  (g:s.get o=some (.arr 1 3 (ints (R.map Int.ofNat)) 0))(PC:∀r∈R,r < L.length)(SI:R.length<=tms.length)(j9:t.kids.length<=20000)(jd:∀k∈t.kids,∃y:Nat,k=(y:Int)/\y < R.length):
  cu T H 70 [.ptr wo 0,.vs nz 8 (tms.map Tm.d),.sl o 0 R.length R.length,.int .i64 (i:Nat)] s (fun d s1=>∃(last' :Int) (v:D),d= .int .i64 (L.length:Nat)/\jT s1 wo oL cm P Sh last' (L++ [v])/\aF (fun j=>zl wo oL cm j\/s.n<=j) s s1):=by
 have hi' :=ej hi;obtain⟨l1,l2,l3⟩:=h.lt hs;have lo:=hs.lt g;have Fh:=fun kd=>x7 (H:=H) (kd:=kd) hR hS (fun k=>∃i:Nat,k=(i:Int)/\i < L.length+1) hs h hP (by omega);have zT:∀u,u=t->u.kids.length<=20000/\(∀k∈u.kids,∃y:Nat,k=(y:Int)/\y < R.length)/\u.kids.length % 2=0:=fun u e=>by subst e; exact ⟨j9,jd,Qp⟩
 obtain⟨kd,b,ng,n1,mag,tx,n2,kids,hh,sm⟩:=t;simp only at hk;have mE:(Tm.mk kd b ng n1 mag tx n2 kids hh sm).d.st=true:=rfl;subst hk;refine ax hS.t70 ?_;try refine go ?_
 refine ak (Fh _) ?_;rintro d s1 ⟨rfl,⟨la,num,dv,h1,hD⟩,b1,Sl⟩;have ok1:=b1.ok;have RN:∀v:D,(L++ [v])[L.length]? =some v:=fun v=>by simp
 have Ff :∀v:D,(L++ [v]).length=L.length+1:=fun v=>by simp
 try refine go ?_
 refine I4 (N:=s.n) hT hR hS ok1 h1 fK (v:=L.length) (RN _) (by rw [Ff]; exact hD) l1 l2 ?_ Sl (b1.get hs g (h.ni g)) lo (fun r hr=>by rw [Ff]; have:=PC r hr; omega) SI (zT _ rfl).1 (zT _ rfl).2.2 (zT _ rfl).2.1 rfl ?_
 ·intro d hd;rw [bK,cH]at hd;rcases hd with hd | rfl
  ·exact (h.vs d hd).mag hs
  ·intro o a n c h; cases h
 ·intro z1 z2 z3 z4 z5 j s2 h2 b2;try refine go ?_
  exact ai ⟨la,_,rfl,h2,(b1.mono fun j hj=> .inl hj).trans (b2.mono fun j hj=>by
   rcases hj with hj | hj
   ·exact .inr hj
   ·exact .inl (.inr (.inr hj)))⟩
end
def TpI (s:St)(V:List Int)(l:D) (s' :St):Prop:=(V=[]/\l= .vs true 0 []/\s' =s)\/(V≠ []/\l= .sl s.n 0 V.length V.length/\s'.get s.n=some (.arr 1 3 (ints V) 0)/\aF Nil s s')
theorem TpI.dK {s s' :St}{V:List Int}{l:D}(hs:s.Ok)(h:TpI s V l s'):aF Nil s s' :=by
 rcases h with ⟨_,_,rfl⟩ | ⟨_,_,_,h⟩
 ·exact aF.refl hs
 ·exact h
theorem TpI.sc {s s' :St}{V:List Int}{l:D}(h:TpI s V l s'):l.sc=true:=by
 rcases h with ⟨_,rfl,_⟩ | ⟨_,rfl,_,_⟩ <;> rfl
section
variable {T:Nat->Option dU}{H:ay}{s:St}{wo oL cm P Sh i:Nat}{last:Int}{L:List D}{tms:List Tm}{nz:Bool}{t:Tm}{x:D}{R:List Nat}
def TpL (tms:List Tm)(nz:Bool)(wo:Nat)(x:D)(t:Tm)(s:St)(m:Nat)(env:Env) (s' :St):Prop:=
 ∃V l,env=[(0,.ptr wo 0),(2,x),(9,.lv t.d),(10,l),(11,.int .i64 (V.length:Nat))]/\V.length<=t.kids.length/\m=t.kids.length - V.length/\TpI s V l s'
theorem CK (hS:mz T)(hs:s.Ok)(h:jT s wo oL cm P Sh last L)(hi:tms[i]? =some t)(ho:t.Ok)(hk:t.kd=5)(jd:∀k∈t.kids,∃y:Nat,k=(y:Int)/\y < R.length)(hx:Refs s x R)(hL:L.length<=1000000):
  cu T H 70 [.ptr wo 0,.vs nz 8 (tms.map Tm.d),x,.int .i64 (i:Nat)] s (HN s wo oL cm P Sh L t.kd):=by
 have hi' :=ej hi;have ur:=gT R;have rW:=ho.kids;have lG:=fun (p:St) (okp:p.Ok) (hp:jT p wo oL cm P Sh last L) (l:D) (hl:l.sc=true)=>mH (H:=H) (kd:=5) (num:=0) (b:=false) (ng:=false) (hh:=false) (ss:=false) (mag:= .vs true 0 []) (items:=l) (dd:= .cz) (fo:= .cz) (sp:= .cz) (tx:=[]) (cls:=0) (base:=0) (of' :=0) hS okp hp (fun num=>kR (h3:=hl) .nil (aS _)) hL;obtain⟨kd,b,ng,n1,mag,tx,n2,kids,hh,sm⟩:=t;simp only at hk jd rW;subst hk;have j9:(ints kids).length=kids.length:=by simp [ints]
 have mE:(Tm.mk 5 b ng n1 mag tx n2 kids hh sm).d.st=true:=rfl;rcases hx with _ | ⟨g,hn⟩
 ·obtain rfl:kids=[]:=by
   cases kids with
   | nil=>rfl
   | cons k r=>obtain ⟨y,_,hy⟩:=jd k (by simp); cases hy
  refine ax hS.t70 ?_;try refine go ?_
  refine cg (TpL tms nz wo (.vs true 0 []) ⟨5,b,ng,n1,mag,tx,n2,[],hh,sm⟩ s) 0 rfl ⟨[],_,rfl,aq _,rfl,.inl ⟨rfl,rfl,rfl⟩⟩ ?_;rintro m env s1 ⟨V,l,rfl,hV,rfl,hI⟩;simp only [bL,Nat.le_zero]at hV;obtain rfl:V=[]:=fX.1 hV;rcases hI with ⟨_,rfl,rfl⟩ | ⟨cE,_⟩
  ·try refine go ?_
   refine ak (lG _ hs h _ rfl) ?_;rintro d s1 ⟨rfl,⟨l1,num,h1⟩,b1,n1⟩;try refine go ?_
   exact ai ⟨L.length,l1,[_],rfl,h1,by simp,by simp,fun h=>by simp at h,b1⟩
  ·exact absurd rfl cE
 ·rename_i o;have lo:=hs.lt g;refine ax hS.t70 ?_;try refine go ?_
  refine cg (TpL tms nz wo (.sl o 0 R.length R.length) ⟨5,b,ng,n1,mag,tx,n2,kids,hh,sm⟩ s) kids.length rfl ⟨[],_,rfl,aS _,rfl,.inl ⟨rfl,rfl,rfl⟩⟩ ?_;rintro m env s1 ⟨V,l,rfl,hV,rfl,hI⟩;simp only at hV;have b1:=hI.dK hs;have ok1:=b1.ok;have g1:=b1.get hs g id;by_cases dM:V.length < kids.length
  ·have hd:=eJ ((V.length:Int) < ((ints kids).length:Nat));obtain⟨y,hy,LS⟩:=jd kids[V.length] (bH dM);have Lg:kids[V.length]? =some (y:Int):=by rw [ab dM,hy]
   have nO:(ints kids)[V.length]? =some (.int .i64 (y:Nat)):=by simp only [ints,aC,Lg]; rfl
   have oM:(ints (R.map Int.ofNat))[0+y]? =some (.int .i64 (R[y]:Nat)):=by simp only [ints,aN,aC,ab LS,da]; rfl
   have hVl:(ints V).length=V.length:=by simp [ints]
   have ZF:ints (V++ [(R[y]:Int)])=ints V++ [.int .i64 (R[y]:Nat)]:=by simp [ints]
   have L4:(V++ [(R[y]:Int)]).length=V.length+1:=by simp
   generalize R[y]=r at oM ZF L4;rcases hI with ⟨rfl,rfl,rfl⟩ | ⟨R0,rfl,gq,bq⟩
   ·try refine go ?_
    refine bf (kids.length - 1) (by show kids.length - 1 < kids.length - 0; simp only [bL]at dM; omega) rfl ⟨[(r:Int)],_,rfl,by simp only [bL]at dM; show 1<=kids.length; omega,rfl,.inr ⟨by simp,rfl, ?_,(aF.refl hs).push _⟩⟩;rw [St.bu]; rfl
   ·have ln:=ok1.lt gq;try refine go ?_
    refine bf (kids.length - (V.length+1)) (by show kids.length - (V.length+1) < kids.length - V.length; omega) rfl ⟨V++ [(r:Int)],_,by rw [L4]; rfl,by rw [L4]; show V.length+1<=kids.length; omega,by rw [L4],.inr ⟨by simp,by rw [L4]; rfl, ?_,aF.set bq _ ln (fun h=>by omega)⟩⟩;rw [St.aO,ZF]
  ·have hd:=cN ((V.length:Int) < ((ints kids).length:Nat));have H4:=hI.sc;rcases hI with ⟨rfl,rfl,rfl⟩ | ⟨R0,rfl,gq,bq⟩
   all_goals
    try refine go ?_
    refine ak (lG _ ok1 (h.nil hs b1) _ H4) ?_;rintro d s2 ⟨rfl,⟨l1,num,h1⟩,b2,n1⟩;try refine go ?_
    exact ai ⟨L.length,l1,[_],rfl,h1,by simp,by simp,fun h=>by simp at h,(b1.mono fun _ h=>h.elim).trans b2⟩
end
section
variable {T:Nat->Option dU}{H:ay}{s:St}{wo oL cm P Sh i:Nat}{last:Int}{L:List D}{tms:List Tm}{nz:Bool}{t:Tm}{x:D}{R:List Nat}
theorem FB (hT:nK T)(hS:mz T)(hs:s.Ok)(h:jT s wo oL cm P Sh last L)(hi:tms[i]? =some t)(hk:t.kd=14)(hP:P<=65536)(K7:Sh<=256)(hL:L.length<=900000)(hx:x= .vs true 0 []\/∃o n,x= .sl o 0 n n):
  cu T H 70 [.ptr wo 0,.vs nz 8 (tms.map Tm.d),x,.int .i64 (i:Nat)] s (HN s wo oL cm P Sh L t.kd):=by
 have hi' :=ej hi;obtain⟨kd,b,ng,n1,mag,tx,n2,kids,hh,sm⟩:=t;simp only at hk;subst hk;have mE:(Tm.mk 14 b ng n1 mag tx n2 kids hh sm).d.st=true:=rfl;have yh:=Jl (H:=H) (nm:=[67]) (bs:= -1) hT hS hs h hP K7 (by omega);rcases hx with rfl | ⟨o,n,rfl⟩
 all_goals
  refine ax hS.t70 ?_;try refine go ?_
  refine ak yh ?_;rintro d s1 ⟨rfl,⟨l1,num,dv,fo,h1⟩,b1⟩;have ok1:=b1.ok;have gw:=h1.go;obtain⟨st,gl,dN⟩:=h1.gl;obtain⟨e1,e2,e3⟩:=h1.ne;obtain⟨k1,k2,k3⟩:=h1.lt ok1;have gO:∀a b:D,(L++ [a]).set (0+L.length) b=L++ [b]:=fun a b=>by simp
  have pQ:(L++ [rv 13 num false false (.vs true 0 []) [67] (.vs true 0 []) (.ptr dv 0) 0 (-1) (.ptr fo 0) .cz 0 false false]).length=L.length+1:=by simp
  have oM:(L++ [rv 13 num false false (.vs true 0 []) [67] (.vs true 0 []) (.ptr dv 0) 0 (-1) (.ptr fo 0) .cz 0 false false])[0+L.length]? =some (rv 13 num false false (.vs true 0 []) [67] (.vs true 0 []) (.ptr dv 0) 0 (-1) (.ptr fo 0) .cz 0 false false):=by simp
  have R5 :∀a:D,(L++ [a])[0+L.length]? =some a:=fun a=>by simp
  try refine go ?_
  simp only [gO];obtain⟨a1,a2,a3,a4,gc⟩:=h1.ct;refine Ci (fun p=>p.get wo=some (.var 152 (.agg [.sl oL 0 (L.length+1) (L.length+1),.int .i64 l1,.int .i64 0,.int .i64 (P:Nat),.int .i64 (Sh:Nat),.vs true 0 [],.vs true 0 [],.ptr cm 0]))/\p.get oL=some (.arr 22 158 (L++ [(rv 13 num false false (.vs true 0 []) [67] (.vs true 0 []) (.ptr dv 0) 0 (-1) (.ptr fo 0) .cz 0 hh false)]) (L.length+1))/\jF p cm/\aF (zl wo oL cm) s1 p/\p.n=s1.n) ⟨by rw [← pQ]; exact gI,by rw [St.aO,pQ]; rfl,⟨a1,a2,a3,a4,gI⟩,aF.set (aF.refl ok1) _ k2 (fun _=> .inr (.inl rfl)),rfl⟩ ?_;rintro p ⟨gwp,glp,ctp,bp,np⟩;have okp:=bp.ok;have hlp:(L++ [(rv 13 num false false (.vs true 0 []) [67] (.vs true 0 []) (.ptr dv 0) 0 (-1) (.ptr fo 0) .cz 0 hh false)]).length=L.length+1:=by simp
  have acn:=R5 (rv 13 num false false (.vs true 0 []) [67] (.vs true 0 []) (.ptr dv 0) 0 (-1) (.ptr fo 0) .cz 0 hh false);obtain⟨c1,c2,c3,c4,gcp⟩:=ctp;try refine go ?_
  simp only [gO];refine jL (fun q=>q.get wo=some (.var 152 (.agg [.sl oL 0 (L.length+1) (L.length+1),.int .i64 l1,.int .i64 0,.int .i64 (P:Nat),.int .i64 (Sh:Nat),.vs true 0 [],.vs true 0 [],.ptr cm 0]))/\q.get oL=some (.arr 22 158 (L++ [(rv 13 num false false (.vs true 0 []) [67] (.vs true 0 []) (.ptr dv 0) 0 (-1) (.ptr fo 0) .cz 0 hh sm)]) (L.length+1))/\jF q cm/\aF (zl wo oL cm) p q) ⟨gI,by rw [St.aO,hlp]; rfl,⟨c1,c2,c3,c4,gI⟩,aF.set (aF.refl okp) _ (by omega) (fun _=> .inr (.inl rfl))⟩ ?_;rintro q ⟨gwq,glq,ctq,bq⟩;have okq:=bq.ok;have b1q:=bp.trans bq;have hlq:(L++ [(rv 13 num false false (.vs true 0 []) [67] (.vs true 0 []) (.ptr dv 0) 0 (-1) (.ptr fo 0) .cz 0 hh sm)]).length=L.length+1:=by simp
  have hq:jT q wo oL cm P Sh l1 (L++ [(rv 13 num false false (.vs true 0 []) [67] (.vs true 0 []) (.ptr dv 0) 0 (-1) (.ptr fo 0) .cz 0 hh sm)]):=⟨by rw [hlq]; exact gwq,⟨_,glq,by omega⟩,fun d hd=>by
   rw [bK,cH]at hd;rcases hd with hd | rfl
   ·exact (h1.vs d (by simp [hd])).dK ok1 b1q h1.nu
   ·exact kR .nil (aS _),ctq,by simp⟩
  have hcq:(L++ [(rv 13 num false false (.vs true 0 []) [67] (.vs true 0 []) (.ptr dv 0) 0 (-1) (.ptr fo 0) .cz 0 hh sm)])[L.length]? =some (rv 13 num false false (.vs true 0 []) [67] (.vs true 0 []) (.ptr dv 0) 0 (-1) (.ptr fo 0) .cz 0 hh sm):=by simp
  refine ak (Bv hT hS okq hq hcq (by omega)) ?_;rintro d s2 ⟨hd,⟨l2,v,h2⟩,b2⟩;rw [hlq]at hd;subst hd;try refine go ?_
  exact ai ⟨L.length+1,l2,[(rv 13 num false false (.vs true 0 []) [67] (.vs true 0 []) (.ptr dv 0) 0 (-1) (.ptr fo 0) .cz 0 hh sm),v],rfl,by simpa using h2,by simp,by simp,fun h=>by simp at h,(b1.trans b1q).trans b2⟩
end
end Go.Proofs.Tab
