/- Part. -/
import Derived.Test.YthaiegafejbmoaaGreatDoorG42
set_option linter.unusedSectionVars false
set_option maxRecDepth 100000
set_option maxHeartbeats 4000000
set_option linter.unusedSimpArgs false
set_option linter.unusedVariables false
namespace Go.Proofs.Tab
open Go Go.Ab Go.Ab.Sm
def ye (n:Nat)(g:Bool)(m:List Nat)(d:D)(s1:St):Prop:=s1.Ok/\∃so o la ta pl mp q st Ds Vs k tk F R E,d= .gW [.ptr so 0,.sl q 0 R.length R.length,.bool true]/\s1.get q=some (.arr 1 3 (ints (R.map Int.ofNat)) st)/\st<=R.length/\aX s1 so o la ta pl mp 1000 4 Ds k k tk/\eh 1000 s1 F Ds Vs/\Uf n g m R Vs E/\R.length=n+5
section
variable {T:Nat->Option dJ}{H:au}{s s1:St}{P:Nat}
theorem Qn (hQ:TQ T):bY T H 11 [.int .i64 (P:Nat)] s fun d s1=>d= .agg [.int .i64 0,.int .i64 (P:Nat),.int .i64 (4:Nat),.vs true 0 [],.vs true 0 []]/\s1=s:=by
 refine aD hQ.t11 ?_;try refine go ?_
 exact ai ⟨rfl,rfl⟩
theorem Ph (hQ:TQ T)(hS:TS T)(hTt:TT T)(hP:TP T)(hW:TW T)(hV:TV T)(hX:TX T)(hU:TU T H)(hs:s.Ok){n:Nat}{g:Bool}{m:List Nat}(hn:n<=40)(hm:m.length<=2)(hw:∀w∈m,w < 4294967296):
  bY T H 5 [.vs false 8 ((o5 n g m).map Tm.d)] s (ye n g m):=by
 have hT:=T3 (g:=g) hn hm hw;have qx:=Af (n:=n) (g:=g) (m:=m);have H9:((o5 n g m).map Tm.d).length=n+5:=by rw [aY,qx]
 refine aD hQ.t5 ?_;try refine go ?_
 refine af (Qn hQ (P:=1000)) ?_;rintro d s1 ⟨rfl,rfl⟩;try refine go ?_
 refine af (XO hS hs (P:=1000) (Sh:=4) (by omega) (by omega)) ?_;rintro d s1 ⟨so,o,la,ta,pl,mp,rfl,cG,acx,b1⟩;have ok1:=b1.ok;try refine go ?_
 refine af (Mg hS hTt hP hW hV hX hU ok1 cG hT (by omega) (by omega) (by omega)) ?_;rintro d s3 ⟨ok3,b3,hB⟩;rcases hB with ⟨e,he,Yz,rfl,o9⟩ | ⟨q,st,Ds,Vs,k,tk,F,R,rfl,gq,hq,o9,hn3,pk,Rj,y8,hma,hRl,Xn,Yz,hFn⟩
 ·exact absurd (Ht hm Yz) he
 have WY:R.length=n+5:=by rw [hRl,qx]
 have hq3:(((R.length:Nat):Int)==((((o5 n g m).map Tm.d).length:Nat):Int))=true:=by rw [H9,WY]; simp
 obtain⟨E,hE⟩:=Pr hma WY (by omega);rw [vH hE.nr]at y8;try refine go ?_
 exact ai ⟨ok3,so,o,la,ta,pl,mp,q,st,Ds,Vs,k,tk,F,R,E,rfl,gq,hq,o9,y8,hE,WY⟩
end
@[reducible] def rI (g:Bool) (a b:Nat):D:= .agg [.int .i64 14,.bool false,.bool g,.vs false 1 [.int .u32 (a:Nat),.int .u32 (b:Nat)],.str [],.vs true 0 [],.bool true,.bool true]
@[reducible] def rD (kx:D):D:= .agg [.int .i64 7,.bool false,.bool false,.vs true 0 [],.str [],kx,.bool false,.bool false]
@[reducible] def rB:D:= .agg [.int .i64 2,.bool true,.bool false,.vs true 0 [],.str [],.vs true 0 [],.bool false,.bool false]
@[reducible] def rN:D:= .agg [.int .i64 1,.bool false,.bool false,.vs true 0 [],.str [],.vs true 0 [],.bool false,.bool false]
@[reducible] def rZ (g:Bool) (a b:Nat):D:= .agg [.int .i64 3,.bool false,.bool g,.vs false 1 [.int .u32 (a:Nat),.int .u32 (b:Nat)],.str [],.vs true 0 [],.bool false,.bool false]
inductive Ap (s:St)(sz ty:Nat):D->List D->Prop
 | nil:Ap s sz ty (.vs true 0 []) []
 | sl {o st:Nat} {L:List D} (h:s.get o=some (.arr sz ty L st)) (cG:st<=L.length) (hn:L≠ []):Ap s sz ty (.sl o 0 L.length L.length) L
theorem Ap.to {s:St}{sz ty o st n:Nat}{L:List D}(h:s.get o=some (.arr sz ty L st))(cG:st<=L.length)(hn:L≠ [])(he:L.length=n):Ap s sz ty (.sl o 0 n n) L:=by subst he; exact .sl h cG hn
def FL (n:Nat)(yes most w:Int)(g:Bool)(lx kx:D)(j:Nat):Env:=[(0,.int .i64 (n:Nat)),(1,.int .i64 yes),(3,.int .i64 most),(9,.int .u64 w),(10,.bool g),(11,lx),(12,kx),(13,.int .i64 (j:Nat))]
noncomputable def YV:AC:=match Jn.1.body with
 | .seq _ (.seq _ (.seq _ (.seq _ (.seq _ (.seq _ (.seq _ (.seq (.seq _ (.block _ l)) _)))))))=>l
 | _=> .skip
section
variable {T:Nat->Option dJ}{H:au}{s:St}{n:Nat}{yes most w:Int}{g:Bool}{a b:Nat}
def TI (n:Nat)(yes most w:Int)(g:Bool)(a b:Nat):Nat->Env->St->Prop:=fun m E s=>∃j lx kx,j<=n+1/\m=n+1 - j/\E=FL n yes most w g lx kx j/\s.Ok/\Ap s 8 32 lx (List.replicate j (rI g a b))/\Ap s 1 3 kx (ints (jq (min j n)))
theorem Ap.inv {sz ty:Nat}{x:D}{L:List D}(h:Ap s sz ty x L):(x= .vs true 0 []/\L=[])\/∃o st,x= .sl o 0 L.length L.length/\s.get o=some (.arr sz ty L st)/\st<=L.length/\L≠ []:=by
 cases h with
 | nil=>exact .inl ⟨rfl,rfl⟩
 | sl h1 h2 h3=>exact .inr ⟨_,_,rfl,h1,h2,h3⟩
theorem Ae (hs:s.Ok)(hn:n<=40)(ha:IntKind.wrap .u32 w=(a:Int))(hb:IntKind.wrap .u32 (w.fdiv (2 ^ min (Int.toNat 32) (IntKind.bits .u64)))=(b:Int)){tl:AC}{K:List iI}{Q:QP}{E0:Env}(D8:E0.bM [0,1,3,9,10,11,12,13]=FL n yes most w g (.vs true 0 []) (.vs true 0 []) 0)
  (hk:∀s1 lx kx,s1.Ok->Ap s1 8 32 lx (List.replicate (n+1) (rI g a b))->Ap s1 1 3 kx (ints (jq n))->dR T H tl K ⟨(36,.bool false)::(35,.int .i64 (n:Nat))::(34,.int .i64 ((n+1:Nat):Int))::FL n yes most w g lx kx (n+1),[]⟩ s1 Q):
  dR T H YV (.block 0:: .seq tl::K) ⟨E0,[]⟩ s Q:=by
 show dR T H (.loop _ _) _ _ _ _;refine fY (TI n yes most w g a b) (n+1) rfl ⟨0,_,_,by omega,rfl,D8,hs,.nil,by rw [Nat.zero_min]; exact .nil⟩ ?_;rintro m E s' ⟨j,lx,kx,hj,rfl,rfl,gy,hl,xM⟩;have w1:IntKind.wrap .i64 ((j:Int)+1)=((j+1:Nat):Int):=by rw [wrap_small (by omega) (by omega)]; omega
 have hr:List.replicate (j+1) (rI g a b)=List.replicate j (rI g a b)++ [rI g a b]:=j7;have dn:List.replicate j (rI g a b)++ [rI g a b]≠ []:=by simp
 have vQ:(List.replicate j (rI g a b)).length=j:=cM;show dR T H _ _ ⟨[(0,.int .i64 (n:Nat)),(1,.int .i64 yes),(3,.int .i64 most),(9,.int .u64 w),(10,.bool g),(11,lx),(12,kx),(13,.int .i64 (j:Nat))],[]⟩ _ _;by_cases hjn:j<=n
 ·have d1:=ur ((j:Int)<=(n:Nat));by_cases OD:j < n
  ·have d2:=ur ((j:Int) < (n:Nat));have Sy:min j n=j:=by omega
   have hm2:min (j+1) n=j+1:=by omega
   have wZ:ints (jq (j+1))=ints (jq j)++ [.int .i64 (j:Nat),.int .i64 (j:Nat)]:=by rw [tO]; simp [ints]
   have sD:(ints (jq j)).length=2 * j:=by rw [fH,nX]
   have Sz:ints (jq j)++ [D.int .i64 (j:Nat),.int .i64 (j:Nat)]≠ []:=by simp
   rw [Sy]at xM;rcases hl.inv with ⟨rfl,hz⟩ | ⟨lo,st,rfl,gl,cG,Bi⟩
   ·obtain rfl:j=0:=by simpa using congrArg List.length hz
    rcases xM.inv with ⟨rfl,_⟩ | ⟨_,_,_,_,_,h0⟩
    ·try refine go ?_
     simp only [ha,hb];refine ec (n+1 - (0+1)) (by omega) rfl ⟨0+1,_,_,by omega,rfl,rfl, ?_, ?_, ?_⟩
     ·exact oI
     ·exact Ap.to (o:=s'.n) (st:=0) (St.dN St.bq (by simp only [St.ck]; omega)) (cH _) (by simp) rfl
     ·rw [show min (0+1) n=0+1 by omega];exact Ap.to (st:=0) St.bq (cH _) (by rw [wZ]; exact Sz) rfl
    ·exact absurd rfl h0
   ·rcases xM.inv with ⟨rfl,hz⟩ | ⟨ko,xh,rfl,gk,yX,_⟩
    ·have Ih:=congrArg List.length hz;rw [sD,b9]at Ih;obtain rfl:j=0:=by omega
     exact absurd rfl Bi
    ·have lgl:=gy.lt gl; have lgk:=gy.lt gk;have Xm:lo≠ko:=bj gl gk (by simp [tag]);have h8:j+1<=aM:=by simp only [aM]; omega
     rw [vQ]at cG;rw [sD]at yX;simp only [vQ,sD];try refine go ?_
     simp only [ha,hb];refine ec (n+1 - (j+1)) (by omega) rfl ⟨j+1,_,_,by omega,rfl,rfl, ?_, ?_, ?_⟩
     ·exact oI
     ·refine Ap.to (o:=lo) (st:=st) ?_ (by rw [cM]; omega) (by rw [hr]; exact dn) (by rw [cM]; rfl);rw [hr];exact St.cu St.aG Xm
     ·rw [hm2,wZ];refine Ap.to (o:=ko) (st:=xh) St.aG (by rw [an]; omega) Sz (by rw [an,sD]; rfl)
  ·have d2:=qV ((j:Int) < (n:Nat));obtain rfl:j=n:=by omega
   have Sy:min j j=j:=by omega
   have hm2:min (j+1) j=j:=by omega
   rw [Sy]at xM;rcases hl.inv with ⟨rfl,hz⟩ | ⟨lo,st,rfl,gl,cG,Bi⟩
   ·obtain rfl:j=0:=by simpa using congrArg List.length hz
    rcases xM.inv with ⟨rfl,_⟩ | ⟨_,_,_,_,_,h0⟩
    ·try refine go ?_
     simp only [ha,hb];refine ec (0+1 - (0+1)) (by omega) rfl ⟨0+1,_,_,by omega,rfl,rfl, ?_, ?_, ?_⟩
     ·exact oI
     ·exact Ap.to (o:=s'.n) (st:=0) St.bq (cH _) (by simp) rfl
     ·exact .nil
    ·exact absurd rfl h0
   ·rcases xM.inv with ⟨rfl,hz⟩ | ⟨ko,xh,rfl,gk,yX,FP⟩
    ·have Ih:=congrArg List.length hz;rw [fH,nX,b9]at Ih;obtain rfl:j=0:=by omega
     exact absurd rfl Bi
    ·have lgl:=gy.lt gl; have lgk:=gy.lt gk;have Xm:lo≠ko:=bj gl gk (by simp [tag]);have h8:j+1<=aM:=by simp only [aM]; omega
     have sD:(ints (jq j)).length=2 * j:=by rw [fH,nX]
     rw [vQ]at cG;rw [sD]at yX;simp only [vQ,sD];try refine go ?_
     simp only [ha,hb];refine ec (j+1 - (j+1)) (by omega) rfl ⟨j+1,_,_,by omega,rfl,rfl, ?_, ?_, ?_⟩
     ·exact oI
     ·refine Ap.to (o:=lo) (st:=st) ?_ (by rw [cM]; omega) (by rw [hr]; exact dn) (by rw [cM]; rfl);rw [hr];exact St.aG
     ·rw [hm2];exact Ap.to (o:=ko) (st:=xh) (St.cu (o:=lo) (s:=s'.up 1) (St.yN gk) (bE Xm)) (by omega) FP sD
 ·have d1:=qV ((j:Int)<=(n:Nat));obtain rfl:j=n+1:=by omega
  rw [show min (n+1) n=n by omega]at xM;try refine go ?_
  exact hk _ _ _ gy hl xM
end
structure I9 (n:Nat)(g:Bool)(m:List Nat)(s0:St)(so o la ta pl mp q st dv:Nat)(Ds:List D)(k tk:Nat)(R:List Nat)(E:List dY)(WD:Nat->Prop):Prop where
 ok:s0.Ok
 gq:s0.get q=some (.arr 1 3 (ints (R.map Int.ofNat)) st)
 sq:st<=R.length
 rl:R.length=n+5
 sa:aX s0 so o la ta pl mp 1000 4 Ds k k tk
 ri:∀i,i<=n->R[i]? =some (4+2 * i)
 rd:R[n+1]? =some (2 * n+5)
 rb:R[n+2]? =some 2
 rn:R[n+3]? =some 0
 rz:R[n+4]? =some (2 * n+6)
 qd:∀i,i<=n->kI 1000 s0 Ds (4+2 * i) (fun j=>s0.n<=j)
 dz:∃d F,Ds[2 * n+6]? =some d/\eK 1000 F s0 d (.int (db g m))
 tr:qq Ds 2 true
 fa:qq Ds 0 false
 pC:∃po num,Ds[2 * n+5]? =some (.eM 56 (.ptr po 0))/\s0.get po=some (.var 67 (.agg [.int .i64 (num:Nat),.ptr dv 0,.int .i64 7]))/\0 < num
 NN:dQ WD s0 dv 1000 E
 wd:∀j,WD j->j < s0.n
 keys:xC 1000 s0 Ds (4+2 * n) (fq (db g m)) E
 el:E.length=n
 ea:∀i,i < n->∃b,E[i]? =some ⟨fq (g,m),((4+2 * i:Nat):Int),((4+2 * i:Nat):Int),b⟩
theorem UZ {n:Nat}{g:Bool}{m:List Nat}{d:D}{s0:St}(h:ye n g m d s0):∃so o la ta pl mp q st dv Ds k tk R E WD,d= .gW [.ptr so 0,.sl q 0 R.length R.length,.bool true]/\I9 n g m s0 so o la ta pl mp q st dv Ds k tk R E WD:=by
 obtain⟨ok,so,o,la,ta,pl,mp,q,st,Ds,Vs,k,tk,F,R,E,rfl,gq,cG,sa,y8,hM,hR⟩:=h;obtain⟨d1,e1,v1⟩:=y8.get hM.vd;obtain⟨po,dv,rfl,gp,hd,hF⟩:=v1
 have UR:∀i,i<=n->kI 1000 s0 Ds (4+2 * i) (fun j=>s0.n<=j):=fun i hi=>by
  obtain⟨w1,w2⟩:=hM.vi i hi;obtain⟨d2,e2,v2⟩:=y8.get w1;obtain⟨d3,e3,v3⟩:=y8.get w2;exact⟨d2,_,_,d3,_,_,_,by omega,e2,v2,e3,v3,fun j hj=>by have:=(y8.lt _ j hj).1; omega,fun j hj=>by have:=(y8.lt _ j hj).1; omega⟩
 refine⟨so,o,la,ta,pl,mp,q,st,dv,Ds,k,tk,R,E,_,rfl,⟨ok,gq,cG,hR,sa,hM.ri,hM.rd,hM.rb,hM.rn,hM.rz,UR, ?_, ?_, ?_,⟨po,2 * n+3,e1,gp,by omega⟩,hd,fun j hj=>(y8.lt _ j hj).1, ?_,hM.el,hM.ea⟩⟩
 ·obtain⟨d2,e2,v2⟩:=y8.get hM.vz;exact⟨d2,_,e2,v2⟩
 ·obtain⟨d2,e2,v2⟩:=y8.get hM.vb.2.2;cases v2;exact .inr ⟨rfl,e2⟩
 ·obtain⟨d2,e2,v2⟩:=y8.get hM.vb.1;cases v2;exact .inl ⟨rfl,e2⟩
 ·intro e he;obtain⟨i,hi⟩:=ed he;have hl:=(aj.mp hi).1;rw [hM.el]at hl;obtain⟨b,hb⟩:=hM.ea i hl;rw [hi]at hb;cases hb;exact⟨(FF g m).symm,4+2 * i,rfl,by omega,UR i (by omega)⟩
section
variable {T:Nat->Option dJ}{H:au}{s0 s s1:St}{n:Nat}{g:Bool}{m:List Nat}{so o la ta pl mp q st dv:Nat}{Ds:List D}{k tk:Nat}{R:List Nat}{E:List dY}{WD:Nat->Prop}{mo:Nat}{most:Int}
theorem Fy (hE:lC T){tn:Int}(h:LC s0 s mo so tn):bY T H 9 [.ptr mo 0] s fun d s1=>d= .int .i64 tn/\s1=s:=by
 obtain⟨_,f,v1,x,hg⟩:=h;refine aD hE.t9 ?_;try refine go ?_
 exact ai ⟨rfl,rfl⟩
theorem Hv {P' Sh lv:Nat}(hS:TS T)(cG:aX s so o la ta pl mp P' Sh Ds k lv tk){p:Nat}{b:Bool}(hp:qq Ds p b):∃kd:Int,kd≠0/\bY T H 23 [.ptr so 0,.int .i64 (p:Nat)] s fun d s1=>d= .int .i64 kd/\s1=s:=by
 rcases hp with ⟨rfl,hp⟩ | ⟨rfl,hp⟩
 ·exact⟨1,by decide,xP (Q:=0) (F:=fun _=>False) (v:= .none) hS cG hp rfl⟩
 ·exact⟨2,by decide,xP (Q:=0) (F:=fun _=>False) (v:= .bool true) hS cG hp rfl⟩
theorem BX (hE:lC T)(hS:TS T)(hT:TT T)(hW:TW T)(hV:TV T)(hP:TP T)(cx:I9 n g m s0 so o la ta pl mp q st dv Ds k tk R E WD)(hn:n<=40)(gR:1<=most){ko ro wo t t2 bt bw bd bg bk bv wI dp vp:Nat}(hA:Vm s0 s mo so ko ro wo t t2 bt bw bd bg bk bv wI dv dp (4+2 * n) vp):
  bY T H 8 [.ptr mo 0,.int .i64 ((2 * n+6:Nat):Int)] s fun d s1=>d= .int .i64 0/\aH Nil s0 s1/\bY T H 7 [.ptr mo 0,.int .i64 most] s1 (Ja s0 mo so (4+2 * n) dv 1000 WD E (fq (db g m)) (vp:Nat) 0 1 4):=by
 have hs:=hA.zb.ok;obtain⟨dz,F,hdz,hvz⟩:=cx.dz;have cG:=cx.sa.dT cx.ok hA.zb fun _ _ h=>h;have kM:=xP (H:=H) hS cG hdz (hvz.dT cx.ok hA.zb fun _ _ _ h=>h);refine (Ey (p:=2 * n+6) (kd:=3) hE hs hA.zm (by simp) (by decide) kM).mono ?_;rintro d s1 ⟨rfl,m1,b1⟩;have jmo:=(hA.zg mo (by simp)).1; have jro:=(hA.zg ro (by simp)).1;exact⟨rfl,hA.zb.trans' b1 fun o q1 q2=>by rcases q1 with q1 | q1 <;> omega,Qw (Q:=1000) (Q' :=1000) (p:=2 * n+6) (L:=[(dp:Int),((4+2 * n:Nat):Int),(vp:Int)]++ [((2 * n+6:Nat):Int)]) hE hS hT hW hV hP cx.ok cx.sa hA m1 b1 hdz hvz cx.NN cx.wd cx.keys (by rw [cx.el]; omega) (cx.qd n (aq _)).GM gR (by simp)⟩
theorem Vf (hE:lC T)(hS:TS T)(hT:TT T)(hP:TP T)(cx:I9 n g m s0 so o la ta pl mp q st dv Ds k tk R E WD)(hn:n<=40)(gR:1<=most){v:Int}{i x ml p:Nat}{tn:Int}{b:Bool}(hA:Lx s0 s mo so (4+2 * n) dv 1000 WD E (fq (db g m)) v i x tn ml)(hp:qq Ds p b){e:dY}(Le:E[i]? =some e)(H9:ml<=8000)(SI:0<=tn/\tn < 100000):
  bY T H 8 [.ptr mo 0,.int .i64 (p:Nat)] s fun d s1=>d= .int .i64 0/\aH Nil s0 s1/\bY T H 7 [.ptr mo 0,.int .i64 most] s1 fun d s2=>(b=true/\d= .agg [.int .i64 2,.int .i64 0,.int .i64 0,.int .i64 0,.int .i64 0,.bool true,.int .i64 e.v,.int .i64 0]/\LC s0 s2 mo so tn)\/(b=false/\Ja s0 mo so (4+2 * n) dv 1000 WD E (fq (db g m)) v (i+1) tn (ml+1) d s2):=by
 obtain⟨ro,wo,t,t3,bm,bt,bw,bk,bs,pm,kn,t4,vk,sk,L,rfl,hA⟩:=hA;have hs:=hA.zs.zb.ok;have cG:=cx.sa.dT cx.ok hA.zs.zb fun _ _ h=>h;obtain⟨kd,FP,kM⟩:=Hv (H:=H) hS cG hp;refine (Ey (p:=p) (kd:=kd) hE hs hA.zm (by omega) FP kM).mono ?_;rintro d s1 ⟨rfl,m1,b1⟩;have jmo:=hA.zs.zj mo (by simp); have jro:=hA.zs.zj ro (by simp);have sS:(L++ [(p:Int)]).length=L.length+1:=by rw [an]; rfl
 have h3:=Qx (H:=H) (most:=most) (Q' :=1000) hE hS hT hP cx.ok cx.sa hA m1 b1 hp Le cx.wd cx.keys (by rw [cx.el]; omega) (cx.qd n (aq _)).GM gR (by omega) SI;rw [sS]at h3;exact⟨rfl,hA.zs.zb.trans' b1 fun o q1 q2=>by rcases q1 with q1 | q1 <;> omega,h3⟩
end
noncomputable def L4:AC:=match Jn.1.body with
 | .seq _ (.seq _ (.seq _ (.seq _ (.seq _ (.seq _ (.seq _ (.seq _ r)))))))=>r
 | _=> .skip
noncomputable def L5:AC:=match L4 with
 | .seq _ (.seq _ (.seq _ (.seq _ (.seq _ (.seq _ (.seq _ (.seq _ r)))))))=>r
 | _=> .skip
noncomputable def Gf:AC:=match L5 with
 | .seq (.seq _ (.block _ (.loop _ a))) _=>a
 | _=> .skip
noncomputable def L6:AC:=match L5 with
 | .seq _ r=>r
 | _=> .skip
@[reducible] def tv (a0 a1 a2 a3 a4:Int) (a5:Bool) (a6 a7:Int):D:= .agg [.int .i64 a0,.int .i64 a1,.int .i64 a2,.int .i64 a3,.int .i64 a4,.bool a5,.int .i64 a6,.int .i64 a7]
@[reducible] def etA:ET:= .st (.cons 0 none .int (.cons 1 none .int (.cons 2 none .int (.cons 3 none .int (.cons 4 none .int (.cons 5 none .bool (.cons 6 none .int (.cons 7 none .int .nil))))))))
theorem pg {oc:Bool}{a0 a1 a2 a3 a4 a6 a7:Int}{a5:Bool}:sC oc etA (tv a0 a1 a2 a3 a4 a5 a6 a7) (tv a0 a1 a2 a3 a4 a5 a6 a7)=some true:=by
 have hi:∀a:Int,Yp (.int .i64 a) (.int .i64 a)=some true:=fun a=>by simp [Yp,lT]
 have hb:∀a:Bool,N2 (.bool a) (.bool a)=some true:=fun a=>by simp [N2]
 simp only [sC,JG,Ab.part,hi,hb,aS,bP]
theorem mO {C:au}{e:Env}{s:St}{al:Option Nat}{et:ET}{neg oc:Bool}{x y:bO}{a:D}(hx:x.ev e=some a)(hy:y.ev e=some a)(h:sC oc et a a=some true):cg C e s al (.eq et neg oc x y)=some (.bool (true !=neg),s):=by simp only [cg,hx,hy,h]
def YQ (n:Nat)(yes most:Int)(q mo:Nat)(y:D)(i:Nat):Env:=[(0,.int .i64 (n:Nat)),(1,.int .i64 yes),(3,.int .i64 most),(15,.sl q 0 (n+5) (n+5)),(17,.ptr mo 0),(18,.lv y),(19,.int .i64 (i:Nat))]
section
variable {T:Nat->Option dJ}{H:au}{s0 s s1:St}{n:Nat}{g:Bool}{m:List Nat}{so o la ta pl mp q st dv:Nat}{Ds:List D}{k tk:Nat}{R:List Nat}{E:List dY}{WD:Nat->Prop}{mo:Nat}{most yes:Int}
def Lw (T:Nat->Option dJ)(H:au)(s0:St)(mo so n dv:Nat)(WD:Nat->Prop)(E:List dY)(h v most:Int)(i:Nat)(s:St):Prop:=aH Nil s0 s/\bY T H 7 [.ptr mo 0,.int .i64 most] s (Ja s0 mo so (4+2 * n) dv 1000 WD E h v i (i+1:Nat) (4+3 * i))
theorem Jf (hE:lC T)(hS:TS T)(hT:TT T)(hP:TP T)(cx:I9 n g m s0 so o la ta pl mp q st dv Ds k tk R E WD)(hn:n<=40)(gR:1<=most){v:Int}{i:Nat}(hi:i < n){a0 a1 a2 a3 a4 a6 a7:Int}{a5:Bool}
  (hI:Lw T H s0 mo so n dv WD E (fq (db g m)) v most i s)(C4:∀s,bY T H 4 [] s fun d s1=>d= .bool true/\s1=s){K:List iI}(hr:∀s1 (E2:Env),E2.get 8=some (.bool true)->lB T H .ret K ⟨E2,[]⟩ s1 (QF Jn.1.results fun d s1=>d= .bool true))
  (hk:∀s1 y0 y1 y2 y3 y4 y5 y6 y7,Lw T H s0 mo so n dv WD E (fq (db g m)) v most (i+1) s1->∀E2:Env,E2.bM [0,1,3,15,17,18,19]=YQ n yes most q mo (tv y0 y1 y2 y3 y4 y5 y6 y7) (i+1)->lB T H .normal K ⟨E2,[]⟩ s1 (QF Jn.1.results fun d s1=>d= .bool true)):
  dR T H Gf K ⟨YQ n yes most q mo (tv a0 a1 a2 a3 a4 a5 a6 a7) i,[]⟩ s (QF Jn.1.results fun d s1=>d= .bool true):=by
 obtain⟨zb,cG⟩:=hI;have hs:=zb.ok;have gq:=zb.get cx.ok cx.gq fun h=>h;have sq:=cx.sq;have rl:=cx.rl;rw [rl]at sq;have il:(ints (R.map Int.ofNat)).length=n+5:=by rw [jv,rl]
 have hx:∀ {j r:Nat},R[j]? =some r->(ints (R.map Int.ofNat))[0+j]? =some (.int .i64 (r:Nat)):=fun {j r} h=>by simp only [ints,aU,aO,h,dh]; rfl
 have hxi:=hx (cx.ri i (by omega));have hxn:=hx (cx.ri n (by omega));have d1:=ur ((i:Int) < (n:Nat));have w1:IntKind.wrap .i64 ((i:Int)+1)=((i+1:Nat):Int):=by rw [wrap_small (by omega) (by omega)]; omega
 show dR T H _ _ ⟨[(0,.int .i64 (n:Nat)),(1,.int .i64 yes),(3,.int .i64 most),(15,.sl q 0 (n+5) (n+5)),(17,.ptr mo 0),(18,.lv (.agg [.int .i64 a0,.int .i64 a1,.int .i64 a2,.int .i64 a3,.int .i64 a4,.bool a5,.int .i64 a6,.int .i64 a7])),(19,.int .i64 (i:Nat))],[]⟩ _ _;try refine go ?_
 refine af cG ?_;intro d s2 hO;obtain⟨b,Le⟩:=cx.ea i hi;rcases hO with ⟨e,x,h1,h2,rfl,hA⟩ | ⟨h1,_⟩
 ·rw [Le]at h1;cases h1;simp only at h2;obtain rfl:x=4+2 * i:=by omega
  have z2:aH Nil s0 s2:=by
   obtain⟨ro,wo,t,t3,bm,bt,bw,bk,bs,pm,kn,t4,vk,sk,L,_,hA⟩:=hA;exact hA.zs.zb
  have o7:=z2.ok;have La:=z2.get cx.ok cx.gq fun h=>h;try refine go ?_
  refine lM (d:= .bool false) ?_ (ho:=mO (a:=tv 1 2 (4+2 * i:Nat) (4+2 * n:Nat) 0 false 0 0) rfl rfl pg);have w2:IntKind.wrap .i64 ((n:Int)+2)=((n+2:Nat):Int):=by rw [wrap_small (by omega) (by omega)]; omega
  have w3:IntKind.wrap .i64 ((n:Int)+3)=((n+3:Nat):Int):=by rw [wrap_small (by omega) (by omega)]; omega
  have w4:IntKind.wrap .i64 ((i:Int)+2)=((i+2:Nat):Int):=by rw [wrap_small (by omega) (by omega)]; omega
  have hxb:=hx cx.rb;have hxz:=hx cx.rn;by_cases hy:(i:Int)=yes
  ·have d2:((i:Int)==yes)=true:=by rw [hy]; simp
   try refine go ?_
   simp only [w2,aQ];try refine go ?_
   refine af (Vf hE hS hT hP cx hn gR hA cx.tr Le (by omega) (by omega)) ?_;rintro d s3 ⟨rfl,z3,o9⟩;have Ll:=z3.ok;have Lb:=z3.get cx.ok cx.gq fun h=>h;try refine go ?_
   refine af o9 ?_;rintro d s4 (⟨_,rfl,JU⟩ | ⟨h,_⟩);rotate_left
   ·cases h
   have hs4:=JU.1.ok;have gq4:=JU.1.get cx.ok cx.gq fun h=>h;try refine go ?_
   refine lM (d:= .bool true) ?_ (ho:=mO (a:=tv 2 0 0 0 0 true (4+2 * i:Nat) 0) rfl rfl pg);try refine go ?_
   refine aV (Fy hE JU) ?_;rintro d s5 ⟨rfl,rfl⟩;refine⟨rfl,by rfl, ?_⟩;try refine go ?_
   have we:(((i+1:Nat):Int)+1==IntKind.wrap .i64 ((i:Int)+2))=true:=by rw [w4,gA]; omega
   simp only [we];refine aV (C4 _) ?_;rintro d s6 ⟨rfl,rfl⟩;refine⟨rfl,by rfl, ?_⟩;try refine go ?_
   exact hr _ _ rfl
  ·have d2:((i:Int)==yes)=false:=by simpa using hy
   try refine go ?_
   simp only [w3,aQ];try refine go ?_
   refine af (Vf hE hS hT hP cx hn gR hA cx.fa Le (by omega) (by omega)) ?_;rintro d s3 ⟨rfl,z3,o9⟩;try refine go ?_
   refine hk s3 _ _ _ _ _ _ _ _ ⟨z3,o9.mono ?_⟩ _ rfl;rintro d s4 (⟨h,_⟩ | ⟨_,hO⟩)
   ·cases h
   ·rw [show (((i+1:Nat):Int)+1)=((i+1+1:Nat):Int) by omega,show 4+3 * i+2+1=4+3 * (i+1) by omega]at hO;exact hO
 ·exact absurd h1 (by rw [cx.el]; omega)
theorem RB (hE:lC T)(cx:I9 n g m s0 so o la ta pl mp q st dv Ds k tk R E WD)(hn:n<=40){v:Int}{a0 a1 a2 a3 a4 a6 a7:Int}{a5:Bool}
  (hI:Lw T H s0 mo so n dv WD E (fq (db g m)) v most n s)(C4:∀s,bY T H 4 [] s fun d s1=>d= .bool true/\s1=s){I:Nat->Env->St->Prop}{ks:List Nat}{mm:Nat}:
  dR T H Gf [.loop I ks mm,.block 2,.seq L6] ⟨YQ n yes most q mo (tv a0 a1 a2 a3 a4 a5 a6 a7) n,[]⟩ s (QF Jn.1.results fun d s1=>d= .bool true):=by
 obtain⟨zb,cG⟩:=hI;have hs:=zb.ok;have d1:=qV ((n:Int) < (n:Nat));have w1:IntKind.wrap .i64 ((n:Int)+1)=((n+1:Nat):Int):=by rw [wrap_small (by omega) (by omega)]; omega
 show dR T H _ _ ⟨[(0,.int .i64 (n:Nat)),(1,.int .i64 yes),(3,.int .i64 most),(15,.sl q 0 (n+5) (n+5)),(17,.ptr mo 0),(18,.lv (.agg [.int .i64 a0,.int .i64 a1,.int .i64 a2,.int .i64 a3,.int .i64 a4,.bool a5,.int .i64 a6,.int .i64 a7])),(19,.int .i64 (n:Nat))],[]⟩ _ _;try refine go ?_
 refine af cG ?_;rintro d s2 (⟨e,x,h1,_⟩ | ⟨_,rfl,JU⟩)
 ·have:=(aj.mp h1).1;rw [cx.el]at this;exact absurd this (fP _)
 have o7:=JU.1.ok;try refine go ?_
 refine af (Fy hE JU) ?_;rintro d s3 ⟨rfl,rfl⟩;have we:(((n+1:Nat):Int)==((n+1:Nat):Int))=true:=by simp
 try refine go ?_
 refine af (C4 _) ?_;rintro d s3 ⟨rfl,rfl⟩;try refine go ?_
 exact ai rfl
end
def F5 (T:Nat->Option dJ)(H:au):Prop:=∀(s:St) (n:Nat) (g:Bool) (a b lo st:Nat) (kx:D),s.Ok->n<=40->a < 4294967296->b < 4294967296->s.get lo=some (.arr 8 32 (List.replicate (n+1) (rI g a b)++ [rD kx,rB,rN,rZ g a b]) st)->Ap s 1 3 kx (ints (jq n))->
 bY T H 5 [.sl lo 0 (n+1+4) (n+1+4)] s (ye n g [a,b])
theorem Ap.set {s:St}{sz ty z y lo st:Nat}{x:D}{L es:List D}{w:Ab.Obj}(h:Ap s sz ty x L)(hg:s.get lo=some (.arr z y es st))(ht:ty≠y):Ap (s.bn lo w) sz ty x L:=by
 cases h with
 | nil=>exact .nil
 | sl h1 h2 h3=>exact .sl (St.cu h1 (bj h1 hg (by simp only [tag,ne_eq,ab,true_and]; exact ht))) h2 h3
theorem sj {s0 s:St}{mo so ko ro wo t bt bw bd bg bk bv dv dp kp vp:Nat}(h:Rp s0 s mo so ko ro wo t bt bw bd bg bk bv dv dp kp vp):[bt,bw,bd,bg,bk,bv,t,ko,mo,ro,wo].Nodup:=by
 obtain⟨zm,⟨st,cG,zk⟩,zw,zt,zh,zb,zg,zd⟩:=h;have gm:=zm.gm; have gr:=zm.gr;obtain⟨xt,xw,xd,xg,xk,xv⟩:=zh;simp only [dZ,aN,bA,jr,cJ,cT,fj,ix]at zd ⊢;obtain⟨⟨p1,p2,p3,p4,p5,p6⟩,⟨q1,q2,q3,q4,q5⟩,⟨r1,r2,r3,r4⟩,⟨u1,u2,u3⟩,⟨v1,v2⟩,w1⟩:=zd;refine⟨⟨q1,q2,q3,q4,q5,bE p1, ?_, ?_, ?_, ?_⟩,⟨r1,r2,r3,r4,bE p2, ?_, ?_, ?_, ?_⟩,⟨u1,u2,u3,bE p3, ?_, ?_, ?_, ?_⟩,⟨v1,v2,bE p4, ?_, ?_, ?_, ?_⟩,⟨w1,bE p5, ?_, ?_, ?_, ?_⟩,⟨bE p6, ?_, ?_, ?_, ?_⟩,⟨?_, ?_, ?_, ?_⟩,⟨?_, ?_, ?_⟩,⟨?_, ?_⟩, ?_⟩
 ·exact bj xt zk (by simp [tag])
 ·exact bj xt gm (by simp [tag])
 ·exact bj xt gr (by simp [tag])
 ·exact bj xt zw (by simp [tag])
 ·exact bj xw zk (by simp [tag])
 ·exact bj xw gm (by simp [tag])
 ·exact bj xw gr (by simp [tag])
 ·exact bj xw zw (by simp [tag])
 ·exact bj xd zk (by simp [tag])
 ·exact bj xd gm (by simp [tag])
 ·exact bj xd gr (by simp [tag])
 ·exact bj xd zw (by simp [tag])
 ·exact bj xg zk (by simp [tag])
 ·exact bj xg gm (by simp [tag])
 ·exact bj xg gr (by simp [tag])
 ·exact bj xg zw (by simp [tag])
 ·exact bj xk zk (by simp [tag])
 ·exact bj xk gm (by simp [tag])
 ·exact bj xk gr (by simp [tag])
 ·exact bj xk zw (by simp [tag])
 ·exact bj xv zk (by simp [tag])
 ·exact bj xv gm (by simp [tag])
 ·exact bj xv gr (by simp [tag])
 ·exact bj xv zw (by simp [tag])
 ·exact bj zt zk (by simp [tag])
 ·exact bj zt gm (by simp [tag])
 ·exact bj zt gr (by simp [tag])
 ·exact bj zt zw (by simp [tag])
 ·exact bj zk gm (by simp [tag])
 ·exact bj zk gr (by simp [tag])
 ·exact bj zk zw (by simp [tag])
 ·exact bj gm gr (by simp [tag])
 ·exact bj gm zw (by simp [tag])
 ·exact bj gr zw (by simp [tag])
section
variable {T:Nat->Option dJ}{H:au}{s:St}{n:Nat}{yes most w:Int}{g:Bool}{a b:Nat}
theorem pR (hE:lC T)(hS:TS T)(hT:TT T)(hP:TP T){s0:St}{m:List Nat}{so o la ta pl mp q st dv k tk mo:Nat}{Ds:List D}{R:List Nat}{E:List dY}{WD:Nat->Prop}{v:Int}(cx:I9 n g m s0 so o la ta pl mp q st dv Ds k tk R E WD)(hn:n<=40)(gR:1<=most)(C4:∀s,bY T H 4 [] s fun d s1=>d= .bool true/\s1=s)
  (hI:Lw T H s0 mo so n dv WD E (fq (db g m)) v most 0 s){a0 a1 a2 a3 a4 a6 a7:Int}{a5:Bool}{E0:Env}(D8:E0.bM [0,1,3,15,17,18,19]=YQ n yes most q mo (tv a0 a1 a2 a3 a4 a5 a6 a7) 0):
  dR T H (.loop [0,1,3,15,17,18,19] Gf) [.block 2,.seq L6] ⟨E0,[]⟩ s (QF Jn.1.results fun d s1=>d= .bool true):=by
 refine fY (fun mm env s' =>∃(i:Nat) (y0 y1 y2 y3 y4 y6 y7:Int) (y5:Bool),i<=n/\mm=n - i/\env=YQ n yes most q mo (tv y0 y1 y2 y3 y4 y5 y6 y7) i/\Lw T H s0 mo so n dv WD E (fq (db g m)) v most i s') n rfl ⟨0,_,_,_,_,_,_,_,_,cH _,rfl,D8,hI⟩ ?_;rintro mm env s' ⟨i,y0,y1,y2,y3,y4,y6,y7,y5,hi,rfl,rfl,rG⟩;by_cases eW:i < n
 ·refine Jf hE hS hT hP cx hn gR eW rG C4 (fun s1 E2 h8=> ?_) fun s1 z0 z1 z2 z3 z4 z5 z6 z7 hI2 E2 H4=>ec (n - (i+1)) (by omega) rfl ⟨i+1,z0,z1,z2,z3,z4,z6,z7,z5,by omega,rfl,H4,hI2⟩;refine wq (qJ (uZ (ai (r:=[.bool true]) rfl rfl ?_ rfl)));show jH E2 s1 [.tmp 8]=_;simp only [jH,bO.ev,h8]
 ·obtain rfl:i=n:=by omega
  exact RB hE cx hn rG C4
theorem AP (hE:lC T)(hS:TS T)(hT:TT T)(hP:TP T)(hW:TW T)(hV:TV T)(hM:F5 T H)(C4:∀s,bY T H 4 [] s fun d s1=>d= .bool true/\s1=s)(hs:s.Ok)(hn:n<=40)(ha:a < 4294967296)(hb:b < 4294967296)(Sy: -9223372036854775808<=most/\most<=9223372036854775807){lx kx:D}(hl:Ap s 8 32 lx (List.replicate (n+1) (rI g a b)))(xM:Ap s 1 3 kx (ints (jq n))):
  dR T H L4 [] ⟨(36,.bool false)::(35,.int .i64 (n:Nat))::(34,.int .i64 ((n+1:Nat):Int))::FL n yes most w g lx kx (n+1),[]⟩ s (QF Jn.1.results fun d s1=>d= .bool true):=by
 rcases hl.inv with ⟨_,hz⟩ | ⟨lo,st,rfl,gl,cG,_⟩
 ·have:=congrArg List.length hz;rw [cM,b9]at this; omega
 have vQ:(List.replicate (n+1) (rI g a b)).length=n+1:=cM;rw [vQ]at cG;have Z7:(List.replicate (n+1) (rI g a b))[0+0]? =some (rI g a b):=by rw [k9,bQ (by omega)]
 have h8:n+1+4<=aM:=by simp only [aM]; omega
 have lgl:=hs.lt gl;simp only [vQ];have hkx:kx= .vs true 0 []\/∃ko c,kx= .sl ko 0 c c/\ko≠lo:=by
  rcases xM.inv with ⟨h,_⟩ | ⟨ko,xh,h,gk,_⟩
  ·exact .inl h
  ·exact .inr ⟨ko,_,h,bj gk gl (by simp [tag])⟩
 rcases hkx with rfl | ⟨ko,c,rfl,GH⟩
 ·show dR T H _ _ ⟨[(36,.bool false),(35,.int .i64 (n:Nat)),(34,.int .i64 ((n+1:Nat):Int)),(0,.int .i64 (n:Nat)),(1,.int .i64 yes),(3,.int .i64 most),(9,.int .u64 w),(10,.bool g),(11,.sl lo 0 (n+1) (n+1)),(12,.vs true 0 []),(13,.int .i64 ((n+1:Nat):Int))],[]⟩ _ _;try refine go ?_
  refine af (hM _ n g a b lo st _ (oI) hn ha hb St.aG (xM.set gl (by decide))) ?_;clear hl xM gl lgl;intro d s0 hp;obtain⟨so,o,la,ta,pl,mp,q,sq,dv,Ds,k,tk,R,E,WD,rfl,cx⟩:=UZ hp;clear hp;have jQ:=cx.ok;have gq:=cx.gq;have hsq:=cx.sq;have rl:=cx.rl;rw [rl]at hsq;simp only [rl];have il:(ints (R.map Int.ofNat)).length=n+5:=by rw [jv,rl]
  have hx:∀ {j r:Nat},R[j]? =some r->(ints (R.map Int.ofNat))[0+j]? =some (.int .i64 (r:Nat)):=fun {j r} h=>by simp only [ints,aU,aO,h,dh]; rfl
  have hx0:=hx (cx.ri 0 (by omega)); have hxn:=hx (cx.ri n (by omega)); have hxd:=hx cx.rd; have hxz:=hx cx.rz;have w1:IntKind.wrap .i64 ((n:Int)+1)=((n+1:Nat):Int):=by rw [wrap_small (by omega) (by omega)]; omega
  have w4:IntKind.wrap .i64 ((n:Int)+4)=((n+4:Nat):Int):=by rw [wrap_small (by omega) (by omega)]; omega
  obtain⟨po,num,t1,t2,t3⟩:=cx.pC;by_cases xr:most < 1
  ·have e1:decide (most < 1)=true:=du xr;try refine go ?_
   simp only [w1,aQ];try refine go ?_
   refine aV (sH (W:=fun j=>s0.n<=j) (Q:=1000) hE hS jQ cx.sa t1 t2 t3 (cx.qd n (aq _)) (cx.qd 0 (cH _))) ?_;rintro d s1 ⟨mo,ko,ro,wo,t,bt,bw,bd,bg,bk,bv,rfl,hB⟩;have K9:=hB.zb.get jQ gq fun h=>h;have qz:=hB.zb.ok;refine⟨rfl,by simp [lost,eE.kind,cF,dG,cl,aJ,bD,bD.cL,gF,bO.ev,Env.get,cQ,D.flat,D.isAgg,cK,D.fC,D.beq,aA,Obj.a8,bH,bC,D.bU,D.a8,gq,K9], ?_⟩;try refine go ?_
   refine af (qh hE hS jQ hB cx.sa (cx.qd n (aq _)) (by omega) (sj hB)) ?_;rintro d s2 ⟨rfl,Vd,wI,hA⟩;have La:=hA.zb.get jQ gq fun h=>h;have o7:=hA.zb.ok;try refine go ?_
   refine lM (d:= .bool false) ?_ (ho:=mO (a:=tv 1 1 (4+2 * n:Nat) 0 0 false 0 0) rfl rfl pg);try refine go ?_
   simp only [w4,aQ];try refine go ?_
   refine aV (BX hE hS hT hW hV hP cx hn (most:=100) (by omega) hA) ?_;rintro d s3 ⟨rfl,z3,o9⟩;have Lb:=z3.get jQ gq fun h=>h;have Ll:=z3.ok;refine⟨rfl,by simp [lost,eE.kind,cF,dG,cl,aJ,bD,bD.cL,gF,bO.ev,Env.get,cQ,D.flat,D.isAgg,cK,D.fC,D.beq,aA,Obj.a8,bH,bC,D.bU,D.a8,La,Lb], ?_⟩;try refine go ?_
   exact pR hE hS hT hP cx hn (by omega) C4 ⟨z3,o9⟩ rfl
  ·have e1:decide (most < 1)=false:=cP xr;by_cases oN:most > 100
   ·have e2:decide (most > 100)=true:=du oN;try refine go ?_
    simp only [w1,aQ];try refine go ?_
    refine aV (sH (W:=fun j=>s0.n<=j) (Q:=1000) hE hS jQ cx.sa t1 t2 t3 (cx.qd n (aq _)) (cx.qd 0 (cH _))) ?_;rintro d s1 ⟨mo,ko,ro,wo,t,bt,bw,bd,bg,bk,bv,rfl,hB⟩;have K9:=hB.zb.get jQ gq fun h=>h;have qz:=hB.zb.ok;refine⟨rfl,by simp [lost,eE.kind,cF,dG,cl,aJ,bD,bD.cL,gF,bO.ev,Env.get,cQ,D.flat,D.isAgg,cK,D.fC,D.beq,aA,Obj.a8,bH,bC,D.bU,D.a8,gq,K9], ?_⟩;try refine go ?_
    refine af (qh hE hS jQ hB cx.sa (cx.qd n (aq _)) (by omega) (sj hB)) ?_;rintro d s2 ⟨rfl,Vd,wI,hA⟩;have La:=hA.zb.get jQ gq fun h=>h;have o7:=hA.zb.ok;try refine go ?_
    refine lM (d:= .bool false) ?_ (ho:=mO (a:=tv 1 1 (4+2 * n:Nat) 0 0 false 0 0) rfl rfl pg);try refine go ?_
    simp only [w4,aQ];try refine go ?_
    refine aV (BX hE hS hT hW hV hP cx hn (most:=100) (by omega) hA) ?_;rintro d s3 ⟨rfl,z3,o9⟩;have Lb:=z3.get jQ gq fun h=>h;have Ll:=z3.ok;refine⟨rfl,by simp [lost,eE.kind,cF,dG,cl,aJ,bD,bD.cL,gF,bO.ev,Env.get,cQ,D.flat,D.isAgg,cK,D.fC,D.beq,aA,Obj.a8,bH,bC,D.bU,D.a8,La,Lb], ?_⟩;try refine go ?_
    exact pR hE hS hT hP cx hn (by omega) C4 ⟨z3,o9⟩ rfl
   ·have e2:decide (most > 100)=false:=cP oN;try refine go ?_
    simp only [w1,aQ];try refine go ?_
    refine aV (sH (W:=fun j=>s0.n<=j) (Q:=1000) hE hS jQ cx.sa t1 t2 t3 (cx.qd n (aq _)) (cx.qd 0 (cH _))) ?_;rintro d s1 ⟨mo,ko,ro,wo,t,bt,bw,bd,bg,bk,bv,rfl,hB⟩;have K9:=hB.zb.get jQ gq fun h=>h;have qz:=hB.zb.ok;refine⟨rfl,by simp [lost,eE.kind,cF,dG,cl,aJ,bD,bD.cL,gF,bO.ev,Env.get,cQ,D.flat,D.isAgg,cK,D.fC,D.beq,aA,Obj.a8,bH,bC,D.bU,D.a8,gq,K9], ?_⟩;try refine go ?_
    refine af (qh hE hS jQ hB cx.sa (cx.qd n (aq _)) (by omega) (sj hB)) ?_;rintro d s2 ⟨rfl,Vd,wI,hA⟩;have La:=hA.zb.get jQ gq fun h=>h;have o7:=hA.zb.ok;try refine go ?_
    refine lM (d:= .bool false) ?_ (ho:=mO (a:=tv 1 1 (4+2 * n:Nat) 0 0 false 0 0) rfl rfl pg);try refine go ?_
    simp only [w4,aQ];try refine go ?_
    refine aV (BX hE hS hT hW hV hP cx hn (most:=most) (by omega) hA) ?_;rintro d s3 ⟨rfl,z3,o9⟩;have Lb:=z3.get jQ gq fun h=>h;have Ll:=z3.ok;refine⟨rfl,by simp [lost,eE.kind,cF,dG,cl,aJ,bD,bD.cL,gF,bO.ev,Env.get,cQ,D.flat,D.isAgg,cK,D.fC,D.beq,aA,Obj.a8,bH,bC,D.bU,D.a8,La,Lb], ?_⟩;try refine go ?_
    exact pR hE hS hT hP cx hn (by omega) C4 ⟨z3,o9⟩ rfl
 ·show dR T H _ _ ⟨[(36,.bool false),(35,.int .i64 (n:Nat)),(34,.int .i64 ((n+1:Nat):Int)),(0,.int .i64 (n:Nat)),(1,.int .i64 yes),(3,.int .i64 most),(9,.int .u64 w),(10,.bool g),(11,.sl lo 0 (n+1) (n+1)),(12,.sl ko 0 c c),(13,.int .i64 ((n+1:Nat):Int))],[]⟩ _ _;try refine go ?_
  refine af (hM _ n g a b lo st _ (oI) hn ha hb St.aG (xM.set gl (by decide))) ?_;clear hl xM gl lgl;intro d s0 hp;obtain⟨so,o,la,ta,pl,mp,q,sq,dv,Ds,k,tk,R,E,WD,rfl,cx⟩:=UZ hp;clear hp;have jQ:=cx.ok;have gq:=cx.gq;have hsq:=cx.sq;have rl:=cx.rl;rw [rl]at hsq;simp only [rl];have il:(ints (R.map Int.ofNat)).length=n+5:=by rw [jv,rl]
  have hx:∀ {j r:Nat},R[j]? =some r->(ints (R.map Int.ofNat))[0+j]? =some (.int .i64 (r:Nat)):=fun {j r} h=>by simp only [ints,aU,aO,h,dh]; rfl
  have hx0:=hx (cx.ri 0 (by omega)); have hxn:=hx (cx.ri n (by omega)); have hxd:=hx cx.rd; have hxz:=hx cx.rz;have w1:IntKind.wrap .i64 ((n:Int)+1)=((n+1:Nat):Int):=by rw [wrap_small (by omega) (by omega)]; omega
  have w4:IntKind.wrap .i64 ((n:Int)+4)=((n+4:Nat):Int):=by rw [wrap_small (by omega) (by omega)]; omega
  obtain⟨po,num,t1,t2,t3⟩:=cx.pC;by_cases xr:most < 1
  ·have e1:decide (most < 1)=true:=du xr;try refine go ?_
   simp only [w1,aQ];try refine go ?_
   refine aV (sH (W:=fun j=>s0.n<=j) (Q:=1000) hE hS jQ cx.sa t1 t2 t3 (cx.qd n (aq _)) (cx.qd 0 (cH _))) ?_;rintro d s1 ⟨mo,ko,ro,wo,t,bt,bw,bd,bg,bk,bv,rfl,hB⟩;have K9:=hB.zb.get jQ gq fun h=>h;have qz:=hB.zb.ok;refine⟨rfl,by simp [lost,eE.kind,cF,dG,cl,aJ,bD,bD.cL,gF,bO.ev,Env.get,cQ,D.flat,D.isAgg,cK,D.fC,D.beq,aA,Obj.a8,bH,bC,D.bU,D.a8,gq,K9], ?_⟩;try refine go ?_
   refine af (qh hE hS jQ hB cx.sa (cx.qd n (aq _)) (by omega) (sj hB)) ?_;rintro d s2 ⟨rfl,Vd,wI,hA⟩;have La:=hA.zb.get jQ gq fun h=>h;have o7:=hA.zb.ok;try refine go ?_
   refine lM (d:= .bool false) ?_ (ho:=mO (a:=tv 1 1 (4+2 * n:Nat) 0 0 false 0 0) rfl rfl pg);try refine go ?_
   simp only [w4,aQ];try refine go ?_
   refine aV (BX hE hS hT hW hV hP cx hn (most:=100) (by omega) hA) ?_;rintro d s3 ⟨rfl,z3,o9⟩;have Lb:=z3.get jQ gq fun h=>h;have Ll:=z3.ok;refine⟨rfl,by simp [lost,eE.kind,cF,dG,cl,aJ,bD,bD.cL,gF,bO.ev,Env.get,cQ,D.flat,D.isAgg,cK,D.fC,D.beq,aA,Obj.a8,bH,bC,D.bU,D.a8,La,Lb], ?_⟩;try refine go ?_
   exact pR hE hS hT hP cx hn (by omega) C4 ⟨z3,o9⟩ rfl
  ·have e1:decide (most < 1)=false:=cP xr;by_cases oN:most > 100
   ·have e2:decide (most > 100)=true:=du oN;try refine go ?_
    simp only [w1,aQ];try refine go ?_
    refine aV (sH (W:=fun j=>s0.n<=j) (Q:=1000) hE hS jQ cx.sa t1 t2 t3 (cx.qd n (aq _)) (cx.qd 0 (cH _))) ?_;rintro d s1 ⟨mo,ko,ro,wo,t,bt,bw,bd,bg,bk,bv,rfl,hB⟩;have K9:=hB.zb.get jQ gq fun h=>h;have qz:=hB.zb.ok;refine⟨rfl,by simp [lost,eE.kind,cF,dG,cl,aJ,bD,bD.cL,gF,bO.ev,Env.get,cQ,D.flat,D.isAgg,cK,D.fC,D.beq,aA,Obj.a8,bH,bC,D.bU,D.a8,gq,K9], ?_⟩;try refine go ?_
    refine af (qh hE hS jQ hB cx.sa (cx.qd n (aq _)) (by omega) (sj hB)) ?_;rintro d s2 ⟨rfl,Vd,wI,hA⟩;have La:=hA.zb.get jQ gq fun h=>h;have o7:=hA.zb.ok;try refine go ?_
    refine lM (d:= .bool false) ?_ (ho:=mO (a:=tv 1 1 (4+2 * n:Nat) 0 0 false 0 0) rfl rfl pg);try refine go ?_
    simp only [w4,aQ];try refine go ?_
    refine aV (BX hE hS hT hW hV hP cx hn (most:=100) (by omega) hA) ?_;rintro d s3 ⟨rfl,z3,o9⟩;have Lb:=z3.get jQ gq fun h=>h;have Ll:=z3.ok;refine⟨rfl,by simp [lost,eE.kind,cF,dG,cl,aJ,bD,bD.cL,gF,bO.ev,Env.get,cQ,D.flat,D.isAgg,cK,D.fC,D.beq,aA,Obj.a8,bH,bC,D.bU,D.a8,La,Lb], ?_⟩;try refine go ?_
    exact pR hE hS hT hP cx hn (by omega) C4 ⟨z3,o9⟩ rfl
   ·have e2:decide (most > 100)=false:=cP oN;try refine go ?_
    simp only [w1,aQ];try refine go ?_
    refine aV (sH (W:=fun j=>s0.n<=j) (Q:=1000) hE hS jQ cx.sa t1 t2 t3 (cx.qd n (aq _)) (cx.qd 0 (cH _))) ?_;rintro d s1 ⟨mo,ko,ro,wo,t,bt,bw,bd,bg,bk,bv,rfl,hB⟩;have K9:=hB.zb.get jQ gq fun h=>h;have qz:=hB.zb.ok;refine⟨rfl,by simp [lost,eE.kind,cF,dG,cl,aJ,bD,bD.cL,gF,bO.ev,Env.get,cQ,D.flat,D.isAgg,cK,D.fC,D.beq,aA,Obj.a8,bH,bC,D.bU,D.a8,gq,K9], ?_⟩;try refine go ?_
    refine af (qh hE hS jQ hB cx.sa (cx.qd n (aq _)) (by omega) (sj hB)) ?_;rintro d s2 ⟨rfl,Vd,wI,hA⟩;have La:=hA.zb.get jQ gq fun h=>h;have o7:=hA.zb.ok;try refine go ?_
    refine lM (d:= .bool false) ?_ (ho:=mO (a:=tv 1 1 (4+2 * n:Nat) 0 0 false 0 0) rfl rfl pg);try refine go ?_
    simp only [w4,aQ];try refine go ?_
    refine aV (BX hE hS hT hW hV hP cx hn (most:=most) (by omega) hA) ?_;rintro d s3 ⟨rfl,z3,o9⟩;have Lb:=z3.get jQ gq fun h=>h;have Ll:=z3.ok;refine⟨rfl,by simp [lost,eE.kind,cF,dG,cl,aJ,bD,bD.cL,gF,bO.ev,Env.get,cQ,D.flat,D.isAgg,cK,D.fC,D.beq,aA,Obj.a8,bH,bC,D.bU,D.a8,La,Lb], ?_⟩;try refine go ?_
    exact pR hE hS hT hP cx hn (by omega) C4 ⟨z3,o9⟩ rfl
end
end Go.Proofs.Tab
