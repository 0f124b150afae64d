/- Part. -/
import Derived.Test.YthaiegafejbmoaaGreatDoorG40
set_option linter.unusedSectionVars false
set_option maxRecDepth 100000
set_option maxHeartbeats 1000000
set_option linter.unusedSimpArgs false
set_option linter.unusedVariables false
namespace Go.Proofs.Tab
open Go Go.Ab Go.Ab.Sm
section
variable {T:Nat->Option dJ}{H:au}{s:St}{so o la ta pl mp P Sh n lv tk i k Q ko c mo ro p q:Nat}{Ds:List D}{W F:Nat->Prop}{t:Nat}{h v e:Int}{y wt en b:Bool}{d:D}{w:fE}{g:ua}{a:sQ}{tn:Int}{L:List Int}
theorem S9 (hE:lC T)(hs:s.Ok)(hr:s.get ro=some (.arr 1 3 (ints L) 0)):bY T H 37 [.ptr so 0,.dU,.fn (.func 21) [] [],.sl ro 0 L.length L.length] s fun d s1=>∃mo ko,d= .ptr mo 0/\gP s1 mo so ko 1 1 ⟨0,false,0,0⟩ false false ⟨0,0,0,0,0,false,0,0⟩ 0 ro L/\s1.get ko=some (.arr 1 76 [.eM 61 .dU] 0)/\aH Nil s s1/\s.n<=mo/\s.n<=ko/\mo < s1.n/\ko < s1.n:=by
 have lr:=hs.lt hr;refine aD hE.t37 ?_;try refine go ?_
 refine ai ⟨s.n+1,s.n,rfl,⟨St.bq,St.dN (St.dN hr (by omega)) (by simp only [St.ck]; omega)⟩,St.dN St.bq (by simp only [St.ck]; omega),((aH.refl hs).push _).push _,by omega,aq _,by simp only [St.ck]; omega,by simp only [St.ck]; omega⟩
theorem Pk (hE:lC T)(hs:s.Ok){wo bt' bg bk bv po dv:Nat}{num kd g0 v0:Int}(xt:s.get bt' =some (.var 56 (.ptr po 0)))(xg:s.get bg=some (.var 3 (.int .i64 g0)))(xk:s.get bk=some (.var 3 (.int .i64 (k:Nat))))(xv:s.get bv=some (.var 3 (.int .i64 v0)))(gp:s.get po=some (.var 67 (.agg [.int .i64 num,.ptr dv 0,.int .i64 kd]))):
  bY T H 19 [.ptr wo 0,.ptr bt' 0,.ptr bg 0,.ptr bk 0,.ptr bv 0] s fun d s1=>∃t bt bw bd bg bk bv,d= .ptr t 0/\bX s1 t false 38 [.ptr bt 0,.ptr bw 0,.ptr bk 0,.ptr bd 0,.ptr bg 0,.ptr bv 0]/\ya s1 t bt bw bd bg bk bv wo dv g0 (k:Nat) v0/\aH Nil s s1/\(∀j,j∈ [t,bt,bw,bd,bg,bk,bv]->s.n<=j/\j < s1.n)/\ [t,bt,bw,bd,bg,bk,bv].Nodup:=by
 refine aD hE.t19 ?_;simp only [lW];try refine go ?_
 refine aV (JX hE hs) ?_;rintro d s1 ⟨t,bt,bw,bd,bg1,bk1,bv1,rfl,h1,h2,b1,h3,h4⟩;refine⟨rfl,by rfl, ?_⟩;try refine go ?_
 exact ai ⟨t,bt,bw,bd,bg1,bk1,bv1,rfl,h1,h2,b1,h3,h4⟩
structure Rp (s0 s:St)(mo so ko ro wo t bt bw bd bg bk bv dv dp kp vp:Nat):Prop where
 zm:gP s mo so ko 1 1 ⟨0,false,0,0⟩ false false ⟨0,0,0,0,0,false,0,0⟩ 0 ro [(dp:Int),(kp:Int),(vp:Int)]
 zk:gK s ko [t]
 zw:s.get wo=some (.var 115 (.agg [.ptr so 0,.ptr mo 0]))
 zt:bX s t false 38 [.ptr bt 0,.ptr bw 0,.ptr bk 0,.ptr bd 0,.ptr bg 0,.ptr bv 0]
 zh:ya s t bt bw bd bg bk bv wo dv 1 (kp:Nat) (vp:Nat)
 zb:aH Nil s0 s
 zg:∀j,j∈ [mo,ko,ro,wo,t,bt,bw,bd,bg,bk,bv]->s0.n<=j/\j < s.n
 zd:[t,bt,bw,bd,bg,bk,bv].Nodup
theorem Ki (hE:lC T)(hs:s.Ok){s00:St}(h00:aH Nil s00 s){bt' bg' bk' bv' po dv dp kp vp:Nat}{num kd:Int}(xt:s.get bt' =some (.var 56 (.ptr po 0)))(xg:s.get bg' =some (.var 3 (.int .i64 1)))(xk:s.get bk' =some (.var 3 (.int .i64 (kp:Nat))))(xv:s.get bv' =some (.var 3 (.int .i64 (vp:Nat))))(gp:s.get po=some (.var 67 (.agg [.int .i64 num,.ptr dv 0,.int .i64 kd])))
  (hr:s.get ro=some (.arr 1 3 (ints [(dp:Int),(kp:Int),(vp:Int)]) 0))(qZ:s00.n<=ro):
  bY T H 18 [.ptr so 0,.fn (.func 19) [] [.ptr bt' 0,.ptr bg' 0,.ptr bk' 0,.ptr bv' 0],.fn (.func 21) [] [],.sl ro 0 3 3] s fun d s1=>∃mo ko wo t bt bw bd bg bk bv,d= .ptr mo 0/\Rp s00 s1 mo so ko ro wo t bt bw bd bg bk bv dv dp kp vp:=by
 have lr:=hs.lt hr;have b0:aH Nil s (s.aZ (.var 115 (.agg [.ptr so 0,.dU]))):=(aH.refl hs).push _;have hn:=S9 (H:=H) (so:=so) (L:=[(dp:Int),(kp:Int),(vp:Int)]) hE b0.ok (b0.get hs hr fun h=>h);refine aD hE.t18 ?_;simp only [lW];try refine go ?_
 refine af hn ?_;rintro d s1 ⟨mo,ko,rfl,m1,k1,b1,c1,c2,c3,c4⟩;have ok1:=b1.ok;have gw1:=b1.get b0.ok (St.bq (s:=s) (x:= .var 115 (.agg [.ptr so 0,.dU]))) fun h=>h;have lw1:=ok1.lt gw1;simp only [St.ck]at c1 c2;obtain⟨sa,hsa⟩:∃sa,sa=s1.bn s.n (.var 115 (.agg [.ptr so 0,.ptr mo 0])):=⟨_,rfl⟩;have ba:aH (fun j=>j=s.n) s1 sa:=by rw [hsa]; exact aH.set (aH.refl ok1) _ lw1 (fun _=>rfl)
 have oka:=ba.ok;have b01:aH Nil s s1:=b0.trans b1;have b0a:aH Nil s sa:=b01.trans' ba fun o h1 h2=>by omega
 have gwa:sa.get s.n=some (.var 115 (.agg [.ptr so 0,.ptr mo 0])):=by rw [hsa]; exact St.aG
 have ma:=m1.dT ok1 ba (by omega) (by omega);have ka:=ba.get ok1 k1 (by omega);have hl:=Pk (H:=H) (wo:=s.n) (k:=kp) hE oka (b0a.get hs xt fun h=>h) (b0a.get hs xg fun h=>h) (b0a.get hs xk fun h=>h) (b0a.get hs xv fun h=>h) (b0a.get hs gp fun h=>h);have xo:=m1.gm;have Et:=ok1.lt xo;try refine go ?_
 show fF T H _ 0 _ _ _ _ (s1.bn s.n (.var 115 (.agg [.ptr so 0,.ptr mo 0]))) _;rw [← hsa];refine oK hl ?_;rintro d s2 ⟨t,bt,bw,bd,bg,bk,bv,rfl,h1,h2,b2,h3,h4⟩;have ok2:=b2.ok;have m2:=ma.dT oka b2 (fun h=>h) fun h=>h;have k2:=b2.get oka ka fun h=>h;have sZ:=m2.gm;have gma:=ma.gm;have na:sa.n=s1.n:=by rw [hsa]; rfl
 have ZL:=b2.get oka gwa fun h=>h;refine⟨rfl,by simp [lost,eE.kind,cF,dG,cl,aJ,bD,bD.cL,gF,bO.ev,Env.get,cQ,D.flat,D.isAgg,cK,D.fC,D.beq,aA,Obj.a8,bH,bC,D.bU,D.a8,gma,sZ,gwa,ZL], ?_⟩;have lk2:=ok2.lt k2;try refine go ?_
 refine vE (en:=0+1) (es:=[.eM 61 .dU]) ?_ (he:=rfl);try refine go ?_
 have b3:∀x,aH (fun j=>j=ko) s2 (s2.bn ko x):=fun x=>aH.set (aH.refl ok2) _ lk2 (fun _=>rfl);have n1:=h00.n; have n2:=b01.n; have n3:=ba.n; have n4:=b2.n;have hm:=fun j (hj:j∈ [t,bt,bw,bd,bg,bk,bv])=>h3 j hj;have nk:∀j,j∈ [t,bt,bw,bd,bg,bk,bv]->j≠ko:=fun j hj=>by have:=(hm j hj).1; omega
 have nrk:ro≠ko:=by omega
 have nmk:mo≠ko:=by
  rintro rfl; rw [m2.gm]at k2; cases k2
 refine ai ⟨mo,ko,s.n,t,bt,bw,bd,bg,bk,bv,rfl,⟨m2.dT ok2 (b3 _) nmk nrk,⟨1,aq _,St.aG⟩,(b3 _).get ok2 ZL (by omega),(b3 _).get ok2 h1 (nk _ (by simp)),h2.dT ok2 (b3 _) fun j hj=>nk j (cW _ (by simp only [aN,bA,cJ]at hj ⊢; omega)), ?_, ?_,h4⟩⟩
 ·exact ((h00.trans b0a).trans b2).trans' (b3 _) fun o q1 q2=>by omega
 ·intro j hj;have o7:(s2.bn ko (.arr 1 76 ([D.eM 61 .dU].set (0+0) (.eM 61 (.ptr t 0))) [D.eM 61 .dU].length)).n=s2.n:=rfl;have GU:=ok2.lt m2.gm;have FT:=ok2.lt m2.gr;have lw2:=ok2.lt ZL;simp only [aN,bA,cJ]at hj;rcases hj with rfl | rfl | rfl | rfl | hj
  ·exact⟨by omega,by rw [o7]; exact GU⟩
  ·exact⟨by omega,by rw [o7]; exact lk2⟩
  ·exact⟨qZ,by rw [o7]; exact FT⟩
  ·exact⟨by omega,by rw [o7]; exact lw2⟩
  ·have:=hm j (by simp only [aN,bA,cJ]; exact hj);exact⟨by omega,by rw [o7]; exact this.2⟩
end
section
variable {T:Nat->Option dJ}{H:au}{s:St}{so o la ta pl mp P Sh n lv tk i k Q ko c mo ro p q:Nat}{Ds:List D}{W F:Nat->Prop}{t:Nat}{h v e:Int}{y wt en b:Bool}{d:D}{w:fE}{g:ua}{a:sQ}{tn:Int}{L:List Int}
theorem O6 (hE:lC T)(hS:TS T)(hs:s.Ok)(cG:aX s so o la ta pl mp P Sh Ds n lv tk)(hi:kI Q s Ds i W)(hq:s.get q=some (.arr 1 3 [.int .i64 (i:Nat)] 0)):
  bY T H 15 [.ptr so 0,.sl q 0 1 1] s fun d s1=>d= .bool true/\s1=s:=by
 have hke:=Bp (H:=H) hS cG hi;refine aD hE.t15 ?_;try refine go ?_
 refine fw 1 (fun j=> [(0,.ptr so 0),(7,.sl q 0 1 1),(8,.int .i64 1),(9,.int .i64 (j:Nat))]) (fun j s' =>s' =s) rfl ?_;rintro j s' hj rfl;rcases (show j=0\/j=1 by omega) with rfl | rfl
 ·try refine go ?_
  refine af hke ?_;rintro d s1 ⟨rfl,rfl⟩;try refine go ?_
  exact dI (by omega) rfl
 ·try refine go ?_
  exact ai ⟨rfl,rfl⟩
theorem GZ (hE:lC T)(hS:TS T)(cG:aX s so o la ta pl mp P Sh Ds n lv tk){po dv num:Nat}{kd:Int}(hi:Ds[i]? =some (.eM 56 (.ptr po 0)))(gp:s.get po=some (.var 67 (.agg [.int .i64 num,.ptr dv 0,.int .i64 kd])))(h0:0 < num):bY T H 16 [.ptr so 0,.int .i64 (i:Nat)] s fun d s1=>d= .eM 56 (.ptr po 0)/\s1=s:=by
 have g1:=cz (H:=H) hS cG hi;refine aD hE.t16 ?_;try refine go ?_
 refine af g1 ?_;rintro d s1 ⟨rfl,rfl⟩;have Bi:(((num:Nat):Int)==0)=false:=by simp only [eu,ne_eq]; omega
 repeat' first | refine go ?_ | refine iY ?_ (hu:=E1 gp rfl) | refine eD hS.t268 ?_
 exact ai ⟨rfl,rfl⟩
theorem sH (hE:lC T)(hS:TS T)(hs:s.Ok)(cG:aX s so o la ta pl mp P Sh Ds n lv tk){po dv num dp kp vp:Nat}(hd:Ds[dp]? =some (.eM 56 (.ptr po 0)))(gp:s.get po=some (.var 67 (.agg [.int .i64 num,.ptr dv 0,.int .i64 7])))(h0:0 < num)(hk:kI Q s Ds kp W)(hv:kI Q s Ds vp W):
  bY T H 6 [.ptr so 0,.int .i64 (dp:Nat),.int .i64 1,.int .i64 (kp:Nat),.int .i64 (vp:Nat)] s fun d s1=>∃mo ko ro wo t bt bw bd bg bk bv,d= .ptr mo 0/\Rp s s1 mo so ko ro wo t bt bw bd bg bk bv dv dp kp vp:=by
 refine aD hE.t6 ?_;simp only [lW];try refine go ?_
 have kb:∀x1 x2 x3 x4,aH Nil s ((((s.aZ x1).aZ x2).aZ x3).aZ x4):=fun _ _ _ _=>((((aH.refl hs).push _).push _).push _).push _;refine af (O6 hE hS (kb _ _ _ _).ok (cG.dT hs (kb _ _ _ _) fun _ _ h=>h) (hk.dT hs (kb _ _ _ _) fun _ _ h=>h.elim) St.bq) ?_;rintro d s1 ⟨rfl,rfl⟩;try refine go ?_
 refine af (GZ hE hS (cG.dT hs (kb _ _ _ _) fun _ _ h=>h) hd ((kb _ _ _ _).get hs gp fun h=>h) h0) ?_;rintro d s1 ⟨rfl,rfl⟩;have lp:=hs.lt gp;have gp4:=fun x1 x2 x3 x4=>(kb x1 x2 x3 x4).get hs gp fun h=>h
 repeat' first | refine go ?_ | refine eD hS.t17 ?_
 have kb2:∀x1 x2 x3 x4 x5 x6 x7,aH Nil s (((((((s.aZ x1).aZ x2).aZ x3).aZ x4).aZ x5).bn ((((s.aZ x1).aZ x2).aZ x3).aZ x4).n x6).aZ x7):=fun _ _ _ _ _ _ _=>
  (aH.set ((kb _ _ _ _).push _) _ (by simp only [St.ck]; omega) (fun h=>by simp only [St.ck]at h; omega)).push _
 refine af (O6 hE hS (kb2 _ _ _ _ _ _ _).ok (cG.dT hs (kb2 _ _ _ _ _ _ _) fun _ _ h=>h) (hv.dT hs (kb2 _ _ _ _ _ _ _) fun _ _ h=>h.elim) St.bq) ?_;rintro d s1 ⟨rfl,rfl⟩;try refine go ?_
 have kb3:∀x1 x2 x3 x4 x5 x6 x7 x8,aH Nil s ((((((((s.aZ x1).aZ x2).aZ x3).aZ x4).aZ x5).bn ((((s.aZ x1).aZ x2).aZ x3).aZ x4).n x6).aZ x7).aZ x8):=fun _ _ _ _ _ _ _ _=>(kb2 _ _ _ _ _ _ _).push _;refine af (Ki (dp:=dp) (kp:=kp) (vp:=vp) (dv:=dv) (po:=po) (num:=(num:Nat)) (kd:=7) hE (kb3 _ _ _ _ _ _ _ _).ok (kb3 _ _ _ _ _ _ _ _) ?_ ?_ ?_ ?_ ?_ ?_ ?_) ?_
 ·exact St.dN (St.dN St.aG (by simp only [St.ej,St.ck]; omega)) (by simp only [St.ej,St.ck]; omega)
 ·exact gI
 ·exact gI
 ·exact gI
 ·exact (kb3 _ _ _ _ _ _ _ _).get hs gp fun h=>h
 ·exact St.bq
 ·simp only [St.ej,St.ck]; omega
 rintro d s1 ⟨mo,ko,wo,t,bt,bw,bd,bg,bk,bv,rfl,hB⟩;try refine go ?_
 exact ai ⟨mo,ko,_,wo,t,bt,bw,bd,bg,bk,bv,rfl,hB⟩
end
section
variable {T:Nat->Option dJ}{H:au}{s:St}{so o la ta pl mp P Sh n lv tk i k Q ko c mo ro p q ns:Nat}{Ds:List D}{W F:Nat->Prop}{t:Nat}{h v e:Int}{y wt en b:Bool}{d:D}{w:fE}{g:ua}{a:sQ}{tn:Int}{L:List Int}
theorem Ey (hE:lC T)(hs:s.Ok)(hm:gP s mo so ko ns c g true false a tn ro L)(hL:L.length<=10000){kd:Int}(FP:kd≠0)(kM:bY T H 23 [.ptr so 0,.int .i64 (p:Nat)] s fun d s1=>d= .int .i64 kd/\s1=s):
  bY T H 8 [.ptr mo 0,.int .i64 (p:Nat)] s fun d s1=>d= .int .i64 0/\gP s1 mo so ko ns c ⟨0,false,(p:Nat),0⟩ false false a tn ro (L++ [(p:Int)])/\aH (fun j=>j=mo\/j=ro) s s1:=by
 have gm:=hm.gm; have gr:=hm.gr;have lm:=hs.lt gm;have nmr:mo≠ro:=by rintro rfl; rw [gm]at gr; cases gr
 have Am:(kd==0)=false:=by simpa using FP
 refine aD hE.t8 ?_;try refine go ?_
 refine af kM ?_;rintro d s1 ⟨rfl,rfl⟩;have kb:∀x x',aH (fun j=>j=mo) s1 ((s1.bn mo x).bn mo x'):=fun x x' =>aH.set (W:=fun j=>j=mo) (aH.set (W:=fun j=>j=mo) (aH.refl hs) _ lm (fun _=>rfl)) _ lm (fun _=>rfl);try refine go ?_
 refine af (Cr (so:=so) (ko:=ko) (n:=ns) (c:=c) (g:=⟨0,false,(p:Nat),0⟩) (wt:=false) (en:=false) (a:=a) (tn:=tn) (ro:=ro) (L:=L) hE (kb _ _).ok ⟨St.aG,St.cu (St.cu gr (bE nmr)) (bE nmr)⟩ (by omega)) ?_;rintro d s2 ⟨rfl,m2,b2⟩;try refine go ?_
 exact ai ⟨rfl,m2,((kb _ _).mono fun j hj=> .inl hj).trans b2⟩
theorem CS (hE:lC T)(hm:gP s mo so ko ns c g false false a tn ro L){most:Int}{R:D->St->Prop}
  (h:∀E,E.bM [0,1,4,5]=FS mo most 0->dR T H mr [.block 0,.seq (match NC.1.body with | .seq _ (.seq _ (.seq _ (.seq _ r)))=>r | _=> .skip)] ⟨E,[]⟩ s (QF NC.1.results R)):
  bY T H 7 [.ptr mo 0,.int .i64 most] s R:=by
 have gm:=hm.gm;refine aD hE.t7 ?_;simp only [lW];try refine go ?_
 exact h _ rfl
theorem Cj {E:Env}{R:D->St->Prop}{z0 z1 z2 z3 z4 z6 z7:Int}{z5:Bool}{r:AC}(he:E.get 4=some (.lv (.agg [.int .i64 z0,.int .i64 z1,.int .i64 z2,.int .i64 z3,.int .i64 z4,.bool z5,.int .i64 z6,.int .i64 z7])))(hR:R (.agg [.int .i64 z0,.int .i64 z1,.int .i64 z2,.int .i64 z3,.int .i64 z4,.bool z5,.int .i64 z6,.int .i64 z7]) s):
  lB T H .ret [.block 0,.seq r] ⟨E,[]⟩ s (QF NC.1.results R):=by
 refine qJ ?_;refine uZ ?_;refine ai (r:=[.agg [.int .i64 z0,.int .i64 z1,.int .i64 z2,.int .i64 z3,.int .i64 z4,.bool z5,.int .i64 z6,.int .i64 z7]]) hR rfl ?_ rfl;show jH E s [.cell 4 (some 8)]=_;simp only [jH,he];rfl
theorem kJ {k:List iI}{Q:QP}{E:Env}{r most:Int}(hE:E.bM [0,1,4,5]=FS mo most r)(h:dR T H j8 (.again [0,1,4,5] j8::k) ⟨FS mo most r,[]⟩ s Q):dR T H mr k ⟨E,[]⟩ s Q:=by
 show dR T H (.loop [0,1,4,5] j8) k ⟨E,[]⟩ s Q;exact jw h hE
structure Vm (s0 s:St)(mo so ko ro wo t t2 bt bw bd bg bk bv wI dv dp kp vp:Nat):Prop where
 zm:gP s mo so ko 2 2 ⟨0,false,0,0⟩ true false ⟨1,1,kp,0,0,false,0,0⟩ 1 ro [(dp:Int),(kp:Int),(vp:Int)]
 zk:gK s ko [t,t2]
 zw:s.get wo=some (.var 115 (.agg [.ptr so 0,.ptr mo 0]))
 zt:bX s t false 40 [.ptr bt 0,.ptr bw 0,.ptr bd 0,.ptr bg 0,.ptr bk 0,.ptr bv 0]
 zu:bX s t2 false 112 [.ptr wI 0]
 zx:s.get wI=some (.var 60 (.ptr wo 0))
 zh:ya s t bt bw bd bg bk bv wo dv 1 (kp:Nat) (vp:Nat)
 zb:aH Nil s0 s
 zg:∀j,j∈ [mo,ko,ro,wo,t,t2,bt,bw,bd,bg,bk,bv,wI]->s0.n<=j/\j < s.n
theorem qh (hE:lC T)(hS:TS T){s0:St}{wo bt bw bd bg bk bv dv dp kp vp:Nat}{most:Int}(jQ:s0.Ok)(hB:Rp s0 s mo so ko ro wo t bt bw bd bg bk bv dv dp kp vp)(cG:aX s0 so o la ta pl mp P Sh Ds n lv tk)(hk:kI Q s0 Ds kp W)(gR:1<=most)(sE:[bt,bw,bd,bg,bk,bv,t,ko,mo,ro,wo].Nodup):
  bY T H 7 [.ptr mo 0,.int .i64 most] s fun d s1=>d= .agg [.int .i64 1,.int .i64 1,.int .i64 (kp:Nat),.int .i64 0,.int .i64 0,.bool false,.int .i64 0,.int .i64 0]/\∃t2 wI,Vm s0 s1 mo so ko ro wo t t2 bt bw bd bg bk bv wI dv dp kp vp:=by
 obtain⟨zm,zk,zw,zt,zh,zb,zg,_⟩:=hB;have hs:=zb.ok;simp only [dZ,aN,bA,jr,cJ]at sE;have gt:=zg t (by simp); have gmo:=zg mo (by simp); have gko:=zg ko (by simp); have gro:=zg ro (by simp); have gwo:=zg wo (by simp)
 have Uz:∀j,j∈ [bt,bw,bd,bg,bk,bv]->j≠t/\j≠mo/\j≠ko:=fun j hj=>by
  simp only [aN,bA,cJ]at hj;rcases hj with rfl | rfl | rfl | rfl | rfl | rfl <;> (refine ⟨?_, ?_, ?_⟩ <;> (intro hh; simp_all))
 obtain⟨d1,s1,Qo,t2,VE,wI,VL,rfl,t1,h2,b1,c1,c2,c3⟩:=GB (H:=H) (h:=0) (y:=false) (v:=0) (e:=0) hE hs zh zt fun j hj=>(Uz j hj).1;have ok1:=b1.ok;have n1:=b1.n;have ntm:t≠mo:=by rintro rfl; simp_all
 have ntk:t≠ko:=by rintro rfl; simp_all
 have ntr:t≠ro:=by rintro rfl; simp_all
 have ntw:t≠wo:=by rintro rfl; simp_all
 have nkm:ko≠mo:=by rintro rfl; simp_all
 have nkr:ko≠ro:=by rintro rfl; simp_all
 have nkw:ko≠wo:=by rintro rfl; simp_all
 have nmr:mo≠ro:=by rintro rfl; simp_all
 have nmw:mo≠wo:=by rintro rfl; simp_all
 have m1:=zm.dT hs b1 (bE ntm) (bE ntr);have k1:gK s1 ko [t]:=by
  obtain⟨st,q1,q2⟩:=zk;exact⟨st,q1,b1.get hs q2 (bE ntk)⟩
 refine CS hE zm fun E ZO=>kJ ZO ?_;refine IS (t:=t) (K:=[t]) (m:=0) (t2:=t2) (X:=fun s' =>s' =s1) hE hs zm zk rfl (by simp) rfl zt ⟨_,s1,Qo,rfl,ok1,m1,k1,rfl⟩ ?_;rintro s' s2 E2 H4 rfl - m2 k2 b2;have ok2:=b2.ok;have z2:aH Nil s0 s2:=(zb.trans' b1 fun o q1 q2=>by omega).trans' b2 fun o q1 q2=>by rcases q1 with q1 | q1 <;> omega
 have u2:bX s2 t2 true _ _:=b2.get ok1 h2.1 (by rintro (q | q) <;> omega);refine kJ H4 ?_;have w2:=b2.get ok1 (b1.get hs zw (bE ntw)) (by rintro (q | q); exact nmw q.symm; exact nkw q.symm);refine Qi (t:=t2) (K:=[t]++ [t2]) (m:=1) (w' :=1) (x1:=kp) (x2:=0) (L' :=[(dp:Int),(kp:Int),(vp:Int)]) (X:=fun s4=>∃bw',bX s4 t2 false 112 [.ptr bw' 0]/\s4.get bw' =some (.var 60 (.ptr wo 0))/\s2.n<=bw' /\aH (fun j=>j=mo\/j=t2) s2 s4) hE ok2 m2 k2 (by simp) (by simp) rfl u2 (by omega) (by omega) (by omega) ?_ ?_
 ·intro s3 ok3 b3 t3 m3;have z3:aH Nil s0 s3:=z2.trans' b3 fun o q1 q2=>by rcases q1 with q1 | q1 <;> omega
  have nn:∀j,s.n<=j->j≠t2->∀x,s'.get j=some x->s3.get j=some x:=fun j hj Ss x hx=>b3.get ok2 (b2.get ok1 hx (by rintro (q | q) <;> omega)) (by rintro (q | q); omega; exact Ss q);simp only [dZ,aN,bA,jr,cJ]at c3;have hh3:B1 s3 t2 VE wI VL wo kp false:=⟨t3,nn _ c2.1 (bE c3.1.1) _ h2.2.1,nn _ c2.2.1 (bE c3.1.2.1) _ h2.2.2.1,nn _ c2.2.2 (bE c3.1.2.2) _ h2.2.2.2⟩;have hh:=Ou (H:=H) (m:=0) (h:=0) (y:=false) (v:=0) (e:=0) hE hS ok3 (cG.dT jQ z3 fun _ _ h=>h) (hk.dT jQ z3 fun _ _ h=>h.elim) (b3.get ok2 w2 (by rintro (q | q); exact nmw q.symm; omega)) hh3;refine hh.mono ?_;rintro d s4 ⟨rfl,bw',q1,q2,q3,b4⟩;exact⟨rfl,b4.ok,m3.dT ok3 b4 (by omega) (by omega),bw',q1,q2,bW b3.n q3,b3.trans (b4.mono fun j hj=> .inr hj)⟩
 ·rintro s4 s5 E5 Ys ⟨bw',q1,q2,q3,b24⟩ ok4 m5 b5;have YW:aH (fun j=>j=mo\/j=t2) s2 s5:=b24.trans (b5.mono fun j hj=> .inl hj);have z5:aH Nil s0 s5:=z2.trans' YW fun o q1 q2=>by rcases q1 with q1 | q1 <;> omega
  have k5:∀ {j:Nat} {x:Ab.Obj},s.get j=some x->j≠t->j≠mo->j≠ko->s5.get j=some x:=fun {j x} hx e1 e2 e3=>by
   have:=hs.lt hx;exact YW.get ok2 (b2.get ok1 (b1.get hs hx e1) (by rintro (q | q); exact e2 q; exact e3 q)) (by rintro (q | q); exact e2 q; omega)
  have h5:∀ {j:Nat} {x:Ab.Obj},s.get j=some x->j∈ [bt,bw,bd,bg,bk,bv]->s5.get j=some x:=fun hx hj=>k5 hx (Uz _ hj).1 (Uz _ hj).2.1 (Uz _ hj).2.2;have l4:=ok4.lt q2;have n5:=b5.n;have n2:=b2.n;have n25:=YW.n;refine Cj Ys ⟨rfl,t2,bw',⟨m5, ?_,k5 zw (bE ntw) (bE nmw) (bE nkw), ?_,b5.get ok4 q1 (by omega),b5.get ok4 q2 (by omega),⟨h5 zh.xt (by simp),h5 zh.xw (by simp),h5 zh.xd (by simp),h5 zh.xg (by simp),h5 zh.xk (by simp),h5 zh.xv (by simp)⟩,z5, ?_⟩⟩
  ·obtain⟨st,y1,y2⟩:=k2;exact⟨st,y1,YW.get ok2 y2 (by rintro (q | q); exact nkm q; omega)⟩
  ·exact YW.get ok2 (b2.get ok1 t1 (by rintro (q | q); exact ntm q; exact ntk q)) (by rintro (q | q); exact ntm q; omega)
  ·intro j hj;simp only [aN,bA,cJ]at hj;have g1:=fun j hj=>zg j hj;simp only [aN,bA,cJ]at g1;have e0:s0.n<=s.n:=zb.n;have hl:∀j,s0.n<=j/\j < s.n->s0.n<=j/\j < s5.n:=fun j hj=>⟨hj.1,cC hj.2 (bW n1 (bW n2 n25))⟩;rcases hj with rfl | rfl | rfl | rfl | rfl | rfl | rfl | rfl | rfl | rfl | rfl | rfl | rfl
   ·exact hl _ gmo
   ·exact hl _ gko
   ·exact hl _ gro
   ·exact hl _ gwo
   ·exact hl _ gt
   ·exact⟨bW e0 c1.1,cC c1.2 (bW n2 n25)⟩
   ·exact hl _ (zg _ (by simp))
   ·exact hl _ (zg _ (by simp))
   ·exact hl _ (zg _ (by simp))
   ·exact hl _ (zg _ (by simp))
   ·exact hl _ (zg _ (by simp))
   ·exact hl _ (zg _ (by simp))
   ·exact⟨bW e0 (bW n1 (bW n2 q3)),cC l4 n5⟩
end
theorem Kw {E:List dY}{h told:Int}{n:Nat}(hE:∀e∈E,e.h=h)(ht: -1<=told)(hn:mg E h told (some n)):(n:Int)=told+1/\n < E.length:=by
 obtain⟨h1,⟨e,h2,_⟩,h3⟩:=hn;have hl:=(aj.mp h2).1;refine⟨?_,hl⟩;rcases jB (told+1) n with h4 | h4
 ·exfalso;have hw:E[(told+1).toNat]? =some E[(told+1).toNat]:=ak (by omega);exact h3 (told+1).toNat _ (by omega) (by omega) hw (hE _ (cA _))
 ·omega
theorem Kv {E:List dY}{h told:Int}(hE:∀e∈E,e.h=h)(ht: -1<=told)(hn:mg E h told none):(E.length:Int)<=told+1:=by
 rcases jB (told+1) E.length with h4 | h4
 ·exfalso;have hw:E[(told+1).toNat]? =some E[(told+1).toNat]:=ak (by omega);exact hn (told+1).toNat _ (by omega) hw (hE _ (cA _))
 ·exact h4
theorem Kj {Vs:List fE}{i j:Nat} {n c n' c' :Nat}(hi:Vs[i]? =some (.inst n c))(hj:Vs[j]? =some (.inst n' c'))(uz:i≠j):tQ Vs i j=false:=by
 simp only [tQ,hi,hj,uK,fE.whole,fE.text,fE.kind,cP uz];rfl
theorem BF {Vs:List fE}{most:Nat}:∀ {l:List (Int×Nat×Int)} {E:List dY},yf Vs most l E->l.length<=most->(∀x∈l,∃n c,Vs[x.2.1]? =some (.inst n c))->(l.map fun x=>x.2.1).Nodup->
  E.length=l.length/\∀(i:Nat) (x:Int×Nat×Int),l[i]? =some x->∃b,E[i]? =some ⟨x.1,(x.2.1:Int),x.2.2,b⟩
 | _,_,.nil,_,_,_=>⟨rfl,fun i x h=>by simp at h⟩
 | _,_,.snoc (l:=l) (E:=E) h r v hp,hl,hi,hn=>by
  rw [an,aC]at hl;rw [eX,List.nodup_append]at hn;obtain⟨e1,e2⟩:=BF hp (by omega) (fun x hx=>hi x (List.mem_append_left _ hx)) hn.1;obtain⟨nr,cr,hr⟩:=hi (h,r,v) (by simp);have hm:zI Vs most E h r v=E++ [dY.mk h r v (E.length:Nat)]:=by
   rw [wm,bQ (by omega)];intro m f hf;have H9:m < l.length:=by rw [← e1]; exact (aj.mp hf).1
   obtain⟨b,hb⟩:=e2 m l[m] (ak H9);rw [hf]at hb;cases hb;obtain⟨n',c',h'⟩:=hi l[m] (List.mem_append_left _ (cA _));have dn:l[m].2.1≠r:=hn.2.2 _ (lI.2 ⟨l[m],cA _,rfl⟩) _ (by simp);simp only [mL,aQ,Kj h' hr dn,Bool.and_false]
  rw [hm];refine⟨by rw [an,an,e1,aC,aC],fun i x hx=> ?_⟩;rcases aP i l.length with h1 | h1
  ·rw [aK h1]at hx;rw [aK (by omega)];exact e2 i x hx
  ·have h2:i=l.length:=by
    have:=(aj.mp hx).1;rw [an,aC]at this;omega
   subst h2;rw [uI]at hx;cases hx;rw [← e1,uI];exact⟨_,rfl⟩
section
variable {T:Nat->Option dJ}{H:au}{s:St}{so o la ta pl mp P Sh n lv tk i k Q ko c mo ro p q ns:Nat}{Ds:List D}{W F:Nat->Prop}{t:Nat}{d:D}{a:sQ}{tn:Int}{L:List Int}
theorem Yb (hE:lC T)(hS:TS T)(hW:TW T)(hV:TV T)(hP:TP T){s0:St} {wo t2 bt bw bd bg bk bv wI dv kp most' :Nat} {most v' :Int}{m:Bool×List Nat}{EE:List dY}(jQ:s0.Ok)(zb:aH Nil s0 s)(cG:aX s0 so o la ta pl mp P Sh Ds n lv tk)(hp:Ds[p]? =some d)(hv:eK Q F s0 d (.int m))(hd:dQ W s0 dv most' EE)
  (zm:gP s mo so ko 2 2 ⟨0,false,(p:Nat),0⟩ false false a tn ro L)(zk:gK s ko [t,t2])(zw:s.get wo=some (.var 115 (.agg [.ptr so 0,.ptr mo 0])))(zt:bX s t false 40 [.ptr bt 0,.ptr bw 0,.ptr bd 0,.ptr bg 0,.ptr bk 0,.ptr bv 0])(zu:bX s t2 false 112 [.ptr wI 0])(zx:s.get wI=some (.var 60 (.ptr wo 0)))(zh:ya s t bt bw bd bg bk bv wo dv 1 (kp:Nat) v')
  (ge:s0.n<=mo/\s0.n<=ko/\s0.n<=t)(nd:t≠mo/\t≠ko/\t≠ro/\mo≠ro/\ko≠mo/\ko≠ro/\t≠wo/\mo≠wo/\ko≠wo)(nb:∀j,j∈ [bt,bw,bd,bg,bk,bv]->j≠mo){QQ:QP}{kk:List iI}
  (hq:∀s2 E t3 bm Du Dx Dp bs pm kn,E.bM [0,1,4,5]=FS mo most 0->aH Nil s0 s2->gP s2 mo so kn 2 2 ⟨0,false,0,0⟩ false false a tn ro L->gK s2 kn [t,t3]->bX s2 t false 42 []->bX s2 t3 false 74 [.ptr bm 0,.ptr Du 0,.ptr Dx 0,.ptr Dp 0,.ptr bs 0]->As s2 t3 bm Du Dx Dp bs wo pm kp->
   s2.get pm=some (.var 226 (rT .dU dv (fq m) (kp:Nat) v' 0 0 0 0 0 0 false 0 0))->s2.get wo=some (.var 115 (.agg [.ptr so 0,.ptr mo 0]))->s.n<=kn->(∀j,j∈ [t3,bm,Du,Dx,Dp,bs,pm]->s.n<=j/\j < kn)-> [t3,bm,Du,Dx,Dp,bs,pm].Nodup->dR T H mr kk ⟨E,[]⟩ s2 QQ):
  dR T H j8 (.again [0,1,4,5] j8::kk) ⟨FS mo most 0,[]⟩ s QQ:=by
 have hs:=zb.ok;obtain⟨n1,n2,n3,n4,n5,n6,n7,n8,n9⟩:=nd;have lm:=hs.lt zm.gm; have lw:=hs.lt zw; have lt:=hs.lt zt; have lr:=hs.lt zm.gr;have ql:eK Q F s d (.int m):=hv.dT jQ zb fun _ _ _ h=>h;obtain⟨d1,s1,Qo,rfl,b1⟩:=Ec (H:=H) (h:=0) (y:=false) (e:=0) hE hS hW hV hs (cG.dT jQ zb fun _ _ h=>h) hp ql zw zx;have ok1:=b1.ok
 have xM:∀ {s'},aH Nil s s' ->gK s' ko [t,t2]:=fun hb=>by
  obtain⟨st,q1,q2⟩:=zk;exact⟨st,q1,hb.get hs q2 fun h=>h⟩
 refine CK (t:=t2) (K:=[t,t2]) (m:=1) (g1:=⟨fq m,false,0,0⟩) (X:=fun s' =>s' =s1) hE hs (by omega) zm zk (by simp) (by simp) rfl zu ⟨_,s1,Qo,rfl,ok1,zm.dT hs b1 (fun h=>h) (fun h=>h),xM b1,rfl⟩ ?_;rintro s' s2 E2 H4 rfl - m2 b2;have ok2:=b2.ok;have L8:aH (fun j=>j=mo) s s2:=(b1.mono fun _ h=>h.elim).trans b2;have z2:aH Nil s0 s2:=zb.trans' L8 fun o q1 q2=>by omega
 have Vd :bX s2 t false _ _:=L8.get hs zt n1;have h2:ya s2 t bt bw bd bg bk bv wo dv 1 (kp:Nat) v' :=zh.dT hs L8 nb;have k2:gK s2 ko [t,t2]:=by
  obtain⟨st,q1,q2⟩:=zk;exact⟨st,q1,L8.get hs q2 n5⟩
 obtain⟨d3,s3,acb,t3,bm,Du,Dx,Dp,bs,pm,rfl,u1,u2,u3,u4,b3,c1,c2⟩:=Ee (H:=H) (h:=fq m) (y:=false) (v:=0) (e:=0) hE hP ok2 h2 Vd (hd.dT jQ z2 fun _ _ _ h=>h);have ok3:=b3.ok;have nn3:=b3.n; have nn2:=L8.n;refine kJ H4 ?_;refine EZ (t:=t) (K:=[t,t2]) (m:=0) (t2:=t3) (X:=fun s' =>s' =s3) hE ok2 m2 k2 (by simp) (by simp) rfl Vd ⟨_,s3,acb,rfl,ok3,m2.dT ok2 b3 (bE n1) (bE n3), ?_,rfl⟩ ?_
 ·obtain⟨st,q1,q2⟩:=k2;exact⟨st,q1,b3.get ok2 q2 (bE n2)⟩
 rintro s' s4 E4 kn hE4 rfl - J1 m4 k4 b4;have lkn:=ok2.lt m2.gm;have z4:aH Nil s0 s4:=(z2.trans' b3 fun o q1 q2=>by omega).trans' b4 fun o q1 q2=>by rcases q1 with q1 | q1 <;> omega
 have nj:∀j,j∈ [t3,bm,Du,Dx,Dp,bs,pm]-> ¬ (j=mo\/j=ko):=fun j hj hh=>by
  have:=(c1 j hj).1;obtain⟨st,q1,q2⟩:=k2;have:=ok2.lt q2;omega
 refine hq s4 E4 t3 bm Du Dx Dp bs pm kn hE4 z4 m4 k4 (b4.get ok3 u1 (by rintro (q | q); exact n1 q; exact n2 q)) (b4.get ok3 u2 (nj _ (by simp))) (u3.dT ok3 b4 fun j hj=>nj j (cW _ (by simp only [aN,bA,cJ]at hj ⊢; omega))) (b4.get ok3 u4 (nj _ (by simp))) (b4.get ok3 (b3.get ok2 (L8.get hs zw (bE n8)) (bE n7)) (by rintro (q | q); exact n8 q.symm; exact n9 q.symm)) (by omega) (fun j hj=>⟨by have:=(c1 j hj).1; omega,by have:=(c1 j hj).2; omega⟩) c2
end
def tag:Ab.Obj->Nat×Nat
 | .var ty _=>(0,ty)
 | .arr _ ty _ _=>(1,ty)
 | _=>(2,0)
theorem bj {s:St}{a b:Nat}{x y:Ab.Obj}(h1:s.get a=some x)(h2:s.get b=some y)(h:tag x≠tag y):a≠b:=by
 rintro rfl; rw [h1]at h2; cases h2; exact h rfl
structure GS (s0 s:St)(mo so ro wo t t3 bm bt bw bk bs pm kp:Nat):Prop where
 zw:s.get wo=some (.var 115 (.agg [.ptr so 0,.ptr mo 0]))
 zt:bX s t false 42 []
 zg:As s t3 bm bt bw bk bs wo pm kp
 zb:aH Nil s0 s
 zj:∀j,j∈ [mo,ro,wo,t,t3,bm,bt,bw,bk,bs,pm]->s0.n<=j
 nt:t≠t3
section
variable {s0 s s1:St}{mo so ro wo t t3 bm bt bw bk bs pm kp:Nat}
theorem GS.dT {W' :Nat->Prop}(h:GS s0 s mo so ro wo t t3 bm bt bw bk bs pm kp)(hb:aH W' s s1)(hw:∀j,j∈ [wo,t,bm,bt,bw,bk,bs]-> ¬ W' j)(h0:∀j,W' j->s0.n<=j):GS s0 s1 mo so ro wo t t3 bm bt bw bk bs pm kp:=
 have hs:=h.zb.ok
 ⟨hb.get hs h.zw (hw _ (by simp)),hb.get hs h.zt (hw _ (by simp)),h.zg.dT hs hb (fun j hj=>hw j (cW _ (cW _ hj))),h.zb.trans' hb (fun o q1 q2=>absurd (h0 o q1) (by omega)),h.zj,h.nt⟩
theorem GS.ne (h:GS s0 s mo so ro wo t t3 bm bt bw bk bs pm kp){q:Nat}{x:Ab.Obj}(hq:s.get q=some x)(hx:(0,115)≠tag x/\(0,118)≠tag x/\(0,157)≠tag x/\(0,61)≠tag x/\(0,60)≠tag x/\(0,3)≠tag x/\(0,82)≠tag x):
  ∀j,j∈ [wo,t,bm,bt,bw,bk,bs]->j≠q:=by
 obtain⟨x1,x2,x3,x4,x5,x6,x7⟩:=hx;intro j hj;simp only [aN,bA,cJ]at hj;rcases hj with rfl | rfl | rfl | rfl | rfl | rfl | rfl
 ·exact bj h.zw hq x1
 ·exact bj h.zt hq x2
 ·exact bj h.zg.xm hq x3
 ·exact bj h.zg.xt hq x4
 ·exact bj h.zg.xw hq x5
 ·exact bj h.zg.xk hq x6
 ·exact bj h.zg.xs hq x7
theorem GS.neT (h:GS s0 s mo so ro wo t t3 bm bt bw bk bs pm kp){q:Nat}{b:Bool}{m:Nat}{cs:List D}(hq:bX s q b m cs)(hn:t≠q):∀j,j∈ [wo,t,bm,bt,bw,bk,bs]->j≠q:=by
 intro j hj;simp only [aN,bA,cJ]at hj;rcases hj with rfl | rfl | rfl | rfl | rfl | rfl | rfl
 ·exact bj h.zw hq (by simp [tag])
 ·exact hn
 ·exact bj h.zg.xm hq (by simp [tag])
 ·exact bj h.zg.xt hq (by simp [tag])
 ·exact bj h.zg.xw hq (by simp [tag])
 ·exact bj h.zg.xk hq (by simp [tag])
 ·exact bj h.zg.xs hq (by simp [tag])
end
theorem ji.pm {W:Nat->Prop}{s:St}{mo dv so most:Nat}{E:List dY}{h k v state entry told:Int}(hm:ji W s mo dv so most E h k v state entry told):∃d,s.get mo=some (.var 226 d):=by
 obtain⟨to,eo,co,ro,log,b,st,x,C,ver,J,scans,t0,t1,t2,t3,t4,h1,h2,w1,w2,w3,w4,w5,h3,h4,h5,h6⟩:=hm.ex;exact⟨_,h4⟩
theorem ji.sk {W:Nat->Prop}{s:St}{mo dv so most:Nat}{E:List dY}{h k v state entry told:Int}(hm:ji W s mo dv so most E h k v state entry told):∃d,s.get so=some (.var 281 d):=by
 obtain⟨to,eo,co,ro,log,b,st,x,C,ver,J,scans,t0,t1,t2,t3,t4,h1,h2,w1,w2,w3,w4,w5,h3,h4,h5,h6⟩:=hm.ex;exact⟨_,h5⟩
theorem kI.GM {Q:Nat}{s:St}{Ds:List D}{i:Nat}{W:Nat->Prop}(h:kI Q s Ds i W):ow Ds i:=by
 obtain⟨d,num,c,d',num',F,F',h0,h1,⟨po,sp,rfl,h2,_⟩,_⟩:=h;exact⟨po,h1⟩
structure Vo (s0 s:St)(mo so ro wo t t3 bm bt bw bk bs pm kp kn t4 vk sk dv most:Nat)(WD:Nat->Prop)(EE:List dY)(h v:Int)(i x:Nat)(tn:Int)(L:List Int):Prop where
 zs:GS s0 s mo so ro wo t t3 bm bt bw bk bs pm kp
 zm:gP s mo so kn 3 3 ⟨0,false,0,0⟩ true false ⟨1,2,x,kp,0,false,0,0⟩ tn ro L
 zk:gK s kn [t,t3,t4]
 zu:bX s t3 false 76 [.ptr bm 0,.ptr bt 0,.ptr bs 0]
 zx:bX s t4 false 60 [.ptr vk 0]
 z4:s.get vk=some (.var 60 (.ptr wo 0))
 zM:ji WD s pm dv sk most EE h (kp:Nat) v 2 (i:Nat) (i:Nat)
 zn:s0.n<=kn/\s0.n<=sk/\s0.n<=t4/\s0.n<=vk
 n4:t4≠t/\t4≠t3
def LC (s0 s:St)(mo so:Nat)(tn:Int):Prop:=aH Nil s0 s/\∃f v1 x,s.get mo=some (.var 74 (.agg [.ptr so 0,.vs true 0 [],.int .i64 0,.bool false,.int .i64 0,.int .i64 0,.bool false,.bool true,.int .i64 2,.int .i64 0,.int .i64 0,.int .i64 0,.int .i64 0,.bool f,.int .i64 v1,.int .i64 0,.int .i64 tn,.fn (.func 21) [] [],x]))
section
variable {T:Nat->Option dJ}{H:au}{s0 s:St}{so o la ta pl mp P Sh n lv tk i k Q ko c mo ro p:Nat}{Ds:List D}{WD:Nat->Prop}{t:Nat}{d:D}{a:sQ}{tn:Int}{L:List Int}{wo t3 bm bt bw bk bs pm kp kn t4 vk sk dv most' x:Nat}{EE:List dY}{h v most:Int}
theorem QB (hE:lC T)(hS:TS T)(jQ:s0.Ok)(cG:aX s0 so o la ta pl mp P Sh Ds n lv tk)(Rf:kI Q s0 Ds x (fun j=>s0.n<=j))(hk:ow Ds kp)(UU:x≠kp)
  (hG:GS s0 s mo so ro wo t t3 bm bt bw bk bs pm kp)(hm:gP s mo so kn 3 3 ⟨0,false,0,0⟩ false false a tn ro L)(xM:gK s kn [t,t3,t4]){Jl ba bb:Nat}
  (zu:bX s t3 false 76 [.ptr bm 0,.ptr bt 0,.ptr bs 0])(z4:bX s t4 true 59 [.ptr vk 0,.ptr ba 0,.ptr bb 0,.ptr Jl 0])(zc:Dd s t4 Jl vk ba bb wo x kp)
  (zM:ji WD s pm dv sk most' EE h (kp:Nat) v 2 (i:Nat) (i:Nat))(hL:L.length<=9000)(SI:0<=tn/\tn < 100000)(gR:1<=most)(zn:s0.n<=kn/\s0.n<=sk/\s0.n<=t4/\s0.n<=vk)(n4:t4≠t/\t4≠t3)(hW:∀j,WD j->j < s0.n)
  {E:Env}(D8:E.bM [0,1,4,5]=FS mo most 0){r:AC}{R:D->St->Prop}(hR:∀s1,Vo s0 s1 mo so ro wo t t3 bm bt bw bk bs pm kp kn t4 vk sk dv most' WD EE h v i x (tn+1) (L++ [(x:Int),(kp:Int)])->R (.agg [.int .i64 1,.int .i64 2,.int .i64 (x:Nat),.int .i64 (kp:Nat),.int .i64 0,.bool false,.int .i64 0,.int .i64 0]) s1):
  dR T H mr [.block 0,.seq r] ⟨E,[]⟩ s (QF NC.1.results R):=by
 have hs:=hG.zb.ok;have gm:=hm.gm; have gr:=hm.gr;have jmo:=hG.zj mo (by simp); have jro:=hG.zj ro (by simp);obtain⟨zn1,zn2,zn3,zn4⟩:=zn;have e1:=hG.ne gm (by simp [tag]); have e2:=hG.ne gr (by simp [tag]); have e3:=hG.neT z4 (bE n4.1);obtain⟨st,kV,gk⟩:=xM;have pmx:=zM.pm; have skx:=zM.sk;obtain⟨dp,gp⟩:=pmx;obtain⟨dk,gs⟩:=skx;refine kJ D8 ?_;refine Qi (t:=t4) (K:=[t,t3,t4]) (m:=2) (w' :=2) (x1:=(x:Nat)) (x2:=(kp:Nat)) (L' :=L++ [(x:Int),(kp:Int)]) (X:=fun s4=>bX s4 t4 false 60 [.ptr vk 0]/\aH (fun j=>j=mo\/j=ro\/j=t4) s s4) hE hs hm ⟨st,kV,gk⟩ (by simp) (by simp) rfl z4 (by omega) (by omega) (by omega) ?_ ?_
 ·intro s3 ok3 b3 t3' m3;have z3:aH Nil s0 s3:=hG.zb.trans' b3 fun o q1 q2=>by rcases q1 with q1 | q1 <;> omega
  have gw3:=b3.get hs hG.zw (by rintro (q | q); exact e1 _ (by simp) q; exact e3 _ (by simp) q)
  have zc3:Dd s3 t4 Jl vk ba bb wo x kp:=zc.dT hs b3 (by
   intro j hj;simp only [aN,bA,cJ]at hj;rcases hj with rfl | rfl | rfl | rfl <;> rintro (q | q)
   ·exact bj zc.xt gm (by simp [tag]) q
   ·exact bj zc.xt z4 (by simp [tag]) q
   ·exact bj zc.xw gm (by simp [tag]) q
   ·exact bj zc.xw z4 (by simp [tag]) q
   ·exact bj zc.xa gm (by simp [tag]) q
   ·exact bj zc.xa z4 (by simp [tag]) q
   ·exact bj zc.xb gm (by simp [tag]) q
   ·exact bj zc.xb z4 (by simp [tag]) q)
  have hsm:=Qs (H:=H) (W:=fun j=>s0.n<=j) (bs:=s0.n) (h:=0) (y:=false) (v:=0) (e:=0) hE hS ok3 (cG.dT jQ z3 fun _ _ hh=>hh) (fun j hj=>cG.lt jQ hj) (Rf.dT jQ z3 fun _ _ hh=>hh.elim) hk UU gw3 zc3 t3' m3 (by omega) ⟨jmo,jro⟩ ⟨jmo,jro,zn3⟩;refine hsm.mono ?_;rintro d s4 ⟨rfl,q1,q2,q3⟩;exact⟨rfl,q3.ok,q2,q1,(b3.mono fun j hj=>hj.imp id .inr).trans q3⟩
 ·rintro s4 s5 E5 Ys ⟨q1,q2⟩ ok4 m5 b5;have b:aH (fun j=>j=mo\/j=ro\/j=t4) s s5:=q2.trans (b5.mono fun j hj=> .inl hj)
  have nn:∀ {j:Nat} {y:Ab.Obj},s.get j=some y->(0,74)≠tag y->(1,3)≠tag y->(0,118)≠tag y->s5.get j=some y:=fun {j y} hj y1 y2 y3=>b.get hs hj (by
   rintro (q | q | q)
   ·exact bj gm hj y1 q.symm
   ·exact bj gr hj y2 q.symm
   ·exact bj z4 hj y3 q.symm)
  have q1' :=q1;refine Cj Ys (hR s5 ⟨?_,m5,⟨st,kV,nn gk (by simp [tag]) (by simp [tag]) (by simp [tag])⟩, ?_, ?_,nn zc.xw (by simp [tag]) (by simp [tag]) (by simp [tag]), ?_,⟨zn1,zn2,zn3,zn4⟩,n4⟩)
  ·refine hG.dT b (fun j hj=> ?_) (by rintro j (q | q | q) <;> omega);rintro (q | q | q)
   ·exact e1 j hj q
   ·exact e2 j hj q
   ·exact e3 j hj q
  ·refine b.get hs zu ?_;rintro (q | q | q)
   ·exact bj zu gm (by simp [tag]) q
   ·exact bj zu gr (by simp [tag]) q
   ·exact n4.2 q.symm
  ·refine b5.get ok4 q1 ?_;intro q;exact bj z4 gm (by simp [tag]) q
  ·refine zM.dT hs b (fun j _ hw=> ?_) ?_ ?_
   ·have:=hW j hw;rintro (q | q | q) <;> omega
   ·rintro (q | q | q)
    ·exact bj gp gm (by simp [tag]) q
    ·exact bj gp gr (by simp [tag]) q
    ·exact bj gp z4 (by simp [tag]) q
   ·rintro (q | q | q)
    ·exact bj gs gm (by simp [tag]) q
    ·exact bj gs gr (by simp [tag]) q
    ·exact bj gs z4 (by simp [tag]) q
theorem Fs (hE:lC T)(hG:GS s0 s mo so ro wo t t3 bm bt bw bk bs pm kp){K:List Nat}(hK:2<=K.length/\K.length<=3)(k0:K[0]? =some t)(k1:K[1]? =some t3)(hm:gP s mo so kn 2 K.length ⟨0,false,0,0⟩ false false a tn ro L)(xM:gK s kn K)
  (zu:bX s t3 false 74 [.ptr bm 0,.ptr bt 0,.ptr bw 0,.ptr bk 0,.ptr bs 0]){f:Bool}{v1 e1:Int}{WM:Nat->Prop}(uC:bY T H 75 [.ptr pm 0] s fun d s1=>d=fM 2 0 f v1 e1/\aH WM s s1)
  (hWM:∀j,WM j->j=pm\/j=sk\/s.n<=j){dp dk:D}(gp:s.get pm=some (.var 226 dp))(gs:s.n<=sk\/s.get sk=some (.var 281 dk))(zn:s0.n<=kn/\s0.n<=sk)
  {E:Env}(D8:E.bM [0,1,4,5]=FS mo most 0){r:AC}{R:D->St->Prop}(hR:∀s1,LC s0 s1 mo so tn->R (.agg [.int .i64 2,.int .i64 0,.int .i64 0,.int .i64 0,.int .i64 0,.bool f,.int .i64 v1,.int .i64 0]) s1):
  dR T H mr [.block 0,.seq r] ⟨E,[]⟩ s (QF NC.1.results R):=by
 have hs:=hG.zb.ok;have gm:=hm.gm; have gr:=hm.gr;have jmo:=hG.zj mo (by simp); have jro:=hG.zj ro (by simp); have jpm:=hG.zj pm (by simp);have Su :=xM;obtain⟨st,kV,gk⟩:=xM
 have nw:∀ {j:Nat} {y:Ab.Obj},s.get j=some y->(0,226)≠tag y->(0,281)≠tag y-> ¬ WM j:=fun {j y} hj y1 y2 hw=>by
  have:=hs.lt hj;rcases hWM j hw with q | q | q
  ·exact bj gp hj y1 q.symm
  ·rcases gs with gs | gs
   ·omega
   ·exact bj gs hj y2 q.symm
  ·omega
 have keepS:∀ {s1:St},aH WM s s1->s1.Ok/\gP s1 mo so kn 2 K.length ⟨0,false,0,0⟩ false false a tn ro L/\gK s1 kn K/\aH WM s s1:=fun hb=>
  ⟨hb.ok,hm.dT hs hb (nw gm (by simp [tag]) (by simp [tag])) (nw gr (by simp [tag]) (by simp [tag])),⟨st,kV,hb.get hs gk (nw gk (by simp [tag]) (by simp [tag]))⟩,hb⟩
 refine kJ D8 ?_;have Q6:=JS (H:=H) (h:=0) (y:=false) (v:=0) (e:=0) hE hs hG.zg uC;refine CK (t:=t3) (K:=K) (m:=1) (g1:=⟨0,f,v1,e1⟩) (X:=fun s1=>aH WM s s1) hE hs (by omega) hm Su (by omega) (by omega) k1 zu (Q6.mono fun d s1 hh=>⟨hh.1,keepS hh.2⟩) ?_;rintro s1 s2 E2 H4 b1 ok1 m2 b2;have L8:aH (fun j=>WM j\/j=mo) s s2:=(b1.mono fun j hj=> .inl hj).trans (b2.mono fun j hj=> .inr hj);have ok2:=b2.ok
 have h0:∀j,WM j\/j=mo->s0.n<=j:=fun j hj=>by
  have:=hG.zb.n;rcases hj with hj | hj
  ·rcases hWM j hj with q | q | q <;> omega
  ·omega
 have hx:=fun {j:Nat} {y:Ab.Obj} (hj:s.get j=some y) (y1:(0,226)≠tag y) (y2:(0,281)≠tag y) (y3:(0,74)≠tag y)=>L8.get hs hj (by
  rintro (q | q)
  ·exact nw hj y1 y2 q
  ·exact bj gm hj y3 q.symm)
 have t2:bX s2 t false _ _:=hx hG.zt (by simp [tag]) (by simp [tag]) (by simp [tag]);have k2:gK s2 kn K:=⟨st,kV,hx gk (by simp [tag]) (by simp [tag]) (by simp [tag])⟩;have z2:aH Nil s0 s2:=hG.zb.trans' L8 fun o q1 q2=>absurd (h0 o q1) (by omega);refine kJ H4 ?_;refine X5 (t:=t) (K:=K) (m:=0) (g1:=⟨0,f,v1,e1⟩) (X:=fun s3=>s3=s2) hE ok2 rfl m2 k2 (by omega) (by omega) k0 t2 ((xH (H:=H) hE).mono ?_) ?_
 ·rintro d s3 ⟨rfl,rfl⟩;exact⟨rfl,ok2,m2,k2,rfl⟩
 ·rintro s3 s4 E4 hE4 rfl ok3 ⟨y,hy,rfl⟩ b4;refine Cj hE4 (hR s4 ⟨z2.trans' b4 fun o q1 q2=>by omega,f,v1,_,hy⟩)
end
end Go.Proofs.Tab
