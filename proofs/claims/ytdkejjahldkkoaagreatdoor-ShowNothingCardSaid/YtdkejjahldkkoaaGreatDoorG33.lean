/- Part. -/
import Derived.Test.YtdkejjahldkkoaaGreatDoorG32
set_option linter.unusedSectionVars false
set_option maxRecDepth 100000
set_option maxHeartbeats 1000000
set_option linter.unusedSimpArgs false
set_option linter.unusedVariables false
namespace Go.Proofs.Tab
open Go Go.Ab Go.Ab.Sm
theorem lg.of {tms:List Tm}{i:Nat}{t:Tm}(h1:dX t.kd)(h2:mP tms i t):lg tms i t:=by
 obtain⟨q1,q2,q3⟩:=h2;unfold dX at h1;unfold uZ at q3;refine⟨q1,fun k hk=> ?_,fun h=> ?_,h1,fun h=> ?_,fun h=> ?_⟩
 ·obtain⟨u,e1,e2⟩:=q2 k hk;exact⟨u,e1,e2.tm⟩
 ·rw [aJ (by omega),bJ h]at q3; exact q3
 ·rw [aJ (by omega),aJ (by omega),aJ (by omega)]at q3; exact q3
 ·rw [aJ (by omega),aJ (by omega),bJ (by omega)]at q3;obtain⟨k,u,e1,_,_⟩:=q3;rw [e1]; rfl
noncomputable def bM (tms:List Tm)(i:Nat)(t:Tm):Int:=open Classical in if ¬ dX t.kd then 12 else if ¬ mP tms i t then 1 else if t.kd=4/\Lib.validD t.tx=false then 1 else if mn t=true then 3 else 0
theorem wU {tms:List Tm}{i:Nat}{t:Tm}(h:bM tms i t=0):lg tms i t:=by
 unfold bM at h;by_cases h1:dX t.kd
 ·rw [aJ (fun hn=>hn h1)]at h;by_cases h2:mP tms i t
  ·exact lg.of h1 h2
  ·rw [bJ h2]at h; cases h
 ·rw [bJ h1]at h; cases h
def rl (tms:List Tm)(e:Int):Prop:=(e=0/\∀i t,tms[i]? =some t->bM tms i t=0)\/(e≠0/\∃j t,tms[j]? =some t/\bM tms j t=e/\∀i u,i < j->tms[i]? =some u->bM tms i u=0)
theorem rl.one {tms:List Tm} {e e' :Int}(h:rl tms e) (h' :rl tms e'):e=e' :=by
 rcases h with ⟨h1,h2⟩ | ⟨h1,j,t,h2,h3,h4⟩ <;> rcases h' with ⟨G4,xo⟩ | ⟨G4,j',t',xo,h3',h4'⟩
 ·omega
 ·exact absurd (h3'.symm.trans (h2 _ _ xo)) G4
 ·exact absurd (h3.symm.trans (xo _ _ h2)) h1
 ·rcases h9 j j' with h | h | h
  ·exact absurd (h3.symm.trans (h4' _ _ h h2)) h1
  ·subst h; rw [h2]at xo; cases xo; omega
  ·exact absurd (h3'.symm.trans (h4 _ _ h xo)) G4
section
variable {T:Nat->Option dS}{H:au}{s:St}{so bo i:Nat}{x:D}{tms:List Tm}{t:Tm}{o la ta pl mp P Sh n lv tk:Nat}{Ds:List D}
theorem IF (hS:TS T)(hU:TU T H)(hs:s.Ok){l:List UInt8}(hl:l.length<=1000000000):cu T H 31 [.str l] s fun d s1=>d= .bool (Lib.validD l)/\s1=s:=by
 refine ay hS.t31 ?_;try refine go ?_
 refine ak (hU.v s l hl) ?_;rintro d s1 ⟨rfl,rfl⟩;try refine go ?_
 exact ai ⟨rfl,rfl⟩
theorem Ny (hS:TS T)(hW:TW T)(hV:TV T)(hX:TX T)(hU:TU T H)(hs:s.Ok)(dT:bE s so o la ta pl mp P Sh Ds n lv tk)(hb:lT s bo so tms x)(hk:tms[i]? =some t)(hN:tms.length<=200)(TC:tms.length<=P)(fK:∀u∈tms,u.Ok/\∀w∈u.mag,w < 4294967296):
  cu T H 20 [.ptr bo 0,.int .i64 (i:Nat)] s fun d s1=>d= .int .i64 (bM tms i t)/\aC Nil s s1:=by
 have ho:=(fK t (aK hk)).1;have hi:i < tms.length:=(af.mp hk).1;have hg:=hb.go;have ha:=ee hk;have BZ:=ho.tx;have hK:=fun (s2:St) (h:s2.Ok) (FF:s2.get bo=some (.var 97 (.agg [.ptr so 0,.vs false 8 (tms.map Tm.d),x])))=>FM (H:=H) hS h FF hk ho (by omega)
 have hB:=fun (s2:St) (h:s2.Ok) (pB:bE s2 so o la ta pl mp P Sh Ds n lv tk) (jJ:lT s2 bo so tms x) (h2:mP tms i t)=>K3 (H:=H) hS hW hV hX hU h pB jJ hk ho (fun v hv=>by
  obtain⟨u,e1,_⟩:=h2.2.1 v hv;have hvk:v∈t.kids:=by
   unfold eU at hv;split at hv
   ·exact hv
   ·split at hv
    ·exact wk hv
    ·cases hv
  have e2:=(h2.1 v hvk).1;have e3:v.toNat < tms.length:=(af.mp e1).1;have e4:=fK u (aK e1);exact⟨v.toNat,by omega,by omega,u,e1,e4.1,e4.2⟩) TC
 have Xw:=IF (H:=H) (s:=s) hS hU hs (l:=t.tx) (by omega);refine ay hS.t20 ?_;unfold bM;obtain⟨kd,b,ng,n1,mag,tx,n2,kids,gY,sm⟩:=t;try refine go ?_
 refine ak (Jr hS) ?_;rintro d s1 ⟨⟨c,rfl,gW⟩,rfl⟩;cases c
 ·have Nb: ¬ dX kd:=fun h=>by have:=gW.2 h; cases this
  rw [bJ Nb];try refine go ?_
  exact ai ⟨rfl,aC.refl hs⟩
 have gW:=gW.1 rfl;rw [aJ (fun hn=>hn gW)];try refine go ?_
 refine ak (hK _ hs hg) ?_;rintro d s2 ⟨⟨c,rfl,Hm⟩,b2⟩;have ok2:=b2.ok;cases c
 ·have Hm:=Hm.1 rfl;rw [aJ (fun hn=>hn Hm)];have VG:=hB s2 ok2 (dT.dU hs b2 fun _ _ h=>h) ⟨b2.get hs hg id⟩ Hm;by_cases h4:kd=4
  ·subst h4;have hnb:mn ⟨4,b,ng,n1,mag,tx,n2,kids,gY,sm⟩=false:=rfl;try refine go ?_
   refine ak (IF hS hU ok2 (l:=tx) (cU BZ (by decide))) ?_;rintro d s3 ⟨rfl,rfl⟩;cases hvd:Lib.validD tx
   ·rw [bJ ⟨rfl,rfl⟩];try refine go ?_
    exact ai ⟨rfl,b2⟩
   ·rw [aJ (fun hn=>by cases hn.2),hnb];rw [hnb]at VG;try refine go ?_
    refine ak VG ?_;rintro d s4 ⟨rfl,b4⟩;try refine go ?_
    exact ai ⟨rfl,b2.trans b4⟩
  ·have cC:(kd==4)=false:=by simpa using h4
   rw [aJ (fun hn=>h4 hn.1)];try refine go ?_
   try simp only [cC]
   try refine go ?_
   refine ak VG ?_;rintro d s4 ⟨rfl,b4⟩;cases O4:mn ⟨kd,b,ng,n1,mag,tx,n2,kids,gY,sm⟩
   ·try refine go ?_
    exact ai ⟨rfl,b2.trans b4⟩
   ·try refine go ?_
    exact ai ⟨rfl,b2.trans b4⟩
 ·have Nb: ¬ mP tms i ⟨kd,b,ng,n1,mag,tx,n2,kids,gY,sm⟩:=fun h=>by have:=Hm.2 h; cases this
  rw [bJ Nb];try refine go ?_
  exact ai ⟨rfl,b2⟩
end
section
variable {T:Nat->Option dS}{H:au}{s:St}
theorem Q5 (hS:TS T)(hs:s.Ok):cu T H 17 [] s fun d s1=>d= .ptr s.n 0/\s1=s.bc (.var 121 (.agg [.vs true 0 [],.vs true 0 [],.vs true 0 []])):=by
 refine ay hS.t17 ?_;try refine go ?_
 exact ai ⟨rfl,rfl⟩
theorem M8 (hS:TS T)(hs:s.Ok):cu T H 18 [.vs true 0 []] s fun d s1=>d= .ptr (s.n+1) 0/\s1=(s.bc (.map [] 0)).bc (.var 124 (.agg [.mp s.n,.int .i64 0])):=by
 refine ay hS.t18 ?_;try refine go ?_
 refine eT 0 (fun j=> [(3,.ptr (s.n+1) 0),(9,.vs true 0 []),(10,.int .i64 0),(11,.int .i64 0)]) (fun j s' =>s' =(s.bc (.map [] 0)).bc (.var 124 (.agg [.mp s.n,.int .i64 0]))) rfl ?_;rintro j s' hj rfl;try refine go ?_
 exact ai ⟨rfl,rfl⟩
theorem P6 (hT:TS T){o ty:Nat}{x:D}(hs:s.Ok)(h:s.get o=some (.var 121 (.agg [.vs true 0 [],.vs true 0 [],.vs true 0 []]))):
  cu T H 19 [.ptr o 0,.ig ty x] s fun d s1=>me s1 o s.n (s.n+1) [.ig ty x]/\aC (fun j=>j=o) s s1/\s1.n=s.n+2:=by
 have l1:=hs.lt h;refine ay hT.t19 ?_;try refine go ?_
 refine ai ⟨⟨?_, ?_, ?_,by omega,by omega,by omega⟩, ?_, ?_⟩
 ·exact gI
 ·exact gI
 ·exact gI
 ·exact bI
 ·rfl
@[reducible] def three:List D:=[.ig 76 (.agg []),.ig 78 (.agg [.bool false]),.ig 78 (.agg [.bool true])]
def abo (s:St)(P Sh:Nat)(j:Nat)(s1:St):Prop:=
 aC Nil s s1/\s1.get s.n=some (.var 72 (.agg [.int .i64 0,.int .i64 P,.int .i64 Sh,.vs true 0 [],.vs true 0 [],.cT,.ptr (s.n+1) 0,.int .i64 0,.int .i64 0,.int .i64 0,.ptr (s.n+3) 0,.bool false]))/\
 s1.get (s.n+3)=some (.var 124 (.agg [.mp (s.n+2),.int .i64 0]))/\s1.get (s.n+2)=some (.map [] 0)/\s1.get (s.n+4)=some (.arr 1 68 three 0)/\
 ((j=0/\s1.get (s.n+1)=some (.var 121 (.agg [.vs true 0 [],.vs true 0 [],.vs true 0 []]))/\s1.n=s.n+5)\/(j≠0/\me s1 (s.n+1) (s.n+5) (s.n+6) (three.take j)))
theorem Wk (hS:TS T)(hs:s.Ok){P Sh:Nat}(hP:P<=65536)(Lk:Sh<=256):cu T H 8 [.agg [.int .i64 0,.int .i64 (P:Nat),.int .i64 (Sh:Nat),.vs true 0 [],.vs true 0 []],.cT] s fun d s1=>
  ∃so o la ta pl mp,d= .gJ [.ptr so 0,.int .i64 0]/\bE s1 so o la ta pl mp P Sh three 0 0 0/\(∀j,bw so o la ta pl j\/j=mp->s.n<=j)/\aC Nil s s1:=by
 have e1:=cM ((P:Int) < 0);have e2:=cM ((P:Int) > 65536);have e3:=cM ((Sh:Int) < 0);have e4:=cM ((Sh:Int) > 256);refine ay hS.t8 ?_;try refine go ?_
 refine bf (Q5 (s:=s.up 1) hS (hs.up _)) ?_;rintro d s1 ⟨rfl,rfl⟩;refine⟨rfl,by rfl, ?_⟩;try refine go ?_
 refine bf (M8 hS ((hs.up _).bc _)) ?_;rintro d s1 ⟨rfl,rfl⟩;refine⟨rfl,by rfl, ?_⟩;try refine go ?_
 refine eT 3 (fun j=> [(6,.ptr s.n 0),(51,.sl (s.n+4) 0 3 3),(52,.int .i64 3),(53,.int .i64 (j:Nat))]) (abo s P Sh) ⟨?_, ?_, ?_, ?_, ?_,.inl ⟨rfl, ?_,rfl⟩⟩ ?_
 ·exact bI
 ·exact gI
 ·exact gI
 ·exact gI
 ·exact gI
 ·exact gI
 rintro j s1 hj ⟨b1,g0,g3,g2,g4,hc⟩;have ok1:=b1.ok;have lp:=ok1.lt g3;rcases (show j=0\/j=1\/j=2\/j=3 by omega) with rfl | rfl | rfl | rfl
 ·rcases hc with ⟨_,gs,hn⟩ | ⟨h,_⟩
  ·try refine go ?_
   refine ak (P6 hS ok1 gs) ?_;rintro d s2 ⟨k1,k2,k3⟩;rw [hn]at k1;try refine go ?_
   exact dO (by omega) ⟨b1.trans' k2 fun j hj dQ=>by omega,k2.get ok1 g0 (by omega),k2.get ok1 g3 (by omega),k2.get ok1 g2 (by omega),k2.get ok1 g4 (by omega),.inr ⟨by decide,k1⟩⟩
  ·exact absurd rfl h
 ·rcases hc with ⟨h,_⟩ | ⟨_,tg⟩
  ·exact absurd h (by decide)
  ·try refine go ?_
   refine ak (qI hS ok1 tg (by simp [aL])) ?_;rintro d s2 ⟨-,k1,k2⟩;have w1: ¬ ((s.n:Nat)=s.n+1\/s.n=s.n+5\/s.n=s.n+6):=by omega
   try refine go ?_
   exact dO (by omega) ⟨b1.trans' k2 fun j hj dQ=>by omega,k2.get ok1 g0 (by omega),k2.get ok1 g3 (by omega),k2.get ok1 g2 (by omega),k2.get ok1 g4 (by omega),.inr ⟨by decide,k1⟩⟩
 ·rcases hc with ⟨h,_⟩ | ⟨_,tg⟩
  ·exact absurd h (by decide)
  ·try refine go ?_
   refine ak (qI hS ok1 tg (by simp [aL])) ?_;rintro d s2 ⟨-,k1,k2⟩;have w1: ¬ ((s.n:Nat)=s.n+1\/s.n=s.n+5\/s.n=s.n+6):=by omega
   try refine go ?_
   exact dO (by omega) ⟨b1.trans' k2 fun j hj dQ=>by omega,k2.get ok1 g0 (by omega),k2.get ok1 g3 (by omega),k2.get ok1 g2 (by omega),k2.get ok1 g4 (by omega),.inr ⟨by decide,k1⟩⟩
 ·rcases hc with ⟨h,_⟩ | ⟨_,tg⟩
  ·exact absurd h (by decide)
  ·try refine go ?_
   refine ai ⟨s.n,s.n+1,s.n+5,s.n+6,s.n+3,s.n+2,rfl,⟨g0,g3,g2,tg,by simp only [fm,bS,eZ,kI,kH,dD,fN,iv]; omega⟩,fun j hj=> ?_,b1⟩;simp only [bw]at hj;omega
end
noncomputable def Jk (n:Nat):AC:=match n,Xr.1.body with
 | 1,.seq _ (.seq _ (.seq _ (.seq (.seq _ (.block _ a)) _)))=>a
 | 2,.seq _ (.seq _ (.seq _ (.seq _ (.seq (.seq _ (.block _ a)) _))))=>a
 | 3,.seq _ (.seq _ (.seq _ (.seq _ (.seq _ (.seq (.seq _ (.block _ a)) _)))))=>a
 | _,_=> .skip
structure Bu (tms:List Tm):Prop where
 len:tms.length<=200
 ok:∀u∈tms,u.Ok/\∀w∈u.mag,w < 4294967296
section
variable {T:Nat->Option dS}{H:au}{s:St}{so bo i:Nat}{x:D}{tms:List Tm}{t:Tm}{o la ta pl mp P Sh n lv tk:Nat}{Ds:List D}
theorem Lu (hS:TS T)(hW:TW T)(hV:TV T)(hX:TX T)(hU:TU T H)(TC:tms.length<=P)(hs:s.Ok)(dT:bE s so o la ta pl mp P Sh Ds n lv tk)(hb:lT s bo so tms x)(hT:Bu tms){nl:Bool}{E:Env}{k:List je}{Q:QP}
  (hE:E.bR [0,1,6,24,25]=[(0,.ptr so 0),(1,.vs nl 8 (tms.map Tm.d)),(6,.ptr bo 0),(24,.int .i64 (tms.length:Nat)),(25,.int .i64 0)])
  (qW:nl=true->tms=[])
  (gD:∀(e:Int) (fr:Env) (s1:St),e≠0->rl tms e->aC Nil s s1->kZ T H .ret k ⟨(5,.int .i64 e)::(4,.vs true 0 [])::fr,[]⟩ s1 Q)
  (Yg:∀(s1:St),rl tms 0->aC Nil s s1->kZ T H .normal k ⟨[(26,.bool false),(0,.ptr so 0),(1,.vs nl 8 (tms.map Tm.d)),(6,.ptr bo 0),(24,.int .i64 (tms.length:Nat)),(25,.int .i64 (tms.length:Nat))],[]⟩ s1 Q):
  eI T H (Jk 1) (.block 0::k) ⟨E,[]⟩ s Q:=by
 have hlen:=hT.len;show eI T H (.loop _ _) (.block 0::k) ⟨E,[]⟩ s Q;refine eT tms.length (fun j=> [(0,.ptr so 0),(1,.vs nl 8 (tms.map Tm.d)),(6,.ptr bo 0),(24,.int .i64 (tms.length:Nat)),(25,.int .i64 (j:Nat))]) (fun j s1=>(∀i t,i < j->tms[i]? =some t->bM tms i t=0)/\aC Nil s s1) ⟨fun i t h=>by omega,aC.refl hs⟩ ?_ rfl hE;rintro j s1 hj ⟨hg,b1⟩;have ok1:=b1.ok;by_cases dQ:j < tms.length
 ·obtain⟨t,ht⟩:∃t,tms[j]? =some t:=⟨_,ae dQ⟩;have hd:=eR ((j:Int) < (tms.length:Nat));have w1:IntKind.wrap .i64 ((j:Int)+1)=((j+1:Nat):Int):=by rw [wrap_small (by omega) (by omega)]; omega
  try refine go ?_
  refine ak (Ny hS hW hV hX hU ok1 (dT.dU hs b1 fun _ _ h=>h) ⟨b1.get hs hb.go id⟩ ht hlen TC hT.ok) ?_;rintro d s2 ⟨rfl,b2⟩;generalize he:bM tms j t=e;by_cases he0:e=0
  ·subst he0;try refine go ?_
   try rw [w1]
   refine dO dQ ⟨fun i t' hi Rn => ?_,b1.trans b2⟩;by_cases nO:i=j
   ·subst nO;rw [ht]at Rn; cases Rn;exact he
   ·exact hg i t' (by omega) Rn
  ·have cC:(e !=0)=true:=by simpa using he0
   try refine go ?_
   try simp only [cC]
   try refine go ?_
   exact gD _ _ _ he0 (.inr ⟨he0,j,t,ht,he,hg⟩) (b1.trans b2)
 ·have CP:j=tms.length:=by omega
  subst CP;have hd:=cM ((tms.length:Int) < (tms.length:Nat));try refine go ?_
  exact Yg s1 (.inl ⟨rfl,fun i t ht=>hg i t (af.mp ht).1 ht⟩) b1
end
inductive vf (P:Nat)(tms:List Tm)(La:List gX)(n0:Nat):List Nat->List gX->Nat->Prop
 | nil:vf P tms La n0 [] La n0
 | snoc {R:List Nat} {Vs:List gX} {n:Nat} (h:vf P tms La n0 R Vs n) {t:Tm} (ht:tms[R.length]? =some t) {Vn:List gX} {r n' :Nat} (hm:iM P tms Vs R t n Vn r n'):vf P tms La n0 (R++ [r]) (Vs++Vn) n'
def tX (Vs:List gX):Prop:=Vs[0]? =some .none/\Vs[1]? =some (.bool false)/\Vs[2]? =some (.bool true)
theorem Ge {α:Type}{L M:List α}{i:Nat}{v:α}(h:L[i]? =some v):(L++M)[i]? =some v:=by
 rw [aO (af.mp h).1]; exact h
theorem tX.app {Vs:List gX}(h:tX Vs)(Vn:List gX):tX (Vs++Vn):=⟨Ge h.1,Ge h.2.1,Ge h.2.2⟩
theorem Bi {α:Type}{L:List α}{v:α}:(L++ [v])[L.length]? =some v:=by rw [aT (an _),eF]; rfl
theorem iM.of {P:Nat}{tms:List Tm}{Vs:List gX}{R:List Nat}{t:Tm}{n:Nat}{Vn:List gX} {r n' :Nat}(h:iM P tms Vs R t n Vn r n')(hb:tX Vs):∃w,(Vs++Vn)[r]? =some w/\Ha t w:=by
 unfold Ha;cases h with
 | none h=>exact ⟨_,Ge hb.1,.inl ⟨h,rfl⟩⟩
 | bool h=>
  refine⟨.bool t.b, ?_,.inr (.inl ⟨h,rfl⟩)⟩;cases t.b
  ·exact Ge hb.2.1
  ·exact Ge hb.2.2
 | int h=>exact ⟨_,Bi,.inr (.inr (.inl ⟨h,rfl⟩))⟩
 | str h=>exact ⟨_,Bi,.inr (.inr (.inr (.inl ⟨h,rfl⟩)))⟩
 | row h=>exact ⟨_,Bi,.inr (.inr (.inr (.inr (.inl ⟨h,_,_,_,rfl,by omega,iV ..⟩))))⟩
 | tG h E=>exact ⟨_,Bi,.inr (.inr (.inr (.inr (.inr (.inl ⟨h,_,_,_,rfl,by omega⟩)))))⟩
 | inst h=>exact ⟨.inst (n+2) Vs.length,by rw [aT (by omega),show Vs.length+1 - Vs.length=1 by omega]; rfl,.inr (.inr (.inr (.inr (.inr (.inr (.inl ⟨h,_,_,rfl⟩))))))⟩
 | view h=>exact ⟨_,Bi,.inr (.inr (.inr (.inr (.inr (.inr (.inr ⟨h,_,_,_,rfl,by omega⟩))))))⟩
theorem Mk.step {P:Nat}{tms:List Tm}{Vs:List gX}{R:List Nat}{t:Tm}{n:Nat}{Vn:List gX} {r n' :Nat}(h:Mk tms R Vs)(hm:iM P tms Vs R t n Vn r n')(hb:tX Vs)(ht:tms[R.length]? =some t):Mk tms (R++ [r]) (Vs++Vn):=by
 intro k q u h1 h2;by_cases hk:k < R.length
 ·rw [aO hk]at h1;obtain⟨w,e1,e2⟩:=h k q u h1 h2;exact⟨w,Ge e1,e2⟩
 ·have hl:=(af.mp h1).1;rw [aB,aW]at hl;have:k=R.length:=by omega
  subst this;rw [Bi]at h1;rw [ht]at h2;cases h1; cases h2;exact hm.of hb
theorem mb.nil {P Sh:Nat}{s s1:St}{so o la ta pl mp n lv tk bo:Nat}{Ds:List D}{Vs:List gX}{F:Nat->Nat->Prop}{tms:List Tm}{R:List Nat}{x:D}(h:mb P Sh s so o la ta pl mp n lv tk bo Ds Vs F tms R x)(hb:aC Nil s s1):mb P Sh s1 so o la ta pl mp n lv tk bo Ds Vs F tms R x:=
 {h with ok:=hb.ok,st:=h.st.dU h.ok hb (fun _ _ h=>h),vs:=h.vs.dU h.ok hb (fun _ _ _ h=>h),bl:=⟨hb.get h.ok h.bl.go id⟩,rf:=h.rf.dU h.ok hb (fun _ _ _ _ _ h=>h)}
def Pj (P Sh:Nat)(s:St)(so o la ta pl mp n lv tk bo:Nat)(Ds:List D)(Vs:List gX)(F:Nat->Nat->Prop)(tms:List Tm)(t:Tm)(R:List Nat)(x:D)(s1:St):Prop:=
 ∃Dn Vn r n' tk' F' x1,iM P tms Vs R t n Vn r n' /\mb P Sh s1 so o la ta pl mp n' (lv+(n' - n)) tk' bo (Ds++Dn) (Vs++Vn) F' tms (R++ [r]) x1/\tk' <=tk+2/\(∀q a l c,x1= .sl q a l c->(∃a l c,x= .sl q a l c)\/s.n<=q)/\aC (fun q=>bw so o la ta pl q\/q=bo\/∃a l c,x= .sl q a l c) s s1/\(∀i j,F' i j->F i j\/s.n<=j\/E5 s1 j)
section
variable {T:Nat->Option dS}{H:au}{s:St}{so bo i:Nat}{x:D}{tms:List Tm}{t:Tm}{o la ta pl mp P Sh n lv tk:Nat}{Ds:List D}{Vs:List gX}{F:Nat->Nat->Prop}{R:List Nat}
noncomputable def Z8:AC:=match Jk 2 with
 | .loop _ a=>a
 | _=> .skip
def F2 (nl:Bool)(so bo:Nat)(tms:List Tm)(j:Nat):Env:=[(0,.ptr so 0),(1,.vs nl 8 (tms.map Tm.d)),(6,.ptr bo 0),(35,.vs nl 8 (tms.map Tm.d)),(36,.int .i64 (tms.length:Nat)),(37,.int .i64 (j:Nat))]
theorem iM.le {P:Nat}{tms:List Tm}{Vs:List gX}{R:List Nat}{t:Tm}{n:Nat}{Vn:List gX} {r n' :Nat}(h:iM P tms Vs R t n Vn r n'):n<=n' /\n' <=n+2/\Vn.length<=2:=by
 cases h <;> simp
theorem bE.u32 {s1:St} {tk' :Nat}{j:Nat}(h:bE s1 so o la ta pl mp P Sh Ds n lv tk')(hu:E5 s1 j): ¬ bw so o la ta pl j:=by
 obtain⟨es,st,hg⟩:=hu;rintro (rfl | rfl | rfl | rfl | rfl)
 ·rw [h.go]at hg; cases hg
 ·rw [h.sl.go]at hg; cases hg
 ·rw [h.sl.gl]at hg; cases hg
 ·rw [h.sl.gt]at hg; cases hg
 ·rw [h.gp]at hg; cases hg
theorem w7 (h:mb P Sh s so o la ta pl mp n lv tk bo Ds Vs F tms R x)(vy:tms[R.length]? =some t)(xd:tX Vs)(q1:n+2 < 1000000000)(q2:lv+2 < 1000000000)(q3:tk+2 < 1000000000)(q4:Ds.length+2 < 1000000000)
  {s1 s2:St}{Dn:List D}{Vn:List gX}{r n' tk' q:Nat} {F' :Nat->Nat->Prop}(z1:iM P tms Vs R t n Vn r n')(z2:bE s1 so o la ta pl mp P Sh (Ds++Dn) n' (lv+(n' - n)) tk')(z3:tk' <=tk+2)(z4:eW P s1 F' (Ds++Dn) (Vs++Vn))(z5:∀(i j:Nat),F' i j->F i j\/(s.up 1).n<=j\/E5 s1 j)(z6:aC (bw so o la ta pl) (s.up 1) s1)
  (hq:q=s.n\/∃a l c,x= .sl q a l c)(PB:∀es st,s1.get q≠some (.arr 1 263 es st))(kL:∀es st,s1.get bo≠some (.arr 1 263 es st))
  (g1:s2.get q=some (.arr 1 3 (ints ((R++ [r]).map Int.ofNat)) 0))(g2:s2.get bo=some (.var 97 (.agg [.ptr so 0,.vs false 8 (tms.map Tm.d),.sl q 0 (R.length+1) (R.length+1)])))(hb:aC (fun j=>j=q\/j=bo) s1 s2):
  Pj P Sh s so o la ta pl mp n lv tk bo Ds Vs F tms t R x s2:=by
 have hs:=h.ok;have ok1:=z6.ok;have lb:=hs.lt h.bl.go;have n1:s.n+1<=s1.n:=z6.n;obtain⟨m1,m2,m3⟩:=z1.le;have hl:=z4.ln;have Al:=h.vs.ln;rw [aB,aB]at hl;have nof:∀j,s.n<=j-> ¬ bw so o la ta pl j/\j≠mp:=fun j hj=>⟨fun hh=>by have:=h.st.lt hs (.inl hh); omega,fun hh=>by have:=h.st.lt hs (.inr hh); omega⟩;have XP: ¬ bw so o la ta pl q/\q≠mp/\q≠bo/\∀i, ¬ F i q:=by
  rcases hq with rfl | ⟨a,l,c,e⟩
  ·exact⟨(nof _ (an _)).1,(nof _ (an _)).2,by omega,fun i hi=>by have:=(h.vs.lt i _ hi).1; omega⟩
  ·obtain⟨y1,y2,y3⟩:=h.x0 _ _ _ _ e;exact⟨y1,y2,y3,fun i hi=>(h.hF i _ hi).2.2 _ _ _ _ e rfl⟩
 have lq:q < s.n+1:=by
  rcases hq with rfl | ⟨a,l,c,e⟩
  ·omega
  ·have hr:=h.rf;rw [e]at hr;cases hr with
   | sl hg _=>have:=hs.lt hg; omega
 have sep:∀i j,F' i j-> ¬ bw so o la ta pl j/\j≠bo/\j≠q:=by
  intro i j hj;rcases z5 i j hj with h1 | h1 | h1
  ·have h2:=h.hF i j h1;exact⟨h2.1,h2.2.1,fun e=>XP.2.2.2 i (e ▸ h1)⟩
  ·have h1:s.n+1<=j:=h1;exact⟨(nof j (by omega)).1,by omega,by omega⟩
  ·refine⟨z2.u32 h1, ?_, ?_⟩
   ·rintro rfl; obtain ⟨es,st,e⟩:=h1; exact kL _ _ e
   ·rintro rfl; obtain ⟨es,st,e⟩:=h1; exact PB _ _ e
 refine⟨Dn,Vn,r,n',tk',F',.sl q 0 (R.length+1) (R.length+1),z1, ?_,z3, ?_, ?_, ?_⟩
 ·refine { ok:=hb.ok,pb:=h.pb,sb:=h.sb,st:=z2.dU ok1 hb ?_,nb:=by omega,lb:=by omega,tb:=by omega,ds:=by rw [aB]; omega,vs:=z4.dU ok1 hb fun i j hj=> ?_,hF:=fun i j hj=> ?_,bl:=⟨g2⟩,rf:= ?_,md:=h.md.step z1 xd vy,b0:=h.b0,x0:=fun q' a l c e=> ?_,tm:=h.tm}
  ·rintro j hj (rfl | rfl)
   ·rcases hj with hj | hj
    ·exact XP.1 hj
    ·exact XP.2.1 hj
   ·rcases hj with hj | hj
    ·exact h.b0.1 hj
    ·exact h.b0.2 hj
  ·have:=sep i j hj;rintro (e | e)
   ·exact this.2.2 e
   ·exact this.2.1 e
  ·have:=sep i j hj;refine⟨this.1,this.2.1,fun q' a l c e=> ?_⟩;simp only [D.sl.injEq]at e;rw [← e.1]; exact this.2.2
  ·have:=Refs.sl (s:=s2) (o:=q) (R:=R++ [r]) g1 (by simp);rw [aB,aW]at this;exact this
  ·simp only [D.sl.injEq]at e;rw [← e.1]; exact ⟨XP.1,XP.2.1,XP.2.2.1⟩
 ·intro q' a l c e;simp only [D.sl.injEq]at e;rw [← e.1];rcases hq with rfl | hq
  ·exact .inr (an _)
  ·exact .inl hq
 ·have b1:aC (fun j=>bw so o la ta pl j\/j=bo\/∃a l c,x= .sl j a l c) s s1:=((aC.refl hs).up 1).trans (z6.mono fun j hj=> .inl hj);refine b1.trans' hb ?_;rintro j (rfl | rfl) dQ
  ·rcases hq with rfl | hq
   ·omega
   ·exact .inr (.inr hq)
  ·exact .inr (.inl rfl)
 ·intro i j hj;rcases z5 i j hj with h1 | h1 | h1
  ·exact .inl h1
  ·have h1:s.n+1<=j:=h1;exact .inr (.inl (by omega))
  ·refine .inr (.inr (h1.dU ok1 hb ?_));obtain⟨es,st,e⟩:=h1;rintro (rfl | rfl)
   ·exact PB _ _ e
   ·exact kL _ _ e
theorem Vw (hS:TS T)(hT:TT T)(hP:TP T)(hW:TW T)(hV:TV T)(h:mb P Sh s so o la ta pl mp n lv tk bo Ds Vs F tms R x)(vy:tms[R.length]? =some t)(hg:lg tms R.length t)(hN:tms.length<=200){I:Nat->St->Prop}{k:List je}{Q:QP}{nl:Bool}(qW:nl=true->tms=[])(xd:tX Vs)(q1:n+2 < 1000000000)(q2:lv+2 < 1000000000)(q3:tk+2 < 1000000000)(q4:Ds.length+2 < 1000000000)
  (hk:∀s1,Pj P Sh s so o la ta pl mp n lv tk bo Ds Vs F tms t R x s1->I (R.length+1) s1):
  eI T H Z8 (.loop (NX tms.length (F2 nl so bo tms) I) [0,1,6,35,36,37] (tms.length - R.length)::k) ⟨F2 nl so bo tms R.length,[]⟩ s Q:=by
 have hj:R.length < tms.length:=(af.mp vy).1;have hd:=eR ((R.length:Int) < (tms.length:Nat))
 obtain rfl:nl=false:=by
  cases nl
  ·rfl
  ·rw [qW rfl]at hj; cases hj
 have ha:=ee vy;have gb:=h.bl.go;have hs:=h.ok;have Kj:=N6 (H:=H) hS hT hP hW hV (h.nil ((aC.refl hs).up 1)) vy hg;have w1:IntKind.wrap .i64 ((R.length:Int)+1)=((R.length+1:Nat):Int):=by rw [wrap_small (by omega) (by omega)]; omega
 show eI T H (.seq _ _) _ ⟨[(0,.ptr so 0),(1,.vs false 8 (tms.map Tm.d)),(6,.ptr bo 0),(35,.vs false 8 (tms.map Tm.d)),(36,.int .i64 (tms.length:Nat)),(37,.int .i64 (R.length:Nat))],[]⟩ s Q;rcases h.rf with _ | ⟨hgr,cC⟩
 ·try refine go ?_
  refine bf Kj ?_;rintro d s1 ⟨Dn,Vn,r,n',tk',F',z1,rfl,z2,z3,z4,z5,z6⟩;have gb0:(s.up 1).get bo=_:=gb;have Gt:=z6.get (hs.up 1) gb0 h.b0.1;have ok1:=z6.ok;have n1:s.n+1<=s1.n:=z6.n;have Qz: ¬ bw so o la ta pl s.n:=fun hh=>gR _ (h.st.lt hs (.inl hh));have Iz:s1.get (s.n+0)=none:=(z6.same s.n (mT _) Qz).trans (hs.fresh _ (an _));have lb:=hs.lt gb;refine⟨rfl,by simp [lost,eN.kind,cJ,dE,cE,aI,bz,bz.cV,fZ,bP.ev,Env.get,cP,D.flat,D.isAgg,cL,D.fv,D.beq,az,Obj.aV,bC,bu,D.bV,D.aV,gb0,Gt], ?_⟩;try refine go ?_
  refine dO hj (hk _ (w7 (q:=s.n) h vy xd q1 q2 q3 q4 z1 z2 z3 z4 z5 z6 (.inl rfl) (fun es st e=>by rw [fP]at Iz; rw [Iz]at e; cases e) (fun es st e=>by rw [Gt]at e; cases e) ?_ ?_ ?_))
  ·exact gI
  ·exact gI
  ·exact bI
 ·try refine go ?_
  refine bf Kj ?_;rintro d s1 ⟨Dn,Vn,r,n',tk',F',z1,rfl,z2,z3,z4,z5,z6⟩;have gb0:(s.up 1).get bo=_:=gb;have Gt:=z6.get (hs.up 1) gb0 h.b0.1;have ok1:=z6.ok;have n1:s.n+1<=s1.n:=z6.n;have lb:=hs.lt gb;obtain⟨y1,y2,y3⟩:=h.x0 _ _ _ _ rfl;have gr1:=z6.get (hs.up 1) hgr y1;have lr:=hs.lt hgr;have vk:=ir R;refine⟨rfl,by simp [lost,eN.kind,cJ,dE,cE,aI,bz,bz.cV,fZ,bP.ev,Env.get,cP,D.flat,D.isAgg,cL,D.fv,D.beq,az,Obj.aV,bC,bu,D.bV,D.aV,gb0,Gt], ?_⟩;try refine go ?_
  refine dO hj (hk _ (w7 h vy xd q1 q2 q3 q4 z1 z2 z3 z4 z5 z6 (.inr ⟨_,_,_,rfl⟩) (fun es st e=>by rw [gr1]at e; cases e) (fun es st e=>by rw [Gt]at e; cases e) ?_ ?_ ?_))
  ·rw [show ints ((R++ [r]).map Int.ofNat)=ints (R.map Int.ofNat)++ [.int .i64 (r:Nat)] by simp [ints]];exact gI
  ·exact gI
  ·exact bI
end
section
variable {T:Nat->Option dS}{H:au}{s:St}{so bo i:Nat}{tms:List Tm}{o la ta pl mp P Sh n0 Wh Xj:Nat}{VM:List D}{La:List gX}{F0:Nat->Nat->Prop}
def U2 (P Sh:Nat)(s:St)(so o la ta pl mp n0 Wh Xj bo:Nat)(VM:List D)(La:List gX)(F0:Nat->Nat->Prop)(tms:List Tm)(j:Nat)(s1:St):Prop:=
 ∃Ds Vs n lv tk F R x,mb P Sh s1 so o la ta pl mp n lv tk bo Ds Vs F tms R x/\R.length=j/\vf P tms La n0 R Vs n/\tX Vs/\(n0<=n/\n<=n0+2 * j/\lv=Wh+(n - n0)/\tk<=Xj+2 * j/\Ds.length<=VM.length+2 * j)/\(∀q a l c,x= .sl q a l c->s.n<=q)/\aC (fun q=>bw so o la ta pl q\/q=bo) s s1/\(∀i j,F i j->F0 i j\/s.n<=j\/E5 s1 j)
theorem Ob (hS:TS T)(hT:TT T)(hP:TP T)(hW:TW T)(hV:TV T)(h:mb P Sh s so o la ta pl mp n0 Wh Xj bo VM La F0 tms [] (.vs true 0 []))(hg:∀i t,tms[i]? =some t->lg tms i t)(hN:tms.length<=200){k:List je}{Q:QP}{nl:Bool}(qW:nl=true->tms=[])(xd:tX La)(b1:n0<=1000000)(b2:Wh<=1000000)(b3:Xj<=1000000)(b4:VM.length<=1000000){E:Env}
  (hE:E.bR [0,1,6,35,36,37]=F2 nl so bo tms 0)
  (hd:∀s1,U2 P Sh s so o la ta pl mp n0 Wh Xj bo VM La F0 tms tms.length s1->kZ T H .normal k ⟨[(38,.bool false),(0,.ptr so 0),(1,.vs nl 8 (tms.map Tm.d)),(6,.ptr bo 0),(35,.vs nl 8 (tms.map Tm.d)),(36,.int .i64 (tms.length:Nat)),(37,.int .i64 (tms.length:Nat))],[]⟩ s1 Q):
  eI T H (Jk 2) (.block 2::k) ⟨E,[]⟩ s Q:=by
 show eI T H (.loop _ _) (.block 2::k) ⟨E,[]⟩ s Q;refine eT tms.length (F2 nl so bo tms) (U2 P Sh s so o la ta pl mp n0 Wh Xj bo VM La F0 tms) ⟨VM,La,n0,Wh,Xj,F0,[],_,h,rfl,.nil,xd,by omega,(fun _ _ _ _ e=>by cases e),aC.refl h.ok,fun _ _ hj=> .inl hj⟩ ?_ rfl hE;rintro j s1 hj hI;by_cases dQ:j < tms.length
 ·obtain⟨t,ht⟩:∃t,tms[j]? =some t:=⟨_,ae dQ⟩;obtain⟨Ds,Vs,n,lv,tk,F,R,x,c1,rfl,c3,c4,c5,c6,c7,c8⟩:=hI;refine Vw hS hT hP hW hV c1 ht (hg _ _ ht) hN qW c4 (by omega) (by omega) (by omega) (by omega) ?_;rintro s2 ⟨Dn,Vn,r,n',tk',F',x1,d1,d2,d3,d4,d5,d6⟩;obtain⟨m1,m2,m3⟩:=d1.le;have l1:=d2.vs.ln;have l2:=c1.vs.ln;have n1:=c7.n;refine⟨_,_,_,_,_,_,_,_,d2,by rw [aB,aW],c3.snoc ht d1,c4.app _, ?_, ?_, ?_, ?_⟩
  ·rw [aB,aB]at l1;rw [aB];omega
  ·intro q a l c e;rcases d4 q a l c e with ⟨a',l',c',e'⟩ | h1
   ·exact c6 _ _ _ _ e'
   ·omega
  ·refine c7.trans' d5 ?_;rintro q (hq | hq | ⟨a,l,c,hq⟩) hl
   ·exact .inl hq
   ·exact .inr hq
   ·have:=c6 _ _ _ _ hq; omega
  ·intro i j hj;rcases d6 i j hj with h1 | h1 | h1
   ·rcases c8 i j h1 with h2 | h2 | h2
    ·exact .inl h2
    ·exact .inr (.inl h2)
    ·refine .inr (.inr (h2.dU c1.ok d5 ?_));have h3:=h2;obtain⟨es,st,e⟩:=h3;rintro (hq | rfl | ⟨a,l,c,rfl⟩)
     ·exact c1.st.u32 h2 hq
     ·rw [c1.bl.go]at e; cases e
     ·have HB:=c1.rf;cases HB with
      | sl hg hn=>rw [hg]at e; simp at e
   ·exact .inr (.inl (by omega))
   ·exact .inr (.inr h1)
 ·have CP:j=tms.length:=by omega
  subst CP;have hdd:=cM ((tms.length:Int) < (tms.length:Nat));show eI T H _ _ ⟨[(0,.ptr so 0),(1,.vs nl 8 (tms.map Tm.d)),(6,.ptr bo 0),(35,.vs nl 8 (tms.map Tm.d)),(36,.int .i64 (tms.length:Nat)),(37,.int .i64 (tms.length:Nat))],[]⟩ s1 Q;try refine go ?_
  exact hd s1 hI
end
def rowOf (R:List Nat)(t:Tm):List Int:=t.kids.map fun k=>((R[k.toNat]?.getD 0:Nat):Int)
def pP (R:List Nat)(t:Tm)(r:Nat)(Vs:List gX):List gX:=match Vs[r]? with
 | some (.row num kd L)=>Vs.set r (.row num kd (rowOf R t))
 | _=>Vs
theorem AP (R:List Nat)(t:Tm):(rowOf R t).length=t.kids.length:=aH _
section
variable {s s1:St}{so bo i:Nat}{x:D}{tms:List Tm}{t:Tm}{o la ta pl mp P Sh n lv tk:Nat}{Ds:List D}{Vs:List gX}{F:Nat->Nat->Prop}{R:List Nat}
theorem mb.fill (h:mb P Sh s so o la ta pl mp n lv tk bo Ds Vs F tms R x){r num kd:Nat} {L L' :List Int}{d:D}{ro lx st:Nat}(hv:Vs[r]? =some (.row num kd L))(hd:Ds[r]? =some d)
  (e1:d= .ig 100 (.ptr ro 0))(e2:s.get ro=some (.var 106 (.agg [.int .i64 num,.sl lx 0 L.length L.length,.int .i64 kd])))(e3:s.get lx=some (.arr 1 3 (ints L) st))(e4:st<=L.length)(e5:F r ro)(e6:F r lx)
  (hl:L'.length=L.length) {st' :Nat} (e4' :st' <=L.length)(g:s1.get lx=some (.arr 1 3 (ints L') st'))(hb:aC (fun j=>j=lx) s s1)(hk:Mk tms R (Vs.set r (.row num kd L'))):mb P Sh s1 so o la ta pl mp n lv tk bo Ds (Vs.set r (.row num kd L')) F tms R x:=by
 have hs:=h.ok;have XL:=h.hF r lx e6;have nro:ro≠lx:=by rintro rfl; rw [e2]at e3; cases e3
 have nmp:lx≠mp:=by rintro rfl; rw [h.st.gm]at e3; cases e3
 have nu: ¬ E5 s lx:=by rintro ⟨es,st0,hg⟩; rw [e3]at hg; cases hg
 have u2:∀q,E5 s q->E5 s1 q:=by
  intro q hq;have hq' :=hq;obtain⟨es,st0,hg⟩:=hq;exact⟨es,st0,hb.get hs hg (by rintro rfl; exact nu hq')⟩
 refine { h with ok:=hb.ok,st:=h.st.dU hs hb ?_,vs:= ?_,bl:=⟨hb.get hs h.bl.go (fun e=>XL.2.1 e.symm)⟩,rf:=h.rf.dU hs hb (fun q a l c e e' =>XL.2.2 q a l c e (by rw [e'])),md:=hk}
 ·rintro j (hj | hj) rfl
  ·exact XL.1 hj
  ·exact nmp hj
 ·refine⟨by rw [gE]; exact h.vs.ln,fun i d' v h1 h2=> ?_,fun i j q h1 h2=> ?_,fun i q hq=> ?_⟩
  ·by_cases hir:i=r
   ·subst hir;rw [hd]at h1;have dQ:=(af.mp hv).1;rw [jS dQ]at h2;cases h1; cases h2;refine⟨ro,lx,st',e1, ?_,g,by omega,e5,e6⟩;rw [hl]; exact hb.get hs e2 nro
   ·rw [nF (fun e=>hir e.symm)]at h2;refine (h.vs.at' i d' v h1 h2).dU hs hb fun j _ hj e=> ?_;subst e;rcases h.vs.dj i r _ hj e6 with e | e
    ·exact hir e
    ·exact nu e
  ·exact (h.vs.dj i j q h1 h2).imp id (u2 q)
  ·exact⟨eX (h.vs.lt i q hq).1 hb.n,(h.vs.lt i q hq).2⟩
theorem Mk.fill (h:Mk tms R Vs){r num kd:Nat} {L L' :List Int}(hv:Vs[r]? =some (.row num kd L))(hl:L'.length=L.length):Mk tms R (Vs.set r (.row num kd L')):=by
 intro k q u h1 h2;obtain⟨w,h3,h4⟩:=h k q u h1 h2;by_cases hqr:q=r
 ·subst hqr;rw [hv]at h3; cases h3;refine⟨_,jS (af.mp hv).1, ?_⟩;unfold Ha at h4 ⊢;rcases h4 with ⟨_,h5⟩ | ⟨_,h5⟩ | ⟨_,h5⟩ | ⟨_,h5⟩ | ⟨h6,_,_,_,h5,h7,h8⟩ | ⟨_,_,_,_,h5,_⟩ | ⟨_,_,_,h5⟩ | ⟨_,_,_,_,h5,_⟩;all_goals first | (cases h5; done) | skip
  cases h5;exact .inr (.inr (.inr (.inr (.inl ⟨h6,_,_,_,rfl,h7,by omega⟩))))
 ·exact⟨w,by rw [nF (fun e=>hqr e.symm)]; exact h3,h4⟩
end
noncomputable def abL:AC:=match Jk 3 with
 | .loop _ (.seq _ (.seq _ (.seq (.block _ (.seq _ (.seq _ (.seq _ (.cond _ (.seq _ (.block _ c)) _))))) _)))=>c
 | _=> .skip
def FK (nl:Bool)(so bo ro:Nat)(tms:List Tm)(j:Nat)(n2:Bool)(kids:List Int)(i:Nat):Env:=[(0,.ptr so 0),(6,.ptr bo 0),(13,.ptr ro 0),(54,.vs nl 8 (tms.map Tm.d)),(55,.int .i64 (tms.length:Nat)),(56,.int .i64 (j:Nat)),(76,.vs n2 1 (ints kids)),(77,.int .i64 (kids.length:Nat)),(78,.int .i64 (i:Nat))]
theorem Jl {α:Type}{A L:List α}{i:Nat}{a:α}(hl:A.length=L.length)(ha:A[i]? =some a):(A.take i++L.drop i).set i a=A.take (i+1)++L.drop (i+1):=by
 obtain⟨h1,rfl⟩:=af.mp ha;have h2:i < L.length:=by omega
 have h3:(A.take i).length=i:=by rw [cR]; omega
 rw [mC _ _ (by omega),h3,eF,fB h2,jR,show A.take (i+1)=A.take i++ [A[i]] by rw [gz,ae h1]; rfl,ia];rfl
theorem ints_set (L:List Int)(i:Nat)(a:Int):(ints L).set i (.int .i64 a)=ints (L.set i a):=by
 simp [ints,jk]
section
variable {T:Nat->Option dS}{H:au}{s s1:St}{so bo i:Nat}{x:D}{tms:List Tm}{t:Tm}{o la ta pl mp P Sh n lv tk:Nat}{Ds:List D}{Vs:List gX}{F:Nat->Nat->Prop}{R:List Nat}
theorem Kc (h:mb P Sh s so o la ta pl mp n lv tk bo Ds Vs F tms R x)(hN:tms.length<=200)(hR:R.length=tms.length)(hg:∀k∈t.kids,0<=k/\k < tms.length)(fK:t.Ok){r num kd:Nat}{L:List Int}{ro lx st:Nat}
  (e2:s.get ro=some (.var 106 (.agg [.int .i64 num,.sl lx 0 L.length L.length,.int .i64 kd])))(e3:s.get lx=some (.arr 1 3 (ints L) st))(e4:st<=L.length)(e5:F r ro)(e6:F r lx)(hl:L.length=t.kids.length){nl n2:Bool}{j:Nat}{k:List je}{Q:QP}{E:Env}
  (hE:E.bR [0,6,13,54,55,56,76,77,78]=FK nl so bo ro tms j n2 t.kids 0)
  (hd:∀s1 st',st' <=L.length->s1.get lx=some (.arr 1 3 (ints (rowOf R t)) st')->aC (fun j=>j=lx) s s1->kZ T H .normal k ⟨(79,.bool false)::FK nl so bo ro tms j n2 t.kids t.kids.length,[]⟩ s1 Q):
  eI T H abL (.block 6::k) ⟨E,[]⟩ s Q:=by
 have hs:=h.ok;have XL:=h.hF r lx e6;have nro:ro≠lx:=by rintro rfl; rw [e2]at e3; cases e3
 have vk:=AP R t;have j6:=fK.kids;have gb:=h.bl.go;have xh:bo≠lx:=fun e=>XL.2.1 e.symm;show eI T H (.loop _ _) (.block 6::k) ⟨E,[]⟩ s Q;refine eT t.kids.length (FK nl so bo ro tms j n2 t.kids) (fun i s1=>∃st',st' <=L.length/\s1.get lx=some (.arr 1 3 (ints ((rowOf R t).take i++L.drop i)) st')/\aC (fun j=>j=lx) s s1) ⟨st,e4,by simpa using e3,aC.refl hs⟩ ?_ rfl hE;rintro i s1 hi ⟨st',abP,Qv,b1⟩;have ok1:=b1.ok;by_cases dQ:i < t.kids.length
 ·obtain⟨kn,hk⟩:∃kn:Nat,t.kids[i]? =some (kn:Int):=by
   have:=hg t.kids[i] (bH dQ);exact⟨t.kids[i].toNat,by rw [ae dQ]; congr 1; omega⟩
  have hkm:=hg _ (aK hk);have Tf:kn < R.length:=by omega
  obtain⟨rk,hrk⟩:∃rk,R[kn]? =some rk:=⟨_,ae Tf⟩;have wz:(rowOf R t)[i]? =some ((rk:Nat):Int):=by
   simp only [rowOf,aE,hk,dn,cQ,hrk,eQ]
  have Co:(ints t.kids)[i]? =some (.int .i64 (kn:Nat)):=by simp only [ints,aE,hk,dn]
  have hd:=eR ((i:Int) < (t.kids.length:Nat));have w1:IntKind.wrap .i64 ((i:Int)+1)=((i+1:Nat):Int):=by rw [wrap_small (by omega) (by omega)]; omega
  have tV:(ints ((rowOf R t).take i++L.drop i)).length=L.length:=by
   rw [fw,aB,cR,eB]; omega
  have hms:=Jl (A:=rowOf R t) (L:=L) (i:=i) (by omega) wz;obtain⟨q,rfl,PB,Ar,hq3⟩:=h.rf.at' hrk;have hql:q≠lx:=fun e=>XL.2.2 _ _ _ _ rfl e.symm;have Gt:=b1.get hs gb xh;have gr1:=b1.get hs e2 nro;have gq1:=b1.get hs PB hql;have hqe:=ir R
  obtain⟨z,hz⟩:∃z:Int,(ints ((rowOf R t).take i++L.drop i))[0+i]? =some (.int .i64 z):=by
   have h1:i < ((rowOf R t).take i++L.drop i).length:=by rw [aB,cR,eB]; omega
   exact⟨((rowOf R t).take i++L.drop i)[i],by rw [aM]; simp only [ints,aE,ae h1,dn]⟩
  have lx1:=ok1.lt Qv;show eI T H _ _ ⟨[(0,.ptr so 0),(6,.ptr bo 0),(13,.ptr ro 0),(54,.vs nl 8 (tms.map Tm.d)),(55,.int .i64 (tms.length:Nat)),(56,.int .i64 (j:Nat)),(76,.vs n2 1 (ints t.kids)),(77,.int .i64 (t.kids.length:Nat)),(78,.int .i64 (i:Nat))],[]⟩ _ _;try refine go ?_
  refine dO dQ ⟨L.length,an _, ?_, ?_⟩
  ·rw [tV,aM,ints_set,hms];exact gI
  ·exact bI
 ·have CP:i=t.kids.length:=by omega
  subst CP;have hdd:=cM ((t.kids.length:Int) < (t.kids.length:Nat));show eI T H _ _ ⟨[(0,.ptr so 0),(6,.ptr bo 0),(13,.ptr ro 0),(54,.vs nl 8 (tms.map Tm.d)),(55,.int .i64 (tms.length:Nat)),(56,.int .i64 (j:Nat)),(76,.vs n2 1 (ints t.kids)),(77,.int .i64 (t.kids.length:Nat)),(78,.int .i64 (t.kids.length:Nat))],[]⟩ _ _;try refine go ?_
  refine hd s1 st' abP ?_ b1;rw [dI (by omega),eY (by omega),dY]at Qv;exact Qv
end
def pW (R:List Nat)(tms:List Tm)(Vs:List gX):Nat->List gX
 | 0=>Vs
 | j+1=>match tms[j]?,R[j]? with
  | some t,some r=>pP R t r (pW R tms Vs j)
  | _,_=>pW R tms Vs j
def F3 (nl:Bool)(so bo:Nat)(tms:List Tm)(j:Nat):Env:=[(0,.ptr so 0),(6,.ptr bo 0),(54,.vs nl 8 (tms.map Tm.d)),(55,.int .i64 (tms.length:Nat)),(56,.int .i64 (j:Nat))]
section
variable {T:Nat->Option dS}{H:au}{s s1:St}{so bo i:Nat}{x:D}{tms:List Tm}{t:Tm}{o la ta pl mp P Sh n lv tk:Nat}{Ds:List D}{Vs:List gX}{F:Nat->Nat->Prop}{R:List Nat}
noncomputable def ZI:AC:=match Jk 3 with
 | .loop _ a=>a
 | _=> .skip
def Hx (F:Nat->Nat->Prop)(s:St)(j:Nat):Prop:=(∃i,F i j)/\ ¬ E5 s j
theorem Wx (hS:TS T)(h:mb P Sh s so o la ta pl mp n lv tk bo Ds Vs F tms R x)(hN:tms.length<=200)(hR:R.length=tms.length){j r:Nat}(vy:tms[j]? =some t)(hr:R[j]? =some r)(hg:∀k∈t.kids,0<=k/\k < tms.length){nl:Bool}{I:Nat->St->Prop}{k:List je}{Q:QP}
  (hk:∀s1,mb P Sh s1 so o la ta pl mp n lv tk bo Ds (pP R t r Vs) F tms R x->aC (Hx F s) s s1->I (j+1) s1):
  eI T H ZI (.loop (NX tms.length (F3 nl so bo tms) I) [0,6,54,55,56] (tms.length - j)::k) ⟨F3 nl so bo tms j,[]⟩ s Q:=by
 have hj:j < tms.length:=(af.mp vy).1;have hd:=eR ((j:Int) < (tms.length:Nat));have ha:=ee vy;have gb:=h.bl.go;have hs:=h.ok;have fK:=h.tm t (aK vy);have w1:IntKind.wrap .i64 ((j:Int)+1)=((j+1:Nat):Int):=by rw [wrap_small (by omega) (by omega)]; omega
 obtain⟨q,rfl,PB,Ar,hq3⟩:=h.rf.at' hr;have hqe:=ir R;obtain⟨v,hv,Qz⟩:=h.md j r t hr vy;obtain⟨d,Hd,Ln⟩:=h.vs.get hv;show eI T H (.seq _ _) _ ⟨[(0,.ptr so 0),(6,.ptr bo 0),(54,.vs nl 8 (tms.map Tm.d)),(55,.int .i64 (tms.length:Nat)),(56,.int .i64 (j:Nat))],[]⟩ s Q;by_cases V9:∃num kd L,v= .row num kd L
 ·obtain⟨num,kd,L,rfl⟩:=V9;have Iz:pP R t r Vs=Vs.set r (.row num kd (rowOf R t)):=by unfold pP; rw [hv]
  have acO :=Ln;obtain⟨ro,lx,st,rfl,e2,e3,e4,e5,e6⟩:=Ln;have hL:L.length=t.kids.length:=by
   unfold Ha at Qz;rcases Qz with ⟨_,h5⟩ | ⟨_,h5⟩ | ⟨_,h5⟩ | ⟨_,h5⟩ | ⟨h6,_,_,_,h5,h7,h8⟩ | ⟨_,_,_,_,h5,_⟩ | ⟨_,_,_,h5⟩ | ⟨_,_,_,_,h5,_⟩;all_goals first | (cases h5; done) | skip
   cases h5;exact h8
  have vk:=AP R t;have jg:=fw t.kids;try refine go ?_
  refine ak (eh hS h.st Hd) ?_;rintro d s1 ⟨rfl,rfl⟩;try refine go ?_
  refine Kc (nl:=nl) (n2:=t.n2) (j:=j) h hN hR hg fK (r:=r) e2 e3 e4 e5 e6 hL ?_ ?_;rotate_left
  ·intro s2 st' q1 q2 q3;simp only [FK];try refine go ?_
   refine dO hj (hk _ ?_ (q3.mono fun y hy=>⟨⟨r,by rw [hy]; exact e6⟩,by rintro ⟨es,st0,e⟩; rw [hy,e3]at e; simp at e⟩));rw [Iz];exact h.fill hv Hd rfl e2 e3 e4 e5 e6 (by omega) q1 q2 q3 (h.md.fill hv (by omega))
  ·simp only [FK,← jg];rfl
 ·have Iz:pP R t r Vs=Vs:=by
   unfold pP; rw [hv];cases v <;> first | rfl | exact absurd ⟨_,_,_,rfl⟩ V9
  rw [Iz]at hk;have cC:∃ty y,d= .ig ty y/\Nat.beq ty 100=false:=by
   cases v with
   | none=>exact ⟨_,_,Ln,rfl⟩
   | bool b=>exact ⟨_,_,Ln,rfl⟩
   | int n=>obtain ⟨y,h1,_⟩:=Ln; exact ⟨_,_,h1,rfl⟩
   | str t=>exact ⟨_,_,Ln.1,rfl⟩
   | row num kd L=>exact absurd ⟨_,_,_,rfl⟩ V9
   | tG num kd E=>obtain ⟨_,_,h1,_⟩:=Ln; exact ⟨_,_,h1,rfl⟩
   | cls num a b=>obtain ⟨_,_,_,h1,_⟩:=Ln; exact ⟨_,_,h1,rfl⟩
   | inst num c=>obtain ⟨_,_,h1,_⟩:=Ln; exact ⟨_,_,h1,rfl⟩
   | view num kd of=>obtain ⟨_,h1,_⟩:=Ln; exact ⟨_,_,h1,rfl⟩
  obtain⟨ty,y,rfl,rq⟩:=cC;try refine go ?_
  refine ak (eh hS h.st Hd) ?_;rintro d s1 ⟨rfl,rfl⟩;refine iZ ?_ (ho:=mM rfl rq);try refine go ?_
  exact dO hj (hk _ h (aC.refl hs))
theorem LZ (hS:TS T)(h:mb P Sh s so o la ta pl mp n lv tk bo Ds Vs F tms R x)(hN:tms.length<=200)(hR:R.length=tms.length)(hg:∀t∈tms,∀k∈t.kids,0<=k/\k < tms.length){nl:Bool}{k:List je}{Q:QP}{E:Env}
  (hE:E.bR [0,6,54,55,56]=F3 nl so bo tms 0)
  (hd:∀s1,mb P Sh s1 so o la ta pl mp n lv tk bo Ds (pW R tms Vs tms.length) F tms R x->aC (Hx F s) s s1->kZ T H .normal k ⟨[(57,.bool false),(0,.ptr so 0),(6,.ptr bo 0),(54,.vs nl 8 (tms.map Tm.d)),(55,.int .i64 (tms.length:Nat)),(56,.int .i64 (tms.length:Nat))],[]⟩ s1 Q):
  eI T H (Jk 3) (.block 4::k) ⟨E,[]⟩ s Q:=by
 show eI T H (.loop _ _) (.block 4::k) ⟨E,[]⟩ s Q;refine eT tms.length (F3 nl so bo tms) (fun j s1=>mb P Sh s1 so o la ta pl mp n lv tk bo Ds (pW R tms Vs j) F tms R x/\aC (Hx F s) s s1) ⟨h,aC.refl h.ok⟩ ?_ rfl hE;rintro j s1 hj ⟨h1,h2⟩;by_cases dQ:j < tms.length
 ·obtain⟨t,ht⟩:∃t,tms[j]? =some t:=⟨_,ae dQ⟩;obtain⟨r,hr⟩:∃r,R[j]? =some r:=⟨_,ae (by omega)⟩;refine Wx hS h1 hN hR ht hr (hg t (aK ht)) fun s2 h3 h4=>⟨?_,h2.trans (h4.mono fun y hy=>⟨hy.1,fun hu=>hy.2 (hu.dU h.ok h2 fun hw=>hw.2 hu)⟩)⟩;have:pW R tms Vs (j+1)=pP R t r (pW R tms Vs j):=by
   show (match tms[j]?,R[j]? with | some t,some r=>pP R t r (pW R tms Vs j) | _,_=>pW R tms Vs j)=_;rw [ht,hr]
  rw [this]; exact h3
 ·have CP:j=tms.length:=by omega
  subst CP;have hdd:=cM ((tms.length:Int) < (tms.length:Nat));show eI T H _ _ ⟨[(0,.ptr so 0),(6,.ptr bo 0),(54,.vs nl 8 (tms.map Tm.d)),(55,.int .i64 (tms.length:Nat)),(56,.int .i64 (tms.length:Nat))],[]⟩ s1 Q;try refine go ?_
  exact hd s1 h1 h2
end
end Go.Proofs.Tab
