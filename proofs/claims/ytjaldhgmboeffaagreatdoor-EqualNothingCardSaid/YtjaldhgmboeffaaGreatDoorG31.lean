/- Part. -/
import Derived.Test.YtjaldhgmboeffaaGreatDoorG30
set_option linter.unusedSimpArgs false
set_option linter.unusedVariables false
set_option linter.unusedSectionVars false
set_option maxRecDepth 100000
set_option maxHeartbeats 2000000
namespace Go.Proofs.Tab
open Go Go.Ab Go.Ab.Sm
section
variable {T:Nat->Option dU}{H:ay}{s:St}{so o la ta pl mp P Sh n lv tk i j:Nat}{Ds:List D} {d d' :D}{v w:gP}{Q:Nat} {F F' :Nat->Prop}
theorem MW (hS:TS T)(hW:TW T)(hV:TV T)(hs:s.Ok)(h:bc s so o la ta pl mp P Sh Ds n lv tk)(hi:Ds[i]? =some d)(hv:eY Q F s d v)(hj:Ds[j]? =some d')(hw:eY Q F' s d' w)(nO:i≠j){a:Bool×List Nat}(ha:v.whole=some a)(hb:w.whole=none)(hc:v.text=none)(hk:v.kind≠1):
  cu T H 53 [.ptr so 0,.int .i64 i,.int .i64 j] s fun d s1=>d= .bool (false)/\s1=s:=by
 obtain⟨ty,x,rfl,hn⟩:=hv.ia;obtain⟨ty',x',rfl,Fm⟩:=hw.ia;have gi:=dD (H:=H) hS h hi;have gj:=dD (H:=H) hS h hj;have wi:=iN (H:=H) hS hW hV h hi hv;have wj:=iN (H:=H) hS hW hV h hj hw;have ti:=kj (H:=H) hS h hi hv;have tj:=kj (H:=H) hS h hj hw;have l1:=hv.uX;have l2:=hw.uX;simp only [ha,hb,hc,Option.getD,Option.isSome]at wi wj l1 l2 ti tj;refine ax hS.t53 ?_;try refine go ?_
 refine ak gi ?_;rintro d s1 ⟨rfl,rfl⟩;try refine go ?_
 refine ak gj ?_;rintro d s1 ⟨rfl,rfl⟩;try refine go ?_
 refine ak wi ?_;rintro d s1 ⟨rfl,x1,rfl,vR⟩;have PE:=vR;obtain⟨y1,rfl,w7⟩:=vR;have Ln:=fun p q=>qc (p:=p) (q:=q) (a:=a.1) w7
 repeat' first | refine go ?_ | refine dW ?_ (hp:=Ln _ _)
 refine ak wj ?_;rintro d s1 ⟨rfl,x2,rfl,vQ⟩;have PG:=vQ;obtain⟨y2,rfl,yp⟩:=vQ;have OC:=fun p q=>qc (p:=p) (q:=q) (a:=false) yp
 repeat' first | refine go ?_ | refine dW ?_ (hp:=OC _ _) | refine iV ?_ (ho:=mQ rfl hn)
 refine ak ti ?_;rintro d s1 ⟨rfl,rfl⟩;try refine go ?_
 refine ak tj ?_;rintro d s1 ⟨rfl,rfl⟩;try refine go ?_
 refine kJ hS hv ?_;try refine go ?_
 exact ai ⟨rfl,rfl⟩
theorem Oi (hS:TS T)(hW:TW T)(hV:TV T)(hs:s.Ok)(h:bc s so o la ta pl mp P Sh Ds n lv tk)(hi:Ds[i]? =some d)(hv:eY Q F s d v)(hj:Ds[j]? =some d')(hw:eY Q F' s d' w)(nO:i≠j){b:Bool×List Nat}{t:Option (List UInt8)}(ha:v.whole=none)(hb:w.whole=some b)(ht:v.text=t)(hc:w.text=none)(hk:w.kind≠1):
  cu T H 53 [.ptr so 0,.int .i64 i,.int .i64 j] s fun d s1=>d= .bool (false)/\s1=s:=by
 obtain⟨ty,x,rfl,hn⟩:=hv.ia;obtain⟨ty',x',rfl,Fm⟩:=hw.ia;have gi:=dD (H:=H) hS h hi;have gj:=dD (H:=H) hS h hj;have wi:=iN (H:=H) hS hW hV h hi hv;have wj:=iN (H:=H) hS hW hV h hj hw;have ti:=kj (H:=H) hS h hi hv;have tj:=kj (H:=H) hS h hj hw;have l1:=hv.uX;have l2:=hw.uX;simp only [ha,hb,hc,ht,Option.getD,Option.isSome]at wi wj l1 l2 ti tj;refine ax hS.t53 ?_;try refine go ?_
 refine ak gi ?_;rintro d s1 ⟨rfl,rfl⟩;try refine go ?_
 refine ak gj ?_;rintro d s1 ⟨rfl,rfl⟩;try refine go ?_
 refine ak wi ?_;rintro d s1 ⟨rfl,x1,rfl,vR⟩;have PE:=vR;obtain⟨y1,rfl,w7⟩:=vR;have Ln:=fun p q=>qc (p:=p) (q:=q) (a:=false) w7
 repeat' first | refine go ?_ | refine dW ?_ (hp:=Ln _ _)
 refine ak wj ?_;rintro d s1 ⟨rfl,x2,rfl,vQ⟩;have PG:=vQ;obtain⟨y2,rfl,yp⟩:=vQ;have OC:=fun p q=>qc (p:=p) (q:=q) (a:=b.1) yp
 repeat' first | refine go ?_ | refine dW ?_ (hp:=OC _ _) | refine iV ?_ (ho:=mQ rfl hn)
 cases t;all_goals simp only at ti
 all_goals
  refine ak ti ?_;rintro d s1 ⟨rfl,rfl⟩;try refine go ?_
  refine ak tj ?_;rintro d s1 ⟨rfl,rfl⟩;try refine go ?_
  by_cases k1:v.kind=1
  ·refine kJ hS hv ?_;try refine go ?_
   refine kJ hS hw ?_;try refine go ?_
   exact ai ⟨rfl,rfl⟩
  ·refine kJ hS hv ?_;try refine go ?_
   exact ai ⟨rfl,rfl⟩
theorem Ll (hS:TS T)(hW:TW T)(hV:TV T)(hs:s.Ok)(h:bc s so o la ta pl mp P Sh Ds n lv tk)(hi:Ds[i]? =some d)(hv:eY Q F s d v)(hj:Ds[j]? =some d')(hw:eY Q F' s d' w)(nO:i≠j)(ha:v.whole=none)(hb:w.whole=none)(ht:v.text=none):
  cu T H 53 [.ptr so 0,.int .i64 i,.int .i64 j] s fun d s1=>d= .bool (v.kind==1 && w.kind==1)/\s1=s:=by
 obtain⟨ty,x,rfl,hn⟩:=hv.ia;obtain⟨ty',x',rfl,Fm⟩:=hw.ia;have gi:=dD (H:=H) hS h hi;have gj:=dD (H:=H) hS h hj;have wi:=iN (H:=H) hS hW hV h hi hv;have wj:=iN (H:=H) hS hW hV h hj hw;have ti:=kj (H:=H) hS h hi hv;have tj:=kj (H:=H) hS h hj hw;have l1:=hv.uX;have l2:=hw.uX;simp only [ha,hb,ht,Option.getD,Option.isSome]at wi wj l1 l2 ti tj;refine ax hS.t53 ?_;try refine go ?_
 refine ak gi ?_;rintro d s1 ⟨rfl,rfl⟩;try refine go ?_
 refine ak gj ?_;rintro d s1 ⟨rfl,rfl⟩;try refine go ?_
 refine ak wi ?_;rintro d s1 ⟨rfl,x1,rfl,vR⟩;have PE:=vR;obtain⟨y1,rfl,w7⟩:=vR;have Ln:=fun p q=>qc (p:=p) (q:=q) (a:=false) w7
 repeat' first | refine go ?_ | refine dW ?_ (hp:=Ln _ _)
 refine ak wj ?_;rintro d s1 ⟨rfl,x2,rfl,vQ⟩;have PG:=vQ;obtain⟨y2,rfl,yp⟩:=vQ;have OC:=fun p q=>qc (p:=p) (q:=q) (a:=false) yp
 repeat' first | refine go ?_ | refine dW ?_ (hp:=OC _ _) | refine iV ?_ (ho:=mQ rfl hn)
 refine ak ti ?_;rintro d s1 ⟨rfl,rfl⟩;try refine go ?_
 refine ak tj ?_;rintro d s1 ⟨rfl,rfl⟩;try refine go ?_
 by_cases k1:v.kind=1
 ·refine kJ hS hv ?_;try refine go ?_
  refine kJ hS hw ?_;by_cases k2:w.kind=1
  ·try refine go ?_
   exact ai ⟨congrArg D.bool (show true=(v.kind==1 && w.kind==1) by simp [k1,k2]),rfl⟩
  ·try refine go ?_
   exact ai ⟨congrArg D.bool (show false=(v.kind==1 && w.kind==1) by simp [k1,k2]),rfl⟩
 ·refine kJ hS hv ?_;try refine go ?_
  exact ai ⟨congrArg D.bool (show false=(v.kind==1 && w.kind==1) by simp [k1]),rfl⟩
theorem O9 (hS:TS T)(hW:TW T)(hV:TV T)(hs:s.Ok)(h:bc s so o la ta pl mp P Sh Ds n lv tk)(hi:Ds[i]? =some d)(hv:eY Q F s d v)(hj:Ds[j]? =some d')(hw:eY Q F' s d' w)(nO:i≠j){t:List UInt8}(ha:v.whole=none)(hb:w.whole=none)(ht:v.text=some t)(hc:w.text=none):
  cu T H 53 [.ptr so 0,.int .i64 i,.int .i64 j] s fun d s1=>d= .bool (v.kind==1 && w.kind==1)/\s1=s:=by
 obtain⟨ty,x,rfl,hn⟩:=hv.ia;obtain⟨ty',x',rfl,Fm⟩:=hw.ia;have gi:=dD (H:=H) hS h hi;have gj:=dD (H:=H) hS h hj;have wi:=iN (H:=H) hS hW hV h hi hv;have wj:=iN (H:=H) hS hW hV h hj hw;have ti:=kj (H:=H) hS h hi hv;have tj:=kj (H:=H) hS h hj hw;have l1:=hv.uX;have l2:=hw.uX;simp only [ha,hb,ht,hc,Option.getD,Option.isSome]at wi wj l1 l2 ti tj;refine ax hS.t53 ?_;try refine go ?_
 refine ak gi ?_;rintro d s1 ⟨rfl,rfl⟩;try refine go ?_
 refine ak gj ?_;rintro d s1 ⟨rfl,rfl⟩;try refine go ?_
 refine ak wi ?_;rintro d s1 ⟨rfl,x1,rfl,vR⟩;have PE:=vR;obtain⟨y1,rfl,w7⟩:=vR;have Ln:=fun p q=>qc (p:=p) (q:=q) (a:=false) w7
 repeat' first | refine go ?_ | refine dW ?_ (hp:=Ln _ _)
 refine ak wj ?_;rintro d s1 ⟨rfl,x2,rfl,vQ⟩;have PG:=vQ;obtain⟨y2,rfl,yp⟩:=vQ;have OC:=fun p q=>qc (p:=p) (q:=q) (a:=false) yp
 repeat' first | refine go ?_ | refine dW ?_ (hp:=OC _ _) | refine iV ?_ (ho:=mQ rfl hn)
 refine ak ti ?_;rintro d s1 ⟨rfl,rfl⟩;try refine go ?_
 refine ak tj ?_;rintro d s1 ⟨rfl,rfl⟩;try refine go ?_
 by_cases k1:v.kind=1
 ·refine kJ hS hv ?_;try refine go ?_
  refine kJ hS hw ?_;by_cases k2:w.kind=1
  ·try refine go ?_
   exact ai ⟨congrArg D.bool (show true=(v.kind==1 && w.kind==1) by simp [k1,k2]),rfl⟩
  ·try refine go ?_
   exact ai ⟨congrArg D.bool (show false=(v.kind==1 && w.kind==1) by simp [k1,k2]),rfl⟩
 ·refine kJ hS hv ?_;try refine go ?_
  exact ai ⟨congrArg D.bool (show false=(v.kind==1 && w.kind==1) by simp [k1]),rfl⟩
theorem OO (hS:TS T)(hW:TW T)(hV:TV T)(hs:s.Ok)(h:bc s so o la ta pl mp P Sh Ds n lv tk)(hi:Ds[i]? =some d)(hv:eY Q F s d v)(hj:Ds[j]? =some d')(hw:eY Q F' s d' w)(nO:i≠j){t u:List UInt8}(ha:v.whole=none)(hb:w.whole=none)(ht:v.text=some t)(hc:w.text=some u)(hk:v.kind≠1):
  cu T H 53 [.ptr so 0,.int .i64 i,.int .i64 j] s fun d s1=>d= .bool (t==u)/\s1=s:=by
 obtain⟨ty,x,rfl,hn⟩:=hv.ia;obtain⟨ty',x',rfl,Fm⟩:=hw.ia;have gi:=dD (H:=H) hS h hi;have gj:=dD (H:=H) hS h hj;have wi:=iN (H:=H) hS hW hV h hi hv;have wj:=iN (H:=H) hS hW hV h hj hw;have ti:=kj (H:=H) hS h hi hv;have tj:=kj (H:=H) hS h hj hw;have l1:=hv.uX;have l2:=hw.uX;simp only [ha,hb,ht,hc,Option.getD,Option.isSome]at wi wj l1 l2 ti tj;refine ax hS.t53 ?_;try refine go ?_
 refine ak gi ?_;rintro d s1 ⟨rfl,rfl⟩;try refine go ?_
 refine ak gj ?_;rintro d s1 ⟨rfl,rfl⟩;try refine go ?_
 refine ak wi ?_;rintro d s1 ⟨rfl,x1,rfl,vR⟩;have PE:=vR;obtain⟨y1,rfl,w7⟩:=vR;have Ln:=fun p q=>qc (p:=p) (q:=q) (a:=false) w7
 repeat' first | refine go ?_ | refine dW ?_ (hp:=Ln _ _)
 refine ak wj ?_;rintro d s1 ⟨rfl,x2,rfl,vQ⟩;have PG:=vQ;obtain⟨y2,rfl,yp⟩:=vQ;have OC:=fun p q=>qc (p:=p) (q:=q) (a:=false) yp
 repeat' first | refine go ?_ | refine dW ?_ (hp:=OC _ _) | refine iV ?_ (ho:=mQ rfl hn)
 refine ak ti ?_;rintro d s1 ⟨rfl,rfl⟩;try refine go ?_
 refine ak tj ?_;rintro d s1 ⟨rfl,rfl⟩;try refine go ?_
 by_cases htu:t=u
 ·subst htu;have e1:(t==t)=true:=by simp
  simp only [e1];try refine go ?_
  exact ai ⟨rfl,rfl⟩
 ·have e1:(t==u)=false:=by simpa using htu
  simp only [e1];try refine go ?_
  refine kJ hS hv ?_;try refine go ?_
  exact ai ⟨rfl,rfl⟩
theorem gP.xP {v:gP}{a:Bool×List Nat}(h:v.whole=some a):v.text=Option.none/\v.kind≠1:=by
 cases v <;> simp_all [gP.whole,gP.text,gP.kind]
theorem gP.Kn {v:gP}{a:List UInt8}(h:v.text=some a):v.kind≠1:=by
 cases v <;> simp_all [gP.text,gP.kind]
theorem Mz (hS:TS T)(hW:TW T)(hV:TV T)(hs:s.Ok)(h:bc s so o la ta pl mp P Sh Ds n lv tk)(hi:Ds[i]? =some d)(hv:eY Q F s d v)(hj:Ds[j]? =some d')(hw:eY Q F' s d' w):
  cu T H 53 [.ptr so 0,.int .i64 i,.int .i64 j] s fun d s1=>d= .bool (vZ i v j w)/\s1=s:=by
 by_cases nO:i=j
 ·have:=Ha (H:=H) hS hW hV hs h hi hv hj hw nO;simpa only [vZ,cO nO,eP] using this
 simp only [vZ,bk nO,nf];cases ha:v.whole with
 | some a=>
  obtain⟨t1,k1⟩:=gP.xP ha;cases hb:w.whole with
  | some b=>exact CY hS hW hV hs h hi hv hj hw nO ha hb
  | none=>
   have:=MW (H:=H) hS hW hV hs h hi hv hj hw nO ha hb t1 k1;have e:(v.kind==1 && w.kind==1)=false:=by simp [k1]
   simpa only [t1,e,Bool.or_false] using this
 | none=>
  cases hb:w.whole with
  | some b=>
   obtain⟨t2,k2⟩:=gP.xP hb;have:=Oi (H:=H) hS hW hV hs h hi hv hj hw nO ha hb rfl t2 k2;have e:(v.kind==1 && w.kind==1)=false:=by simp [k2]
   cases ht:v.text <;> simpa only [t2,e,Bool.or_false] using this
  | none=>
   cases ht:v.text with
   | none=>
    have:=Ll (H:=H) hS hW hV hs h hi hv hj hw nO ha hb ht;simpa only [nf] using this
   | some t=>
    cases hc:w.text with
    | none=>
     have:=O9 (H:=H) hS hW hV hs h hi hv hj hw nO ha hb ht hc;simpa only [nf] using this
    | some u=>
     have k1:=gP.Kn ht;have:=OO (H:=H) hS hW hV hs h hi hv hj hw nO ha hb ht hc k1;have e:(v.kind==1 && w.kind==1)=false:=by simp [k1]
     simpa only [e,Bool.or_false] using this
end
structure Tm where
 kd:Int
 b:Bool
 ng:Bool
 n1:Bool
 mag:List Nat
 tx:List UInt8
 n2:Bool
 kids:List Int
 hs:Bool
 sm:Bool
@[reducible] def Tm.d (t:Tm):D:= .agg [.int .i64 t.kd,.bool t.b,.bool t.ng,.vs t.n1 1 (dz t.mag),.str t.tx,.vs t.n2 1 (ints t.kids),.bool t.hs,.bool t.sm]
structure Tm.Ok (t:Tm):Prop where
 n1:t.n1=true->t.mag=[]
 n2:t.n2=true->t.kids=[]
 mag:t.mag.length<=60000
 tx:t.tx.length<=60000
 kids:t.kids.length<=60000
def zr (t:Tm)(v:gP):Prop:=
 (t.kd=1/\v= .none)\/(t.kd=2/\v= .bool t.b)\/(t.kd=3/\v= .int (eh t.ng t.mag))\/(t.kd=4/\v= .str t.tx)\/
 ((t.kd=5\/t.kd=6)/\∃num kd L,v= .row num kd L/\(kd:Int)=t.kd/\L.length=t.kids.length)\/((t.kd=7\/t.kd=8\/t.kd=9)/\∃num kd E,v= .sU num kd E/\(kd:Int)=t.kd)\/
 (t.kd=14/\∃num c,v= .inst num c)\/((t.kd=15\/t.kd=16\/t.kd=17)/\∃num kd o,v= .view num kd o/\(kd:Int)=t.kd)
inductive Refs (s:St):D->List Nat->Prop
 | nil:Refs s (.vs true 0 []) []
 | sl {o:Nat} {R:List Nat} (h:s.get o=some (.arr 1 3 (ints (R.map Int.ofNat)) 0)) (hn:R≠ []):Refs s (.sl o 0 R.length R.length) R
theorem Refs.dK {W:Nat->Prop}{s s1:St}{x:D}{R:List Nat}(h:Refs s x R)(hs:s.Ok)(hb:aF W s s1)(hw:∀o a l c,x= .sl o a l c-> ¬ W o):Refs s1 x R:=by
 rcases h with _ | ⟨hg,hn⟩
 ·exact .nil
 ·exact .sl (hb.get hs hg (hw _ _ _ _ rfl)) hn
structure lS (s:St)(bo so:Nat)(tms:List Tm)(x:D):Prop where
 go:s.get bo=some (.var 116 (.agg [.ptr so 0,.vs false 8 (tms.map Tm.d),x]))
theorem Refs.at' {s:St}{x:D}{R:List Nat}{k r:Nat}(h:Refs s x R)(hk:R[k]? =some r):∃o,x= .sl o 0 R.length R.length/\s.get o=some (.arr 1 3 (ints (R.map Int.ofNat)) 0)/\(ints (R.map Int.ofNat))[0+k]? =some (.int .i64 (r:Nat))/\k < R.length:=by
 have hl:k < R.length:=(aj.mp hk).1;rcases h with _ | ⟨hg,hn⟩
 ·simp at hk
 ·refine⟨_,rfl,hg, ?_,hl⟩;simp only [ints,aN,aC,hk,da]; rfl
theorem gT (R:List Nat):(ints (R.map Int.ofNat)).length=R.length:=by simp [ints]
section
variable {T:Nat->Option dU}{H:ay}{s:St}{so o la ta pl mp P Sh n lv tk bo k r:Nat}{Ds:List D}{d x:D}{v:gP}{Q:Nat}{F:Nat->Prop}{tms:List Tm}{t:Tm}{R:List Nat}
theorem vP (hW:TW T)(hV:TV T){n:Bool×List Nat}(hs:s.Ok)(hx:qD s d n)(hl:n.2.length<=100000000):cu T H 48 [d] s fun d s1=>iy d/\aF Nil s s1:=by
 obtain⟨y,rfl,hy⟩:=hx;rcases hy.sh with ⟨nl,z,l,rfl⟩ | ⟨o',l,c,rfl⟩
 ·exact Jz hW hV hs hy hl
 ·exact KQ hW hV hs hy hl
theorem ej (hk:tms[k]? =some t):(tms.map Tm.d)[k]? =some t.d:=by rw [aC,hk]; rfl
theorem JA (hS:TS T)(hW:TW T)(hV:TV T)(hs:s.Ok)(hb:lS s bo so tms x)(hk:tms[k]? =some t)(h1:t.kd=1):
  cu T H 203 [.ptr bo 0,.int .i64 (k:Nat)] s fun d s1=>iy d/\aF Nil s s1:=by
 have hO:=Po (H:=H) (s:=s) hW hV (.inr (.inr rfl));simp only [show ((-7:Int)=0)=False by simp,show ((-7:Int)=1)=False by simp,jg]at hO;have hg:=hb.go;have ha:=ej hk;obtain⟨kd,b,ng,n1,mag,tx,n2,kids,gW,sm⟩:=t;simp only at h1; subst h1;refine ax hS.t203 ?_;try refine go ?_
 refine ak hO ?_;rintro d s1 ⟨rfl,hn⟩;have hd:=vP (H:=H) hW hV hs hn (by simp);obtain⟨y,rfl,hy⟩:=hn;try refine go ?_
 refine ak hd ?_;rintro d s2 ⟨⟨h,rfl⟩,b1⟩;try refine go ?_
 exact ai ⟨⟨h,rfl⟩,b1⟩
theorem O6 (hS:TS T)(hW:TW T)(hV:TV T)(hs:s.Ok)(hb:lS s bo so tms x)(hk:tms[k]? =some t)(h1:t.kd=4)(h2:t.tx.length<=1000000000):
  cu T H 203 [.ptr bo 0,.int .i64 (k:Nat)] s fun d s1=>iy d/\aF Nil s s1:=by
 have hg:=hb.go;have ha:=ej hk;have hd:=Lq (H:=H) hV hs h2;obtain⟨kd,b,ng,n1,mag,tx,n2,kids,gW,sm⟩:=t;simp only at h1 hd; subst h1;refine ax hS.t203 ?_;try refine go ?_
 refine ak hd ?_;rintro d s2 ⟨⟨h,rfl⟩,b1⟩;try refine go ?_
 exact ai ⟨⟨h,rfl⟩,b1⟩
theorem Ga (hS:TS T)(hW:TW T)(hV:TV T)(hs:s.Ok)(hb:lS s bo so tms x)(hk:tms[k]? =some t)(ho:t.Ok)(h1:t.kd=14)(h2:t.hs=true):
  cu T H 203 [.ptr bo 0,.int .i64 (k:Nat)] s fun d s1=>iy d/\aF Nil s s1:=by
 have hg:=hb.go;have ha:=ej hk;have q1:=ho.n1; have q2:=ho.mag;obtain⟨kd,b,ng,n1,mag,tx,n2,kids,gW,sm⟩:=t;have hd:=vP (H:=H) (n:=(ng,mag)) hW hV hs ⟨_,rfl,.vs n1 mag q1⟩ (by simp only at q2 ⊢; omega);simp only at h1 h2; subst h1; subst h2;refine ax hS.t203 ?_;try refine go ?_
 refine ak hd ?_;rintro d s2 ⟨⟨h,rfl⟩,b1⟩;try refine go ?_
 exact ai ⟨⟨h,rfl⟩,b1⟩
theorem KF (hS:TS T)(hW:TW T)(hV:TV T)(hs:s.Ok)(dN:bc s so o la ta pl mp P Sh Ds n lv tk)(hb:lS s bo so tms x)(hR:Refs s x R)(hk:tms[k]? =some t)(hr:R[k]? =some r)(hi:Ds[r]? =some d)(hv:eY Q F s d v)(h1:t.kd=14)(h2:t.hs=false):
  cu T H 203 [.ptr bo 0,.int .i64 (k:Nat)] s fun d s1=>iy d/\aF Nil s s1:=by
 have hg:=hb.go;have ha:=ej hk;obtain⟨ra,rfl,hra,har,j9⟩:=hR.at' hr;have ur:=gT R;have hn:=WB (H:=H) hS dN hi hv;have hd:=GW (H:=H) (n:=(v.num:Nat)) hV hs;obtain⟨kd,b,ng,n1,mag,tx,n2,kids,gW,sm⟩:=t;simp only at h1 h2; subst h1; subst h2;refine ax hS.t203 ?_;try refine go ?_
 refine aX hn ?_;rintro d s1 ⟨rfl,rfl⟩;refine⟨rfl,by rfl, ?_⟩;try refine go ?_
 refine aX hd ?_;rintro d s1 ⟨⟨h,rfl⟩,b1⟩;refine⟨rfl,by rfl, ?_⟩;try refine go ?_
 exact ai ⟨⟨h,rfl⟩,b1⟩
end
theorem bc.sub {s s1:St}{so o la ta pl mp P Sh n lv tk:Nat}{V:List D}(h:bc s so o la ta pl mp P Sh V n lv tk)(hg:∀o x,s.get o=some x->s1.get o=some x):bc s1 so o la ta pl mp P Sh V n lv tk:=
 ⟨hg _ _ h.go,hg _ _ h.gp,hg _ _ h.gm,⟨hg _ _ h.sl.go,hg _ _ h.sl.gl,hg _ _ h.sl.gt,h.sl.ol,h.sl.ot,h.sl.lt⟩,h.nd⟩
theorem Ws.sub {s s1:St}{x:D}{V:List Nat}(h:Ws s x V)(hg:∀o x,s.get o=some x->s1.get o=some x):Ws s1 x V:=by
 rcases h with ⟨nl,V,hn⟩ | _ | ⟨o,cp,V,R,h1,hc⟩
 ·exact .vs nl V hn
 ·exact .nil
 ·exact .sl o cp V R (hg _ _ h1) hc
theorem eY.abo {Q:Nat}{F:Nat->Prop}{s s1:St}{d:D}{v:gP}{n:Bool×List Nat}(h:eY Q F s d v)(hw:v.whole=some n)(hg:∀o x,s.get o=some x->s1.get o=some x):eY Q F s1 d v:=by
 cases v with
 | bool b=>exact h
 | int n=>
  obtain⟨y,h1,h2,h3,h4⟩:=h;exact⟨y,h1,h2.sub hg,h3,h4⟩
 | _=>simp [gP.whole]at hw
section
variable {T:Nat->Option dU}{H:ay}{s:St}{so o la ta pl mp P Sh n lv tk bo k r:Nat}{Ds:List D}{d x:D}{v:gP}{Q:Nat}{F:Nat->Prop}{tms:List Tm}{t:Tm}{R:List Nat}
theorem El (hS:TS T)(hW:TW T)(hV:TV T)(hs:s.Ok)(dN:bc s so o la ta pl mp P Sh Ds n lv tk)(hb:lS s bo so tms x)(hR:Refs s x R)(hk:tms[k]? =some t)(hr:R[k]? =some r)(hi:Ds[r]? =some d)(hv:eY Q F s d v){m:Bool×List Nat}(hw:v.whole=some m)(hm:m.2.length<=100000000)(h1:t.kd=2\/t.kd=3):
  cu T H 203 [.ptr bo 0,.int .i64 (k:Nat)] s fun d s1=>iy d/\aF Nil s s1:=by
 have hg:=hb.go;have ha:=ej hk;obtain⟨ra,rfl,hra,har,j9⟩:=hR.at' hr;have ur:=gT R;obtain⟨s2,GY⟩:∃s2,s2=({ s.up 1 with ro:=true,h:=sM (0+1) s.n (s.up 1).h}:St):=⟨_,rfl⟩;have kQ:∀o,s2.get o=if s.n<=o/\o < s.n+(0+1) then none else s.get o:=fun o=>by rw [GY]; exact ql _ _ _ _
 have RT:∀o x,s.get o=some x->s2.get o=some x:=fun o x hx=>by
  have:=hs.lt hx;rw [kQ,aK (by omega)]; exact hx
 have GM:∀o x,s2.get o=some x->s.get o=some x:=fun o x hx=>by
  rw [kQ]at hx;split at hx
  ·cases hx
  ·exact hx
 have Zw:=iN (H:=H) hS hW hV (dN.sub RT) hi (hv.abo hw RT);rw [hw,GY]at Zw;simp only [Option.isSome,Option.getD]at Zw;rw [← GY]at Zw;have abC :cu T H 46 [.ptr so 0,.int .i64 (r:Nat)] ({ s.up 1 with ro:=true,h:=sM (0+1) s.n (s.up 1).h}:St) fun d s1=>∃y,d= .gK [.agg [.bool m.1,y],.bool true]/\Ws s y m.2:=by
  rw [← GY];obtain⟨d,s3,e1,rfl,x,rfl,y,rfl,hy⟩:=Zw;exact⟨_,_,e1,y,rfl,hy.sub GM⟩
 clear Zw;have key:∀kd:Int,(kd=2\/kd=3)->∀ {b ng n1 mag tx n2 kids gW sm},(tms.map Tm.d)[k]? =some (Tm.d ⟨kd,b,ng,n1,mag,tx,n2,kids,gW,sm⟩)->cu T H 203 [.ptr bo 0,.int .i64 (k:Nat)] s fun d s1=>iy d/\aF Nil s s1:=by
  intro kd gV b ng n1 mag tx n2 kids gW sm ha;have lb:=hs.lt hg;have lr:=hs.lt hra;refine ax hS.t203 ?_;rcases gV with rfl | rfl
  all_goals
   try refine go ?_
   refine tH abC ?_;rintro d s1 ⟨y,rfl,hy⟩;refine⟨rfl, ?_⟩;have ov:=fun p q=>qc (p:=p) (q:=q) (a:=m.1) hy
   repeat' first | refine go ?_ | refine vh ?_ (hp:=ov _ _)
   have b0:aF Nil s ((s.up 1).bF (s.n+0) (.var 46 (.agg [.bool false,.vs true 0 []]))):=aF.set ((aF.refl hs).up 1) _ (by rw [St.jx]; omega) (fun hh=>by omega);have b1:aF Nil s (((s.up 1).bF (s.n+0) (.var 46 (.agg [.bool false,.vs true 0 []]))).bF (s.n+0) (.var 46 (.agg [.bool m.1,y]))):=aF.set b0 _ (by rw [St.fE,St.jx]; omega) (fun hh=>by omega);have hd:=vP (H:=H) (n:=m) hW hV b1.ok ⟨y,rfl,hy.Xk hs b1 (fun _ _ _ _ _ hh=>hh)⟩ hm;refine ak hd ?_;rintro d s3 ⟨⟨h,rfl⟩,b2⟩;try refine go ?_
   exact ai ⟨⟨h,rfl⟩,b1.trans b2⟩
 obtain⟨kd,b,ng,n1,mag,tx,n2,kids,gW,sm⟩:=t;exact key kd h1 ha
def EE (t:Tm):Prop:=t.kd=1\/t.kd=2\/t.kd=3\/t.kd=4\/t.kd=14
theorem QU (hS:TS T)(hW:TW T)(hV:TV T)(hs:s.Ok)(dN:bc s so o la ta pl mp P Sh Ds n lv tk)(hb:lS s bo so tms x)(hR:Refs s x R)(hk:tms[k]? =some t)(ho:t.Ok)(hr:R[k]? =some r)(hi:Ds[r]? =some d)(hv:eY Q F s d v)(RJ:zr t v)(Cl:EE t):
  cu T H 203 [.ptr bo 0,.int .i64 (k:Nat)] s fun d s1=>iy d/\aF Nil s s1:=by
 have abX:=ho.mag;have Eb:=ho.tx;rcases Cl with h1 | h1 | h1 | h1 | h1
 ·exact JA hS hW hV hs hb hk h1
 ·rcases RJ with ⟨h2,_⟩ | ⟨_,rfl⟩ | ⟨h2,_⟩ | ⟨h2,_⟩ | ⟨h2,_⟩ | ⟨h2,_⟩ | ⟨h2,_⟩ | ⟨h2,_⟩
  ·omega
  ·exact El hS hW hV hs dN hb hR hk hr hi hv (m:=if t.b then (false,[1]) else (false,[])) rfl (by split <;> simp) (.inl h1)
  all_goals omega
 ·rcases RJ with ⟨h2,_⟩ | ⟨h2,_⟩ | ⟨_,rfl⟩ | ⟨h2,_⟩ | ⟨h2,_⟩ | ⟨h2,_⟩ | ⟨h2,_⟩ | ⟨h2,_⟩
  ·omega
  ·omega
  ·exact El hS hW hV hs dN hb hR hk hr hi hv rfl (by have:=mh t.ng t.mag; omega) (.inr h1)
  all_goals omega
 ·exact O6 hS hW hV hs hb hk h1 (by omega)
 ·cases h2:t.hs
  ·exact KF hS hW hV hs dN hb hR hk hr hi hv h1 h2
  ·exact Ga hS hW hV hs hb hk ho h1 h2
end
def yM (Vs:List gP)(i j:Nat):Bool:=match Vs[i]?,Vs[j]? with
 | some v,some w=>vZ i v j w
 | _,_=>false
def nT (Vs:List gP)(h:Int)(r:Nat)(e:eU):Bool:=decide (e.h=h) && yM Vs e.k.toNat r
def Ez (Vs:List gP)(most:Nat)(E:List eU)(h:Int)(r:Nat)(v:Int):List eU:=match E.findIdx? (nT Vs h r) with
 | some n=>(match E[n]? with
  | some e=>E.set n { e with v:=v}
  | none=>E)
 | none=>if E.length < most then E++ [eU.mk h r v (E.length:Nat)] else E
section
variable {Vs:List gP}{most:Nat}{E:List eU}{h:Int}{r n N:Nat}{v:Int}{e:eU}
theorem Em (he:E[n]? =some e)(hh:nT Vs h r e=true)(hp:∀(m:Nat) (f:eU),m < n->E[m]? =some f->nT Vs h r f=false):Ez Vs most E h r v=E.set n { e with v:=v}:=by
 have hn:n < E.length:=(aj.mp he).1;have:E.findIdx? (nT Vs h r)=some n:=by
  rw [List.findIdx?_eq_some_iff_getElem];refine⟨hn, ?_,fun m hm=> ?_⟩
  ·rw [ab hn]at he;simp only [aa]at he;rw [he]; exact hh
  ·rw [hp m _ hm (ab (by omega))]; simp
 simp only [Ez,this,he]
theorem AD (hp:∀(m:Nat) (f:eU),E[m]? =some f->nT Vs h r f=false):Ez Vs most E h r v=if E.length < most then E++ [eU.mk h r v (E.length:Nat)] else E:=by
 have:E.findIdx? (nT Vs h r)=none:=by
  rw [List.findIdx?_eq_none_iff];intro x hx;obtain⟨m,hm⟩:=cJ hx;exact hp m x hm
 simp only [Ez,this]
def pV (N:Nat)(E:List eU):Prop:=∀(m:Nat) (e:eU),E[m]? =some e->∃i:Nat,e.k=(i:Int)/\i < N
theorem pV.put (hE:pV N E)(hr:r < N):pV N (Ez Vs most E h r v):=by
 unfold Ez;split
 ·split
  ·rename_i he;intro m f hf;rw [mq]at hf;split at hf
   ·split at hf
    ·simp only [aa]at hf; subst hf;obtain⟨i,h1,h2⟩:=hE _ _ he;exact⟨i,h1,h2⟩
    ·cases hf
   ·exact hE m f hf
  ·exact hE
 ·split
  ·intro m f hf;rcases aH m E.length with hl | hl
   ·rw [aP hl]at hf; exact hE m f hf
   ·rw [aT hl]at hf;rcases ec (m - E.length) with h0 | h0
    ·rw [h0]at hf;simp only [aR,aa]at hf;subst hf;exact⟨r,rfl,hr⟩
    ·rw [eN (by simp; omega)]at hf; cases hf
  ·exact hE
end
theorem fD.fit {W:Nat->Prop}{n:Nat}{s:St}{dv most:Nat}{E:List eU}(h:fD (Own n W) s dv most E)(hs:s.Ok):fD (fun j=>W j\/(n<=j/\j < s.n)) s dv most E:=by
 obtain⟨to,eo,co,ro,log,b,st,x,C,ver,p1,p2,v1,v2,v3,v4,v5,p3⟩:=h;have up:∀o,o < s.n->Own n W o->W o\/(n<=o/\o < s.n):=fun o ho hw=>hw.imp id fun h=>⟨h,ho⟩;have l1:=hs.lt p1; have l2:=hs.lt p2.go; have l3:=hs.lt p2.ce.go; have l4:=hs.lt p2.ce.gr;have sG:=p2.en;rcases sG with _ | ⟨_,st0,E,g,dN⟩
 ·exact⟨to,to,co,ro,log,b,st,_,C,ver,p1,⟨p2.go,.nil to,p2.ce,p2.la,p2.rm⟩,up _ l1 v1,up _ l2 v2,up _ l2 v2,up _ l3 v4,up _ l4 v5,p3⟩
 ·exact⟨to,eo,co,ro,log,b,st,_,C,ver,p1,p2,up _ l1 v1,up _ l2 v2,up _ (hs.lt g) v3,up _ l3 v4,up _ l4 v5,p3⟩
def FN (Vs:List gP)(W:Nat->Prop)(n0:Nat)(s1:St)(dv most:Nat)(E:List eU)(h:Int)(r:Nat)(v:Int):Prop:=fD (fun j=>W j\/(n0<=j/\j < s1.n)) s1 dv most (Ez Vs most E h r v)
theorem Stepped.out {Vs:List gP}{W:Nat->Prop}{s s1:St}{mo dv so most N r n0:Nat}{E:List eU}{h v told:Int}{d:D}(hS:Stepped W s mo dv so most E h (r:Nat) v told d s1)(Fo:n0<=s.n)(h1:s1.Ok)(hm:n0<=mo)(hE:pV N E)(hN:∀i,i < N->∃w,Vs[i]? =some w)(hr:r < N)
  (hp:∀(m:Nat) (f:eU),(m:Int)<=told->E[m]? =some f->nT Vs h r f=false):
  (∃(n:Nat) (e:eU),E[n]? =some e/\told < (n:Int)/\e.h=h/\e.k≠(r:Nat)/\d=kX 1 e.k false 0 0/\oV W s1 mo dv so most E h (r:Nat) v 2 (n:Nat) (n:Nat)/\aF (fun j=>j=mo\/j=so) s s1/\∀(m:Nat) (f:eU),m < n->E[m]? =some f->nT Vs h r f=false)\/
  (∃x0 x1 x2 x3 x4,d=kX x0 x1 x2 x3 x4/\(x0=2\/x0=3)/\FN Vs W n0 s1 dv most E h r v/\aF (fun j=>W j\/j=mo\/j=so) s s1):=by
 have wd:∀ {W' :Nat->Prop} {E' :List eU},fD W s1 dv most E' ->fD (fun j=>W j\/(n0<=j/\j < s1.n)) s1 dv most E' :=fun h=>h.mono fun o ho=> .inl ho;have nohit:∀ {e:eU},e.h≠h->nT Vs h r e=false:=fun cE=>by simp [nT,cE]
 rcases hS with ⟨n,e,⟨q1,⟨e',q2,q3⟩,q4⟩,he,hk,hd,hm,hb⟩ | ⟨n,e,⟨q1,⟨e',q2,q3⟩,q4⟩,he,hk,hd,hm,hb⟩ | ⟨q1,q2,hd,hm,hb⟩ | ⟨q1,q2,hd,hm,hb⟩
 ·rw [he]at q2; simp only [aa]at q2; subst q2;refine .inl ⟨n,e,he,q1,q3,hk,hd,hm,hb,fun m f Yp hf=> ?_⟩;rcases kV told (m:Int) with hl | hl
  ·exact nohit (q4 m f hl Yp hf)
  ·exact hp m f hl hf
 ·rw [he]at q2; simp only [aa]at q2; subst q2;refine .inr ⟨_,_,_,_,_,hd,.inl rfl, ?_,hb⟩;have hh:nT Vs h r e=true:=by
   obtain⟨w,hw⟩:=hN r hr;have:yM Vs r r=true:=by simp [yM,hw,vZ]
   simp [nT,q3,hk,this]
  unfold FN;rw [Em he hh fun m f Yp hf=> ?_]
  ·exact wd (W' :=W) hm
  ·rcases kV told (m:Int) with hl | hl
   ·exact nohit (q4 m f hl Yp hf)
   ·exact hp m f hl hf
 ·refine .inr ⟨_,_,_,_,_,hd,.inl rfl, ?_,hb⟩;unfold FN;rw [AD fun m f hf=> ?_,bT q2]
  ·exact (hm.fit h1).mono fun o ho=>ho.imp id fun ⟨a,b⟩=>⟨by omega,b⟩
  ·rcases kV told (m:Int) with hl | hl
   ·exact nohit (q1 m f hl hf)
   ·exact hp m f hl hf
 ·refine .inr ⟨_,_,_,_,_,hd,.inr rfl, ?_,hb⟩;unfold FN;rw [AD fun m f hf=> ?_,aK (by omega)]
  ·exact wd (W' :=W) hm
  ·rcases kV told (m:Int) with hl | hl
   ·exact nohit (q1 m f hl hf)
   ·exact hp m f hl hf
theorem BR {acc:List Fp}{x y:Fp}{i:Nat}(h:acc[i]? =some x)(ha:lz x y=true):fh acc y [i]=true:=by
 simp only [fh,h,ha]
def CV (P:Nat)(s:St)(N:Nat)(Ds:List D)(Vs:List gP)(W:Nat->Prop):Prop:=∀i,i < N->∃d w F,Ds[i]? =some d/\Vs[i]? =some w/\eY P F s d w/\∀j,F j-> ¬ W j
theorem CV.dK {P N:Nat}{s s1:St}{Ds:List D}{Vs:List gP}{W:Nat->Prop}(h:CV P s N Ds Vs W)(hs:s.Ok)(hb:aF W s s1):CV P s1 N Ds Vs W:=fun i hi=>by
 obtain⟨d,w,F,h1,h2,h3,h4⟩:=h i hi;exact⟨d,w,F,h1,h2,h3.dK hs hb (fun j _ hj=>h4 j hj),h4⟩
theorem fD.len {W:Nat->Prop}{s:St}{dv most:Nat}{E:List eU}(h:fD W s dv most E):E.length<=1000:=by
 obtain⟨to,eo,co,ro,log,b,st,x,C,ver,p1,p2,v1,v2,v3,v4,v5,p3⟩:=h;exact p3
def Ol (W:Nat->Prop)(s:St)(bo k mo dv most:Nat)(E:List eU)(Vs:List gP)(h:Int)(r:Nat)(v:Int)(m:Nat)(env:Env) (s' :St):Prop:=s'.Ok/\aF W s s' /\
 ((∃(n:Nat) (e:eU) (so' :Nat),E.length - n<=m/\env=[(0,.ptr bo 0),(2,.int .i64 (k:Nat)),(8,.ptr mo 0),(9,.lv (kX 1 e.k false 0 0))]/\E[n]? =some e/\e.h=h/\e.k≠(r:Nat)/\oV W s' mo dv so' most E h (r:Nat) v 2 (n:Nat) (n:Nat)/\s.n<=so' /\∀(m:Nat) (f:eU),m < n->E[m]? =some f->nT Vs h r f=false)\/
  (∃x0 x1 x2 x3 x4,env=[(0,.ptr bo 0),(2,.int .i64 (k:Nat)),(8,.ptr mo 0),(9,.lv (kX x0 x1 x2 x3 x4))]/\(x0=2\/x0=3)/\FN Vs W s.n s' dv most E h r v))
section
variable {T:Nat->Option dU}{H:ay}
theorem PL (hP:TP T){W:Nat->Prop}{s:St}{mo dv so most:Nat}{E:List eU}{h k v entry told:Int}{same:Bool}(hs:s.Ok)(hm:oV W s mo dv so most E h k v 2 entry told):
  cu T H 111 [.ptr mo 0,.bool same] s fun d s1=>d= .int .i64 0/\oV W s1 mo dv so most E h k v (if same then 3 else 1) entry told/\aF (fun j=>j=mo) s s1:=by
 obtain⟨⟨to,eo,co,ro,log,b,st,x,C,ver,J,scans,t0,t1,t2,t3,t4,h1,h2,w1,w2,w3,w4,w5,h3,h4,h5,h6⟩,nm,ns,nq⟩:=hm;obtain⟨d,s1,e1,rfl,e2,e3⟩:=QR (H:=H) (same:=same) hP hs h4;have ne:∀o,W o->o≠mo:=fun o ho e=>nm (e ▸ ho);exact⟨_,s1,e1,rfl,⟨⟨to,eo,co,ro,log,b,st,x,C,ver,J,scans,t0,t1,t2,t3,t4,e3.get hs h1 (ne _ w1),h2.dK hs e3 (ne _ w2) (fun _ _ _=>ne _ w3) (ne _ w4) (ne _ w5),w1,w2,w3,w4,w5,h3,e2,e3.get hs h5 (fun e=>nq e.symm),h6⟩,nm,ns,nq⟩,e3⟩
variable {s:St}{so o la ta pl mp P Sh n lv tk bo k r po dv most N:Nat}{Ds:List D}{x:D}{Vs:List gP}{tms:List Tm}{t:Tm}{R:List Nat}{W:Nat->Prop}{E:List eU}{num kd v:Int}
theorem WC (hS:TS T)(hT:TT T)(hP:TP T)(hW:TW T)(hV:TV T)(hs:s.Ok)(dN:bc s so o la ta pl mp P Sh Ds n lv tk)(hb:lS s bo so tms x)(hR:Refs s x R)(hk:tms[k]? =some t)(ho:t.Ok)(hr:R[k]? =some r)
  (hcx:CV P s N Ds Vs W)(hrN:r < N)(hE:pV N E)(RJ:∀w,Vs[r]? =some w->zr t w)(Cl:EE t)(gp:s.get po=some (.var 89 (.agg [.int .i64 num,.ptr dv 0,.int .i64 kd])))(hd:fD W s dv most E)(uy:most<=1000)
  (hW1:∀j,W j->j < s.n)(hWs:∀j,(bA so o la ta pl j\/j=mp)-> ¬ W j)(hWb: ¬ W bo)(hWx:∀o a l c,x= .sl o a l c-> ¬ W o):
  cu T H 144 [.ptr bo 0,.ptr po 0,.int .i64 (k:Nat),.int .i64 v] s fun _ s1=>(∃h,FN Vs W s.n s1 dv most E h r v)/\aF W s s1:=by
 obtain⟨dr,wr,Fr,Xe,zx,P2,hr4⟩:=hcx r hrN;have hh:=QU (H:=H) hS hW hV hs dN hb hR hk ho hr Xe P2 (RJ _ zx) Cl;have gb:=hb.go;obtain⟨ra,rfl,gra,gar,j9⟩:=hR.at' hr;have ur:=gT R;have lb:=hs.lt gb; have lr:=hs.lt gra; have lp:=hs.lt gp;refine ax hS.t144 ?_;try refine go ?_
 refine aX hh ?_;rintro d s1 ⟨⟨h,rfl⟩,b1⟩;have ok1:=b1.ok;have gp1:=b1.get hs gp (fun h=>h);have G8:=b1.get hs gb (fun h=>h);have abw:=b1.get hs gra (fun h=>h);have HP:=hd.dK hs b1 (fun _ _ _ h=>h);refine⟨rfl,by simp [lost,eQ.kind,cK,dE,cF,aI,bC,bC.cW,gk,bP.ev,Env.get,cS,D.flat,D.isAgg,cP,D.fw,D.beq,aA,Obj.aW,bE,br,D.bW,D.aW,gp,gp1], ?_⟩;have sb:∀q∈ [bo],s1.get q=s.get q:=by intro q hq; simp only [cH]at hq; subst hq; rw [gb,G8]
 have sr:∀q∈ [ra],s1.get q=s.get q:=by intro q hq; simp only [cH]at hq; subst hq; rw [gra,abw]
 repeat' first | refine go ?_ | refine yY ?_ (hc:=BR rfl (ve sb)) | refine za ?_ (hc:=BR rfl (ve sr)) | refine xK ?_ (hc:=BR rfl (ve sr))
 have Cu:=HP;obtain⟨to,eo,co,ro,log,b,st,x1,C,ver,EU,_,wdv,_⟩:=Cu;have w6:=Ot (H:=H) (h:=h) (k:=(r:Nat)) (v:=v) hP ok1 EU;refine aX w6 ?_;rintro d s2 ⟨mo,rfl,hmo,Lk,b2⟩;have ok2:=b2.ok;have n1:=b1.n; have n2:=b2.n;have lm2:=ok2.lt Lk;have GR:=HP.dK ok1 b2 (fun _ _ _ h=>h);refine⟨rfl,by rfl, ?_⟩;have LV:=DH (H:=H) hT hP ok2 uy GR (fun hw=>by have:=hW1 _ hw; omega) (fun hw=>by have:=hW1 _ hw; omega) Lk;try refine go ?_
 refine ak LV ?_;rintro d s3 ⟨s0,b3,n3,hS3⟩
 have hNN:∀i,i < N->∃w,Vs[i]? =some w:=fun i hi=>by
  obtain⟨_,w,_,_,h2,_⟩:=hcx i hi;exact⟨w,h2⟩
 have ok3:s3.Ok:=by
  rcases hS3 with ⟨_,_,_,_,_,_,_,hb⟩ | ⟨_,_,_,_,_,_,_,hb⟩ | ⟨_,_,_,_,hb⟩ | ⟨_,_,_,_,hb⟩ <;> exact hb.ok
 have wlt:∀ {j a:Nat},s.n<=a->j=a->j < s.n->W j:=fun h1 h2 h3=>by omega
 have b03:aF W s s0:=(b1.mono fun _ h=>h.elim).trans' ((b2.mono fun _ h=>h.elim:aF W s1 s2).trans' b3 fun o h1 h2=>by
  exfalso; omega) fun o hw hl=>hw
 have Xh:=hS3.out (Vs:=Vs) (N:=N) (n0:=s.n) (by omega) ok3 (by omega) hE hNN hrN (fun m f h1 hf=>absurd h1 (by omega));have R6:∃x0 x1 x2 x3 x4,d=kX x0 x1 x2 x3 x4:=by
  rcases Xh with ⟨n,e,_,_,_,_,rfl,_⟩ | ⟨_,_,_,_,_,rfl,_⟩ <;> exact ⟨_,_,_,_,_,rfl⟩
 have ask:∀ {s4:St} {n:Nat} {e:eU} {d:D} {s5:St} {so1:Nat},s.n<=so1->s.n<=s4.n->aF W s s4->E[n]? =some e->(∀(m:Nat) (f:eU),m < n->E[m]? =some f->nT Vs h r f=false)->True:=fun _ _ _ _ _=>trivial;clear ask;have Et:Ol W s bo k mo dv most E Vs h r v (E.length+1) [(0,.ptr bo 0),(2,.int .i64 (k:Nat)),(8,.ptr mo 0),(9,.lv d)] s3:=by
  rcases Xh with ⟨n,e,q1,q2,q3,q4,rfl,q5,q6,q7⟩ | ⟨x0,x1,x2,x3,x4,rfl,q1,q2,q3⟩
  ·have hn:n < E.length:=(aj.mp q1).1;exact⟨ok3,b03.trans' q6 (fun o h1 h2=>by exfalso; omega),.inl ⟨n,e,s2.n,by omega,rfl,q1,q3,q4,q5,by omega,q7⟩⟩
  ·exact⟨ok3,b03.trans' q3 (fun o h1 h2=>by rcases h1 with h1 | h1 | h1; exact h1; omega; omega),.inr ⟨x0,x1,x2,x3,x4,rfl,q1,q2⟩⟩
 obtain⟨y0,y1,y2,y3,y4,rfl⟩:=R6
 repeat' first | refine go ?_ | refine dW ?_
 refine cg (Ol W s bo k mo dv most E Vs h r v) (E.length+1) rfl Et ?_;rintro m env s4 ⟨ok4,Yk,hinv⟩;rcases hinv with ⟨n,e,so1,Yp,rfl,he,heh,hek,hM,hso,hp⟩ | ⟨x0,x1,x2,x3,x4,rfl,hx,LB⟩
 ·have OJ:=dN.dK hs Yk hWs;have YK:=hcx.dK hs Yk;have gb4:=Yk.get hs gb hWb;have acm:=Yk.get hs gra (hWx _ _ _ _ rfl);obtain⟨i,X2,hiN⟩:=hE n e he;obtain⟨di,wi,Fi,W8,hi2,hi3,hi4⟩:=YK i hiN;obtain⟨dr',wr',Fr',aca,aa5,aa4,acI⟩:=YK r hrN;have Lc:=Mz (H:=H) hS hW hV ok4 OJ W8 hi3 aca aa4;have Yl:yM Vs e.k.toNat r=vZ i wi r wr' :=by simp [yM,X2,hi2,aa5]
  have hn:n < E.length:=(aj.mp he).1;have gM:=hM;have lmo:s.n<=mo:=by omega
  have abB :e.k=(i:Int):=X2;rw [abB];try refine go ?_
  refine aX Lc ?_;rintro d s5 ⟨rfl,rfl⟩;refine⟨rfl,by rfl, ?_⟩;try refine go ?_
  refine aX (PL (same:=vZ i wi r wr') hP ok4 hM) ?_;rintro d s6 ⟨rfl,hM6,b6⟩;refine⟨rfl,by rfl, ?_⟩;have bs6:aF W s s6:=Yk.trans' b6 fun o h1 h2=>by exfalso; omega
  cases hl:vZ i wi r wr' with
  | true=>
   rw [hl]at hM6;have Xm:=Jm (H:=H) hT hP b6.ok hM6 he;try refine go ?_
   refine ak Xm ?_;rintro d s7 ⟨rfl,hd7,b7⟩
   repeat' first | refine go ?_ | refine dW ?_
   refine bf 0 (by omega) rfl ?_;refine⟨b7.ok,bs6.trans' b7 (fun o h1 h2=>by rcases h1 with h1 | h1; exact h1; omega),.inr ⟨_,_,_,_,_,rfl,.inl rfl, ?_⟩⟩;unfold FN;rw [Em he (by simp [nT,heh,Yl,hl]) hp];exact hd7.mono fun o ho=> .inl ho
  | false=>
   rw [hl]at hM6;have Xm:=Ke (H:=H) hT hP b6.ok uy (by have:=hd.len; omega) hM6;try refine go ?_
   refine ak Xm ?_;rintro d s7 hS7;have ok7:s7.Ok:=by
    rcases hS7 with ⟨_,_,_,_,_,_,_,hb⟩ | ⟨_,_,_,_,_,_,_,hb⟩ | ⟨_,_,_,_,hb⟩ | ⟨_,_,_,_,hb⟩ <;> exact hb.ok
   have n6:=bs6.n
   have Zv:=hS7.out (Vs:=Vs) (N:=N) (n0:=s.n) n6 ok7 lmo hE hNN hrN (fun m f h1 hf=>by
    rcases aH m n with h2 | h2
    ·exact hp m f h2 hf
    ·obtain rfl:m=n:=by omega
     rw [he]at hf; simp only [aa]at hf; subst hf;simp [nT,Yl,hl])
   rcases Zv with ⟨n',e',q1,q2,q3,q4,rfl,q5,q6,q7⟩ | ⟨x0,x1,x2,x3,x4,rfl,q1,q2,q3⟩
   ·have Fm :n' < E.length:=(aj.mp q1).1
    repeat' first | refine go ?_ | refine dW ?_
    refine bf (E.length - n') (by omega) rfl ?_;exact⟨ok7,bs6.trans' q6 (fun o h1 h2=>by exfalso; omega),.inl ⟨n',e',so1,by omega,rfl,q1,q3,q4,q5,hso,q7⟩⟩
   ·repeat' first | refine go ?_ | refine dW ?_
    refine bf 0 (by omega) rfl ?_;exact⟨ok7,bs6.trans' q3 (fun o h1 h2=>by rcases h1 with h1 | h1 | h1; exact h1; omega; omega),.inr ⟨x0,x1,x2,x3,x4,rfl,q1,q2⟩⟩
 ·rcases hx with rfl | rfl
  all_goals
   try refine go ?_
   exact iu ⟨⟨h,LB⟩,Yk⟩
end
end Go.Proofs.Tab
