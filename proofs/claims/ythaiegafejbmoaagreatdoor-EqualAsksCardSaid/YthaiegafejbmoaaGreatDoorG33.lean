/- Part. -/
import Derived.Test.YthaiegafejbmoaaGreatDoorG32
set_option linter.unusedSectionVars false
set_option maxRecDepth 100000
set_option maxHeartbeats 2000000
set_option linter.unusedSimpArgs false
set_option linter.unusedVariables false
namespace Go.Proofs.Tab
open Go Go.Ab Go.Ab.Sm
section
variable {T:Nat->Option dJ}{H:au}{s:St}{so o la ta pl mp P Sh n lv tk i j:Nat}{Ds:List D} {d d' :D}{v w:fE}{Q:Nat} {F F' :Nat->Prop}
theorem LV (hS:TS T)(hW:TW T)(hV:TV T)(hs:s.Ok)(h:aX s so o la ta pl mp P Sh Ds n lv tk)(hi:Ds[i]? =some d)(hv:eK Q F s d v)(hj:Ds[j]? =some d')(hw:eK Q F' s d' w)(uz:i≠j){a:Bool×List Nat}(ha:v.whole=some a)(hb:w.whole=none)(hc:v.text=none)(hk:v.kind≠1):
  bY T H 58 [.ptr so 0,.int .i64 i,.int .i64 j] s fun d s1=>d= .bool (false)/\s1=s:=by
 obtain⟨ty,x,rfl,hn⟩:=hv.eM;obtain⟨ty',x',rfl,OM⟩:=hw.eM;have gi:=cz (H:=H) hS h hi;have gj:=cz (H:=H) hS h hj;have wi:=gU (H:=H) hS hW hV h hi hv;have wj:=gU (H:=H) hS hW hV h hj hw;have ti:=jZ (H:=H) hS h hi hv;have tj:=jZ (H:=H) hS h hj hw;have l1:=hv.vh;have l2:=hw.vh;simp only [ha,hb,hc,Option.getD,Option.isSome]at wi wj l1 l2 ti tj;refine aD hS.t58 ?_;try refine go ?_
 refine af gi ?_;rintro d s1 ⟨rfl,rfl⟩;try refine go ?_
 refine af gj ?_;rintro d s1 ⟨rfl,rfl⟩;try refine go ?_
 refine af wi ?_;rintro d s1 ⟨rfl,x1,rfl,vS⟩;have Ro:=vS;obtain⟨y1,rfl,AD⟩:=vS;have P9:=fun p q=>pz (p:=p) (q:=q) (a:=a.1) AD
 repeat' first | refine go ?_ | refine dO ?_ (hp:=P9 _ _)
 refine af wj ?_;rintro d s1 ⟨rfl,x2,rfl,vT⟩;have Ih:=vT;obtain⟨y2,rfl,y9⟩:=vT;have Qa:=fun p q=>pz (p:=p) (q:=q) (a:=false) y9
 repeat' first | refine go ?_ | refine dO ?_ (hp:=Qa _ _) | refine lR ?_ (ho:=mB rfl hn)
 refine af ti ?_;rintro d s1 ⟨rfl,rfl⟩;try refine go ?_
 refine af tj ?_;rintro d s1 ⟨rfl,rfl⟩;try refine go ?_
 refine kf hS hv ?_;try refine go ?_
 exact ai ⟨rfl,rfl⟩
theorem LR (hS:TS T)(hW:TW T)(hV:TV T)(hs:s.Ok)(h:aX s so o la ta pl mp P Sh Ds n lv tk)(hi:Ds[i]? =some d)(hv:eK Q F s d v)(hj:Ds[j]? =some d')(hw:eK Q F' s d' w)(uz:i≠j){b:Bool×List Nat}{t:Option (List UInt8)}(ha:v.whole=none)(hb:w.whole=some b)(ht:v.text=t)(hc:w.text=none)(hk:w.kind≠1):
  bY T H 58 [.ptr so 0,.int .i64 i,.int .i64 j] s fun d s1=>d= .bool (false)/\s1=s:=by
 obtain⟨ty,x,rfl,hn⟩:=hv.eM;obtain⟨ty',x',rfl,OM⟩:=hw.eM;have gi:=cz (H:=H) hS h hi;have gj:=cz (H:=H) hS h hj;have wi:=gU (H:=H) hS hW hV h hi hv;have wj:=gU (H:=H) hS hW hV h hj hw;have ti:=jZ (H:=H) hS h hi hv;have tj:=jZ (H:=H) hS h hj hw;have l1:=hv.vh;have l2:=hw.vh;simp only [ha,hb,hc,ht,Option.getD,Option.isSome]at wi wj l1 l2 ti tj;refine aD hS.t58 ?_;try refine go ?_
 refine af gi ?_;rintro d s1 ⟨rfl,rfl⟩;try refine go ?_
 refine af gj ?_;rintro d s1 ⟨rfl,rfl⟩;try refine go ?_
 refine af wi ?_;rintro d s1 ⟨rfl,x1,rfl,vS⟩;have Ro:=vS;obtain⟨y1,rfl,AD⟩:=vS;have P9:=fun p q=>pz (p:=p) (q:=q) (a:=false) AD
 repeat' first | refine go ?_ | refine dO ?_ (hp:=P9 _ _)
 refine af wj ?_;rintro d s1 ⟨rfl,x2,rfl,vT⟩;have Ih:=vT;obtain⟨y2,rfl,y9⟩:=vT;have Qa:=fun p q=>pz (p:=p) (q:=q) (a:=b.1) y9
 repeat' first | refine go ?_ | refine dO ?_ (hp:=Qa _ _) | refine lR ?_ (ho:=mB rfl hn)
 cases t;all_goals simp only at ti
 all_goals
  refine af ti ?_;rintro d s1 ⟨rfl,rfl⟩;try refine go ?_
  refine af tj ?_;rintro d s1 ⟨rfl,rfl⟩;try refine go ?_
  by_cases k1:v.kind=1
  ·refine kf hS hv ?_;try refine go ?_
   refine kf hS hw ?_;try refine go ?_
   exact ai ⟨rfl,rfl⟩
  ·refine kf hS hv ?_;try refine go ?_
   exact ai ⟨rfl,rfl⟩
theorem LQ (hS:TS T)(hW:TW T)(hV:TV T)(hs:s.Ok)(h:aX s so o la ta pl mp P Sh Ds n lv tk)(hi:Ds[i]? =some d)(hv:eK Q F s d v)(hj:Ds[j]? =some d')(hw:eK Q F' s d' w)(uz:i≠j)(ha:v.whole=none)(hb:w.whole=none)(ht:v.text=none):
  bY T H 58 [.ptr so 0,.int .i64 i,.int .i64 j] s fun d s1=>d= .bool (v.kind==1 && w.kind==1)/\s1=s:=by
 obtain⟨ty,x,rfl,hn⟩:=hv.eM;obtain⟨ty',x',rfl,OM⟩:=hw.eM;have gi:=cz (H:=H) hS h hi;have gj:=cz (H:=H) hS h hj;have wi:=gU (H:=H) hS hW hV h hi hv;have wj:=gU (H:=H) hS hW hV h hj hw;have ti:=jZ (H:=H) hS h hi hv;have tj:=jZ (H:=H) hS h hj hw;have l1:=hv.vh;have l2:=hw.vh;simp only [ha,hb,ht,Option.getD,Option.isSome]at wi wj l1 l2 ti tj;refine aD hS.t58 ?_;try refine go ?_
 refine af gi ?_;rintro d s1 ⟨rfl,rfl⟩;try refine go ?_
 refine af gj ?_;rintro d s1 ⟨rfl,rfl⟩;try refine go ?_
 refine af wi ?_;rintro d s1 ⟨rfl,x1,rfl,vS⟩;have Ro:=vS;obtain⟨y1,rfl,AD⟩:=vS;have P9:=fun p q=>pz (p:=p) (q:=q) (a:=false) AD
 repeat' first | refine go ?_ | refine dO ?_ (hp:=P9 _ _)
 refine af wj ?_;rintro d s1 ⟨rfl,x2,rfl,vT⟩;have Ih:=vT;obtain⟨y2,rfl,y9⟩:=vT;have Qa:=fun p q=>pz (p:=p) (q:=q) (a:=false) y9
 repeat' first | refine go ?_ | refine dO ?_ (hp:=Qa _ _) | refine lR ?_ (ho:=mB rfl hn)
 refine af ti ?_;rintro d s1 ⟨rfl,rfl⟩;try refine go ?_
 refine af tj ?_;rintro d s1 ⟨rfl,rfl⟩;try refine go ?_
 by_cases k1:v.kind=1
 ·refine kf hS hv ?_;try refine go ?_
  refine kf hS hw ?_;by_cases k2:w.kind=1
  ·try refine go ?_
   exact ai ⟨congrArg D.bool (show true=(v.kind==1 && w.kind==1) by simp [k1,k2]),rfl⟩
  ·try refine go ?_
   exact ai ⟨congrArg D.bool (show false=(v.kind==1 && w.kind==1) by simp [k1,k2]),rfl⟩
 ·refine kf hS hv ?_;try refine go ?_
  exact ai ⟨congrArg D.bool (show false=(v.kind==1 && w.kind==1) by simp [k1]),rfl⟩
theorem LS (hS:TS T)(hW:TW T)(hV:TV T)(hs:s.Ok)(h:aX s so o la ta pl mp P Sh Ds n lv tk)(hi:Ds[i]? =some d)(hv:eK Q F s d v)(hj:Ds[j]? =some d')(hw:eK Q F' s d' w)(uz:i≠j){t:List UInt8}(ha:v.whole=none)(hb:w.whole=none)(ht:v.text=some t)(hc:w.text=none):
  bY T H 58 [.ptr so 0,.int .i64 i,.int .i64 j] s fun d s1=>d= .bool (v.kind==1 && w.kind==1)/\s1=s:=by
 obtain⟨ty,x,rfl,hn⟩:=hv.eM;obtain⟨ty',x',rfl,OM⟩:=hw.eM;have gi:=cz (H:=H) hS h hi;have gj:=cz (H:=H) hS h hj;have wi:=gU (H:=H) hS hW hV h hi hv;have wj:=gU (H:=H) hS hW hV h hj hw;have ti:=jZ (H:=H) hS h hi hv;have tj:=jZ (H:=H) hS h hj hw;have l1:=hv.vh;have l2:=hw.vh;simp only [ha,hb,ht,hc,Option.getD,Option.isSome]at wi wj l1 l2 ti tj;refine aD hS.t58 ?_;try refine go ?_
 refine af gi ?_;rintro d s1 ⟨rfl,rfl⟩;try refine go ?_
 refine af gj ?_;rintro d s1 ⟨rfl,rfl⟩;try refine go ?_
 refine af wi ?_;rintro d s1 ⟨rfl,x1,rfl,vS⟩;have Ro:=vS;obtain⟨y1,rfl,AD⟩:=vS;have P9:=fun p q=>pz (p:=p) (q:=q) (a:=false) AD
 repeat' first | refine go ?_ | refine dO ?_ (hp:=P9 _ _)
 refine af wj ?_;rintro d s1 ⟨rfl,x2,rfl,vT⟩;have Ih:=vT;obtain⟨y2,rfl,y9⟩:=vT;have Qa:=fun p q=>pz (p:=p) (q:=q) (a:=false) y9
 repeat' first | refine go ?_ | refine dO ?_ (hp:=Qa _ _) | refine lR ?_ (ho:=mB rfl hn)
 refine af ti ?_;rintro d s1 ⟨rfl,rfl⟩;try refine go ?_
 refine af tj ?_;rintro d s1 ⟨rfl,rfl⟩;try refine go ?_
 by_cases k1:v.kind=1
 ·refine kf hS hv ?_;try refine go ?_
  refine kf hS hw ?_;by_cases k2:w.kind=1
  ·try refine go ?_
   exact ai ⟨congrArg D.bool (show true=(v.kind==1 && w.kind==1) by simp [k1,k2]),rfl⟩
  ·try refine go ?_
   exact ai ⟨congrArg D.bool (show false=(v.kind==1 && w.kind==1) by simp [k1,k2]),rfl⟩
 ·refine kf hS hv ?_;try refine go ?_
  exact ai ⟨congrArg D.bool (show false=(v.kind==1 && w.kind==1) by simp [k1]),rfl⟩
theorem LU (hS:TS T)(hW:TW T)(hV:TV T)(hs:s.Ok)(h:aX s so o la ta pl mp P Sh Ds n lv tk)(hi:Ds[i]? =some d)(hv:eK Q F s d v)(hj:Ds[j]? =some d')(hw:eK Q F' s d' w)(uz:i≠j){t u:List UInt8}(ha:v.whole=none)(hb:w.whole=none)(ht:v.text=some t)(hc:w.text=some u)(hk:v.kind≠1):
  bY T H 58 [.ptr so 0,.int .i64 i,.int .i64 j] s fun d s1=>d= .bool (t==u)/\s1=s:=by
 obtain⟨ty,x,rfl,hn⟩:=hv.eM;obtain⟨ty',x',rfl,OM⟩:=hw.eM;have gi:=cz (H:=H) hS h hi;have gj:=cz (H:=H) hS h hj;have wi:=gU (H:=H) hS hW hV h hi hv;have wj:=gU (H:=H) hS hW hV h hj hw;have ti:=jZ (H:=H) hS h hi hv;have tj:=jZ (H:=H) hS h hj hw;have l1:=hv.vh;have l2:=hw.vh;simp only [ha,hb,ht,hc,Option.getD,Option.isSome]at wi wj l1 l2 ti tj;refine aD hS.t58 ?_;try refine go ?_
 refine af gi ?_;rintro d s1 ⟨rfl,rfl⟩;try refine go ?_
 refine af gj ?_;rintro d s1 ⟨rfl,rfl⟩;try refine go ?_
 refine af wi ?_;rintro d s1 ⟨rfl,x1,rfl,vS⟩;have Ro:=vS;obtain⟨y1,rfl,AD⟩:=vS;have P9:=fun p q=>pz (p:=p) (q:=q) (a:=false) AD
 repeat' first | refine go ?_ | refine dO ?_ (hp:=P9 _ _)
 refine af wj ?_;rintro d s1 ⟨rfl,x2,rfl,vT⟩;have Ih:=vT;obtain⟨y2,rfl,y9⟩:=vT;have Qa:=fun p q=>pz (p:=p) (q:=q) (a:=false) y9
 repeat' first | refine go ?_ | refine dO ?_ (hp:=Qa _ _) | refine lR ?_ (ho:=mB rfl hn)
 refine af ti ?_;rintro d s1 ⟨rfl,rfl⟩;try refine go ?_
 refine af tj ?_;rintro d s1 ⟨rfl,rfl⟩;try refine go ?_
 by_cases htu:t=u
 ·subst htu;have e1:(t==t)=true:=by simp
  simp only [e1];try refine go ?_
  exact ai ⟨rfl,rfl⟩
 ·have e1:(t==u)=false:=by simpa using htu
  simp only [e1];try refine go ?_
  refine kf hS hv ?_;try refine go ?_
  exact ai ⟨rfl,rfl⟩
theorem fE.Ai {v:fE}{a:Bool×List Nat}(h:v.whole=some a):v.text=Option.none/\v.kind≠1:=by
 cases v <;> simp_all [fE.whole,fE.text,fE.kind]
theorem fE.KZ {v:fE}{a:List UInt8}(h:v.text=some a):v.kind≠1:=by
 cases v <;> simp_all [fE.text,fE.kind]
theorem LP (hS:TS T)(hW:TW T)(hV:TV T)(hs:s.Ok)(h:aX s so o la ta pl mp P Sh Ds n lv tk)(hi:Ds[i]? =some d)(hv:eK Q F s d v)(hj:Ds[j]? =some d')(hw:eK Q F' s d' w):
  bY T H 58 [.ptr so 0,.int .i64 i,.int .i64 j] s fun d s1=>d= .bool (uK i v j w)/\s1=s:=by
 by_cases uz:i=j
 ·have:=Ga (H:=H) hS hW hV hs h hi hv hj hw uz;simpa only [uK,du uz,eG] using this
 simp only [uK,cP uz,mE];cases ha:v.whole with
 | some a=>
  obtain⟨t1,k1⟩:=fE.Ai ha;cases hb:w.whole with
  | some b=>exact Dk hS hW hV hs h hi hv hj hw uz ha hb
  | none=>
   have:=LV (H:=H) hS hW hV hs h hi hv hj hw uz ha hb t1 k1;have e:(v.kind==1 && w.kind==1)=false:=by simp [k1]
   simpa only [t1,e,Bool.or_false] using this
 | none=>
  cases hb:w.whole with
  | some b=>
   obtain⟨t2,k2⟩:=fE.Ai hb;have:=LR (H:=H) hS hW hV hs h hi hv hj hw uz ha hb rfl t2 k2;have e:(v.kind==1 && w.kind==1)=false:=by simp [k2]
   cases ht:v.text <;> simpa only [t2,e,Bool.or_false] using this
  | none=>
   cases ht:v.text with
   | none=>
    have:=LQ (H:=H) hS hW hV hs h hi hv hj hw uz ha hb ht;simpa only [mE] using this
   | some t=>
    cases hc:w.text with
    | none=>
     have:=LS (H:=H) hS hW hV hs h hi hv hj hw uz ha hb ht hc;simpa only [mE] using this
    | some u=>
     have k1:=fE.KZ ht;have:=LU (H:=H) hS hW hV hs h hi hv hj hw uz ha hb ht hc k1;have e:(v.kind==1 && w.kind==1)=false:=by simp [k1]
     simpa only [e,Bool.or_false] using this
end
structure Tm where
 kd:Int
 b:Bool
 ng:Bool
 n1:Bool
 ft:List Nat
 tx:List UInt8
 n2:Bool
 kids:List Int
 hs:Bool
 sm:Bool
@[reducible] def Tm.d (t:Tm):D:= .agg [.int .i64 t.kd,.bool t.b,.bool t.ng,.vs t.n1 1 (eJ t.ft),.str t.tx,.vs t.n2 1 (ints t.kids),.bool t.hs,.bool t.sm]
structure Tm.Ok (t:Tm):Prop where
 n1:t.n1=true->t.ft=[]
 n2:t.n2=true->t.kids=[]
 ft:t.ft.length<=60000
 tx:t.tx.length<=60000
 kids:t.kids.length<=20000
def F7 (t:Tm)(v:fE):Prop:=
 (t.kd=1/\v= .none)\/(t.kd=2/\v= .bool t.b)\/(t.kd=3/\v= .int (db t.ng t.ft))\/(t.kd=4/\v= .str t.tx)\/
 ((t.kd=5\/t.kd=6)/\∃num kd L,v= .row num kd L/\(kd:Int)=t.kd/\L.length=t.kids.length)\/((t.kd=7\/t.kd=8\/t.kd=9)/\∃num kd E,v= .pC num kd E/\(kd:Int)=t.kd)\/
 (t.kd=14/\∃num c,v= .inst num c)\/((t.kd=15\/t.kd=16\/t.kd=17)/\∃num kd o,v= .view num kd o/\(kd:Int)=t.kd)
inductive Refs (s:St):D->List Nat->Prop
 | nil:Refs s (.vs true 0 []) []
 | sl {o:Nat} {R:List Nat} (h:s.get o=some (.arr 1 3 (ints (R.map Int.ofNat)) 0)) (hn:R≠ []):Refs s (.sl o 0 R.length R.length) R
theorem Refs.dT {W:Nat->Prop}{s s1:St}{x:D}{R:List Nat}(h:Refs s x R)(hs:s.Ok)(hb:aH W s s1)(hw:∀o a l c,x= .sl o a l c-> ¬ W o):Refs s1 x R:=by
 rcases h with _ | ⟨hg,hn⟩
 ·exact .nil
 ·exact .sl (hb.get hs hg (hw _ _ _ _ rfl)) hn
structure kZ (s:St)(bo so:Nat)(tms:List Tm)(x:D):Prop where
 go:s.get bo=some (.var 105 (.agg [.ptr so 0,.vs false 8 (tms.map Tm.d),x]))
theorem Refs.at' {s:St}{x:D}{R:List Nat}{k r:Nat}(h:Refs s x R)(hk:R[k]? =some r):∃o,x= .sl o 0 R.length R.length/\s.get o=some (.arr 1 3 (ints (R.map Int.ofNat)) 0)/\(ints (R.map Int.ofNat))[0+k]? =some (.int .i64 (r:Nat))/\k < R.length:=by
 have hl:k < R.length:=(aj.mp hk).1;rcases h with _ | ⟨hg,hn⟩
 ·simp at hk
 ·refine⟨_,rfl,hg, ?_,hl⟩;simp only [ints,aU,aO,hk,dh]; rfl
theorem jv (R:List Nat):(ints (R.map Int.ofNat)).length=R.length:=by simp [ints]
section
variable {T:Nat->Option dJ}{H:au}{s:St}{so o la ta pl mp P Sh n lv tk bo k r:Nat}{Ds:List D}{d x:D}{v:fE}{Q:Nat}{F:Nat->Prop}{tms:List Tm}{t:Tm}{R:List Nat}
theorem sv (hW:TW T)(hV:TV T){n:Bool×List Nat}(hs:s.Ok)(hx:xB s d n)(hl:n.2.length<=100000000):bY T H 68 [d] s fun d s1=>d= .int .i64 (fq n)/\aH Nil s s1:=by
 obtain⟨y,rfl,hy⟩:=hx;rcases hy.sh with ⟨nl,z,l,rfl⟩ | ⟨o',l,c,rfl⟩
 ·exact JB hW hV hs hy hl
 ·exact JA hW hV hs hy hl
noncomputable def Ka (t:Tm)(v:fE):Int:=if t.kd=1 then fq (true,[7]) else if t.kd=4 then QE t.tx else if t.kd=14 then (if t.hs=true then fq (t.ng,t.ft) else XR (v.num:Nat)) else fq (v.whole.getD (false,[]))
theorem kD (hk:tms[k]? =some t):(tms.map Tm.d)[k]? =some t.d:=by rw [aO,hk]; rfl
theorem JW (hS:TS T)(hW:TW T)(hV:TV T)(hs:s.Ok)(hb:kZ s bo so tms x)(hk:tms[k]? =some t)(h1:t.kd=1):
  bY T H 129 [.ptr bo 0,.int .i64 (k:Nat)] s fun d s1=>d= .int .i64 (fq (true,[7]))/\aH Nil s s1:=by
 have hO:=LF (H:=H) (s:=s) hW hV (.inr (.inr rfl));simp only [show ((-7:Int)=0)=False by simp,show ((-7:Int)=1)=False by simp,gS]at hO;have hg:=hb.go;have ha:=kD hk;obtain⟨kd,b,ng,n1,ft,tx,n2,kids,gy,sm⟩:=t;simp only at h1; subst h1;refine aD hS.t129 ?_;try refine go ?_
 refine af hO ?_;rintro d s1 ⟨rfl,hn⟩;have hd:=sv (H:=H) hW hV hs hn (by simp);obtain⟨y,rfl,hy⟩:=hn;try refine go ?_
 refine af hd ?_;rintro d s2 ⟨rfl,b1⟩;try refine go ?_
 exact ai ⟨rfl,b1⟩
theorem Ow (hS:TS T)(hW:TW T)(hV:TV T)(hs:s.Ok)(hb:kZ s bo so tms x)(hk:tms[k]? =some t)(h1:t.kd=4)(h2:t.tx.length<=1000000000):
  bY T H 129 [.ptr bo 0,.int .i64 (k:Nat)] s fun d s1=>d= .int .i64 (QE t.tx)/\aH Nil s s1:=by
 have hg:=hb.go;have ha:=kD hk;have hd:=NM (H:=H) hV hs h2;obtain⟨kd,b,ng,n1,ft,tx,n2,kids,gy,sm⟩:=t;simp only at h1 hd; subst h1;refine aD hS.t129 ?_;try refine go ?_
 refine af hd ?_;rintro d s2 ⟨rfl,b1⟩;try refine go ?_
 exact ai ⟨rfl,b1⟩
theorem GA (hS:TS T)(hW:TW T)(hV:TV T)(hs:s.Ok)(hb:kZ s bo so tms x)(hk:tms[k]? =some t)(ho:t.Ok)(h1:t.kd=14)(h2:t.hs=true):
  bY T H 129 [.ptr bo 0,.int .i64 (k:Nat)] s fun d s1=>d= .int .i64 (fq (t.ng,t.ft))/\aH Nil s s1:=by
 have hg:=hb.go;have ha:=kD hk;have q1:=ho.n1; have q2:=ho.ft;obtain⟨kd,b,ng,n1,ft,tx,n2,kids,gy,sm⟩:=t;have hd:=sv (H:=H) (n:=(ng,ft)) hW hV hs ⟨_,rfl,.vs n1 ft q1⟩ (by simp only at q2 ⊢; omega);simp only at h1 h2; subst h1; subst h2;refine aD hS.t129 ?_;try refine go ?_
 refine af hd ?_;rintro d s2 ⟨rfl,b1⟩;try refine go ?_
 exact ai ⟨rfl,b1⟩
theorem JV (hS:TS T)(hW:TW T)(hV:TV T)(hs:s.Ok)(cG:aX s so o la ta pl mp P Sh Ds n lv tk)(hb:kZ s bo so tms x)(hR:Refs s x R)(hk:tms[k]? =some t)(hr:R[k]? =some r)(hi:Ds[r]? =some d)(hv:eK Q F s d v)(h1:t.kd=14)(h2:t.hs=false):
  bY T H 129 [.ptr bo 0,.int .i64 (k:Nat)] s fun d s1=>d= .int .i64 (XR (v.num:Nat))/\aH Nil s s1:=by
 have hg:=hb.go;have ha:=kD hk;obtain⟨ra,rfl,hra,har,sD⟩:=hR.at' hr;have vQ:=jv R;have hn:=XS (H:=H) hS cG hi hv;have hd:=Gp (H:=H) (n:=(v.num:Nat)) hV hs;obtain⟨kd,b,ng,n1,ft,tx,n2,kids,gy,sm⟩:=t;simp only at h1 h2; subst h1; subst h2;refine aD hS.t129 ?_;try refine go ?_
 refine aV hn ?_;rintro d s1 ⟨rfl,rfl⟩;refine⟨rfl,by rfl, ?_⟩;try refine go ?_
 refine aV hd ?_;rintro d s1 ⟨rfl,b1⟩;refine⟨rfl,by rfl, ?_⟩;try refine go ?_
 exact ai ⟨rfl,b1⟩
end
theorem aX.sub {s s1:St}{so o la ta pl mp P Sh n lv tk:Nat}{V:List D}(h:aX s so o la ta pl mp P Sh V n lv tk)(hg:∀o x,s.get o=some x->s1.get o=some x):aX s1 so o la ta pl mp P Sh V n lv tk:=
 ⟨hg _ _ h.go,hg _ _ h.gp,hg _ _ h.gm,⟨hg _ _ h.sl.go,hg _ _ h.sl.gl,hg _ _ h.sl.gt,h.sl.ol,h.sl.ot,h.sl.lt⟩,h.nd⟩
theorem Ws.sub {s s1:St}{x:D}{V:List Nat}(h:Ws s x V)(hg:∀o x,s.get o=some x->s1.get o=some x):Ws s1 x V:=by
 rcases h with ⟨nl,V,hn⟩ | _ | ⟨o,cp,V,R,h1,hc⟩
 ·exact .vs nl V hn
 ·exact .nil
 ·exact .sl o cp V R (hg _ _ h1) hc
theorem eK.aaR {Q:Nat}{F:Nat->Prop}{s s1:St}{d:D}{v:fE}{n:Bool×List Nat}(h:eK Q F s d v)(hw:v.whole=some n)(hg:∀o x,s.get o=some x->s1.get o=some x):eK Q F s1 d v:=by
 cases v with
 | bool b=>exact h
 | int n=>
  obtain⟨y,h1,h2,h3,h4⟩:=h;exact⟨y,h1,h2.sub hg,h3,h4⟩
 | _=>simp [fE.whole]at hw
section
variable {T:Nat->Option dJ}{H:au}{s:St}{so o la ta pl mp P Sh n lv tk bo k r:Nat}{Ds:List D}{d x:D}{v:fE}{Q:Nat}{F:Nat->Prop}{tms:List Tm}{t:Tm}{R:List Nat}
theorem Ed (hS:TS T)(hW:TW T)(hV:TV T)(hs:s.Ok)(cG:aX s so o la ta pl mp P Sh Ds n lv tk)(hb:kZ s bo so tms x)(hR:Refs s x R)(hk:tms[k]? =some t)(hr:R[k]? =some r)(hi:Ds[r]? =some d)(hv:eK Q F s d v){m:Bool×List Nat}(hw:v.whole=some m)(hm:m.2.length<=100000000)(h1:t.kd=2\/t.kd=3):
  bY T H 129 [.ptr bo 0,.int .i64 (k:Nat)] s fun d s1=>d= .int .i64 (fq m)/\aH Nil s s1:=by
 have hg:=hb.go;have ha:=kD hk;obtain⟨ra,rfl,hra,har,sD⟩:=hR.at' hr;have vQ:=jv R;obtain⟨s2,o7⟩:∃s2,s2=({ s.up 1 with ro:=true,h:=pT (0+1) s.n (s.up 1).h}:St):=⟨_,rfl⟩;have jn:∀o,s2.get o=if s.n<=o/\o < s.n+(0+1) then none else s.get o:=fun o=>by rw [o7]; exact lL _ _ _ _
 have yY:∀o x,s.get o=some x->s2.get o=some x:=fun o x hx=>by
  have:=hs.lt hx;rw [jn,aI (by omega)]; exact hx
 have Ef:∀o x,s2.get o=some x->s.get o=some x:=fun o x hx=>by
  rw [jn]at hx;split at hx
  ·cases hx
  ·exact hx
 have Lq:=gU (H:=H) hS hW hV (cG.sub yY) hi (hv.aaR hw yY);rw [hw,o7]at Lq;simp only [Option.isSome,Option.getD]at Lq;rw [← o7]at Lq;have XC :bY T H 67 [.ptr so 0,.int .i64 (r:Nat)] ({ s.up 1 with ro:=true,h:=pT (0+1) s.n (s.up 1).h}:St) fun d s1=>∃y,d= .gW [.agg [.bool m.1,y],.bool true]/\Ws s y m.2:=by
  rw [← o7];obtain⟨d,s3,e1,rfl,x,rfl,y,rfl,hy⟩:=Lq;exact⟨_,_,e1,y,rfl,hy.sub Ef⟩
 clear Lq;have key:∀kd:Int,(kd=2\/kd=3)->∀ {b ng n1 ft tx n2 kids gy sm},(tms.map Tm.d)[k]? =some (Tm.d ⟨kd,b,ng,n1,ft,tx,n2,kids,gy,sm⟩)->bY T H 129 [.ptr bo 0,.int .i64 (k:Nat)] s fun d s1=>d= .int .i64 (fq m)/\aH Nil s s1:=by
  intro kd kM b ng n1 ft tx n2 kids gy sm ha;have lb:=hs.lt hg;have lr:=hs.lt hra;refine aD hS.t129 ?_;rcases kM with rfl | rfl
  all_goals
   try refine go ?_
   refine mq XC ?_;rintro d s1 ⟨y,rfl,hy⟩;refine⟨rfl, ?_⟩;have ov:=fun p q=>pz (p:=p) (q:=q) (a:=m.1) hy
   repeat' first | refine go ?_ | refine sw ?_ (hp:=ov _ _)
   have b0:aH Nil s ((s.up 1).bn (s.n+0) (.var 30 (.agg [.bool false,.vs true 0 []]))):=aH.set ((aH.refl hs).up 1) _ (by rw [St.iK]; omega) (fun hh=>by omega);have b1:aH Nil s (((s.up 1).bn (s.n+0) (.var 30 (.agg [.bool false,.vs true 0 []]))).bn (s.n+0) (.var 30 (.agg [.bool m.1,y]))):=aH.set b0 _ (by rw [St.ej,St.iK]; omega) (fun hh=>by omega);have hd:=sv (H:=H) (n:=m) hW hV b1.ok ⟨y,rfl,hy.RF hs b1 (fun _ _ _ _ _ hh=>hh)⟩ hm;refine af hd ?_;rintro d s3 ⟨rfl,b2⟩;try refine go ?_
   exact ai ⟨rfl,b1.trans b2⟩
 obtain⟨kd,b,ng,n1,ft,tx,n2,kids,gy,sm⟩:=t;exact key kd h1 ha
def Dh (t:Tm):Prop:=t.kd=1\/t.kd=2\/t.kd=3\/t.kd=4\/t.kd=14
theorem So (hS:TS T)(hW:TW T)(hV:TV T)(hs:s.Ok)(cG:aX s so o la ta pl mp P Sh Ds n lv tk)(hb:kZ s bo so tms x)(hR:Refs s x R)(hk:tms[k]? =some t)(ho:t.Ok)(hr:R[k]? =some r)(hi:Ds[r]? =some d)(hv:eK Q F s d v)(SA:F7 t v)(yT:Dh t):
  bY T H 129 [.ptr bo 0,.int .i64 (k:Nat)] s fun d s1=>d= .int .i64 (Ka t v)/\aH Nil s s1:=by
 have abB:=ho.ft;have Ie:=ho.tx;rcases yT with h1 | h1 | h1 | h1 | h1 <;> simp only [Ka,h1,bQ,aI,show ((2:Int)=1)=False by simp,show ((3:Int)=1)=False by simp,show ((4:Int)=1)=False by simp,show ((14:Int)=1)=False by simp,show ((2:Int)=4)=False by simp,show ((3:Int)=4)=False by simp,show ((14:Int)=4)=False by simp,show ((2:Int)=14)=False by simp,show ((3:Int)=14)=False by simp,gS]
 ·exact JW hS hW hV hs hb hk h1
 ·rcases SA with ⟨h2,_⟩ | ⟨_,rfl⟩ | ⟨h2,_⟩ | ⟨h2,_⟩ | ⟨h2,_⟩ | ⟨h2,_⟩ | ⟨h2,_⟩ | ⟨h2,_⟩
  ·omega
  ·exact Ed hS hW hV hs cG hb hR hk hr hi hv (m:=if t.b then (false,[1]) else (false,[])) rfl (by split <;> simp) (.inl h1)
  all_goals omega
 ·rcases SA with ⟨h2,_⟩ | ⟨h2,_⟩ | ⟨_,rfl⟩ | ⟨h2,_⟩ | ⟨h2,_⟩ | ⟨h2,_⟩ | ⟨h2,_⟩ | ⟨h2,_⟩
  ·omega
  ·omega
  ·exact Ed hS hW hV hs cG hb hR hk hr hi hv rfl (by show (db t.ng t.ft).2.length<=_; have:=rE t.ng t.ft; omega) (.inr h1)
  all_goals omega
 ·exact Ow hS hW hV hs hb hk h1 (by omega)
 ·cases h2:t.hs
  ·simp only [cR,gS];exact JV hS hW hV hs cG hb hR hk hr hi hv h1 h2
  ·exact GA hS hW hV hs hb hk ho h1 h2
end
def tQ (Vs:List fE)(i j:Nat):Bool:=match Vs[i]?,Vs[j]? with
 | some v,some w=>uK i v j w
 | _,_=>false
def mL (Vs:List fE)(h:Int)(r:Nat)(e:dY):Bool:=decide (e.h=h) && tQ Vs e.k.toNat r
def zI (Vs:List fE)(most:Nat)(E:List dY)(h:Int)(r:Nat)(v:Int):List dY:=match E.findIdx? (mL Vs h r) with
 | some n=>(match E[n]? with
  | some e=>E.set n { e with v:=v}
  | none=>E)
 | none=>if E.length < most then E++ [dY.mk h r v (E.length:Nat)] else E
section
variable {Vs:List fE}{most:Nat}{E:List dY}{h:Int}{r n N:Nat}{v:Int}{e:dY}
theorem EX (he:E[n]? =some e)(hh:mL Vs h r e=true)(hp:∀(m:Nat) (f:dY),m < n->E[m]? =some f->mL Vs h r f=false):zI Vs most E h r v=E.set n { e with v:=v}:=by
 have hn:n < E.length:=(aj.mp he).1;have:E.findIdx? (mL Vs h r)=some n:=by
  rw [List.findIdx?_eq_some_iff_getElem];refine⟨hn, ?_,fun m hm=> ?_⟩
  ·rw [ak hn]at he;simp only [aa]at he;rw [he]; exact hh
  ·rw [hp m _ hm (ak (by omega))]; simp
 simp only [zI,this,he]
theorem wm (hp:∀(m:Nat) (f:dY),E[m]? =some f->mL Vs h r f=false):zI Vs most E h r v=if E.length < most then E++ [dY.mk h r v (E.length:Nat)] else E:=by
 have:E.findIdx? (mL Vs h r)=none:=by
  rw [List.findIdx?_eq_none_iff];intro x hx;obtain⟨m,hm⟩:=ed hx;exact hp m x hm
 simp only [zI,this]
def pE (N:Nat)(E:List dY):Prop:=∀(m:Nat) (e:dY),E[m]? =some e->∃i:Nat,e.k=(i:Int)/\i < N
theorem pE.put (hE:pE N E)(hr:r < N):pE N (zI Vs most E h r v):=by
 unfold zI;split
 ·split
  ·rename_i he;intro m f hf;rw [lG]at hf;split at hf
   ·split at hf
    ·simp only [aa]at hf; subst hf;obtain⟨i,h1,h2⟩:=hE _ _ he;exact⟨i,h1,h2⟩
    ·cases hf
   ·exact hE m f hf
  ·exact hE
 ·split
  ·intro m f hf;rcases aP m E.length with hl | hl
   ·rw [aK hl]at hf; exact hE m f hf
   ·rw [aF hl]at hf;rcases eV (m - E.length) with h0 | h0
    ·rw [h0]at hf;simp only [aS,aa]at hf;subst hf;exact⟨r,rfl,hr⟩
    ·rw [dK (by simp; omega)]at hf; cases hf
  ·exact hE
end
theorem dQ.fit {W:Nat->Prop}{n:Nat}{s:St}{dv most:Nat}{E:List dY}(h:dQ (Own n W) s dv most E)(hs:s.Ok):dQ (fun j=>W j\/(n<=j/\j < s.n)) s dv most E:=by
 obtain⟨to,eo,co,ro,log,b,st,x,C,ver,p1,p2,v1,v2,v3,v4,v5,p3⟩:=h;have up:∀o,o < s.n->Own n W o->W o\/(n<=o/\o < s.n):=fun o ho hw=>hw.imp id fun h=>⟨h,ho⟩;have l1:=hs.lt p1; have l2:=hs.lt p2.go; have l3:=hs.lt p2.ce.go; have l4:=hs.lt p2.ce.gr;have Ax:=p2.en;rcases Ax with _ | ⟨_,kX,E,g,cG⟩
 ·exact⟨to,to,co,ro,log,b,st,_,C,ver,p1,⟨p2.go,.nil to,p2.ce,p2.la,p2.rm⟩,up _ l1 v1,up _ l2 v2,up _ l2 v2,up _ l3 v4,up _ l4 v5,p3⟩
 ·exact⟨to,eo,co,ro,log,b,st,_,C,ver,p1,p2,up _ l1 v1,up _ l2 v2,up _ (hs.lt g) v3,up _ l3 v4,up _ l4 v5,p3⟩
def FZ (Vs:List fE)(W:Nat->Prop)(n0:Nat)(s1:St)(dv most:Nat)(E:List dY)(h:Int)(r:Nat)(v:Int):Prop:=dQ (fun j=>W j\/(n0<=j/\j < s1.n)) s1 dv most (zI Vs most E h r v)
theorem Stepped.out {Vs:List fE}{W:Nat->Prop}{s s1:St}{mo dv so most N r n0:Nat}{E:List dY}{h v told:Int}{d:D}(hS:Stepped W s mo dv so most E h (r:Nat) v told d s1)(Bi:n0<=s.n)(h1:s1.Ok)(hm:n0<=mo)(hE:pE N E)(hN:∀i,i < N->∃w,Vs[i]? =some w)(hr:r < N)
  (hp:∀(m:Nat) (f:dY),(m:Int)<=told->E[m]? =some f->mL Vs h r f=false):
  (∃(n:Nat) (e:dY),E[n]? =some e/\told < (n:Int)/\e.h=h/\e.k≠(r:Nat)/\d=fM 1 e.k false 0 0/\oB W s1 mo dv so most E h (r:Nat) v 2 (n:Nat) (n:Nat)/\aH (fun j=>j=mo\/j=so) s s1/\∀(m:Nat) (f:dY),m < n->E[m]? =some f->mL Vs h r f=false)\/
  (∃x0 x1 x2 x3 x4,d=fM x0 x1 x2 x3 x4/\(x0=2\/x0=3)/\FZ Vs W n0 s1 dv most E h r v/\aH (fun j=>W j\/j=mo\/j=so) s s1):=by
 have wd:∀ {W' :Nat->Prop} {E' :List dY},dQ W s1 dv most E' ->dQ (fun j=>W j\/(n0<=j/\j < s1.n)) s1 dv most E' :=fun h=>h.mono fun o ho=> .inl ho;have nohit:∀ {e:dY},e.h≠h->mL Vs h r e=false:=fun dn=>by simp [mL,dn]
 rcases hS with ⟨n,e,⟨q1,⟨e',q2,q3⟩,q4⟩,he,hk,hd,hm,hb⟩ | ⟨n,e,⟨q1,⟨e',q2,q3⟩,q4⟩,he,hk,hd,hm,hb⟩ | ⟨q1,q2,hd,hm,hb⟩ | ⟨q1,q2,hd,hm,hb⟩
 ·rw [he]at q2; simp only [aa]at q2; subst q2;refine .inl ⟨n,e,he,q1,q3,hk,hd,hm,hb,fun m f YF hf=> ?_⟩;rcases jB told (m:Int) with hl | hl
  ·exact nohit (q4 m f hl YF hf)
  ·exact hp m f hl hf
 ·rw [he]at q2; simp only [aa]at q2; subst q2;refine .inr ⟨_,_,_,_,_,hd,.inl rfl, ?_,hb⟩;have hh:mL Vs h r e=true:=by
   obtain⟨w,hw⟩:=hN r hr;have:tQ Vs r r=true:=by simp [tQ,hw,uK]
   simp [mL,q3,hk,this]
  unfold FZ;rw [EX he hh fun m f YF hf=> ?_]
  ·exact wd (W' :=W) hm
  ·rcases jB told (m:Int) with hl | hl
   ·exact nohit (q4 m f hl YF hf)
   ·exact hp m f hl hf
 ·refine .inr ⟨_,_,_,_,_,hd,.inl rfl, ?_,hb⟩;unfold FZ;rw [wm fun m f hf=> ?_,bQ q2]
  ·exact (hm.fit h1).mono fun o ho=>ho.imp id fun ⟨a,b⟩=>⟨by omega,b⟩
  ·rcases jB told (m:Int) with hl | hl
   ·exact nohit (q1 m f hl hf)
   ·exact hp m f hl hf
 ·refine .inr ⟨_,_,_,_,_,hd,.inr rfl, ?_,hb⟩;unfold FZ;rw [wm fun m f hf=> ?_,aI (by omega)]
  ·exact wd (W' :=W) hm
  ·rcases jB told (m:Int) with hl | hl
   ·exact nohit (q1 m f hl hf)
   ·exact hp m f hl hf
theorem B9 {acc:List Fp}{x y:Fp}{i:Nat}(h:acc[i]? =some x)(ha:kF x y=true):eQ acc y [i]=true:=by
 simp only [eQ,h,ha]
def Dg (P:Nat)(s:St)(N:Nat)(Ds:List D)(Vs:List fE)(W:Nat->Prop):Prop:=∀i,i < N->∃d w F,Ds[i]? =some d/\Vs[i]? =some w/\eK P F s d w/\∀j,F j-> ¬ W j
theorem Dg.dT {P N:Nat}{s s1:St}{Ds:List D}{Vs:List fE}{W:Nat->Prop}(h:Dg P s N Ds Vs W)(hs:s.Ok)(hb:aH W s s1):Dg P s1 N Ds Vs W:=fun i hi=>by
 obtain⟨d,w,F,h1,h2,h3,h4⟩:=h i hi;exact⟨d,w,F,h1,h2,h3.dT hs hb (fun j _ hj=>h4 j hj),h4⟩
theorem dQ.len {W:Nat->Prop}{s:St}{dv most:Nat}{E:List dY}(h:dQ W s dv most E):E.length<=20000:=by
 obtain⟨to,eo,co,ro,log,b,st,x,C,ver,p1,p2,v1,v2,v3,v4,v5,p3⟩:=h;exact p3
def LG (W:Nat->Prop)(s:St)(bo k mo dv most:Nat)(E:List dY)(Vs:List fE)(h:Int)(r:Nat)(v:Int)(m:Nat)(env:Env) (s' :St):Prop:=s'.Ok/\aH W s s' /\
 ((∃(n:Nat) (e:dY) (so' :Nat),E.length - n<=m/\env=[(0,.ptr bo 0),(2,.int .i64 (k:Nat)),(8,.ptr mo 0),(9,.lv (fM 1 e.k false 0 0))]/\E[n]? =some e/\e.h=h/\e.k≠(r:Nat)/\oB W s' mo dv so' most E h (r:Nat) v 2 (n:Nat) (n:Nat)/\s.n<=so' /\∀(m:Nat) (f:dY),m < n->E[m]? =some f->mL Vs h r f=false)\/
  (∃x0 x1 x2 x3 x4,env=[(0,.ptr bo 0),(2,.int .i64 (k:Nat)),(8,.ptr mo 0),(9,.lv (fM x0 x1 x2 x3 x4))]/\(x0=2\/x0=3)/\FZ Vs W s.n s' dv most E h r v))
section
variable {T:Nat->Option dJ}{H:au}
theorem T1 (hP:TP T){W:Nat->Prop}{s:St}{mo dv so most:Nat}{E:List dY}{h k v entry told:Int}{same:Bool}(hs:s.Ok)(hm:oB W s mo dv so most E h k v 2 entry told):
  bY T H 77 [.ptr mo 0,.bool same] s fun d s1=>d= .int .i64 0/\oB W s1 mo dv so most E h k v (if same then 3 else 1) entry told/\aH (fun j=>j=mo) s s1:=by
 obtain⟨⟨to,eo,co,ro,log,b,st,x,C,ver,J,scans,t0,t1,t2,t3,t4,h1,h2,w1,w2,w3,w4,w5,h3,h4,h5,h6⟩,nm,ns,nq⟩:=hm;obtain⟨d,s1,e1,rfl,e2,e3⟩:=Rv (H:=H) (same:=same) hP hs h4;have ne:∀o,W o->o≠mo:=fun o ho e=>nm (e ▸ ho);exact⟨_,s1,e1,rfl,⟨⟨to,eo,co,ro,log,b,st,x,C,ver,J,scans,t0,t1,t2,t3,t4,e3.get hs h1 (ne _ w1),h2.dT hs e3 (ne _ w2) (fun _ _ _=>ne _ w3) (ne _ w4) (ne _ w5),w1,w2,w3,w4,w5,h3,e2,e3.get hs h5 (fun e=>nq e.symm),h6⟩,nm,ns,nq⟩,e3⟩
variable {s:St}{so o la ta pl mp P Sh n lv tk bo k r po dv most N:Nat}{Ds:List D}{x:D}{Vs:List fE}{tms:List Tm}{t:Tm}{R:List Nat}{W:Nat->Prop}{E:List dY}{num kd v:Int}
theorem X4 (hS:TS T)(hT:TT T)(hP:TP T)(hW:TW T)(hV:TV T)(hs:s.Ok)(cG:aX s so o la ta pl mp P Sh Ds n lv tk)(hb:kZ s bo so tms x)(hR:Refs s x R)(hk:tms[k]? =some t)(ho:t.Ok)(hr:R[k]? =some r)
  (Z4:Dg P s N Ds Vs W)(hrN:r < N)(hE:pE N E)(SA:∀w,Vs[r]? =some w->F7 t w)(yT:Dh t)(gp:s.get po=some (.var 67 (.agg [.int .i64 num,.ptr dv 0,.int .i64 kd])))(hd:dQ W s dv most E)(gR:E.length < 20000)
  (hW1:∀j,W j->j < s.n)(hWs:∀j,(br so o la ta pl j\/j=mp)-> ¬ W j)(hWb: ¬ W bo)(hWx:∀o a l c,x= .sl o a l c-> ¬ W o):
  bY T H 90 [.ptr bo 0,.ptr po 0,.int .i64 (k:Nat),.int .i64 v] s fun _ s1=>(∃w,Vs[r]? =some w/\FZ Vs W s.n s1 dv most E (Ka t w) r v)/\aH W s s1:=by
 obtain⟨dr,wr,Fr,Lk,FT,hr3,hr4⟩:=Z4 r hrN;have hh:=So (H:=H) hS hW hV hs cG hb hR hk ho hr Lk hr3 (SA _ FT) yT;have gb:=hb.go;obtain⟨ra,rfl,gra,gar,sD⟩:=hR.at' hr;have vQ:=jv R;have lb:=hs.lt gb; have lr:=hs.lt gra; have lp:=hs.lt gp;refine aD hS.t90 ?_;try refine go ?_
 refine aV hh ?_;generalize aak:Ka t wr=h;rintro d s1 ⟨rfl,b1⟩;have ok1:=b1.ok;have gp1:=b1.get hs gp (fun h=>h);have Gx:=b1.get hs gb (fun h=>h);have abe:=b1.get hs gra (fun h=>h);have Oz:=hd.dT hs b1 (fun _ _ _ h=>h);refine⟨rfl,by simp [lost,eE.kind,cF,dG,cl,aJ,bD,bD.cL,gF,bO.ev,Env.get,cQ,D.flat,D.isAgg,cK,D.fC,D.beq,aA,Obj.a8,bH,bC,D.bU,D.a8,gp,gp1], ?_⟩;have sb:∀q∈ [bo],s1.get q=s.get q:=by intro q hq; simp only [eI]at hq; subst hq; rw [gb,Gx]
 have sr:∀q∈ [ra],s1.get q=s.get q:=by intro q hq; simp only [eI]at hq; subst hq; rw [gra,abe]
 repeat' first | refine go ?_ | refine yE ?_ (hc:=B9 rfl (vu sb)) | refine yC ?_ (hc:=B9 rfl (vu sr)) | refine yD ?_ (hc:=B9 rfl (vu sr))
 have C7:=Oz;obtain⟨to,eo,co,ro,log,b,st,x1,C,ver,Cl,_,wdv,_⟩:=C7;have xp:=Ly (H:=H) (h:=h) (k:=(r:Nat)) (v:=v) hP ok1 Cl;refine aV xp ?_;rintro d s2 ⟨mo,rfl,hmo,sZ,b2⟩;have ok2:=b2.ok;have n1:=b1.n; have n2:=b2.n;have GU:=ok2.lt sZ;have hd2:=Oz.dT ok1 b2 (fun _ _ _ h=>h);refine⟨rfl,by rfl, ?_⟩;have uC:=Fl (H:=H) hT hP ok2 gR hd2 (fun hw=>by have:=hW1 _ hw; omega) (fun hw=>by have:=hW1 _ hw; omega) sZ;try refine go ?_
 refine af uC ?_;rintro d s3 ⟨s0,b3,n3,hS3⟩
 have hNN:∀i,i < N->∃w,Vs[i]? =some w:=fun i hi=>by
  obtain⟨_,w,_,_,h2,_⟩:=Z4 i hi;exact⟨w,h2⟩
 have ok3:s3.Ok:=by
  rcases hS3 with ⟨_,_,_,_,_,_,_,hb⟩ | ⟨_,_,_,_,_,_,_,hb⟩ | ⟨_,_,_,_,hb⟩ | ⟨_,_,_,_,hb⟩ <;> exact hb.ok
 have wlt:∀ {j a:Nat},s.n<=a->j=a->j < s.n->W j:=fun h1 h2 h3=>by omega
 have b03:aH W s s0:=(b1.mono fun _ h=>h.elim).trans' ((b2.mono fun _ h=>h.elim:aH W s1 s2).trans' b3 fun o h1 h2=>by
  exfalso; omega) fun o hw hl=>hw
 have Xq:=hS3.out (Vs:=Vs) (N:=N) (n0:=s.n) (by omega) ok3 (by omega) hE hNN hrN (fun m f h1 hf=>absurd h1 (by omega));have JY:∃x0 x1 x2 x3 x4,d=fM x0 x1 x2 x3 x4:=by
  rcases Xq with ⟨n,e,_,_,_,_,rfl,_⟩ | ⟨_,_,_,_,_,rfl,_⟩ <;> exact ⟨_,_,_,_,_,rfl⟩
 have ask:∀ {s4:St} {n:Nat} {e:dY} {d:D} {s5:St} {so1:Nat},s.n<=so1->s.n<=s4.n->aH W s s4->E[n]? =some e->(∀(m:Nat) (f:dY),m < n->E[m]? =some f->mL Vs h r f=false)->True:=fun _ _ _ _ _=>trivial;clear ask;have En:LG W s bo k mo dv most E Vs h r v (E.length+1) [(0,.ptr bo 0),(2,.int .i64 (k:Nat)),(8,.ptr mo 0),(9,.lv d)] s3:=by
  rcases Xq with ⟨n,e,q1,q2,q3,q4,rfl,q5,q6,q7⟩ | ⟨x0,x1,x2,x3,x4,rfl,q1,q2,q3⟩
  ·have hn:n < E.length:=(aj.mp q1).1;exact⟨ok3,b03.trans' q6 (fun o h1 h2=>by exfalso; omega),.inl ⟨n,e,s2.n,by omega,rfl,q1,q3,q4,q5,by omega,q7⟩⟩
  ·exact⟨ok3,b03.trans' q3 (fun o h1 h2=>by rcases h1 with h1 | h1 | h1; exact h1; omega; omega),.inr ⟨x0,x1,x2,x3,x4,rfl,q1,q2⟩⟩
 obtain⟨y0,y1,y2,y3,y4,rfl⟩:=JY
 repeat' first | refine go ?_ | refine dO ?_
 refine fY (LG W s bo k mo dv most E Vs h r v) (E.length+1) rfl En ?_;rintro m env s4 ⟨ok4,Yo,hinv⟩;rcases hinv with ⟨n,e,so1,YF,rfl,he,heh,hek,hM,hso,hp⟩ | ⟨x0,x1,x2,x3,x4,rfl,hx,OA⟩
 ·have abQ:=cG.dT hs Yo hWs;have Z5:=Z4.dT hs Yo;have gb4:=Yo.get hs gb hWb;have acn:=Yo.get hs gra (hWx _ _ _ _ rfl);obtain⟨i,JZ,hiN⟩:=hE n e he;obtain⟨di,wi,Fi,Sr,hi2,hi3,hi4⟩:=Z5 i hiN;obtain⟨dr',wr',Fr',abI,abJ,abK,acz⟩:=Z5 r hrN;have C3:=LP (H:=H) hS hW hV ok4 abQ Sr hi3 abI abK;have YD:tQ Vs e.k.toNat r=uK i wi r wr' :=by simp [tQ,JZ,hi2,abJ]
  have hn:n < E.length:=(aj.mp he).1;have gM:=hM;have lmo:s.n<=mo:=by omega
  have abn :e.k=(i:Int):=JZ;rw [abn];try refine go ?_
  refine aV C3 ?_;rintro d s5 ⟨rfl,rfl⟩;refine⟨rfl,by rfl, ?_⟩;try refine go ?_
  refine aV (T1 (same:=uK i wi r wr') hP ok4 hM) ?_;rintro d s6 ⟨rfl,hM6,b6⟩;refine⟨rfl,by rfl, ?_⟩;have bs6:aH W s s6:=Yo.trans' b6 fun o h1 h2=>by exfalso; omega
  cases hl:uK i wi r wr' with
  | true=>
   rw [hl]at hM6;have Xw:=KV (H:=H) hT hP b6.ok hM6 he;try refine go ?_
   refine af Xw ?_;rintro d s7 ⟨rfl,hd7,b7⟩
   repeat' first | refine go ?_ | refine dO ?_
   refine ec 0 (by omega) rfl ?_;refine⟨b7.ok,bs6.trans' b7 (fun o h1 h2=>by rcases h1 with h1 | h1; exact h1; omega),.inr ⟨_,_,_,_,_,rfl,.inl rfl, ?_⟩⟩;unfold FZ;rw [EX he (by simp [mL,heh,YD,hl]) hp];exact hd7.mono fun o ho=> .inl ho
  | false=>
   rw [hl]at hM6;have Xw:=KU (H:=H) hT hP b6.ok gR (by have:=hd.len; omega) hM6;try refine go ?_
   refine af Xw ?_;rintro d s7 Ux;have ok7:s7.Ok:=by
    rcases Ux with ⟨_,_,_,_,_,_,_,hb⟩ | ⟨_,_,_,_,_,_,_,hb⟩ | ⟨_,_,_,_,hb⟩ | ⟨_,_,_,_,hb⟩ <;> exact hb.ok
   have n6:=bs6.n
   have aau:=Ux.out (Vs:=Vs) (N:=N) (n0:=s.n) n6 ok7 lmo hE hNN hrN (fun m f h1 hf=>by
    rcases aP m n with h2 | h2
    ·exact hp m f h2 hf
    ·obtain rfl:m=n:=by omega
     rw [he]at hf; simp only [aa]at hf; subst hf;simp [mL,YD,hl])
   rcases aau with ⟨n',e',q1,q2,q3,q4,rfl,q5,q6,q7⟩ | ⟨x0,x1,x2,x3,x4,rfl,q1,q2,q3⟩
   ·have OM :n' < E.length:=(aj.mp q1).1
    repeat' first | refine go ?_ | refine dO ?_
    refine ec (E.length - n') (by omega) rfl ?_;exact⟨ok7,bs6.trans' q6 (fun o h1 h2=>by exfalso; omega),.inl ⟨n',e',so1,by omega,rfl,q1,q3,q4,q5,hso,q7⟩⟩
   ·repeat' first | refine go ?_ | refine dO ?_
    refine ec 0 (by omega) rfl ?_;exact⟨ok7,bs6.trans' q3 (fun o h1 h2=>by rcases h1 with h1 | h1 | h1; exact h1; omega; omega),.inr ⟨x0,x1,x2,x3,x4,rfl,q1,q2⟩⟩
 ·rcases hx with rfl | rfl
  all_goals
   try refine go ?_
   exact iG ⟨⟨wr,FT,by rw [aak]; exact OA⟩,Yo⟩
end
end Go.Proofs.Tab
