/- Part. -/
import Derived.Test.YtmcdajnpdekocaaGreatDoorG44
set_option linter.unusedSectionVars false
set_option linter.unusedSimpArgs false
set_option linter.unusedVariables false
set_option maxRecDepth 100000
set_option maxHeartbeats 1000000
namespace Go.Proofs.YtmcdajnpdekocaaGreatDoor.Tab
open Go Go.Ab Go.Ab.Sm
section
variable {T:Nat→Option AFn}{H:zAa}{s:St}{so o la ta pl mp P Sh n lv tk i j:Nat}{Ds:List D} {d d' :D}{v w:Val}{Q:Nat} {F F' :Nat→Prop}
theorem alike_wn (hS:TS T)(hW:TW T)(hV:TV T)(hs:s.Ok)(h:StA s so o la ta pl mp P Sh Ds n lv tk)(hi:Ds[i]? =some d)(hv:ValAt Q F s d v)(hj:Ds[j]? =some d')(hw:ValAt Q F' s d' w)(hij:i≠j){a:Bool×List Nat}(ha:v.whole=some a)(hb:w.whole=none)(hc:v.text=none)(hk:v.kind≠1):
  EvP T H 11 [.ptr so 0,.int .i64 i,.int .i64 j] s fun d s1=>d= .bool (false)∧s1=s:=by
 obtain⟨ty,x,rfl,hn⟩:=hv.ifc
 obtain⟨ty',x',rfl,hn'⟩:=hw.ifc
 have gi:=zAb (H:=H) hS h hi
 have gj:=zAb (H:=H) hS h hj
 have wi:=zBi (H:=H) hS hW hV h hi hv
 have wj:=zBi (H:=H) hS hW hV h hj hw
 have ti:=zCf (H:=H) hS h hi hv
 have tj:=zCf (H:=H) hS h hj hw
 have l1:=hv.wlen
 have l2:=hw.wlen
 simp only [ha,hb,hc,Option.getD,Option.isSome]at wi wj l1 l2 ti tj
 refine evI hS.t11 ?_
 try refine go ?_
 refine clE gi ?_
 rintro d s1 ⟨rfl,rfl⟩
 try refine go ?_
 refine clE gj ?_
 rintro d s1 ⟨rfl,rfl⟩
 try refine go ?_
 refine clE wi ?_
 rintro d s1 ⟨rfl,x1,rfl,hx1⟩
 have hz1:=hx1
 obtain⟨y1,rfl,hy1⟩:=hx1
 have ov1:=fun p q=>zQn (p:=p) (q:=q) (a:=a.1) hy1
 repeat' first | refine go ?_ | refine opL ?_ (hp:=ov1 _ _)
 refine clE wj ?_
 rintro d s1 ⟨rfl,x2,rfl,hx2⟩
 have hz2:=hx2
 obtain⟨y2,rfl,hy2⟩:=hx2
 have ov2:=fun p q=>zQn (p:=p) (q:=q) (a:=false) hy2
 repeat' first | refine go ?_ | refine opL ?_ (hp:=ov2 _ _) | refine zDp ?_ (ho:=zDf rfl hn)
 refine clE ti ?_
 rintro d s1 ⟨rfl,rfl⟩
 try refine go ?_
 refine clE tj ?_
 rintro d s1 ⟨rfl,rfl⟩
 try refine go ?_
 refine zCj hS hv ?_
 try refine go ?_
 exact rtF ⟨rfl,rfl⟩
theorem alike_nw (hS:TS T)(hW:TW T)(hV:TV T)(hs:s.Ok)(h:StA s so o la ta pl mp P Sh Ds n lv tk)(hi:Ds[i]? =some d)(hv:ValAt Q F s d v)(hj:Ds[j]? =some d')(hw:ValAt Q F' s d' w)(hij:i≠j){b:Bool×List Nat}{t:Option (List UInt8)}(ha:v.whole=none)(hb:w.whole=some b)(ht:v.text=t)(hc:w.text=none)(hk:w.kind≠1):
  EvP T H 11 [.ptr so 0,.int .i64 i,.int .i64 j] s fun d s1=>d= .bool (false)∧s1=s:=by
 obtain⟨ty,x,rfl,hn⟩:=hv.ifc
 obtain⟨ty',x',rfl,hn'⟩:=hw.ifc
 have gi:=zAb (H:=H) hS h hi
 have gj:=zAb (H:=H) hS h hj
 have wi:=zBi (H:=H) hS hW hV h hi hv
 have wj:=zBi (H:=H) hS hW hV h hj hw
 have ti:=zCf (H:=H) hS h hi hv
 have tj:=zCf (H:=H) hS h hj hw
 have l1:=hv.wlen
 have l2:=hw.wlen
 simp only [ha,hb,hc,ht,Option.getD,Option.isSome]at wi wj l1 l2 ti tj
 refine evI hS.t11 ?_
 try refine go ?_
 refine clE gi ?_
 rintro d s1 ⟨rfl,rfl⟩
 try refine go ?_
 refine clE gj ?_
 rintro d s1 ⟨rfl,rfl⟩
 try refine go ?_
 refine clE wi ?_
 rintro d s1 ⟨rfl,x1,rfl,hx1⟩
 have hz1:=hx1
 obtain⟨y1,rfl,hy1⟩:=hx1
 have ov1:=fun p q=>zQn (p:=p) (q:=q) (a:=false) hy1
 repeat' first | refine go ?_ | refine opL ?_ (hp:=ov1 _ _)
 refine clE wj ?_
 rintro d s1 ⟨rfl,x2,rfl,hx2⟩
 have hz2:=hx2
 obtain⟨y2,rfl,hy2⟩:=hx2
 have ov2:=fun p q=>zQn (p:=p) (q:=q) (a:=b.1) hy2
 repeat' first | refine go ?_ | refine opL ?_ (hp:=ov2 _ _) | refine zDp ?_ (ho:=zDf rfl hn)
 cases t
 all_goals simp only at ti
 all_goals
  refine clE ti ?_
  rintro d s1 ⟨rfl,rfl⟩
  try refine go ?_
  refine clE tj ?_
  rintro d s1 ⟨rfl,rfl⟩
  try refine go ?_
  by_cases k1:v.kind=1
  ·refine zCj hS hv ?_
   try refine go ?_
   refine zCj hS hw ?_
   try refine go ?_
   exact rtF ⟨rfl,rfl⟩
  ·refine zCj hS hv ?_
   try refine go ?_
   exact rtF ⟨rfl,rfl⟩
theorem alike_nt (hS:TS T)(hW:TW T)(hV:TV T)(hs:s.Ok)(h:StA s so o la ta pl mp P Sh Ds n lv tk)(hi:Ds[i]? =some d)(hv:ValAt Q F s d v)(hj:Ds[j]? =some d')(hw:ValAt Q F' s d' w)(hij:i≠j)(ha:v.whole=none)(hb:w.whole=none)(ht:v.text=none):
  EvP T H 11 [.ptr so 0,.int .i64 i,.int .i64 j] s fun d s1=>d= .bool (v.kind==1 && w.kind==1)∧s1=s:=by
 obtain⟨ty,x,rfl,hn⟩:=hv.ifc
 obtain⟨ty',x',rfl,hn'⟩:=hw.ifc
 have gi:=zAb (H:=H) hS h hi
 have gj:=zAb (H:=H) hS h hj
 have wi:=zBi (H:=H) hS hW hV h hi hv
 have wj:=zBi (H:=H) hS hW hV h hj hw
 have ti:=zCf (H:=H) hS h hi hv
 have tj:=zCf (H:=H) hS h hj hw
 have l1:=hv.wlen
 have l2:=hw.wlen
 simp only [ha,hb,ht,Option.getD,Option.isSome]at wi wj l1 l2 ti tj
 refine evI hS.t11 ?_
 try refine go ?_
 refine clE gi ?_
 rintro d s1 ⟨rfl,rfl⟩
 try refine go ?_
 refine clE gj ?_
 rintro d s1 ⟨rfl,rfl⟩
 try refine go ?_
 refine clE wi ?_
 rintro d s1 ⟨rfl,x1,rfl,hx1⟩
 have hz1:=hx1
 obtain⟨y1,rfl,hy1⟩:=hx1
 have ov1:=fun p q=>zQn (p:=p) (q:=q) (a:=false) hy1
 repeat' first | refine go ?_ | refine opL ?_ (hp:=ov1 _ _)
 refine clE wj ?_
 rintro d s1 ⟨rfl,x2,rfl,hx2⟩
 have hz2:=hx2
 obtain⟨y2,rfl,hy2⟩:=hx2
 have ov2:=fun p q=>zQn (p:=p) (q:=q) (a:=false) hy2
 repeat' first | refine go ?_ | refine opL ?_ (hp:=ov2 _ _) | refine zDp ?_ (ho:=zDf rfl hn)
 refine clE ti ?_
 rintro d s1 ⟨rfl,rfl⟩
 try refine go ?_
 refine clE tj ?_
 rintro d s1 ⟨rfl,rfl⟩
 try refine go ?_
 by_cases k1:v.kind=1
 ·refine zCj hS hv ?_
  try refine go ?_
  refine zCj hS hw ?_
  by_cases k2:w.kind=1
  ·try refine go ?_
   exact rtF ⟨congrArg D.bool (show true=(v.kind==1 && w.kind==1) by simp [k1,k2]),rfl⟩
  ·try refine go ?_
   exact rtF ⟨congrArg D.bool (show false=(v.kind==1 && w.kind==1) by simp [k1,k2]),rfl⟩
 ·refine zCj hS hv ?_
  try refine go ?_
  exact rtF ⟨congrArg D.bool (show false=(v.kind==1 && w.kind==1) by simp [k1]),rfl⟩
theorem alike_tn (hS:TS T)(hW:TW T)(hV:TV T)(hs:s.Ok)(h:StA s so o la ta pl mp P Sh Ds n lv tk)(hi:Ds[i]? =some d)(hv:ValAt Q F s d v)(hj:Ds[j]? =some d')(hw:ValAt Q F' s d' w)(hij:i≠j){t:List UInt8}(ha:v.whole=none)(hb:w.whole=none)(ht:v.text=some t)(hc:w.text=none):
  EvP T H 11 [.ptr so 0,.int .i64 i,.int .i64 j] s fun d s1=>d= .bool (v.kind==1 && w.kind==1)∧s1=s:=by
 obtain⟨ty,x,rfl,hn⟩:=hv.ifc
 obtain⟨ty',x',rfl,hn'⟩:=hw.ifc
 have gi:=zAb (H:=H) hS h hi
 have gj:=zAb (H:=H) hS h hj
 have wi:=zBi (H:=H) hS hW hV h hi hv
 have wj:=zBi (H:=H) hS hW hV h hj hw
 have ti:=zCf (H:=H) hS h hi hv
 have tj:=zCf (H:=H) hS h hj hw
 have l1:=hv.wlen
 have l2:=hw.wlen
 simp only [ha,hb,ht,hc,Option.getD,Option.isSome]at wi wj l1 l2 ti tj
 refine evI hS.t11 ?_
 try refine go ?_
 refine clE gi ?_
 rintro d s1 ⟨rfl,rfl⟩
 try refine go ?_
 refine clE gj ?_
 rintro d s1 ⟨rfl,rfl⟩
 try refine go ?_
 refine clE wi ?_
 rintro d s1 ⟨rfl,x1,rfl,hx1⟩
 have hz1:=hx1
 obtain⟨y1,rfl,hy1⟩:=hx1
 have ov1:=fun p q=>zQn (p:=p) (q:=q) (a:=false) hy1
 repeat' first | refine go ?_ | refine opL ?_ (hp:=ov1 _ _)
 refine clE wj ?_
 rintro d s1 ⟨rfl,x2,rfl,hx2⟩
 have hz2:=hx2
 obtain⟨y2,rfl,hy2⟩:=hx2
 have ov2:=fun p q=>zQn (p:=p) (q:=q) (a:=false) hy2
 repeat' first | refine go ?_ | refine opL ?_ (hp:=ov2 _ _) | refine zDp ?_ (ho:=zDf rfl hn)
 refine clE ti ?_
 rintro d s1 ⟨rfl,rfl⟩
 try refine go ?_
 refine clE tj ?_
 rintro d s1 ⟨rfl,rfl⟩
 try refine go ?_
 by_cases k1:v.kind=1
 ·refine zCj hS hv ?_
  try refine go ?_
  refine zCj hS hw ?_
  by_cases k2:w.kind=1
  ·try refine go ?_
   exact rtF ⟨congrArg D.bool (show true=(v.kind==1 && w.kind==1) by simp [k1,k2]),rfl⟩
  ·try refine go ?_
   exact rtF ⟨congrArg D.bool (show false=(v.kind==1 && w.kind==1) by simp [k1,k2]),rfl⟩
 ·refine zCj hS hv ?_
  try refine go ?_
  exact rtF ⟨congrArg D.bool (show false=(v.kind==1 && w.kind==1) by simp [k1]),rfl⟩
theorem alike_tt (hS:TS T)(hW:TW T)(hV:TV T)(hs:s.Ok)(h:StA s so o la ta pl mp P Sh Ds n lv tk)(hi:Ds[i]? =some d)(hv:ValAt Q F s d v)(hj:Ds[j]? =some d')(hw:ValAt Q F' s d' w)(hij:i≠j){t u:List UInt8}(ha:v.whole=none)(hb:w.whole=none)(ht:v.text=some t)(hc:w.text=some u)(hk:v.kind≠1):
  EvP T H 11 [.ptr so 0,.int .i64 i,.int .i64 j] s fun d s1=>d= .bool (t==u)∧s1=s:=by
 obtain⟨ty,x,rfl,hn⟩:=hv.ifc
 obtain⟨ty',x',rfl,hn'⟩:=hw.ifc
 have gi:=zAb (H:=H) hS h hi
 have gj:=zAb (H:=H) hS h hj
 have wi:=zBi (H:=H) hS hW hV h hi hv
 have wj:=zBi (H:=H) hS hW hV h hj hw
 have ti:=zCf (H:=H) hS h hi hv
 have tj:=zCf (H:=H) hS h hj hw
 have l1:=hv.wlen
 have l2:=hw.wlen
 simp only [ha,hb,ht,hc,Option.getD,Option.isSome]at wi wj l1 l2 ti tj
 refine evI hS.t11 ?_
 try refine go ?_
 refine clE gi ?_
 rintro d s1 ⟨rfl,rfl⟩
 try refine go ?_
 refine clE gj ?_
 rintro d s1 ⟨rfl,rfl⟩
 try refine go ?_
 refine clE wi ?_
 rintro d s1 ⟨rfl,x1,rfl,hx1⟩
 have hz1:=hx1
 obtain⟨y1,rfl,hy1⟩:=hx1
 have ov1:=fun p q=>zQn (p:=p) (q:=q) (a:=false) hy1
 repeat' first | refine go ?_ | refine opL ?_ (hp:=ov1 _ _)
 refine clE wj ?_
 rintro d s1 ⟨rfl,x2,rfl,hx2⟩
 have hz2:=hx2
 obtain⟨y2,rfl,hy2⟩:=hx2
 have ov2:=fun p q=>zQn (p:=p) (q:=q) (a:=false) hy2
 repeat' first | refine go ?_ | refine opL ?_ (hp:=ov2 _ _) | refine zDp ?_ (ho:=zDf rfl hn)
 refine clE ti ?_
 rintro d s1 ⟨rfl,rfl⟩
 try refine go ?_
 refine clE tj ?_
 rintro d s1 ⟨rfl,rfl⟩
 try refine go ?_
 by_cases htu:t=u
 ·subst htu
  have e1:(t==t)=true:=by simp
  simp only [e1]
  try refine go ?_
  exact rtF ⟨rfl,rfl⟩
 ·have e1:(t==u)=false:=by simpa using htu
  simp only [e1]
  try refine go ?_
  refine zCj hS hv ?_
  try refine go ?_
  exact rtF ⟨rfl,rfl⟩
theorem Val.whole_text {v:Val}{a:Bool×List Nat}(h:v.whole=some a):v.text=Option.none∧v.kind≠1:=by
 cases v <;> simp_all [Val.whole,Val.text,Val.kind]
theorem Val.text_kind {v:Val}{a:List UInt8}(h:v.text=some a):v.kind≠1:=by
 cases v <;> simp_all [Val.text,Val.kind]
theorem zFs (hS:TS T)(hW:TW T)(hV:TV T)(hs:s.Ok)(h:StA s so o la ta pl mp P Sh Ds n lv tk)(hi:Ds[i]? =some d)(hv:ValAt Q F s d v)(hj:Ds[j]? =some d')(hw:ValAt Q F' s d' w):
  EvP T H 11 [.ptr so 0,.int .i64 i,.int .i64 j] s fun d s1=>d= .bool (zPs i v j w)∧s1=s:=by
 by_cases hij:i=j
 ·have:=zZa (H:=H) hS hW hV hs h hi hv hj hw hij
  simpa only [zPs,decide_eq_true hij,Bool.true_or] using this
 simp only [zPs,decide_eq_false hij,Bool.false_or]
 cases ha:v.whole with
 | some a=>
  obtain⟨t1,k1⟩:=Val.whole_text ha
  cases hb:w.whole with
  | some b=>exact zUp hS hW hV hs h hi hv hj hw hij ha hb
  | none=>
   have:=alike_wn (H:=H) hS hW hV hs h hi hv hj hw hij ha hb t1 k1
   have e:(v.kind==1 && w.kind==1)=false:=by simp [k1]
   simpa only [t1,e,Bool.or_false] using this
 | none=>
  cases hb:w.whole with
  | some b=>
   obtain⟨t2,k2⟩:=Val.whole_text hb
   have:=alike_nw (H:=H) hS hW hV hs h hi hv hj hw hij ha hb rfl t2 k2
   have e:(v.kind==1 && w.kind==1)=false:=by simp [k2]
   cases ht:v.text <;> simpa only [t2,e,Bool.or_false] using this
  | none=>
   cases ht:v.text with
   | none=>
    have:=alike_nt (H:=H) hS hW hV hs h hi hv hj hw hij ha hb ht
    simpa only [Bool.false_or] using this
   | some t=>
    cases hc:w.text with
    | none=>
     have:=alike_tn (H:=H) hS hW hV hs h hi hv hj hw hij ha hb ht hc
     simpa only [Bool.false_or] using this
    | some u=>
     have k1:=Val.text_kind ht
     have:=alike_tt (H:=H) hS hW hV hs h hi hv hj hw hij ha hb ht hc k1
     have e:(v.kind==1 && w.kind==1)=false:=by simp [k1]
     simpa only [e,Bool.or_false] using this
theorem is_ev (hS:TS T)(hW:TW T)(hV:TV T)(hs:s.Ok)(h:StA s so o la ta pl mp P Sh Ds n lv tk)(hi:Ds[i]? =some d)(hv:ValAt Q F s d v)(hj:Ds[j]? =some d')(hw:ValAt Q F' s d' w):
  EvP T H 12 [.ptr so 0,.int .i64 i,.int .i64 j] s fun d s1=>d= .bool (decide (v.kind=w.kind) && zPs i v j w)∧s1=s:=by
 refine evI hS.t12 ?_
 try refine go ?_
 refine clE (yBh hS h hi hv) ?_
 rintro d s1 ⟨rfl,rfl⟩
 try refine go ?_
 refine clE (yBh hS h hj hw) ?_
 rintro d s1 ⟨rfl,rfl⟩
 by_cases hk:v.kind=w.kind
 ·try refine go ?_
  refine clE (zFs hS hW hV hs h hi hv hj hw) ?_
  rintro d s1 ⟨rfl,rfl⟩
  try refine go ?_
  exact rtF ⟨congrArg D.bool (show zPs i v j w=_ by simp [hk]),rfl⟩
 ·try refine go ?_
  exact rtF ⟨congrArg D.bool (show false=_ by simp [hk]),rfl⟩
end
structure Tm where
 kd:Int
 b:Bool
 ng:Bool
 n1:Bool
 mag:List Nat
 tx:List UInt8
 n2:Bool
 kids:List Int
 hs:Bool
 sm:Bool
@[reducible] def Tm.d (t:Tm):D:= .agg [.int .i64 t.kd,.bool t.b,.bool t.ng,.vs t.n1 1 (u32s t.mag),.str t.tx,.vs t.n2 1 (ints t.kids),.bool t.hs,.bool t.sm]
structure Tm.Ok (t:Tm):Prop where
 n1:t.n1=true→t.mag=[]
 n2:t.n2=true→t.kids=[]
 mag:t.mag.length≤100000
 tx:t.tx.length≤100000
 kids:t.kids.length≤100000
def OfTm (t:Tm)(v:Val):Prop:=
 (t.kd=1∧v= .none)∨(t.kd=2∧v= .bool t.b)∨(t.kd=3∧v= .int (zPp t.ng t.mag))∨(t.kd=4∧v= .str t.tx)∨
 ((t.kd=5∨t.kd=6)∧∃num kd L,v= .row num kd L∧(kd:Int)=t.kd∧L.length=t.kids.length)∨((t.kd=7∨t.kd=8∨t.kd=9)∧∃num kd E,v= .tbl num kd E∧(kd:Int)=t.kd)∨
 (t.kd=14∧∃num c,v= .inst num c)∨((t.kd=15∨t.kd=16∨t.kd=17)∧∃num kd o,v= .view num kd o∧(kd:Int)=t.kd)
inductive Refs (s:St):D→List Nat→Prop
 | nil:Refs s (.vs true 0 []) []
 | sl {o:Nat} {R:List Nat} (h:s.get o=some (.arr 1 3 (ints (R.map Int.ofNat)) 0)) (hn:R≠ []):Refs s (.sl o 0 R.length R.length) R
theorem Refs.beh {W:Nat→Prop}{s s1:St}{x:D}{R:List Nat}(h:Refs s x R)(hs:s.Ok)(hb:Beh W s s1)(hw:∀o a l c,x= .sl o a l c→ ¬ W o):Refs s1 x R:=by
 rcases h with _ | ⟨hg,hn⟩
 ·exact .nil
 ·exact .sl (hb.get hs hg (hw _ _ _ _ rfl)) hn
structure zQc (s:St)(bo so:Nat)(tms:List Tm)(x:D):Prop where
 go:s.get bo=some (.var 67 (.agg [.ptr so 0,.vs false 8 (tms.map Tm.d),x]))
theorem Refs.at' {s:St}{x:D}{R:List Nat}{k r:Nat}(h:Refs s x R)(hk:R[k]? =some r):∃o,x= .sl o 0 R.length R.length∧s.get o=some (.arr 1 3 (ints (R.map Int.ofNat)) 0)∧(ints (R.map Int.ofNat))[0+k]? =some (.int .i64 (r:Nat))∧k < R.length:=by
 have hl:k < R.length:=(List.getElem?_eq_some_iff.mp hk).1
 rcases h with _ | ⟨hg,hn⟩
 ·simp at hk
 ·refine⟨_,rfl,hg, ?_,hl⟩
  simp only [ints,Nat.zero_add,List.getElem?_map,hk,Option.map_some]; rfl
theorem zBt (R:List Nat):(ints (R.map Int.ofNat)).length=R.length:=by simp [ints]
section
variable {T:Nat→Option AFn}{H:zAa}{s:St}{so o la ta pl mp P Sh n lv tk bo k r:Nat}{Ds:List D}{d x:D}{v:Val}{Q:Nat}{F:Nat→Prop}{tms:List Tm}{t:Tm}{R:List Nat}
theorem zKk (hW:TW T)(hV:TV T){n:Bool×List Nat}(hs:s.Ok)(hx:IsN s d n)(hl:n.2.length≤100000000):EvP T H 107 [d] s fun d s1=>zCm d∧Beh Nil s s1:=by
 obtain⟨y,rfl,hy⟩:=hx
 rcases hy.sh with ⟨nl,z,l,rfl⟩ | ⟨o',l,c,rfl⟩
 ·exact yGs hW hV hs hy hl
 ·exact yGt hW hV hs hy hl
theorem zPx (hk:tms[k]? =some t):(tms.map Tm.d)[k]? =some t.d:=by rw [List.getElem?_map,hk]; rfl
theorem yGe (hS:TS T)(hW:TW T)(hV:TV T)(hs:s.Ok)(hb:zQc s bo so tms x)(hk:tms[k]? =some t)(h1:t.kd=1):
  EvP T H 93 [.ptr bo 0,.int .i64 (k:Nat)] s fun d s1=>zCm d∧Beh Nil s s1:=by
 have hO:=Of_ev (H:=H) (s:=s) hW hV (.inr (.inr rfl))
 simp only [show ((-7:Int)=0)=False by simp,show ((-7:Int)=1)=False by simp,if_false]at hO
 have hg:=hb.go
 have ha:=zPx hk
 obtain⟨kd,b,ng,n1,mag,tx,n2,kids,hs',sm⟩:=t
 simp only at h1; subst h1
 refine evI hS.t93 ?_
 try refine go ?_
 refine clE hO ?_
 rintro d s1 ⟨rfl,hn⟩
 have hd:=zKk (H:=H) hW hV hs hn (by simp)
 obtain⟨y,rfl,hy⟩:=hn
 try refine go ?_
 refine clE hd ?_
 rintro d s2 ⟨⟨h,rfl⟩,b1⟩
 try refine go ?_
 exact rtF ⟨⟨h,rfl⟩,b1⟩
theorem hash_str (hS:TS T)(hW:TW T)(hV:TV T)(hs:s.Ok)(hb:zQc s bo so tms x)(hk:tms[k]? =some t)(h1:t.kd=4)(h2:t.tx.length≤1000000000):
  EvP T H 93 [.ptr bo 0,.int .i64 (k:Nat)] s fun d s1=>zCm d∧Beh Nil s s1:=by
 have hg:=hb.go
 have ha:=zPx hk
 have hd:=dText_ev (H:=H) hV hs h2
 obtain⟨kd,b,ng,n1,mag,tx,n2,kids,hs',sm⟩:=t
 simp only at h1 hd; subst h1
 refine evI hS.t93 ?_
 try refine go ?_
 refine clE hd ?_
 rintro d s2 ⟨⟨h,rfl⟩,b1⟩
 try refine go ?_
 exact rtF ⟨⟨h,rfl⟩,b1⟩
theorem zYh (hS:TS T)(hW:TW T)(hV:TV T)(hs:s.Ok)(hb:zQc s bo so tms x)(hk:tms[k]? =some t)(ho:t.Ok)(h1:t.kd=14)(h2:t.hs=true):
  EvP T H 93 [.ptr bo 0,.int .i64 (k:Nat)] s fun d s1=>zCm d∧Beh Nil s s1:=by
 have hg:=hb.go
 have ha:=zPx hk
 have q1:=ho.n1; have q2:=ho.mag
 obtain⟨kd,b,ng,n1,mag,tx,n2,kids,hs',sm⟩:=t
 have hd:=zKk (H:=H) (n:=(ng,mag)) hW hV hs ⟨_,rfl,.vs n1 mag q1⟩ (by simp only at q2 ⊢; omega)
 simp only at h1 h2; subst h1; subst h2
 refine evI hS.t93 ?_
 try refine go ?_
 refine clE hd ?_
 rintro d s2 ⟨⟨h,rfl⟩,b1⟩
 try refine go ?_
 exact rtF ⟨⟨h,rfl⟩,b1⟩
theorem yGf (hS:TS T)(hW:TW T)(hV:TV T)(hs:s.Ok)(hst:StA s so o la ta pl mp P Sh Ds n lv tk)(hb:zQc s bo so tms x)(hR:Refs s x R)(hk:tms[k]? =some t)(hr:R[k]? =some r)(hi:Ds[r]? =some d)(hv:ValAt Q F s d v)(h1:t.kd=14)(h2:t.hs=false):
  EvP T H 93 [.ptr bo 0,.int .i64 (k:Nat)] s fun d s1=>zCm d∧Beh Nil s s1:=by
 have hg:=hb.go
 have ha:=zPx hk
 obtain⟨ra,rfl,hra,har,hkl⟩:=hR.at' hr
 have hrl:=zBt R
 have hn:=zZo (H:=H) hS hst hi hv
 have hd:=zYp (H:=H) (n:=(v.num:Nat)) hV hs
 obtain⟨kd,b,ng,n1,mag,tx,n2,kids,hs',sm⟩:=t
 simp only at h1 h2; subst h1; subst h2
 refine evI hS.t93 ?_
 try refine go ?_
 refine dpC hn ?_
 rintro d s1 ⟨rfl,rfl⟩
 refine⟨rfl,by rfl, ?_⟩
 try refine go ?_
 refine dpC hd ?_
 rintro d s1 ⟨⟨h,rfl⟩,b1⟩
 refine⟨rfl,by rfl, ?_⟩
 try refine go ?_
 exact rtF ⟨⟨h,rfl⟩,b1⟩
end
theorem StA.sub {s s1:St}{so o la ta pl mp P Sh n lv tk:Nat}{V:List D}(h:StA s so o la ta pl mp P Sh V n lv tk)(hg:∀o x,s.get o=some x→s1.get o=some x):StA s1 so o la ta pl mp P Sh V n lv tk:=
 ⟨hg _ _ h.go,hg _ _ h.gp,hg _ _ h.gm,⟨hg _ _ h.sl.go,hg _ _ h.sl.gl,hg _ _ h.sl.gt,h.sl.ol,h.sl.ot,h.sl.lt⟩,h.nd⟩
theorem Ws.sub {s s1:St}{x:D}{V:List Nat}(h:Ws s x V)(hg:∀o x,s.get o=some x→s1.get o=some x):Ws s1 x V:=by
 rcases h with ⟨nl,V,hn⟩ | _ | ⟨o,cp,V,R,h1,hc⟩
 ·exact .vs nl V hn
 ·exact .nil
 ·exact .sl o cp V R (hg _ _ h1) hc
theorem ValAt.subW {Q:Nat}{F:Nat→Prop}{s s1:St}{d:D}{v:Val}{n:Bool×List Nat}(h:ValAt Q F s d v)(hw:v.whole=some n)(hg:∀o x,s.get o=some x→s1.get o=some x):ValAt Q F s1 d v:=by
 cases v with
 | bool b=>exact h
 | int n=>
  obtain⟨y,h1,h2,h3,h4⟩:=h
  exact⟨y,h1,h2.sub hg,h3,h4⟩
 | _=>simp [Val.whole]at hw
section
variable {T:Nat→Option AFn}{H:zAa}{s:St}{so o la ta pl mp P Sh n lv tk bo k r:Nat}{Ds:List D}{d x:D}{v:Val}{Q:Nat}{F:Nat→Prop}{tms:List Tm}{t:Tm}{R:List Nat}
theorem zWa (hS:TS T)(hW:TW T)(hV:TV T)(hs:s.Ok)(hst:StA s so o la ta pl mp P Sh Ds n lv tk)(hb:zQc s bo so tms x)(hR:Refs s x R)(hk:tms[k]? =some t)(hr:R[k]? =some r)(hi:Ds[r]? =some d)(hv:ValAt Q F s d v){m:Bool×List Nat}(hw:v.whole=some m)(hm:m.2.length≤100000000)(h1:t.kd=2∨t.kd=3):
  EvP T H 93 [.ptr bo 0,.int .i64 (k:Nat)] s fun d s1=>zCm d∧Beh Nil s s1:=by
 have hg:=hb.go
 have ha:=zPx hk
 obtain⟨ra,rfl,hra,har,hkl⟩:=hR.at' hr
 have hrl:=zBt R
 obtain⟨s2,hs2⟩:∃s2,s2=({ s.up 1 with ro:=true,h:=cutN (0+1) s.n (s.up 1).h}:St):=⟨_,rfl⟩
 have hget:∀o,s2.get o=if s.n≤o∧o < s.n+(0+1) then none else s.get o:=fun o=>by rw [hs2]; exact zFr _ _ _ _
 have hsub:∀o x,s.get o=some x→s2.get o=some x:=fun o x hx=>by
  have:=hs.lt hx
  rw [hget,if_neg (by omega)]; exact hx
 have hbk:∀o x,s2.get o=some x→s.get o=some x:=fun o x hx=>by
  rw [hget]at hx
  split at hx
  ·cases hx
  ·exact hx
 have hwh:=zBi (H:=H) hS hW hV (hst.sub hsub) hi (hv.subW hw hsub)
 rw [hw,hs2]at hwh
 simp only [Option.isSome,Option.getD]at hwh
 rw [← hs2]at hwh
 have hwh' :EvP T H 22 [.ptr so 0,.int .i64 (r:Nat)] ({ s.up 1 with ro:=true,h:=cutN (0+1) s.n (s.up 1).h}:St) fun d s1=>∃y,d= .tup [.agg [.bool m.1,y],.bool true]∧Ws s y m.2:=by
  rw [← hs2]
  obtain⟨d,s3,e1,rfl,x,rfl,y,rfl,hy⟩:=hwh
  exact⟨_,_,e1,y,rfl,hy.sub hbk⟩
 clear hwh
 have key:∀kd:Int,(kd=2∨kd=3)→∀ {b ng n1 mag tx n2 kids hs' sm},(tms.map Tm.d)[k]? =some (Tm.d ⟨kd,b,ng,n1,mag,tx,n2,kids,hs',sm⟩)→EvP T H 93 [.ptr bo 0,.int .i64 (k:Nat)] s fun d s1=>zCm d∧Beh Nil s s1:=by
  intro kd hkd b ng n1 mag tx n2 kids hs' sm ha
  have lb:=hs.lt hg
  have lr:=hs.lt hra
  refine evI hS.t93 ?_
  rcases hkd with rfl | rfl
  all_goals
   try refine go ?_
   refine zIe hwh' ?_
   rintro d s1 ⟨y,rfl,hy⟩
   refine⟨rfl, ?_⟩
   have ov:=fun p q=>zQn (p:=p) (q:=q) (a:=m.1) hy
   repeat' first | refine go ?_ | refine zKj ?_ (hp:=ov _ _)
   have b0:Beh Nil s ((s.up 1).set0 (s.n+0) (.var 40 (.agg [.bool false,.vs true 0 []]))):=Beh.set ((Beh.refl hs).up 1) _ (by rw [St.n_up]; omega) (fun hh=>by omega)
   have b1:Beh Nil s (((s.up 1).set0 (s.n+0) (.var 40 (.agg [.bool false,.vs true 0 []]))).set0 (s.n+0) (.var 40 (.agg [.bool m.1,y]))):=Beh.set b0 _ (by rw [St.nS0,St.n_up]; omega) (fun hh=>by omega)
   have hd:=zKk (H:=H) (n:=m) hW hV b1.ok ⟨y,rfl,hy.beh' hs b1 (fun _ _ _ _ _ hh=>hh)⟩ hm
   refine clE hd ?_
   rintro d s3 ⟨⟨h,rfl⟩,b2⟩
   try refine go ?_
   exact rtF ⟨⟨h,rfl⟩,b1.trans b2⟩
 obtain⟨kd,b,ng,n1,mag,tx,n2,kids,hs',sm⟩:=t
 exact key kd h1 ha
def zZi (t:Tm):Prop:=t.kd=1∨t.kd=2∨t.kd=3∨t.kd=4∨t.kd=14
theorem hash_ev (hS:TS T)(hW:TW T)(hV:TV T)(hs:s.Ok)(hst:StA s so o la ta pl mp P Sh Ds n lv tk)(hb:zQc s bo so tms x)(hR:Refs s x R)(hk:tms[k]? =some t)(ho:t.Ok)(hr:R[k]? =some r)(hi:Ds[r]? =some d)(hv:ValAt Q F s d v)(hof:OfTm t v)(hkey:zZi t):
  EvP T H 93 [.ptr bo 0,.int .i64 (k:Nat)] s fun d s1=>zCm d∧Beh Nil s s1:=by
 have hmag:=ho.mag
 have htx:=ho.tx
 rcases hkey with h1 | h1 | h1 | h1 | h1
 ·exact yGe hS hW hV hs hb hk h1
 ·rcases hof with ⟨h2,_⟩ | ⟨_,rfl⟩ | ⟨h2,_⟩ | ⟨h2,_⟩ | ⟨h2,_⟩ | ⟨h2,_⟩ | ⟨h2,_⟩ | ⟨h2,_⟩
  ·omega
  ·exact zWa hS hW hV hs hst hb hR hk hr hi hv (m:=if t.b then (false,[1]) else (false,[])) rfl (by split <;> simp) (.inl h1)
  all_goals omega
 ·rcases hof with ⟨h2,_⟩ | ⟨h2,_⟩ | ⟨_,rfl⟩ | ⟨h2,_⟩ | ⟨h2,_⟩ | ⟨h2,_⟩ | ⟨h2,_⟩ | ⟨h2,_⟩
  ·omega
  ·omega
  ·exact zWa hS hW hV hs hst hb hR hk hr hi hv rfl (by have:=zHc t.ng t.mag; omega) (.inr h1)
  all_goals omega
 ·exact hash_str hS hW hV hs hb hk h1 (by omega)
 ·cases h2:t.hs
  ·exact yGf hS hW hV hs hst hb hR hk hr hi hv h1 h2
  ·exact zYh hS hW hV hs hb hk ho h1 h2
end
def zOm (Vs:List Val)(i j:Nat):Bool:=match Vs[i]?,Vs[j]? with
 | some v,some w=>zPs i v j w
 | _,_=>false
def zQg (Vs:List Val)(h:Int)(r:Nat)(e:Ent):Bool:=decide (e.h=h) && zOm Vs e.k.toNat r
def putE (Vs:List Val)(most:Nat)(E:List Ent)(h:Int)(r:Nat)(v:Int):List Ent:=match E.findIdx? (zQg Vs h r) with
 | some n=>(match E[n]? with
  | some e=>E.set n { e with v:=v}
  | none=>E)
 | none=>if E.length < most then E++ [Ent.mk h r v (E.length:Nat)] else E
section
variable {Vs:List Val}{most:Nat}{E:List Ent}{h:Int}{r n N:Nat}{v:Int}{e:Ent}
theorem zVj (he:E[n]? =some e)(hh:zQg Vs h r e=true)(hp:∀(m:Nat) (f:Ent),m < n→E[m]? =some f→zQg Vs h r f=false):putE Vs most E h r v=E.set n { e with v:=v}:=by
 have hn:n < E.length:=(List.getElem?_eq_some_iff.mp he).1
 have:E.findIdx? (zQg Vs h r)=some n:=by
  rw [List.findIdx?_eq_some_iff_getElem]
  refine⟨hn, ?_,fun m hm=> ?_⟩
  ·rw [List.getElem?_eq_getElem hn]at he
   simp only [Option.some.injEq]at he
   rw [he]; exact hh
  ·rw [hp m _ hm (List.getElem?_eq_getElem (by omega))]; simp
 simp only [putE,this,he]
theorem zPj (hp:∀(m:Nat) (f:Ent),E[m]? =some f→zQg Vs h r f=false):putE Vs most E h r v=if E.length < most then E++ [Ent.mk h r v (E.length:Nat)] else E:=by
 have:E.findIdx? (zQg Vs h r)=none:=by
  rw [List.findIdx?_eq_none_iff]
  intro x hx
  obtain⟨m,hm⟩:=List.getElem?_of_mem hx
  exact hp m x hm
 simp only [putE,this]
def zGv (N:Nat)(E:List Ent):Prop:=∀(m:Nat) (e:Ent),E[m]? =some e→∃i:Nat,e.k=(i:Int)∧i < N
theorem zGv.put (hE:zGv N E)(hr:r < N):zGv N (putE Vs most E h r v):=by
 unfold putE
 split
 ·split
  ·rename_i he
   intro m f hf
   rw [List.getElem?_set]at hf
   split at hf
   ·split at hf
    ·simp only [Option.some.injEq]at hf; subst hf
     obtain⟨i,h1,h2⟩:=hE _ _ he
     exact⟨i,h1,h2⟩
    ·cases hf
   ·exact hE m f hf
  ·exact hE
 ·split
  ·intro m f hf
   rcases Nat.lt_or_ge m E.length with hl | hl
   ·rw [List.getElem?_append_left hl]at hf; exact hE m f hf
   ·rw [List.getElem?_append_right hl]at hf
    rcases Nat.eq_zero_or_pos (m - E.length) with h0 | h0
    ·rw [h0]at hf
     simp only [List.getElem?_cons_zero,Option.some.injEq]at hf
     subst hf
     exact⟨r,rfl,hr⟩
    ·rw [List.getElem?_eq_none (by simp; omega)]at hf; cases hf
  ·exact hE
end
theorem zAw.fit {W:Nat→Prop}{n:Nat}{s:St}{dv most:Nat}{E:List Ent}(h:zAw (Own n W) s dv most E)(hs:s.Ok):zAw (fun j=>W j∨(n≤j∧j < s.n)) s dv most E:=by
 obtain⟨to,eo,co,ro,log,b,st,x,C,ver,p1,p2,v1,v2,v3,v4,v5,p3⟩:=h
 have up:∀o,o < s.n→Own n W o→W o∨(n≤o∧o < s.n):=fun o ho hw=>hw.imp id fun h=>⟨h,ho⟩
 have l1:=hs.lt p1; have l2:=hs.lt p2.go; have l3:=hs.lt p2.ce.go; have l4:=hs.lt p2.ce.gr
 have hen:=p2.en
 rcases hen with _ | ⟨_,st0,E,g,hst⟩
 ·exact⟨to,to,co,ro,log,b,st,_,C,ver,p1,⟨p2.go,.nil to,p2.ce,p2.la,p2.rm⟩,up _ l1 v1,up _ l2 v2,up _ l2 v2,up _ l3 v4,up _ l4 v5,p3⟩
 ·exact⟨to,eo,co,ro,log,b,st,_,C,ver,p1,p2,up _ l1 v1,up _ l2 v2,up _ (hs.lt g) v3,up _ l3 v4,up _ l4 v5,p3⟩
def Done (Vs:List Val)(W:Nat→Prop)(n0:Nat)(s1:St)(dv most:Nat)(E:List Ent)(h:Int)(r:Nat)(v:Int):Prop:=zAw (fun j=>W j∨(n0≤j∧j < s1.n)) s1 dv most (putE Vs most E h r v)
theorem zNe.out {Vs:List Val}{W:Nat→Prop}{s s1:St}{mo dv so most N r n0:Nat}{E:List Ent}{h v told:Int}{d:D}(hS:zNe W s mo dv so most E h (r:Nat) v told d s1)(hn0:n0≤s.n)(h1:s1.Ok)(hm:n0≤mo)(hE:zGv N E)(hN:∀i,i < N→∃w,Vs[i]? =some w)(hr:r < N)
  (hp:∀(m:Nat) (f:Ent),(m:Int)≤told→E[m]? =some f→zQg Vs h r f=false):
  (∃(n:Nat) (e:Ent),E[n]? =some e∧told < (n:Int)∧e.h=h∧e.k≠(r:Nat)∧d=turnD 1 e.k false 0 0∧zGd W s1 mo dv so most E h (r:Nat) v 2 (n:Nat) (n:Nat)∧Beh (fun j=>j=mo∨j=so) s s1∧∀(m:Nat) (f:Ent),m < n→E[m]? =some f→zQg Vs h r f=false)∨
  (∃x0 x1 x2 x3 x4,d=turnD x0 x1 x2 x3 x4∧(x0=2∨x0=3)∧Done Vs W n0 s1 dv most E h r v∧Beh (fun j=>W j∨j=mo∨j=so) s s1):=by
 have wd:∀ {W' :Nat→Prop} {E' :List Ent},zAw W s1 dv most E' →zAw (fun j=>W j∨(n0≤j∧j < s1.n)) s1 dv most E' :=fun h=>h.mono fun o ho=> .inl ho
 have nohit:∀ {e:Ent},e.h≠h→zQg Vs h r e=false:=fun hne=>by simp [zQg,hne]
 rcases hS with ⟨n,e,⟨q1,⟨e',q2,q3⟩,q4⟩,he,hk,hd,hm,hb⟩ | ⟨n,e,⟨q1,⟨e',q2,q3⟩,q4⟩,he,hk,hd,hm,hb⟩ | ⟨q1,q2,hd,hm,hb⟩ | ⟨q1,q2,hd,hm,hb⟩
 ·rw [he]at q2; simp only [Option.some.injEq]at q2; subst q2
  refine .inl ⟨n,e,he,q1,q3,hk,hd,hm,hb,fun m f hmn hf=> ?_⟩
  rcases Int.lt_or_le told (m:Int) with hl | hl
  ·exact nohit (q4 m f hl hmn hf)
  ·exact hp m f hl hf
 ·rw [he]at q2; simp only [Option.some.injEq]at q2; subst q2
  refine .inr ⟨_,_,_,_,_,hd,.inl rfl, ?_,hb⟩
  have hh:zQg Vs h r e=true:=by
   obtain⟨w,hw⟩:=hN r hr
   have:zOm Vs r r=true:=by simp [zOm,hw,zPs]
   simp [zQg,q3,hk,this]
  unfold Done
  rw [zVj he hh fun m f hmn hf=> ?_]
  ·exact wd (W' :=W) hm
  ·rcases Int.lt_or_le told (m:Int) with hl | hl
   ·exact nohit (q4 m f hl hmn hf)
   ·exact hp m f hl hf
 ·refine .inr ⟨_,_,_,_,_,hd,.inl rfl, ?_,hb⟩
  unfold Done
  rw [zPj fun m f hf=> ?_,if_pos q2]
  ·exact (hm.fit h1).mono fun o ho=>ho.imp id fun ⟨a,b⟩=>⟨by omega,b⟩
  ·rcases Int.lt_or_le told (m:Int) with hl | hl
   ·exact nohit (q1 m f hl hf)
   ·exact hp m f hl hf
 ·refine .inr ⟨_,_,_,_,_,hd,.inr rfl, ?_,hb⟩
  unfold Done
  rw [zPj fun m f hf=> ?_,if_neg (by omega)]
  ·exact wd (W' :=W) hm
  ·rcases Int.lt_or_le told (m:Int) with hl | hl
   ·exact nohit (q1 m f hl hf)
   ·exact hp m f hl hf
end Go.Proofs.YtmcdajnpdekocaaGreatDoor.Tab
