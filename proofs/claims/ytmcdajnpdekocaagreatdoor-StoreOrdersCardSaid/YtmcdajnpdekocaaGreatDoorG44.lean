/- Part. -/
import Derived.Test.YtmcdajnpdekocaaGreatDoorG43
set_option linter.unusedSectionVars false
set_option linter.unusedSimpArgs false
set_option linter.unusedVariables false
set_option maxRecDepth 100000
set_option maxHeartbeats 1000000
namespace Go.Proofs.YtmcdajnpdekocaaGreatDoor.Tab
open Go Go.Ab Go.Ab.Sm
inductive Val where
 | none
 | bool (b:Bool)
 | int (n:Bool×List Nat)
 | str (t:List UInt8)
 | row (num kd:Nat) (L:List Int)
 | tbl (num kd:Nat) (E:List Ent)
 | cls (num:Nat) (h sm:Bool)
 | inst (num c:Nat)
 | view (num kd:Nat) (of:Int)
def Val.kind:Val→Nat
 | .none=>1
 | .bool _=>2
 | .int _=>3
 | .str _=>4
 | .row _ kd _=>kd
 | .tbl _ kd _=>kd
 | .cls .. =>13
 | .inst .. =>14
 | .view _ kd _=>kd
def Val.num:Val→Nat
 | .row n _ _=>n
 | .tbl n _ _=>n
 | .cls n _ _=>n
 | .inst n _=>n
 | .view n _ _=>n
 | _=>0
def ints (L:List Int):List D:=L.map fun v=>D.int .i64 v
theorem zAp (L:List Int):(ints L).length=L.length:=List.length_map _
def ValAt (P:Nat)(F:Nat→Prop)(s:St)(d:D):Val→Prop
 | .none=>d= .ifc 60 (.agg [])
 | .bool b=>d= .ifc 62 (.agg [.bool b])
 | .int n=>∃y,d= .ifc 102 (.agg [.bool n.1,y])∧Ws s y n.2∧(∀o a l c,y= .sl o a l c→F o)∧n.2.length≤100000000
 | .str t=>d= .ifc 86 (.agg [.str t])∧t.length≤1000000000
 | .row num kd L=>∃ro lx st,d= .ifc 70 (.ptr ro 0)∧s.get ro=some (.var 76 (.agg [.int .i64 num,.sl lx 0 L.length L.length,.int .i64 kd]))∧s.get lx=some (.arr 1 3 (ints L) st)∧st≤L.length∧F ro∧F lx
 | .tbl num kd E=>∃po dv,d= .ifc 88 (.ptr po 0)∧s.get po=some (.var 91 (.agg [.int .i64 num,.ptr dv 0,.int .i64 kd]))∧zAw F s dv P E∧F po
 | .cls num h sm=>∃po dv fo,d= .ifc 120 (.ptr po 0)∧s.get po=some (.var 124 (.agg [.int .i64 num,.ptr dv 0,.str [67],.int .i64 (-1),.ptr fo 0,.bool h,.bool sm]))∧
   (F po∧F fo∧∃(sh:Nat) (ko mo:Nat),s.get fo=some (.var 209 (.agg [.int .i64 sh,.int .i64 P,.nilp,.ptr ko 0,.vs true 0 [],.mp mo])))
 | .inst num c=>∃po sp,d= .ifc 93 (.ptr po 0)∧s.get po=some (.var 99 (.agg [.int .i64 num,.ptr sp 0,.int .i64 c]))∧
   (F po∧F sp∧∃fo ro,s.get sp=some (.var 138 (.agg [.ptr fo 0,.ifc 211 (.ptr ro 0),.int .u64 0]))∧s.get ro=some (.var 213 (.agg [.vs true 0 []]))∧F ro)
 | .view num kd of=>∃po,d= .ifc 92 (.ptr po 0)∧s.get po=some (.var 96 (.agg [.int .i64 num,.int .i64 of,.int .i64 kd]))∧F po
theorem Ws.beh' {W:Nat→Prop}{s s1:St}{x:D}{V:List Nat}(h:Ws s x V)(hs:s.Ok)(hb:Beh W s s1)(hw:∀o a l c,x= .sl o a l c→ ¬ W o):Ws s1 x V:=by
 rcases h with ⟨nl,V,hn⟩ | _ | ⟨o,cp,V,R,hg,hc⟩
 ·exact .vs nl V hn
 ·exact .nil
 ·exact .sl o cp V R (hb.get hs hg (hw _ _ _ _ rfl)) hc
theorem ValAt.beh {P:Nat}{F W:Nat→Prop}{s s1:St}{d:D}{v:Val}(h:ValAt P F s d v)(hs:s.Ok)(hb:Beh W s s1)(hw:∀j,j < s.n→F j→ ¬ W j):ValAt P F s1 d v:=by
 cases v with
 | none=>exact h
 | bool b=>exact h
 | int n=>
  obtain⟨y,h1,h2,h3,h4⟩:=h
  exact⟨y,h1,h2.beh' hs hb (fun o a l c e=>by
   subst e
   rcases h2 with _ | _ | ⟨_,_,_,_,hg,_⟩
   exact hw o (hs.lt hg) (h3 _ _ _ _ rfl)),h3,h4⟩
 | str t=>exact h
 | row num kd L=>
  obtain⟨ro,lx,st,h1,h2,h3,h6,h4,h5⟩:=h
  exact⟨ro,lx,st,h1,hb.get hs h2 (hw _ (hs.lt h2) h4),hb.get hs h3 (hw _ (hs.lt h3) h5),h6,h4,h5⟩
 | tbl num kd E=>
  obtain⟨po,dv,h1,h2,h3,h4⟩:=h
  exact⟨po,dv,h1,hb.get hs h2 (hw _ (hs.lt h2) h4),h3.beh hs hb hw,h4⟩
 | cls num a b=>
  obtain⟨po,dv,fo,h1,h2,h3,h4,sh,ko,mo,h5⟩:=h
  exact⟨po,dv,fo,h1,hb.get hs h2 (hw _ (hs.lt h2) h3),h3,h4,sh,ko,mo,hb.get hs h5 (hw _ (hs.lt h5) h4)⟩
 | inst num c=>
  obtain⟨po,sp,h1,h2,h3,h4,fo,ro,h5,h6,h7⟩:=h
  exact⟨po,sp,h1,hb.get hs h2 (hw _ (hs.lt h2) h3),h3,h4,fo,ro,hb.get hs h5 (hw _ (hs.lt h5) h4),hb.get hs h6 (hw _ (hs.lt h6) h7),h7⟩
 | view num kd of=>
  obtain⟨po,h1,h2,h3⟩:=h
  exact⟨po,h1,hb.get hs h2 (hw _ (hs.lt h2) h3),h3⟩
theorem zAw.mono {W W' :Nat→Prop}{s:St}{dv most:Nat}{E:List Ent}(h:zAw W s dv most E)(hw:∀o,W o→W' o):zAw W' s dv most E:=by
 obtain⟨to,eo,co,ro,log,b,st,x,C,ver,p1,p2,v1,v2,v3,v4,v5,p3⟩:=h
 exact⟨to,eo,co,ro,log,b,st,x,C,ver,p1,p2,hw _ v1,hw _ v2,hw _ v3,hw _ v4,hw _ v5,p3⟩
theorem ValAt.mono {P:Nat} {F F' :Nat→Prop}{s:St}{d:D}{v:Val}(h:ValAt P F s d v)(hw:∀o,F o→F' o):ValAt P F' s d v:=by
 cases v with
 | none=>exact h
 | bool b=>exact h
 | int n=>
  obtain⟨y,h1,h2,h3,h4⟩:=h
  exact⟨y,h1,h2,fun o a l c e=>hw _ (h3 o a l c e),h4⟩
 | str t=>exact h
 | row num kd L=>
  obtain⟨ro,lx,st,h1,h2,h3,h6,h4,h5⟩:=h
  exact⟨ro,lx,st,h1,h2,h3,h6,hw _ h4,hw _ h5⟩
 | tbl num kd E=>
  obtain⟨po,dv,h1,h2,h3,h4⟩:=h
  exact⟨po,dv,h1,h2,h3.mono hw,hw _ h4⟩
 | cls num a b=>
  obtain⟨po,dv,fo,h1,h2,h3,h4,sh,ko,mo,h5⟩:=h
  exact⟨po,dv,fo,h1,h2,hw _ h3,hw _ h4,sh,ko,mo,h5⟩
 | inst num c=>
  obtain⟨po,sp,h1,h2,h3,h4,fo,ro,h5,h6,h7⟩:=h
  exact⟨po,sp,h1,h2,hw _ h3,hw _ h4,fo,ro,h5,h6,hw _ h7⟩
 | view num kd of=>
  obtain⟨po,h1,h2,h3⟩:=h
  exact⟨po,h1,h2,hw _ h3⟩
def U32 (s:St)(o:Nat):Prop:=∃es st,s.get o=some (.arr 1 140 es st)
structure Vals (P:Nat)(s:St)(F:Nat→Nat→Prop)(Ds:List D)(Vs:List Val):Prop where
 ln:Ds.length=Vs.length
 at' :∀i d v,Ds[i]? =some d→Vs[i]? =some v→ValAt P (F i) s d v
 dj:∀i j o,F i o→F j o→i=j∨U32 s o
 lt:∀i o,F i o→o < s.n∧i < Ds.length
theorem Vals.get {P:Nat}{s:St}{F:Nat→Nat→Prop}{Ds:List D}{Vs:List Val}(h:Vals P s F Ds Vs){i:Nat}{v:Val}(hi:Vs[i]? =some v):∃d,Ds[i]? =some d∧ValAt P (F i) s d v:=by
 have l:i < Vs.length:=(List.getElem?_eq_some_iff.mp hi).1
 have l2:i < Ds.length:=by rw [h.ln]; exact l
 exact⟨Ds[i],List.getElem?_eq_getElem l2,h.at' i _ _ (List.getElem?_eq_getElem l2) hi⟩
theorem U32.beh {W:Nat→Prop}{s s1:St}{o:Nat}(h:U32 s o)(hs:s.Ok)(hb:Beh W s s1)(hw: ¬ W o):U32 s1 o:=by
 obtain⟨es,st,h⟩:=h
 exact⟨es,st,hb.get hs h hw⟩
theorem Vals.beh {P:Nat}{W:Nat→Prop}{s s1:St}{F:Nat→Nat→Prop}{Ds:List D}{Vs:List Val}(h:Vals P s F Ds Vs)(hs:s.Ok)(hb:Beh W s s1)(hw:∀i j,F i j→ ¬ W j):Vals P s1 F Ds Vs:=
 ⟨h.ln,fun i d v h1 h2=>(h.at' i d v h1 h2).beh hs hb (fun j _ hj=>hw i j hj),fun i j o h1 h2=>(h.dj i j o h1 h2).imp id fun h=>h.beh hs hb (hw i o h1),fun i o ho=>⟨Nat.lt_of_lt_of_le (h.lt i o ho).1 hb.n,(h.lt i o ho).2⟩⟩
def more (F:Nat→Nat→Prop)(k:Nat)(G:Nat→Prop):Nat→Nat→Prop:=fun i o=>if i=k then G o else F i o
theorem Vals.snoc {P:Nat}{W G:Nat→Prop}{s s1:St}{F:Nat→Nat→Prop}{Ds:List D}{Vs:List Val}(h:Vals P s F Ds Vs)(hs:s.Ok)(hb:Beh W s s1)(hw:∀i j,F i j→ ¬ W j){d:D}{v:Val}(hv:ValAt P G s1 d v)(hG:∀o,G o→(s.n≤o∧o < s1.n)∨U32 s1 o):
  Vals P s1 (more F Ds.length G) (Ds++ [d]) (Vs++ [v]):=by
 have h' :=h.beh hs hb hw
 have hF:∀i o,F i o→more F Ds.length G i o:=fun i o ho=>by
  have:=(h.lt i o ho).2
  simp only [more,if_neg (show i≠Ds.length by omega)]; exact ho
 refine⟨by rw [List.length_append,List.length_append,h.ln,List.length_singleton,List.length_singleton],fun i d' v' h1 h2=> ?_,fun i j o h1 h2=> ?_,fun i o h1=> ?_⟩
 ·rcases Nat.lt_trichotomy i Ds.length with hl | hl | hl
  ·rw [List.getElem?_append_left hl]at h1
   rw [List.getElem?_append_left (by rw [← h.ln]; exact hl)]at h2
   exact (h'.at' i d' v' h1 h2).mono (hF i)
  ·subst hl
   rw [List.getElem?_append_right (Nat.le_refl _),Nat.sub_self]at h1
   rw [List.getElem?_append_right (by rw [h.ln]; exact Nat.le_refl _),h.ln,Nat.sub_self]at h2
   simp only [List.getElem?_cons_zero,Option.some.injEq]at h1 h2
   subst h1; subst h2
   exact hv.mono fun o ho=>by simp only [more,if_true]; exact ho
  ·have:=(List.getElem?_eq_some_iff.mp h1).1
   rw [List.length_append,List.length_singleton]at this
   omega
 ·simp only [more]at h1 h2
  split at h1 <;> split at h2
  ·left; omega
  ·rcases hG o h1 with h3 | h3
   ·have:=(h.lt j o h2).1; omega
   ·exact .inr h3
  ·rcases hG o h2 with h3 | h3
   ·have:=(h.lt i o h1).1; omega
   ·exact .inr h3
  ·exact h'.dj i j o h1 h2
 ·simp only [more]at h1
  rw [List.length_append,List.length_singleton]
  split at h1
  ·rcases hG o h1 with h3 | ⟨es,st,h3⟩
   ·omega
   ·have:=hb.ok.lt h3; omega
  ·have:=h'.lt i o h1; omega
section
variable {T:Nat→Option AFn}{H:zAa}{s:St}{so o la ta pl mp P Sh n lv tk i:Nat}{Ds:List D}{d:D}{v:Val}{Q:Nat}{F:Nat→Prop}
theorem yBh (hT:TS T)(h:StA s so o la ta pl mp P Sh Ds n lv tk)(hi:Ds[i]? =some d)(hv:ValAt Q F s d v):
  EvP T H 25 [.ptr so 0,.int .i64 i] s fun d s1=>d= .int .i64 v.kind∧s1=s:=by
 refine evI hT.t25 ?_
 cases v with
 | none=>
  subst hv
  try refine go ?_
  refine clE (zAb hT h hi) ?_
  rintro d s1 ⟨rfl,rfl⟩
  repeat' first | refine go ?_ | refine zAi hT.t198 ?_
  exact rtF ⟨rfl,rfl⟩
 | bool b=>
  subst hv
  try refine go ?_
  refine clE (zAb hT h hi) ?_
  rintro d s1 ⟨rfl,rfl⟩
  repeat' first | refine go ?_ | refine zAi hT.t199 ?_
  exact rtF ⟨rfl,rfl⟩
 | int n=>
  obtain⟨y,rfl,h2,h3⟩:=hv
  rcases h2.sh with ⟨nl,z,l,rfl⟩ | ⟨o',l,c,rfl⟩
  all_goals
   try refine go ?_
   refine clE (zAb hT h hi) ?_
   rintro d s1 ⟨rfl,rfl⟩
   repeat' first | refine go ?_ | refine zAi hT.t213 ?_
   exact rtF ⟨rfl,rfl⟩
 | str t=>
  obtain⟨rfl,h2⟩:=hv
  try refine go ?_
  refine clE (zAb hT h hi) ?_
  rintro d s1 ⟨rfl,rfl⟩
  repeat' first | refine go ?_ | refine zAi hT.t204 ?_
  exact rtF ⟨rfl,rfl⟩
 | row num kd L=>
  obtain⟨ro,lx,st,rfl,h2,h3⟩:=hv
  try refine go ?_
  refine clE (zAb hT h hi) ?_
  rintro d s1 ⟨rfl,rfl⟩
  repeat' first | refine go ?_ | refine zAi hT.t200 ?_
  exact rtF ⟨rfl,rfl⟩
 | tbl num kd E=>
  obtain⟨po,dv,rfl,h2,h3⟩:=hv
  try refine go ?_
  refine clE (zAb hT h hi) ?_
  rintro d s1 ⟨rfl,rfl⟩
  repeat' first | refine go ?_ | refine zAi hT.t206 ?_
  exact rtF ⟨rfl,rfl⟩
 | cls num a b=>
  obtain⟨po,dv,fo,rfl,h2,h3⟩:=hv
  try refine go ?_
  refine clE (zAb hT h hi) ?_
  rintro d s1 ⟨rfl,rfl⟩
  repeat' first | refine go ?_ | refine zAi hT.t218 ?_
  exact rtF ⟨rfl,rfl⟩
 | inst num c=>
  obtain⟨po,sp,rfl,h2,h3⟩:=hv
  try refine go ?_
  refine clE (zAb hT h hi) ?_
  rintro d s1 ⟨rfl,rfl⟩
  repeat' first | refine go ?_ | refine zAi hT.t210 ?_
  exact rtF ⟨rfl,rfl⟩
 | view num kd of=>
  obtain⟨po,rfl,h2,h3⟩:=hv
  try refine go ?_
  refine clE (zAb hT h hi) ?_
  rintro d s1 ⟨rfl,rfl⟩
  repeat' first | refine go ?_ | refine zAi hT.t208 ?_
  exact rtF ⟨rfl,rfl⟩
theorem zZo (hT:TS T)(h:StA s so o la ta pl mp P Sh Ds n lv tk)(hi:Ds[i]? =some d)(hv:ValAt Q F s d v):
  EvP T H 10 [.ptr so 0,.int .i64 i] s fun d s1=>d= .int .i64 v.num∧s1=s:=by
 refine evI hT.t10 ?_
 have ld:∀ {o c:Nat} {d:D},s.get o=some (.var c d)→∀x,(match d with | .agg (y::_)=>some y | _=>none)=some x→x.sc=true→zQw s (.ptr o 0) (.load 0 (some 1))=some (.agg [x]):=by
  intro o c d hg x hx hsc
  cases d <;> first | (cases hx; done) | skip
  rename_i l
  cases l with
  | nil=>cases hx
  | cons y l=>
   simp only [Option.some.injEq]at hx; subst hx
   have e:Nat.ble (0+0+1) (y::l).length=true:=Nat.ble_eq_true_of_le (by simp)
   show zPr s (some 1) (.ptr o (0+0))=_
   simp only [zPr,hg,D.flat,part,e]
   rfl
 cases v with
 | none=>
  subst hv
  try refine go ?_
  refine clE (zAb hT h hi) ?_
  rintro d s1 ⟨rfl,rfl⟩
  repeat' first | refine go ?_ | refine zAi hT.t197 ?_
  exact rtF ⟨rfl,rfl⟩
 | bool b=>
  subst hv
  try refine go ?_
  refine clE (zAb hT h hi) ?_
  rintro d s1 ⟨rfl,rfl⟩
  repeat' first | refine go ?_ | refine zAi hT.t197 ?_
  exact rtF ⟨rfl,rfl⟩
 | int n=>
  obtain⟨y,rfl,h2,h3⟩:=hv
  rcases h2.sh with ⟨nl,z,l,rfl⟩ | ⟨o',l,c,rfl⟩
  all_goals
   try refine go ?_
   refine clE (zAb hT h hi) ?_
   rintro d s1 ⟨rfl,rfl⟩
   repeat' first | refine go ?_ | refine zAi hT.t197 ?_
   exact rtF ⟨rfl,rfl⟩
 | str t=>
  obtain⟨rfl,h2⟩:=hv
  try refine go ?_
  refine clE (zAb hT h hi) ?_
  rintro d s1 ⟨rfl,rfl⟩
  repeat' first | refine go ?_ | refine zAi hT.t197 ?_
  exact rtF ⟨rfl,rfl⟩
 | row num kd L=>
  obtain⟨ro,lx,st,rfl,h2,h3⟩:=hv
  have h4:=ld h2 _ rfl rfl
  try refine go ?_
  refine clE (zAb hT h hi) ?_
  rintro d s1 ⟨rfl,rfl⟩
  repeat' first | refine go ?_ | refine zCc ?_ (hu:=h4) | refine zAi hT.t202 ?_
  exact rtF ⟨rfl,rfl⟩
 | tbl num kd E=>
  obtain⟨po,dv,rfl,h2,h3⟩:=hv
  have h4:=ld h2 _ rfl rfl
  try refine go ?_
  refine clE (zAb hT h hi) ?_
  rintro d s1 ⟨rfl,rfl⟩
  repeat' first | refine go ?_ | refine zCc ?_ (hu:=h4) | refine zAi hT.t202 ?_
  exact rtF ⟨rfl,rfl⟩
 | cls num a b=>
  obtain⟨po,dv,fo,rfl,h2,h3⟩:=hv
  have h4:=ld h2 _ rfl rfl
  try refine go ?_
  refine clE (zAb hT h hi) ?_
  rintro d s1 ⟨rfl,rfl⟩
  repeat' first | refine go ?_ | refine zCc ?_ (hu:=h4) | refine zAi hT.t202 ?_
  exact rtF ⟨rfl,rfl⟩
 | inst num c=>
  obtain⟨po,sp,rfl,h2,h3⟩:=hv
  have h4:=ld h2 _ rfl rfl
  try refine go ?_
  refine clE (zAb hT h hi) ?_
  rintro d s1 ⟨rfl,rfl⟩
  repeat' first | refine go ?_ | refine zCc ?_ (hu:=h4) | refine zAi hT.t202 ?_
  exact rtF ⟨rfl,rfl⟩
 | view num kd of=>
  obtain⟨po,rfl,h2,h3⟩:=hv
  have h4:=ld h2 _ rfl rfl
  try refine go ?_
  refine clE (zAb hT h hi) ?_
  rintro d s1 ⟨rfl,rfl⟩
  repeat' first | refine go ?_ | refine zCc ?_ (hu:=h4) | refine zAi hT.t202 ?_
  exact rtF ⟨rfl,rfl⟩
end
def Val.whole:Val→Option (Bool×List Nat)
 | .bool b=>some (if b then (false,[1]) else (false,[]))
 | .int n=>some n
 | _=>Option.none
def Val.text:Val→Option (List UInt8)
 | .str t=>some t
 | _=>Option.none
section
variable {T:Nat→Option AFn}{H:zAa}{s:St}{so o la ta pl mp P Sh n lv tk i:Nat}{Ds:List D}{d:D}{v:Val}{Q:Nat}{F:Nat→Prop}
theorem zBi (hS:TS T)(hW:TW T)(hV:TV T)(h:StA s so o la ta pl mp P Sh Ds n lv tk)(hi:Ds[i]? =some d)(hv:ValAt Q F s d v):
  EvP T H 22 [.ptr so 0,.int .i64 i] s fun d s1=>s1=s∧∃x,d= .tup [x,.bool v.whole.isSome]∧IsN s x (v.whole.getD (false,[])):=by
 have ho0:=Of_ev (H:=H) (s:=s) hW hV (.inl rfl)
 have ho1:=Of_ev (H:=H) (s:=s) hW hV (.inr (.inl rfl))
 simp only [if_true,if_false,Int.one_ne_zero,show ((1:Int)=0)=False by simp]at ho0 ho1
 have nz:IsN s (.agg [.bool false,.vs true 0 []]) (false,[]):=⟨_,rfl,.nil⟩
 refine evI hS.t22 ?_
 cases v with
 | none=>
  subst hv
  try refine go ?_
  refine clE (zAb hS h hi) ?_
  rintro d s1 ⟨rfl,rfl⟩
  try refine go ?_
  exact rtF ⟨rfl,_,rfl,nz⟩
 | bool b=>
  subst hv
  try refine go ?_
  refine clE (zAb hS h hi) ?_
  rintro d s1 ⟨rfl,rfl⟩
  try refine go ?_
  cases b
  ·try refine go ?_
   refine clE ho0 ?_
   rintro d s1 ⟨rfl,y,rfl,hy⟩
   rcases hy.sh with ⟨nl,z,l,rfl⟩ | ⟨o',l,c,rfl⟩
   all_goals
    repeat' first | refine go ?_ | refine opL ?_
    exact rtF ⟨rfl,_,rfl,_,rfl,hy⟩
  ·try refine go ?_
   refine clE ho1 ?_
   rintro d s1 ⟨rfl,y,rfl,hy⟩
   rcases hy.sh with ⟨nl,z,l,rfl⟩ | ⟨o',l,c,rfl⟩
   all_goals
    repeat' first | refine go ?_ | refine opL ?_
    exact rtF ⟨rfl,_,rfl,_,rfl,hy⟩
 | int n=>
  obtain⟨y,rfl,h2,h3⟩:=hv
  rcases h2.sh with ⟨nl,z,l,rfl⟩ | ⟨o',l,c,rfl⟩
  all_goals
   try refine go ?_
   refine clE (zAb hS h hi) ?_
   rintro d s1 ⟨rfl,rfl⟩
   try refine go ?_
   exact rtF ⟨rfl,_,rfl,_,rfl,h2⟩
 | str t=>
  obtain⟨rfl,h2⟩:=hv
  try refine go ?_
  refine clE (zAb hS h hi) ?_
  rintro d s1 ⟨rfl,rfl⟩
  try refine go ?_
  exact rtF ⟨rfl,_,rfl,nz⟩
 | row num kd L=>
  obtain⟨ro,lx,st,rfl,h2,h3⟩:=hv
  try refine go ?_
  refine clE (zAb hS h hi) ?_
  rintro d s1 ⟨rfl,rfl⟩
  try refine go ?_
  exact rtF ⟨rfl,_,rfl,nz⟩
 | tbl num kd E=>
  obtain⟨po,dv,rfl,h2,h3⟩:=hv
  try refine go ?_
  refine clE (zAb hS h hi) ?_
  rintro d s1 ⟨rfl,rfl⟩
  try refine go ?_
  exact rtF ⟨rfl,_,rfl,nz⟩
 | cls num a b=>
  obtain⟨po,dv,fo,rfl,h2,h3⟩:=hv
  try refine go ?_
  refine clE (zAb hS h hi) ?_
  rintro d s1 ⟨rfl,rfl⟩
  try refine go ?_
  exact rtF ⟨rfl,_,rfl,nz⟩
 | inst num c=>
  obtain⟨po,sp,rfl,h2,h3⟩:=hv
  try refine go ?_
  refine clE (zAb hS h hi) ?_
  rintro d s1 ⟨rfl,rfl⟩
  try refine go ?_
  exact rtF ⟨rfl,_,rfl,nz⟩
 | view num kd of=>
  obtain⟨po,rfl,h2,h3⟩:=hv
  try refine go ?_
  refine clE (zAb hS h hi) ?_
  rintro d s1 ⟨rfl,rfl⟩
  try refine go ?_
  exact rtF ⟨rfl,_,rfl,nz⟩
theorem zCf (hS:TS T)(h:StA s so o la ta pl mp P Sh Ds n lv tk)(hi:Ds[i]? =some d)(hv:ValAt Q F s d v):
  EvP T H 24 [.ptr so 0,.int .i64 i] s fun d s1=>d= .tup [.str (v.text.getD []),.bool v.text.isSome]∧s1=s:=by
 refine evI hS.t24 ?_
 cases v with
 | none=>
  subst hv
  try refine go ?_
  refine clE (zAb hS h hi) ?_
  rintro d s1 ⟨rfl,rfl⟩
  try refine go ?_
  exact rtF ⟨rfl,rfl⟩
 | bool b=>
  subst hv
  try refine go ?_
  refine clE (zAb hS h hi) ?_
  rintro d s1 ⟨rfl,rfl⟩
  try refine go ?_
  exact rtF ⟨rfl,rfl⟩
 | int n=>
  obtain⟨y,rfl,h2,h3⟩:=hv
  try refine go ?_
  refine clE (zAb hS h hi) ?_
  rintro d s1 ⟨rfl,rfl⟩
  try refine go ?_
  exact rtF ⟨rfl,rfl⟩
 | str t=>
  obtain⟨rfl,h2⟩:=hv
  try refine go ?_
  refine clE (zAb hS h hi) ?_
  rintro d s1 ⟨rfl,rfl⟩
  try refine go ?_
  exact rtF ⟨rfl,rfl⟩
 | row num kd L=>
  obtain⟨ro,lx,st,rfl,h2,h3⟩:=hv
  try refine go ?_
  refine clE (zAb hS h hi) ?_
  rintro d s1 ⟨rfl,rfl⟩
  try refine go ?_
  exact rtF ⟨rfl,rfl⟩
 | tbl num kd E=>
  obtain⟨po,dv,rfl,h2,h3⟩:=hv
  try refine go ?_
  refine clE (zAb hS h hi) ?_
  rintro d s1 ⟨rfl,rfl⟩
  try refine go ?_
  exact rtF ⟨rfl,rfl⟩
 | cls num a b=>
  obtain⟨po,dv,fo,rfl,h2,h3⟩:=hv
  try refine go ?_
  refine clE (zAb hS h hi) ?_
  rintro d s1 ⟨rfl,rfl⟩
  try refine go ?_
  exact rtF ⟨rfl,rfl⟩
 | inst num c=>
  obtain⟨po,sp,rfl,h2,h3⟩:=hv
  try refine go ?_
  refine clE (zAb hS h hi) ?_
  rintro d s1 ⟨rfl,rfl⟩
  try refine go ?_
  exact rtF ⟨rfl,rfl⟩
 | view num kd of=>
  obtain⟨po,rfl,h2,h3⟩:=hv
  try refine go ?_
  refine clE (zAb hS h hi) ?_
  rintro d s1 ⟨rfl,rfl⟩
  try refine go ?_
  exact rtF ⟨rfl,rfl⟩
end
def zTl:List (Nat×Nat×Recv):=match code25.body with
 | .seq _ (.seq (.seq _ (.seq _ (.cond _ (.seq (.reg (_::⟨_,.invoke t _ _,_,_⟩::_)) _) _))) _)=>t
 | _=> []
def zPs (i:Nat)(v:Val)(j:Nat)(w:Val):Bool:=
 decide (i=j) || match v.whole,w.whole with
  | some a,some b=>decide (zPp a.1 a.2=zPp b.1 b.2)
  | _,_=>(match v.text,w.text with
   | some a,some b=>a==b
   | _,_=>false) || (v.kind==1 && w.kind==1)
theorem ValAt.ifc {Q:Nat}{F:Nat→Prop}{s:St}{d:D}{v:Val}(h:ValAt Q F s d v):∃ty x,d= .ifc ty x∧Nat.beq ty 81=false:=by
 cases v with
 | none=>exact ⟨_,_,h,rfl⟩
 | bool b=>exact ⟨_,_,h,rfl⟩
 | int n=>obtain ⟨y,rfl,_⟩:=h; exact ⟨_,_,rfl,rfl⟩
 | str t=>obtain ⟨rfl,_⟩:=h; exact ⟨_,_,rfl,rfl⟩
 | row num kd L=>obtain ⟨_,_,_,rfl,_⟩:=h; exact ⟨_,_,rfl,rfl⟩
 | tbl num kd E=>obtain ⟨_,_,rfl,_⟩:=h; exact ⟨_,_,rfl,rfl⟩
 | cls num a b=>obtain ⟨_,_,_,rfl,_⟩:=h; exact ⟨_,_,rfl,rfl⟩
 | inst num c=>obtain ⟨_,_,rfl,_⟩:=h; exact ⟨_,_,rfl,rfl⟩
 | view num kd of=>obtain ⟨_,rfl,_⟩:=h; exact ⟨_,_,rfl,rfl⟩
section
variable {T:Nat→Option AFn}{H:zAa}{s:St}{b t:Nat}{l:List zPk}{k:List Kont}{e:Env}{ds:List (D×List D)}{g:Option (Nat×Bool)}{QQ:QP}{d:D}{v:Val}{Q:Nat}{F:Nat→Prop}
theorem zCj (hT:TS T){x:Opd}(hv:ValAt Q F s d v)(h:Ops T H b l k ⟨(t,.int .i64 v.kind)::e,ds⟩ s QQ)(hw:wtD e g=some true:=by rfl)(hx:x.ev e=some d:=by rfl):Ops T H b (⟨some t,.invoke zTl x [],g,none⟩::l) k ⟨e,ds⟩ s QQ:=by
 have key:∀ {ty f:Nat} {y:D},d= .ifc ty y→tblR zTl ty=some (f,.self)→EvP T H f [y] s (fun d s1=>d= .int .i64 v.kind∧s1=s)→Ops T H b (⟨some t,.invoke zTl x [],g,none⟩::l) k ⟨e,ds⟩ s QQ:=by
  intro ty f y hd ht hE
  subst hd
  refine zCc (clE hE ?_) hw hx rfl ht rfl
  rintro d s1 ⟨rfl,rfl⟩
  exact h
 cases v with
 | none=>
  refine key hv rfl (evI hT.t198 ?_)
  try refine go ?_
  exact rtF ⟨rfl,rfl⟩
 | bool b=>
  refine key hv rfl (evI hT.t199 ?_)
  try refine go ?_
  exact rtF ⟨rfl,rfl⟩
 | int n=>
  obtain⟨y,hd,h2,h3⟩:=hv
  rcases h2.sh with ⟨nl,z,l,rfl⟩ | ⟨o',l,c,rfl⟩
  all_goals
   refine key hd rfl (evI hT.t213 ?_)
   try refine go ?_
   exact rtF ⟨rfl,rfl⟩
 | str t=>
  refine key hv.1 rfl (evI hT.t204 ?_)
  try refine go ?_
  exact rtF ⟨rfl,rfl⟩
 | row num kd L=>
  obtain⟨ro,lx,st,hd,h2,h3⟩:=hv
  refine key hd rfl (evI hT.t200 ?_)
  try refine go ?_
  exact rtF ⟨rfl,rfl⟩
 | tbl num kd E=>
  obtain⟨po,dv,hd,h2,h3⟩:=hv
  refine key hd rfl (evI hT.t206 ?_)
  try refine go ?_
  exact rtF ⟨rfl,rfl⟩
 | cls num a b=>
  obtain⟨po,dv,fo,hd,h2,h3⟩:=hv
  refine key hd rfl (evI hT.t218 ?_)
  try refine go ?_
  exact rtF ⟨rfl,rfl⟩
 | inst num c=>
  obtain⟨po,sp,hd,h2,h3⟩:=hv
  refine key hd rfl (evI hT.t210 ?_)
  try refine go ?_
  exact rtF ⟨rfl,rfl⟩
 | view num kd of=>
  obtain⟨po,hd,h2,h3⟩:=hv
  refine key hd rfl (evI hT.t208 ?_)
  try refine go ?_
  exact rtF ⟨rfl,rfl⟩
end
theorem zDf {C:zAa}{s:St}{al:Option Nat}{e:Env}{t ty:Nat}{z y:D}{x:Opd}(hx:x.ev e=some (.ifc ty y))(ht:Nat.beq ty t=false):opF C e s al (.tassert t z true x)=some (.tup [z,.bool false],s):=by
 simp only [opF,hx,ht]
theorem Ws.sc {s:St}{y:D}{V:List Nat}(h:Ws s y V):y.sc=true:=by cases h <;> rfl
theorem zQn {s:St}{y p q:D}{a:Bool}{V:List Nat}(h:Ws s y V):D.over (.agg [p,q]) 0 (.agg [.bool a,y])=some (.agg [.bool a,y]):=by
 cases h <;> rfl
section
variable {T:Nat→Option AFn}{H:zAa}{s:St}{so o la ta pl mp P Sh n lv tk i j:Nat}{Ds:List D} {d d' :D}{v w:Val}{Q:Nat} {F F' :Nat→Prop}
theorem ValAt.wlen (h:ValAt Q F s d v):(v.whole.getD (false,[])).2.length≤mxE:=by
 simp only [mxE]
 cases v with
 | int n=>obtain ⟨y,_,_,_,h⟩:=h; simp only [Val.whole,Option.getD]; omega
 | bool b=>cases b <;> simp [Val.whole]
 | _=>simp [Val.whole]
theorem zZa (hS:TS T)(hW:TW T)(hV:TV T)(hs:s.Ok)(h:StA s so o la ta pl mp P Sh Ds n lv tk)(hi:Ds[i]? =some d)(hv:ValAt Q F s d v)(hj:Ds[j]? =some d')(hw:ValAt Q F' s d' w)(hij:i=j):
  EvP T H 11 [.ptr so 0,.int .i64 i,.int .i64 j] s fun d s1=>d= .bool (true)∧s1=s:=by
 obtain⟨ty,x,rfl,hn⟩:=hv.ifc
 obtain⟨ty',x',rfl,hn'⟩:=hw.ifc
 have gi:=zAb (H:=H) hS h hi
 have gj:=zAb (H:=H) hS h hj
 have wi:=zBi (H:=H) hS hW hV h hi hv
 have wj:=zBi (H:=H) hS hW hV h hj hw
 have ti:=zCf (H:=H) hS h hi hv
 have tj:=zCf (H:=H) hS h hj hw
 have l1:=hv.wlen
 have l2:=hw.wlen
 refine evI hS.t11 ?_
 try refine go ?_
 refine clE gi ?_
 rintro d s1 ⟨rfl,rfl⟩
 try refine go ?_
 refine clE gj ?_
 rintro d s1 ⟨rfl,rfl⟩
 try refine go ?_
 exact rtF ⟨rfl,rfl⟩
theorem zUp (hS:TS T)(hW:TW T)(hV:TV T)(hs:s.Ok)(h:StA s so o la ta pl mp P Sh Ds n lv tk)(hi:Ds[i]? =some d)(hv:ValAt Q F s d v)(hj:Ds[j]? =some d')(hw:ValAt Q F' s d' w)(hij:i≠j){a b:Bool×List Nat}(ha:v.whole=some a)(hb:w.whole=some b):
  EvP T H 11 [.ptr so 0,.int .i64 i,.int .i64 j] s fun d s1=>d= .bool (decide (zPp a.1 a.2=zPp b.1 b.2))∧s1=s:=by
 obtain⟨ty,x,rfl,hn⟩:=hv.ifc
 obtain⟨ty',x',rfl,hn'⟩:=hw.ifc
 have gi:=zAb (H:=H) hS h hi
 have gj:=zAb (H:=H) hS h hj
 have wi:=zBi (H:=H) hS hW hV h hi hv
 have wj:=zBi (H:=H) hS hW hV h hj hw
 have ti:=zCf (H:=H) hS h hi hv
 have tj:=zCf (H:=H) hS h hj hw
 have l1:=hv.wlen
 have l2:=hw.wlen
 simp only [ha,hb,Option.getD,Option.isSome]at wi wj l1 l2
 refine evI hS.t11 ?_
 try refine go ?_
 refine clE gi ?_
 rintro d s1 ⟨rfl,rfl⟩
 try refine go ?_
 refine clE gj ?_
 rintro d s1 ⟨rfl,rfl⟩
 try refine go ?_
 refine clE wi ?_
 rintro d s1 ⟨rfl,x1,rfl,hx1⟩
 have hz1:=hx1
 obtain⟨y1,rfl,hy1⟩:=hx1
 have ov1:=fun p q=>zQn (p:=p) (q:=q) (a:=a.1) hy1
 repeat' first | refine go ?_ | refine opL ?_ (hp:=ov1 _ _)
 refine clE wj ?_
 rintro d s1 ⟨rfl,x2,rfl,hx2⟩
 have hz2:=hx2
 obtain⟨y2,rfl,hy2⟩:=hx2
 have ov2:=fun p q=>zQn (p:=p) (q:=q) (a:=b.1) hy2
 have hcmp:=zZc (H:=H) hW hV hs hz1 hz2 l1 l2
 repeat' first | refine go ?_ | refine opL ?_ (hp:=ov2 _ _)
 refine clE hcmp ?_
 rintro d s1 ⟨rfl,c,rfl,hc⟩
 try refine go ?_
 exact rtF ⟨congrArg D.bool (decide_eq_decide.mpr hc),rfl⟩
end
end Go.Proofs.YtmcdajnpdekocaaGreatDoor.Tab
