/- Part. -/
import Derived.Test.YtdkejjahldkkoaaGreatDoorG28
set_option linter.unusedSectionVars false
set_option maxRecDepth 100000
set_option maxHeartbeats 1000000
set_option linter.unusedSimpArgs false
set_option linter.unusedVariables false
namespace Go.Proofs.Tab
open Go Go.Ab Go.Ab.Sm
inductive gX where
 | none
 | bool (b:Bool)
 | int (n:Bool×List Nat)
 | str (t:List UInt8)
 | row (num kd:Nat) (L:List Int)
 | tG (num kd:Nat) (E:List eS)
 | cls (num:Nat) (h sm:Bool)
 | inst (num c:Nat)
 | view (num kd:Nat) (of:Int)
def gX.kind:gX->Nat
 | .none=>1
 | .bool _=>2
 | .int _=>3
 | .str _=>4
 | .row _ kd _=>kd
 | .tG _ kd _=>kd
 | .cls .. =>13
 | .inst .. =>14
 | .view _ kd _=>kd
def gX.num:gX->Nat
 | .row n _ _=>n
 | .tG n _ _=>n
 | .cls n _ _=>n
 | .inst n _=>n
 | .view n _ _=>n
 | _=>0
def ints (L:List Int):List D:=L.map fun v=>D.int .i64 v
theorem fw (L:List Int):(ints L).length=L.length:=aH _
def fH (P:Nat)(F:Nat->Prop)(s:St)(d:D):gX->Prop
 | .none=>d= .ig 76 (.agg [])
 | .bool b=>d= .ig 78 (.agg [.bool b])
 | .int n=>∃y,d= .ig 180 (.agg [.bool n.1,y])/\Ws s y n.2/\(∀o a l c,y= .sl o a l c->F o)/\n.2.length<=100000000
 | .str t=>d= .ig 110 (.agg [.str t])/\t.length<=1000000000
 | .row num kd L=>∃ro lx st,d= .ig 100 (.ptr ro 0)/\s.get ro=some (.var 106 (.agg [.int .i64 num,.sl lx 0 L.length L.length,.int .i64 kd]))/\s.get lx=some (.arr 1 3 (ints L) st)/\st<=L.length/\F ro/\F lx
 | .tG num kd E=>∃po dv,d= .ig 152 (.ptr po 0)/\s.get po=some (.var 217 (.agg [.int .i64 num,.ptr dv 0,.int .i64 kd]))/\fC F s dv P E/\F po
 | .cls num h sm=>∃po dv fo,d= .ig 134 (.ptr po 0)/\s.get po=some (.var 139 (.agg [.int .i64 num,.ptr dv 0,.str [67],.int .i64 (-1),.ptr fo 0,.bool h,.bool sm]))/\
   (F po/\F fo/\∃(sh:Nat) (ko mo:Nat),s.get fo=some (.var 241 (.agg [.int .i64 sh,.int .i64 P,.cT,.ptr ko 0,.vs true 0 [],.mp mo])))
 | .inst num c=>∃po sp,d= .ig 156 (.ptr po 0)/\s.get po=some (.var 190 (.agg [.int .i64 num,.ptr sp 0,.int .i64 c]))/\
   (F po/\F sp/\∃fo ro,s.get sp=some (.var 249 (.agg [.ptr fo 0,.ig 243 (.ptr ro 0),.int .u64 0]))/\s.get ro=some (.var 245 (.agg [.vs true 0 []]))/\F ro)
 | .view num kd of=>∃po,d= .ig 154 (.ptr po 0)/\s.get po=some (.var 193 (.agg [.int .i64 num,.int .i64 of,.int .i64 kd]))/\F po
theorem Ws.Xk {W:Nat->Prop}{s s1:St}{x:D}{V:List Nat}(h:Ws s x V)(hs:s.Ok)(hb:aC W s s1)(hw:∀o a l c,x= .sl o a l c-> ¬ W o):Ws s1 x V:=by
 rcases h with ⟨nl,V,hn⟩ | _ | ⟨o,cp,V,R,hg,hc⟩
 ·exact .vs nl V hn
 ·exact .nil
 ·exact .sl o cp V R (hb.get hs hg (hw _ _ _ _ rfl)) hc
theorem fH.dU {P:Nat}{F W:Nat->Prop}{s s1:St}{d:D}{v:gX}(h:fH P F s d v)(hs:s.Ok)(hb:aC W s s1)(hw:∀j,j < s.n->F j-> ¬ W j):fH P F s1 d v:=by
 cases v with
 | none=>exact h
 | bool b=>exact h
 | int n=>
  obtain⟨y,h1,h2,h3,h4⟩:=h
  exact⟨y,h1,h2.Xk hs hb (fun o a l c e=>by
   subst e;rcases h2 with _ | _ | ⟨_,_,_,_,hg,_⟩;exact hw o (hs.lt hg) (h3 _ _ _ _ rfl)),h3,h4⟩
 | str t=>exact h
 | row num kd L=>
  obtain⟨ro,lx,st,h1,h2,h3,h6,h4,h5⟩:=h;exact⟨ro,lx,st,h1,hb.get hs h2 (hw _ (hs.lt h2) h4),hb.get hs h3 (hw _ (hs.lt h3) h5),h6,h4,h5⟩
 | tG num kd E=>
  obtain⟨po,dv,h1,h2,h3,h4⟩:=h;exact⟨po,dv,h1,hb.get hs h2 (hw _ (hs.lt h2) h4),h3.dU hs hb hw,h4⟩
 | cls num a b=>
  obtain⟨po,dv,fo,h1,h2,h3,h4,sh,ko,mo,h5⟩:=h;exact⟨po,dv,fo,h1,hb.get hs h2 (hw _ (hs.lt h2) h3),h3,h4,sh,ko,mo,hb.get hs h5 (hw _ (hs.lt h5) h4)⟩
 | inst num c=>
  obtain⟨po,sp,h1,h2,h3,h4,fo,ro,h5,h6,h7⟩:=h;exact⟨po,sp,h1,hb.get hs h2 (hw _ (hs.lt h2) h3),h3,h4,fo,ro,hb.get hs h5 (hw _ (hs.lt h5) h4),hb.get hs h6 (hw _ (hs.lt h6) h7),h7⟩
 | view num kd of=>
  obtain⟨po,h1,h2,h3⟩:=h;exact⟨po,h1,hb.get hs h2 (hw _ (hs.lt h2) h3),h3⟩
theorem fC.mono {W W' :Nat->Prop}{s:St}{dv most:Nat}{E:List eS}(h:fC W s dv most E)(hw:∀o,W o->W' o):fC W' s dv most E:=by
 obtain⟨to,eo,co,ro,log,b,st,x,C,ver,p1,p2,v1,v2,v3,v4,v5,p3⟩:=h;exact⟨to,eo,co,ro,log,b,st,x,C,ver,p1,p2,hw _ v1,hw _ v2,hw _ v3,hw _ v4,hw _ v5,p3⟩
theorem fH.mono {P:Nat} {F F' :Nat->Prop}{s:St}{d:D}{v:gX}(h:fH P F s d v)(hw:∀o,F o->F' o):fH P F' s d v:=by
 cases v with
 | none=>exact h
 | bool b=>exact h
 | int n=>
  obtain⟨y,h1,h2,h3,h4⟩:=h;exact⟨y,h1,h2,fun o a l c e=>hw _ (h3 o a l c e),h4⟩
 | str t=>exact h
 | row num kd L=>
  obtain⟨ro,lx,st,h1,h2,h3,h6,h4,h5⟩:=h;exact⟨ro,lx,st,h1,h2,h3,h6,hw _ h4,hw _ h5⟩
 | tG num kd E=>
  obtain⟨po,dv,h1,h2,h3,h4⟩:=h;exact⟨po,dv,h1,h2,h3.mono hw,hw _ h4⟩
 | cls num a b=>
  obtain⟨po,dv,fo,h1,h2,h3,h4,sh,ko,mo,h5⟩:=h;exact⟨po,dv,fo,h1,h2,hw _ h3,hw _ h4,sh,ko,mo,h5⟩
 | inst num c=>
  obtain⟨po,sp,h1,h2,h3,h4,fo,ro,h5,h6,h7⟩:=h;exact⟨po,sp,h1,h2,hw _ h3,hw _ h4,fo,ro,h5,h6,hw _ h7⟩
 | view num kd of=>
  obtain⟨po,h1,h2,h3⟩:=h;exact⟨po,h1,h2,hw _ h3⟩
def E5 (s:St)(o:Nat):Prop:=∃es st,s.get o=some (.arr 1 263 es st)
structure eW (P:Nat)(s:St)(F:Nat->Nat->Prop)(Ds:List D)(Vs:List gX):Prop where
 ln:Ds.length=Vs.length
 at' :∀i d v,Ds[i]? =some d->Vs[i]? =some v->fH P (F i) s d v
 dj:∀i j o,F i o->F j o->i=j\/E5 s o
 lt:∀i o,F i o->o < s.n/\i < Ds.length
theorem eW.get {P:Nat}{s:St}{F:Nat->Nat->Prop}{Ds:List D}{Vs:List gX}(h:eW P s F Ds Vs){i:Nat}{v:gX}(hi:Vs[i]? =some v):∃d,Ds[i]? =some d/\fH P (F i) s d v:=by
 have l:i < Vs.length:=(af.mp hi).1;have l2:i < Ds.length:=by rw [h.ln]; exact l
 exact⟨Ds[i],ae l2,h.at' i _ _ (ae l2) hi⟩
theorem E5.dU {W:Nat->Prop}{s s1:St}{o:Nat}(h:E5 s o)(hs:s.Ok)(hb:aC W s s1)(hw: ¬ W o):E5 s1 o:=by
 obtain⟨es,st,h⟩:=h;exact⟨es,st,hb.get hs h hw⟩
theorem eW.dU {P:Nat}{W:Nat->Prop}{s s1:St}{F:Nat->Nat->Prop}{Ds:List D}{Vs:List gX}(h:eW P s F Ds Vs)(hs:s.Ok)(hb:aC W s s1)(hw:∀i j,F i j-> ¬ W j):eW P s1 F Ds Vs:=
 ⟨h.ln,fun i d v h1 h2=>(h.at' i d v h1 h2).dU hs hb (fun j _ hj=>hw i j hj),fun i j o h1 h2=>(h.dj i j o h1 h2).imp id fun h=>h.dU hs hb (hw i o h1),fun i o ho=>⟨eX (h.lt i o ho).1 hb.n,(h.lt i o ho).2⟩⟩
def more (F:Nat->Nat->Prop)(k:Nat)(G:Nat->Prop):Nat->Nat->Prop:=fun i o=>if i=k then G o else F i o
theorem eW.snoc {P:Nat}{W G:Nat->Prop}{s s1:St}{F:Nat->Nat->Prop}{Ds:List D}{Vs:List gX}(h:eW P s F Ds Vs)(hs:s.Ok)(hb:aC W s s1)(hw:∀i j,F i j-> ¬ W j){d:D}{v:gX}(hv:fH P G s1 d v)(hG:∀o,G o->(s.n<=o/\o < s1.n)\/E5 s1 o):
  eW P s1 (more F Ds.length G) (Ds++ [d]) (Vs++ [v]):=by
 have h' :=h.dU hs hb hw
 have hF:∀i o,F i o->more F Ds.length G i o:=fun i o ho=>by
  have:=(h.lt i o ho).2;simp only [more,aJ (show i≠Ds.length by omega)]; exact ho
 refine⟨by rw [aB,aB,h.ln,aW,aW],fun i d' v' h1 h2=> ?_,fun i j o h1 h2=> ?_,fun i o h1=> ?_⟩
 ·rcases h9 i Ds.length with hl | hl | hl
  ·rw [aO hl]at h1;rw [aO (by rw [← h.ln]; exact hl)]at h2;exact (h'.at' i d' v' h1 h2).mono (hF i)
  ·subst hl;rw [aT (an _),eF]at h1;rw [aT (by rw [h.ln]; exact an _),h.ln,eF]at h2;simp only [aQ,aa]at h1 h2;subst h1; subst h2;exact hv.mono fun o ho=>by simp only [more,ep]; exact ho
  ·have:=(af.mp h1).1;rw [aB,aW]at this;omega
 ·simp only [more]at h1 h2;split at h1 <;> split at h2
  ·left; omega
  ·rcases hG o h1 with h3 | h3
   ·have:=(h.lt j o h2).1; omega
   ·exact .inr h3
  ·rcases hG o h2 with h3 | h3
   ·have:=(h.lt i o h1).1; omega
   ·exact .inr h3
  ·exact h'.dj i j o h1 h2
 ·simp only [more]at h1;rw [aB,aW];split at h1
  ·rcases hG o h1 with h3 | ⟨es,st,h3⟩
   ·omega
   ·have:=hb.ok.lt h3; omega
  ·have:=h'.lt i o h1; omega
section
variable {T:Nat->Option dS}{H:au}{s:St}{so o la ta pl mp P Sh n lv tk i:Nat}{Ds:List D}{d:D}{v:gX}{Q:Nat}{F:Nat->Prop}
theorem V4 (hT:TS T)(h:bE s so o la ta pl mp P Sh Ds n lv tk)(hi:Ds[i]? =some d)(hv:fH Q F s d v):
  cu T H 165 [.ptr so 0,.int .i64 i] s fun d s1=>d= .int .i64 v.num/\s1=s:=by
 refine ay hT.t165 ?_;have ld:∀ {o c:Nat} {d:D},s.get o=some (.var c d)->∀x,(match d with | .agg (y::_)=>some y | _=>none)=some x->x.sc=true->rW s (.ptr o 0) (.load 0 (some 1))=some (.agg [x]):=by
  intro o c d hg x hx HY;cases d <;> first | (cases hx; done) | skip
  rename_i l;cases l with
  | nil=>cases hx
  | cons y l=>
   simp only [aa]at hx; subst hx;have e:Nat.ble (0+0+1) (y::l).length=true:=aq (by simp);show iR s (some 1) (.ptr o (0+0))=_;simp only [iR,hg,D.flat,part,e];rfl
 cases v with
 | none=>
  subst hv;try refine go ?_
  refine ak (eh hT h hi) ?_;rintro d s1 ⟨rfl,rfl⟩
  repeat' first | refine go ?_ | refine gP hT.t295 ?_
  exact ai ⟨rfl,rfl⟩
 | bool b=>
  subst hv;try refine go ?_
  refine ak (eh hT h hi) ?_;rintro d s1 ⟨rfl,rfl⟩
  repeat' first | refine go ?_ | refine gP hT.t295 ?_
  exact ai ⟨rfl,rfl⟩
 | int n=>
  obtain⟨y,rfl,h2,h3⟩:=hv;rcases h2.sh with ⟨nl,z,l,rfl⟩ | ⟨o',l,c,rfl⟩
  all_goals
   try refine go ?_
   refine ak (eh hT h hi) ?_;rintro d s1 ⟨rfl,rfl⟩
   repeat' first | refine go ?_ | refine gP hT.t295 ?_
   exact ai ⟨rfl,rfl⟩
 | str t=>
  obtain⟨rfl,h2⟩:=hv;try refine go ?_
  refine ak (eh hT h hi) ?_;rintro d s1 ⟨rfl,rfl⟩
  repeat' first | refine go ?_ | refine gP hT.t295 ?_
  exact ai ⟨rfl,rfl⟩
 | row num kd L=>
  obtain⟨ro,lx,st,rfl,h2,h3⟩:=hv;have h4:=ld h2 _ rfl rfl;try refine go ?_
  refine ak (eh hT h hi) ?_;rintro d s1 ⟨rfl,rfl⟩
  repeat' first | refine go ?_ | refine kB ?_ (hu:=h4) | refine gP hT.t302 ?_
  exact ai ⟨rfl,rfl⟩
 | tG num kd E=>
  obtain⟨po,dv,rfl,h2,h3⟩:=hv;have h4:=ld h2 _ rfl rfl;try refine go ?_
  refine ak (eh hT h hi) ?_;rintro d s1 ⟨rfl,rfl⟩
  repeat' first | refine go ?_ | refine kB ?_ (hu:=h4) | refine gP hT.t302 ?_
  exact ai ⟨rfl,rfl⟩
 | cls num a b=>
  obtain⟨po,dv,fo,rfl,h2,h3⟩:=hv;have h4:=ld h2 _ rfl rfl;try refine go ?_
  refine ak (eh hT h hi) ?_;rintro d s1 ⟨rfl,rfl⟩
  repeat' first | refine go ?_ | refine kB ?_ (hu:=h4) | refine gP hT.t302 ?_
  exact ai ⟨rfl,rfl⟩
 | inst num c=>
  obtain⟨po,sp,rfl,h2,h3⟩:=hv;have h4:=ld h2 _ rfl rfl;try refine go ?_
  refine ak (eh hT h hi) ?_;rintro d s1 ⟨rfl,rfl⟩
  repeat' first | refine go ?_ | refine kB ?_ (hu:=h4) | refine gP hT.t302 ?_
  exact ai ⟨rfl,rfl⟩
 | view num kd of=>
  obtain⟨po,rfl,h2,h3⟩:=hv;have h4:=ld h2 _ rfl rfl;try refine go ?_
  refine ak (eh hT h hi) ?_;rintro d s1 ⟨rfl,rfl⟩
  repeat' first | refine go ?_ | refine kB ?_ (hu:=h4) | refine gP hT.t302 ?_
  exact ai ⟨rfl,rfl⟩
end
def gX.whole:gX->Option (Bool×List Nat)
 | .bool b=>some (if b then (false,[1]) else (false,[]))
 | .int n=>some n
 | _=>Option.none
def gX.text:gX->Option (List UInt8)
 | .str t=>some t
 | _=>Option.none
section
variable {T:Nat->Option dS}{H:au}{s:St}{so o la ta pl mp P Sh n lv tk i:Nat}{Ds:List D}{d:D}{v:gX}{Q:Nat}{F:Nat->Prop}
theorem iQ (hS:TS T)(hW:TW T)(hV:TV T)(h:bE s so o la ta pl mp P Sh Ds n lv tk)(hi:Ds[i]? =some d)(hv:fH Q F s d v):
  cu T H 166 [.ptr so 0,.int .i64 i] s fun d s1=>s1=s/\∃x,d= .gJ [x,.bool v.whole.isSome]/\qQ s x (v.whole.getD (false,[])):=by
 have ho0:=LK (H:=H) (s:=s) hW hV (.inl rfl);have VF:=LK (H:=H) (s:=s) hW hV (.inr (.inl rfl));simp only [ep,iw,Int.one_ne_zero,show ((1:Int)=0)=False by simp]at ho0 VF;have nz:qQ s (.agg [.bool false,.vs true 0 []]) (false,[]):=⟨_,rfl,.nil⟩;refine ay hS.t166 ?_;cases v with
 | none=>
  subst hv;try refine go ?_
  refine ak (eh hS h hi) ?_;rintro d s1 ⟨rfl,rfl⟩;try refine go ?_
  exact ai ⟨rfl,_,rfl,nz⟩
 | bool b=>
  subst hv;try refine go ?_
  refine ak (eh hS h hi) ?_;rintro d s1 ⟨rfl,rfl⟩;try refine go ?_
  cases b
  ·try refine go ?_
   refine ak ho0 ?_;rintro d s1 ⟨rfl,y,rfl,hy⟩;rcases hy.sh with ⟨nl,z,l,rfl⟩ | ⟨o',l,c,rfl⟩
   all_goals
    repeat' first | refine go ?_ | refine dW ?_
    exact ai ⟨rfl,_,rfl,_,rfl,hy⟩
  ·try refine go ?_
   refine ak VF ?_;rintro d s1 ⟨rfl,y,rfl,hy⟩;rcases hy.sh with ⟨nl,z,l,rfl⟩ | ⟨o',l,c,rfl⟩
   all_goals
    repeat' first | refine go ?_ | refine dW ?_
    exact ai ⟨rfl,_,rfl,_,rfl,hy⟩
 | int n=>
  obtain⟨y,rfl,h2,h3⟩:=hv;rcases h2.sh with ⟨nl,z,l,rfl⟩ | ⟨o',l,c,rfl⟩
  all_goals
   try refine go ?_
   refine ak (eh hS h hi) ?_;rintro d s1 ⟨rfl,rfl⟩;try refine go ?_
   exact ai ⟨rfl,_,rfl,_,rfl,h2⟩
 | str t=>
  obtain⟨rfl,h2⟩:=hv;try refine go ?_
  refine ak (eh hS h hi) ?_;rintro d s1 ⟨rfl,rfl⟩;try refine go ?_
  exact ai ⟨rfl,_,rfl,nz⟩
 | row num kd L=>
  obtain⟨ro,lx,st,rfl,h2,h3⟩:=hv;try refine go ?_
  refine ak (eh hS h hi) ?_;rintro d s1 ⟨rfl,rfl⟩;try refine go ?_
  exact ai ⟨rfl,_,rfl,nz⟩
 | tG num kd E=>
  obtain⟨po,dv,rfl,h2,h3⟩:=hv;try refine go ?_
  refine ak (eh hS h hi) ?_;rintro d s1 ⟨rfl,rfl⟩;try refine go ?_
  exact ai ⟨rfl,_,rfl,nz⟩
 | cls num a b=>
  obtain⟨po,dv,fo,rfl,h2,h3⟩:=hv;try refine go ?_
  refine ak (eh hS h hi) ?_;rintro d s1 ⟨rfl,rfl⟩;try refine go ?_
  exact ai ⟨rfl,_,rfl,nz⟩
 | inst num c=>
  obtain⟨po,sp,rfl,h2,h3⟩:=hv;try refine go ?_
  refine ak (eh hS h hi) ?_;rintro d s1 ⟨rfl,rfl⟩;try refine go ?_
  exact ai ⟨rfl,_,rfl,nz⟩
 | view num kd of=>
  obtain⟨po,rfl,h2,h3⟩:=hv;try refine go ?_
  refine ak (eh hS h hi) ?_;rintro d s1 ⟨rfl,rfl⟩;try refine go ?_
  exact ai ⟨rfl,_,rfl,nz⟩
theorem kf (hS:TS T)(h:bE s so o la ta pl mp P Sh Ds n lv tk)(hi:Ds[i]? =some d)(hv:fH Q F s d v):
  cu T H 12 [.ptr so 0,.int .i64 i] s fun d s1=>d= .gJ [.str (v.text.getD []),.bool v.text.isSome]/\s1=s:=by
 refine ay hS.t12 ?_;cases v with
 | none=>
  subst hv;try refine go ?_
  refine ak (eh hS h hi) ?_;rintro d s1 ⟨rfl,rfl⟩;try refine go ?_
  exact ai ⟨rfl,rfl⟩
 | bool b=>
  subst hv;try refine go ?_
  refine ak (eh hS h hi) ?_;rintro d s1 ⟨rfl,rfl⟩;try refine go ?_
  exact ai ⟨rfl,rfl⟩
 | int n=>
  obtain⟨y,rfl,h2,h3⟩:=hv;try refine go ?_
  refine ak (eh hS h hi) ?_;rintro d s1 ⟨rfl,rfl⟩;try refine go ?_
  exact ai ⟨rfl,rfl⟩
 | str t=>
  obtain⟨rfl,h2⟩:=hv;try refine go ?_
  refine ak (eh hS h hi) ?_;rintro d s1 ⟨rfl,rfl⟩;try refine go ?_
  exact ai ⟨rfl,rfl⟩
 | row num kd L=>
  obtain⟨ro,lx,st,rfl,h2,h3⟩:=hv;try refine go ?_
  refine ak (eh hS h hi) ?_;rintro d s1 ⟨rfl,rfl⟩;try refine go ?_
  exact ai ⟨rfl,rfl⟩
 | tG num kd E=>
  obtain⟨po,dv,rfl,h2,h3⟩:=hv;try refine go ?_
  refine ak (eh hS h hi) ?_;rintro d s1 ⟨rfl,rfl⟩;try refine go ?_
  exact ai ⟨rfl,rfl⟩
 | cls num a b=>
  obtain⟨po,dv,fo,rfl,h2,h3⟩:=hv;try refine go ?_
  refine ak (eh hS h hi) ?_;rintro d s1 ⟨rfl,rfl⟩;try refine go ?_
  exact ai ⟨rfl,rfl⟩
 | inst num c=>
  obtain⟨po,sp,rfl,h2,h3⟩:=hv;try refine go ?_
  refine ak (eh hS h hi) ?_;rintro d s1 ⟨rfl,rfl⟩;try refine go ?_
  exact ai ⟨rfl,rfl⟩
 | view num kd of=>
  obtain⟨po,rfl,h2,h3⟩:=hv;try refine go ?_
  refine ak (eh hS h hi) ?_;rintro d s1 ⟨rfl,rfl⟩;try refine go ?_
  exact ai ⟨rfl,rfl⟩
end
noncomputable def Cv:List (Nat×Nat×Recv):=match MB.1.body with
 | .seq _ (.seq (.seq _ (.seq _ (.cond _ (.seq (.Aa (_::⟨_,.invoke t _ _,_,_⟩::_)) _) _))) _)=>t
 | _=> []
def wZ (i:Nat)(v:gX)(j:Nat)(w:gX):Bool:=
 decide (i=j) || match v.whole,w.whole with
  | some a,some b=>decide (dZ a.1 a.2=dZ b.1 b.2)
  | _,_=>(match v.text,w.text with
   | some a,some b=>a==b
   | _,_=>false) || (v.kind==1 && w.kind==1)
theorem fH.ig {Q:Nat}{F:Nat->Prop}{s:St}{d:D}{v:gX}(h:fH Q F s d v):∃ty x,d= .ig ty x/\Nat.beq ty 163=false:=by
 cases v with
 | none=>exact ⟨_,_,h,rfl⟩
 | bool b=>exact ⟨_,_,h,rfl⟩
 | int n=>obtain ⟨y,rfl,_⟩:=h; exact ⟨_,_,rfl,rfl⟩
 | str t=>obtain ⟨rfl,_⟩:=h; exact ⟨_,_,rfl,rfl⟩
 | row num kd L=>obtain ⟨_,_,_,rfl,_⟩:=h; exact ⟨_,_,rfl,rfl⟩
 | tG num kd E=>obtain ⟨_,_,rfl,_⟩:=h; exact ⟨_,_,rfl,rfl⟩
 | cls num a b=>obtain ⟨_,_,_,rfl,_⟩:=h; exact ⟨_,_,rfl,rfl⟩
 | inst num c=>obtain ⟨_,_,rfl,_⟩:=h; exact ⟨_,_,rfl,rfl⟩
 | view num kd of=>obtain ⟨_,rfl,_⟩:=h; exact ⟨_,_,rfl,rfl⟩
section
variable {T:Nat->Option dS}{H:au}{s:St}{b t:Nat}{l:List bj}{k:List je}{e:Env}{ds:List (D×List D)}{g:Option (Nat×Bool)}{QQ:QP}{d:D}{v:gX}{Q:Nat}{F:Nat->Prop}
theorem kr (hT:TS T){x:bP}(hv:fH Q F s d v)(h:gN T H b l k ⟨(t,.int .i64 v.kind)::e,ds⟩ s QQ)(hw:aI e g=some true:=by rfl)(hx:x.ev e=some d:=by rfl):gN T H b (⟨some t,.invoke Cv x [],g,none⟩::l) k ⟨e,ds⟩ s QQ:=by
 have key:∀ {ty f:Nat} {y:D},d= .ig ty y->sR Cv ty=some (f,.self)->cu T H f [y] s (fun d s1=>d= .int .i64 v.kind/\s1=s)->gN T H b (⟨some t,.invoke Cv x [],g,none⟩::l) k ⟨e,ds⟩ s QQ:=by
  intro ty f y hd ht hE;subst hd;refine kB (ak hE ?_) hw hx rfl ht rfl;rintro d s1 ⟨rfl,rfl⟩;exact h
 cases v with
 | none=>
  refine key hv rfl (ay hT.t296 ?_);try refine go ?_
  exact ai ⟨rfl,rfl⟩
 | bool b=>
  refine key hv rfl (ay hT.t297 ?_);try refine go ?_
  exact ai ⟨rfl,rfl⟩
 | int n=>
  obtain⟨y,hd,h2,h3⟩:=hv;rcases h2.sh with ⟨nl,z,l,rfl⟩ | ⟨o',l,c,rfl⟩
  all_goals
   refine key hd rfl (ay hT.t326 ?_);try refine go ?_
   exact ai ⟨rfl,rfl⟩
 | str t=>
  refine key hv.1 rfl (ay hT.t303 ?_);try refine go ?_
  exact ai ⟨rfl,rfl⟩
 | row num kd L=>
  obtain⟨ro,lx,st,hd,h2,h3⟩:=hv;refine key hd rfl (ay hT.t101 ?_);try refine go ?_
  exact ai ⟨rfl,rfl⟩
 | tG num kd E=>
  obtain⟨po,dv,hd,h2,h3⟩:=hv;refine key hd rfl (ay hT.t104 ?_);try refine go ?_
  exact ai ⟨rfl,rfl⟩
 | cls num a b=>
  obtain⟨po,dv,fo,hd,h2,h3⟩:=hv;refine key hd rfl (ay hT.t309 ?_);try refine go ?_
  exact ai ⟨rfl,rfl⟩
 | inst num c=>
  obtain⟨po,sp,hd,h2,h3⟩:=hv;refine key hd rfl (ay hT.t316 ?_);try refine go ?_
  exact ai ⟨rfl,rfl⟩
 | view num kd of=>
  obtain⟨po,hd,h2,h3⟩:=hv;refine key hd rfl (ay hT.t107 ?_);try refine go ?_
  exact ai ⟨rfl,rfl⟩
end
theorem mM {C:au}{s:St}{al:Option Nat}{e:Env}{t ty:Nat}{z y:D}{x:bP}(hx:x.ev e=some (.ig ty y))(ht:Nat.beq ty t=false):cB C e s al (.sF t z true x)=some (.gJ [z,.bool false],s):=by
 simp only [cB,hx,ht]
theorem Ws.sc {s:St}{y:D}{V:List Nat}(h:Ws s y V):y.sc=true:=by cases h <;> rfl
theorem qn {s:St}{y p q:D}{a:Bool}{V:List Nat}(h:Ws s y V):D.over (.agg [p,q]) 0 (.agg [.bool a,y])=some (.agg [.bool a,y]):=by
 cases h <;> rfl
section
variable {T:Nat->Option dS}{H:au}{s:St}{so o la ta pl mp P Sh n lv tk i j:Nat}{Ds:List D} {d d' :D}{v w:gX}{Q:Nat} {F F' :Nat->Prop}
theorem fH.uT (h:fH Q F s d v):(v.whole.getD (false,[])).2.length<=aL:=by
 simp only [aL];cases v with
 | int n=>obtain ⟨y,_,_,_,h⟩:=h; simp only [gX.whole,Option.getD]; omega
 | bool b=>cases b <;> simp [gX.whole]
 | _=>simp [gX.whole]
theorem Hh (hS:TS T)(hW:TW T)(hV:TV T)(hs:s.Ok)(h:bE s so o la ta pl mp P Sh Ds n lv tk)(hi:Ds[i]? =some d)(hv:fH Q F s d v)(hj:Ds[j]? =some d')(hw:fH Q F' s d' w)(nO:i=j):
  cu T H 129 [.ptr so 0,.int .i64 i,.int .i64 j] s fun d s1=>d= .bool (true)/\s1=s:=by
 obtain⟨ty,x,rfl,hn⟩:=hv.ig;obtain⟨ty',x',rfl,Fu⟩:=hw.ig;have gi:=eh (H:=H) hS h hi;have gj:=eh (H:=H) hS h hj;have wi:=iQ (H:=H) hS hW hV h hi hv;have wj:=iQ (H:=H) hS hW hV h hj hw;have ti:=kf (H:=H) hS h hi hv;have tj:=kf (H:=H) hS h hj hw;have l1:=hv.uT;have l2:=hw.uT;refine ay hS.t129 ?_;try refine go ?_
 refine ak gi ?_;rintro d s1 ⟨rfl,rfl⟩;try refine go ?_
 refine ak gj ?_;rintro d s1 ⟨rfl,rfl⟩;try refine go ?_
 exact ai ⟨rfl,rfl⟩
theorem Ef (hS:TS T)(hW:TW T)(hV:TV T)(hs:s.Ok)(h:bE s so o la ta pl mp P Sh Ds n lv tk)(hi:Ds[i]? =some d)(hv:fH Q F s d v)(hj:Ds[j]? =some d')(hw:fH Q F' s d' w)(nO:i≠j){a b:Bool×List Nat}(ha:v.whole=some a)(hb:w.whole=some b):
  cu T H 129 [.ptr so 0,.int .i64 i,.int .i64 j] s fun d s1=>d= .bool (decide (dZ a.1 a.2=dZ b.1 b.2))/\s1=s:=by
 obtain⟨ty,x,rfl,hn⟩:=hv.ig;obtain⟨ty',x',rfl,Fu⟩:=hw.ig;have gi:=eh (H:=H) hS h hi;have gj:=eh (H:=H) hS h hj;have wi:=iQ (H:=H) hS hW hV h hi hv;have wj:=iQ (H:=H) hS hW hV h hj hw;have ti:=kf (H:=H) hS h hi hv;have tj:=kf (H:=H) hS h hj hw;have l1:=hv.uT;have l2:=hw.uT;simp only [ha,hb,Option.getD,Option.isSome]at wi wj l1 l2;refine ay hS.t129 ?_;try refine go ?_
 refine ak gi ?_;rintro d s1 ⟨rfl,rfl⟩;try refine go ?_
 refine ak gj ?_;rintro d s1 ⟨rfl,rfl⟩;try refine go ?_
 refine ak wi ?_;rintro d s1 ⟨rfl,x1,rfl,vG⟩;have Pz:=vG;obtain⟨y1,rfl,xc⟩:=vG;have Ml:=fun p q=>qn (p:=p) (q:=q) (a:=a.1) xc
 repeat' first | refine go ?_ | refine dW ?_ (hp:=Ml _ _)
 refine ak wj ?_;rintro d s1 ⟨rfl,x2,rfl,vX⟩;have PQ:=vX;obtain⟨y2,rfl,yo⟩:=vX;have OC:=fun p q=>qn (p:=p) (q:=q) (a:=b.1) yo;have abp:=FJ (H:=H) hW hV hs Pz PQ l1 l2
 repeat' first | refine go ?_ | refine dW ?_ (hp:=OC _ _)
 refine ak abp ?_;rintro d s1 ⟨rfl,c,rfl,hc⟩;try refine go ?_
 exact ai ⟨congrArg D.bool (decide_eq_decide.mpr hc),rfl⟩
end
section
variable {T:Nat->Option dS}{H:au}{s:St}{so o la ta pl mp P Sh n lv tk i j:Nat}{Ds:List D} {d d' :D}{v w:gX}{Q:Nat} {F F' :Nat->Prop}
theorem OF (hS:TS T)(hW:TW T)(hV:TV T)(hs:s.Ok)(h:bE s so o la ta pl mp P Sh Ds n lv tk)(hi:Ds[i]? =some d)(hv:fH Q F s d v)(hj:Ds[j]? =some d')(hw:fH Q F' s d' w)(nO:i≠j){a:Bool×List Nat}(ha:v.whole=some a)(hb:w.whole=none)(hc:v.text=none)(hk:v.kind≠1):
  cu T H 129 [.ptr so 0,.int .i64 i,.int .i64 j] s fun d s1=>d= .bool (false)/\s1=s:=by
 obtain⟨ty,x,rfl,hn⟩:=hv.ig;obtain⟨ty',x',rfl,Fu⟩:=hw.ig;have gi:=eh (H:=H) hS h hi;have gj:=eh (H:=H) hS h hj;have wi:=iQ (H:=H) hS hW hV h hi hv;have wj:=iQ (H:=H) hS hW hV h hj hw;have ti:=kf (H:=H) hS h hi hv;have tj:=kf (H:=H) hS h hj hw;have l1:=hv.uT;have l2:=hw.uT;simp only [ha,hb,hc,Option.getD,Option.isSome]at wi wj l1 l2 ti tj;refine ay hS.t129 ?_;try refine go ?_
 refine ak gi ?_;rintro d s1 ⟨rfl,rfl⟩;try refine go ?_
 refine ak gj ?_;rintro d s1 ⟨rfl,rfl⟩;try refine go ?_
 refine ak wi ?_;rintro d s1 ⟨rfl,x1,rfl,vG⟩;have Pz:=vG;obtain⟨y1,rfl,xc⟩:=vG;have Ml:=fun p q=>qn (p:=p) (q:=q) (a:=a.1) xc
 repeat' first | refine go ?_ | refine dW ?_ (hp:=Ml _ _)
 refine ak wj ?_;rintro d s1 ⟨rfl,x2,rfl,vX⟩;have PQ:=vX;obtain⟨y2,rfl,yo⟩:=vX;have OC:=fun p q=>qn (p:=p) (q:=q) (a:=false) yo
 repeat' first | refine go ?_ | refine dW ?_ (hp:=OC _ _) | refine iZ ?_ (ho:=mM rfl hn)
 refine ak ti ?_;rintro d s1 ⟨rfl,rfl⟩;try refine go ?_
 refine ak tj ?_;rintro d s1 ⟨rfl,rfl⟩;try refine go ?_
 refine kr hS hv ?_;try refine go ?_
 exact ai ⟨rfl,rfl⟩
theorem NS (hS:TS T)(hW:TW T)(hV:TV T)(hs:s.Ok)(h:bE s so o la ta pl mp P Sh Ds n lv tk)(hi:Ds[i]? =some d)(hv:fH Q F s d v)(hj:Ds[j]? =some d')(hw:fH Q F' s d' w)(nO:i≠j){b:Bool×List Nat}{t:Option (List UInt8)}(ha:v.whole=none)(hb:w.whole=some b)(ht:v.text=t)(hc:w.text=none)(hk:w.kind≠1):
  cu T H 129 [.ptr so 0,.int .i64 i,.int .i64 j] s fun d s1=>d= .bool (false)/\s1=s:=by
 obtain⟨ty,x,rfl,hn⟩:=hv.ig;obtain⟨ty',x',rfl,Fu⟩:=hw.ig;have gi:=eh (H:=H) hS h hi;have gj:=eh (H:=H) hS h hj;have wi:=iQ (H:=H) hS hW hV h hi hv;have wj:=iQ (H:=H) hS hW hV h hj hw;have ti:=kf (H:=H) hS h hi hv;have tj:=kf (H:=H) hS h hj hw;have l1:=hv.uT;have l2:=hw.uT;simp only [ha,hb,hc,ht,Option.getD,Option.isSome]at wi wj l1 l2 ti tj;refine ay hS.t129 ?_;try refine go ?_
 refine ak gi ?_;rintro d s1 ⟨rfl,rfl⟩;try refine go ?_
 refine ak gj ?_;rintro d s1 ⟨rfl,rfl⟩;try refine go ?_
 refine ak wi ?_;rintro d s1 ⟨rfl,x1,rfl,vG⟩;have Pz:=vG;obtain⟨y1,rfl,xc⟩:=vG;have Ml:=fun p q=>qn (p:=p) (q:=q) (a:=false) xc
 repeat' first | refine go ?_ | refine dW ?_ (hp:=Ml _ _)
 refine ak wj ?_;rintro d s1 ⟨rfl,x2,rfl,vX⟩;have PQ:=vX;obtain⟨y2,rfl,yo⟩:=vX;have OC:=fun p q=>qn (p:=p) (q:=q) (a:=b.1) yo
 repeat' first | refine go ?_ | refine dW ?_ (hp:=OC _ _) | refine iZ ?_ (ho:=mM rfl hn)
 cases t;all_goals simp only at ti
 all_goals
  refine ak ti ?_;rintro d s1 ⟨rfl,rfl⟩;try refine go ?_
  refine ak tj ?_;rintro d s1 ⟨rfl,rfl⟩;try refine go ?_
  by_cases k1:v.kind=1
  ·refine kr hS hv ?_;try refine go ?_
   refine kr hS hw ?_;try refine go ?_
   exact ai ⟨rfl,rfl⟩
  ·refine kr hS hv ?_;try refine go ?_
   exact ai ⟨rfl,rfl⟩
theorem M4 (hS:TS T)(hW:TW T)(hV:TV T)(hs:s.Ok)(h:bE s so o la ta pl mp P Sh Ds n lv tk)(hi:Ds[i]? =some d)(hv:fH Q F s d v)(hj:Ds[j]? =some d')(hw:fH Q F' s d' w)(nO:i≠j)(ha:v.whole=none)(hb:w.whole=none)(ht:v.text=none):
  cu T H 129 [.ptr so 0,.int .i64 i,.int .i64 j] s fun d s1=>d= .bool (v.kind==1 && w.kind==1)/\s1=s:=by
 obtain⟨ty,x,rfl,hn⟩:=hv.ig;obtain⟨ty',x',rfl,Fu⟩:=hw.ig;have gi:=eh (H:=H) hS h hi;have gj:=eh (H:=H) hS h hj;have wi:=iQ (H:=H) hS hW hV h hi hv;have wj:=iQ (H:=H) hS hW hV h hj hw;have ti:=kf (H:=H) hS h hi hv;have tj:=kf (H:=H) hS h hj hw;have l1:=hv.uT;have l2:=hw.uT;simp only [ha,hb,ht,Option.getD,Option.isSome]at wi wj l1 l2 ti tj;refine ay hS.t129 ?_;try refine go ?_
 refine ak gi ?_;rintro d s1 ⟨rfl,rfl⟩;try refine go ?_
 refine ak gj ?_;rintro d s1 ⟨rfl,rfl⟩;try refine go ?_
 refine ak wi ?_;rintro d s1 ⟨rfl,x1,rfl,vG⟩;have Pz:=vG;obtain⟨y1,rfl,xc⟩:=vG;have Ml:=fun p q=>qn (p:=p) (q:=q) (a:=false) xc
 repeat' first | refine go ?_ | refine dW ?_ (hp:=Ml _ _)
 refine ak wj ?_;rintro d s1 ⟨rfl,x2,rfl,vX⟩;have PQ:=vX;obtain⟨y2,rfl,yo⟩:=vX;have OC:=fun p q=>qn (p:=p) (q:=q) (a:=false) yo
 repeat' first | refine go ?_ | refine dW ?_ (hp:=OC _ _) | refine iZ ?_ (ho:=mM rfl hn)
 refine ak ti ?_;rintro d s1 ⟨rfl,rfl⟩;try refine go ?_
 refine ak tj ?_;rintro d s1 ⟨rfl,rfl⟩;try refine go ?_
 by_cases k1:v.kind=1
 ·refine kr hS hv ?_;try refine go ?_
  refine kr hS hw ?_;by_cases k2:w.kind=1
  ·try refine go ?_
   exact ai ⟨congrArg D.bool (show true=(v.kind==1 && w.kind==1) by simp [k1,k2]),rfl⟩
  ·try refine go ?_
   exact ai ⟨congrArg D.bool (show false=(v.kind==1 && w.kind==1) by simp [k1,k2]),rfl⟩
 ·refine kr hS hv ?_;try refine go ?_
  exact ai ⟨congrArg D.bool (show false=(v.kind==1 && w.kind==1) by simp [k1]),rfl⟩
theorem O9 (hS:TS T)(hW:TW T)(hV:TV T)(hs:s.Ok)(h:bE s so o la ta pl mp P Sh Ds n lv tk)(hi:Ds[i]? =some d)(hv:fH Q F s d v)(hj:Ds[j]? =some d')(hw:fH Q F' s d' w)(nO:i≠j){t:List UInt8}(ha:v.whole=none)(hb:w.whole=none)(ht:v.text=some t)(hc:w.text=none):
  cu T H 129 [.ptr so 0,.int .i64 i,.int .i64 j] s fun d s1=>d= .bool (v.kind==1 && w.kind==1)/\s1=s:=by
 obtain⟨ty,x,rfl,hn⟩:=hv.ig;obtain⟨ty',x',rfl,Fu⟩:=hw.ig;have gi:=eh (H:=H) hS h hi;have gj:=eh (H:=H) hS h hj;have wi:=iQ (H:=H) hS hW hV h hi hv;have wj:=iQ (H:=H) hS hW hV h hj hw;have ti:=kf (H:=H) hS h hi hv;have tj:=kf (H:=H) hS h hj hw;have l1:=hv.uT;have l2:=hw.uT;simp only [ha,hb,ht,hc,Option.getD,Option.isSome]at wi wj l1 l2 ti tj;refine ay hS.t129 ?_;try refine go ?_
 refine ak gi ?_;rintro d s1 ⟨rfl,rfl⟩;try refine go ?_
 refine ak gj ?_;rintro d s1 ⟨rfl,rfl⟩;try refine go ?_
 refine ak wi ?_;rintro d s1 ⟨rfl,x1,rfl,vG⟩;have Pz:=vG;obtain⟨y1,rfl,xc⟩:=vG;have Ml:=fun p q=>qn (p:=p) (q:=q) (a:=false) xc
 repeat' first | refine go ?_ | refine dW ?_ (hp:=Ml _ _)
 refine ak wj ?_;rintro d s1 ⟨rfl,x2,rfl,vX⟩;have PQ:=vX;obtain⟨y2,rfl,yo⟩:=vX;have OC:=fun p q=>qn (p:=p) (q:=q) (a:=false) yo
 repeat' first | refine go ?_ | refine dW ?_ (hp:=OC _ _) | refine iZ ?_ (ho:=mM rfl hn)
 refine ak ti ?_;rintro d s1 ⟨rfl,rfl⟩;try refine go ?_
 refine ak tj ?_;rintro d s1 ⟨rfl,rfl⟩;try refine go ?_
 by_cases k1:v.kind=1
 ·refine kr hS hv ?_;try refine go ?_
  refine kr hS hw ?_;by_cases k2:w.kind=1
  ·try refine go ?_
   exact ai ⟨congrArg D.bool (show true=(v.kind==1 && w.kind==1) by simp [k1,k2]),rfl⟩
  ·try refine go ?_
   exact ai ⟨congrArg D.bool (show false=(v.kind==1 && w.kind==1) by simp [k1,k2]),rfl⟩
 ·refine kr hS hv ?_;try refine go ?_
  exact ai ⟨congrArg D.bool (show false=(v.kind==1 && w.kind==1) by simp [k1]),rfl⟩
theorem L9 (hS:TS T)(hW:TW T)(hV:TV T)(hs:s.Ok)(h:bE s so o la ta pl mp P Sh Ds n lv tk)(hi:Ds[i]? =some d)(hv:fH Q F s d v)(hj:Ds[j]? =some d')(hw:fH Q F' s d' w)(nO:i≠j){t u:List UInt8}(ha:v.whole=none)(hb:w.whole=none)(ht:v.text=some t)(hc:w.text=some u)(hk:v.kind≠1):
  cu T H 129 [.ptr so 0,.int .i64 i,.int .i64 j] s fun d s1=>d= .bool (t==u)/\s1=s:=by
 obtain⟨ty,x,rfl,hn⟩:=hv.ig;obtain⟨ty',x',rfl,Fu⟩:=hw.ig;have gi:=eh (H:=H) hS h hi;have gj:=eh (H:=H) hS h hj;have wi:=iQ (H:=H) hS hW hV h hi hv;have wj:=iQ (H:=H) hS hW hV h hj hw;have ti:=kf (H:=H) hS h hi hv;have tj:=kf (H:=H) hS h hj hw;have l1:=hv.uT;have l2:=hw.uT;simp only [ha,hb,ht,hc,Option.getD,Option.isSome]at wi wj l1 l2 ti tj;refine ay hS.t129 ?_;try refine go ?_
 refine ak gi ?_;rintro d s1 ⟨rfl,rfl⟩;try refine go ?_
 refine ak gj ?_;rintro d s1 ⟨rfl,rfl⟩;try refine go ?_
 refine ak wi ?_;rintro d s1 ⟨rfl,x1,rfl,vG⟩;have Pz:=vG;obtain⟨y1,rfl,xc⟩:=vG;have Ml:=fun p q=>qn (p:=p) (q:=q) (a:=false) xc
 repeat' first | refine go ?_ | refine dW ?_ (hp:=Ml _ _)
 refine ak wj ?_;rintro d s1 ⟨rfl,x2,rfl,vX⟩;have PQ:=vX;obtain⟨y2,rfl,yo⟩:=vX;have OC:=fun p q=>qn (p:=p) (q:=q) (a:=false) yo
 repeat' first | refine go ?_ | refine dW ?_ (hp:=OC _ _) | refine iZ ?_ (ho:=mM rfl hn)
 refine ak ti ?_;rintro d s1 ⟨rfl,rfl⟩;try refine go ?_
 refine ak tj ?_;rintro d s1 ⟨rfl,rfl⟩;try refine go ?_
 by_cases htu:t=u
 ·subst htu;have e1:(t==t)=true:=by simp
  simp only [e1];try refine go ?_
  exact ai ⟨rfl,rfl⟩
 ·have e1:(t==u)=false:=by simpa using htu
  simp only [e1];try refine go ?_
  refine kr hS hv ?_;try refine go ?_
  exact ai ⟨rfl,rfl⟩
theorem gX.zw {v:gX}{a:Bool×List Nat}(h:v.whole=some a):v.text=Option.none/\v.kind≠1:=by
 cases v <;> simp_all [gX.whole,gX.text,gX.kind]
theorem gX.Jh {v:gX}{a:List UInt8}(h:v.text=some a):v.kind≠1:=by
 cases v <;> simp_all [gX.text,gX.kind]
theorem Og (hS:TS T)(hW:TW T)(hV:TV T)(hs:s.Ok)(h:bE s so o la ta pl mp P Sh Ds n lv tk)(hi:Ds[i]? =some d)(hv:fH Q F s d v)(hj:Ds[j]? =some d')(hw:fH Q F' s d' w):
  cu T H 129 [.ptr so 0,.int .i64 i,.int .i64 j] s fun d s1=>d= .bool (wZ i v j w)/\s1=s:=by
 by_cases nO:i=j
 ·have:=Hh (H:=H) hS hW hV hs h hi hv hj hw nO;simpa only [wZ,cK nO,eM] using this
 simp only [wZ,bk nO,mY];cases ha:v.whole with
 | some a=>
  obtain⟨t1,k1⟩:=gX.zw ha;cases hb:w.whole with
  | some b=>exact Ef hS hW hV hs h hi hv hj hw nO ha hb
  | none=>
   have:=OF (H:=H) hS hW hV hs h hi hv hj hw nO ha hb t1 k1;have e:(v.kind==1 && w.kind==1)=false:=by simp [k1]
   simpa only [t1,e,Bool.or_false] using this
 | none=>
  cases hb:w.whole with
  | some b=>
   obtain⟨t2,k2⟩:=gX.zw hb;have:=NS (H:=H) hS hW hV hs h hi hv hj hw nO ha hb rfl t2 k2;have e:(v.kind==1 && w.kind==1)=false:=by simp [k2]
   cases ht:v.text <;> simpa only [t2,e,Bool.or_false] using this
  | none=>
   cases ht:v.text with
   | none=>
    have:=M4 (H:=H) hS hW hV hs h hi hv hj hw nO ha hb ht;simpa only [mY] using this
   | some t=>
    cases hc:w.text with
    | none=>
     have:=O9 (H:=H) hS hW hV hs h hi hv hj hw nO ha hb ht hc;simpa only [mY] using this
    | some u=>
     have k1:=gX.Jh ht;have:=L9 (H:=H) hS hW hV hs h hi hv hj hw nO ha hb ht hc k1;have e:(v.kind==1 && w.kind==1)=false:=by simp [k1]
     simpa only [e,Bool.or_false] using this
end
structure Tm where
 kd:Int
 b:Bool
 ng:Bool
 n1:Bool
 mag:List Nat
 tx:List UInt8
 n2:Bool
 kids:List Int
 hs:Bool
 sm:Bool
@[reducible] def Tm.d (t:Tm):D:= .agg [.int .i64 t.kd,.bool t.b,.bool t.ng,.vs t.n1 1 (dz t.mag),.str t.tx,.vs t.n2 1 (ints t.kids),.bool t.hs,.bool t.sm]
structure Tm.Ok (t:Tm):Prop where
 n1:t.n1=true->t.mag=[]
 n2:t.n2=true->t.kids=[]
 mag:t.mag.length<=60000
 tx:t.tx.length<=60000
 kids:t.kids.length<=20000
def Ha (t:Tm)(v:gX):Prop:=
 (t.kd=1/\v= .none)\/(t.kd=2/\v= .bool t.b)\/(t.kd=3/\v= .int (dZ t.ng t.mag))\/(t.kd=4/\v= .str t.tx)\/
 ((t.kd=5\/t.kd=6)/\∃num kd L,v= .row num kd L/\(kd:Int)=t.kd/\L.length=t.kids.length)\/((t.kd=7\/t.kd=8\/t.kd=9)/\∃num kd E,v= .tG num kd E/\(kd:Int)=t.kd)\/
 (t.kd=14/\∃num c,v= .inst num c)\/((t.kd=15\/t.kd=16\/t.kd=17)/\∃num kd o,v= .view num kd o/\(kd:Int)=t.kd)
inductive Refs (s:St):D->List Nat->Prop
 | nil:Refs s (.vs true 0 []) []
 | sl {o:Nat} {R:List Nat} (h:s.get o=some (.arr 1 3 (ints (R.map Int.ofNat)) 0)) (hn:R≠ []):Refs s (.sl o 0 R.length R.length) R
theorem Refs.dU {W:Nat->Prop}{s s1:St}{x:D}{R:List Nat}(h:Refs s x R)(hs:s.Ok)(hb:aC W s s1)(hw:∀o a l c,x= .sl o a l c-> ¬ W o):Refs s1 x R:=by
 rcases h with _ | ⟨hg,hn⟩
 ·exact .nil
 ·exact .sl (hb.get hs hg (hw _ _ _ _ rfl)) hn
structure lT (s:St)(bo so:Nat)(tms:List Tm)(x:D):Prop where
 go:s.get bo=some (.var 97 (.agg [.ptr so 0,.vs false 8 (tms.map Tm.d),x]))
theorem Refs.at' {s:St}{x:D}{R:List Nat}{k r:Nat}(h:Refs s x R)(hk:R[k]? =some r):∃o,x= .sl o 0 R.length R.length/\s.get o=some (.arr 1 3 (ints (R.map Int.ofNat)) 0)/\(ints (R.map Int.ofNat))[0+k]? =some (.int .i64 (r:Nat))/\k < R.length:=by
 have hl:k < R.length:=(af.mp hk).1;rcases h with _ | ⟨hg,hn⟩
 ·simp at hk
 ·refine⟨_,rfl,hg, ?_,hl⟩;simp only [ints,aM,aE,hk,dn]; rfl
theorem ir (R:List Nat):(ints (R.map Int.ofNat)).length=R.length:=by simp [ints]
section
variable {T:Nat->Option dS}{H:au}{s:St}{so o la ta pl mp P Sh n lv tk bo k r:Nat}{Ds:List D}{d x:D}{v:gX}{Q:Nat}{F:Nat->Prop}{tms:List Tm}{t:Tm}{R:List Nat}
theorem vD (hW:TW T)(hV:TV T){n:Bool×List Nat}(hs:s.Ok)(hx:qQ s d n)(hl:n.2.length<=100000000):cu T H 161 [d] s fun d s1=>d= .int .i64 (p8 n)/\aC Nil s s1:=by
 obtain⟨y,rfl,hy⟩:=hx;rcases hy.sh with ⟨nl,z,l,rfl⟩ | ⟨o',l,c,rfl⟩
 ·exact KR hW hV hs hy hl
 ·exact JZ hW hV hs hy hl
noncomputable def Kt (t:Tm)(v:gX):Int:=if t.kd=1 then p8 (true,[7]) else if t.kd=4 then NF t.tx else if t.kd=14 then (if t.hs=true then p8 (t.ng,t.mag) else VP (v.num:Nat)) else p8 (v.whole.getD (false,[]))
theorem ee (hk:tms[k]? =some t):(tms.map Tm.d)[k]? =some t.d:=by rw [aE,hk]; rfl
theorem JR (hS:TS T)(hW:TW T)(hV:TV T)(hs:s.Ok)(hb:lT s bo so tms x)(hk:tms[k]? =some t)(h1:t.kd=1):
  cu T H 126 [.ptr bo 0,.int .i64 (k:Nat)] s fun d s1=>d= .int .i64 (p8 (true,[7]))/\aC Nil s s1:=by
 have hO:=LK (H:=H) (s:=s) hW hV (.inr (.inr rfl));simp only [show ((-7:Int)=0)=False by simp,show ((-7:Int)=1)=False by simp,iw]at hO;have hg:=hb.go;have ha:=ee hk;obtain⟨kd,b,ng,n1,mag,tx,n2,kids,gY,sm⟩:=t;simp only at h1; subst h1;refine ay hS.t126 ?_;try refine go ?_
 refine ak hO ?_;rintro d s1 ⟨rfl,hn⟩;have hd:=vD (H:=H) hW hV hs hn (by simp);obtain⟨y,rfl,hy⟩:=hn;try refine go ?_
 refine ak hd ?_;rintro d s2 ⟨rfl,b1⟩;try refine go ?_
 exact ai ⟨rfl,b1⟩
theorem Nu (hS:TS T)(hW:TW T)(hV:TV T)(hs:s.Ok)(hb:lT s bo so tms x)(hk:tms[k]? =some t)(h1:t.kd=4)(h2:t.tx.length<=1000000000):
  cu T H 126 [.ptr bo 0,.int .i64 (k:Nat)] s fun d s1=>d= .int .i64 (NF t.tx)/\aC Nil s s1:=by
 have hg:=hb.go;have ha:=ee hk;have hd:=Lw (H:=H) hV hs h2;obtain⟨kd,b,ng,n1,mag,tx,n2,kids,gY,sm⟩:=t;simp only at h1 hd; subst h1;refine ay hS.t126 ?_;try refine go ?_
 refine ak hd ?_;rintro d s2 ⟨rfl,b1⟩;try refine go ?_
 exact ai ⟨rfl,b1⟩
theorem G1 (hS:TS T)(hW:TW T)(hV:TV T)(hs:s.Ok)(hb:lT s bo so tms x)(hk:tms[k]? =some t)(ho:t.Ok)(h1:t.kd=14)(h2:t.hs=true):
  cu T H 126 [.ptr bo 0,.int .i64 (k:Nat)] s fun d s1=>d= .int .i64 (p8 (t.ng,t.mag))/\aC Nil s s1:=by
 have hg:=hb.go;have ha:=ee hk;have q1:=ho.n1; have q2:=ho.mag;obtain⟨kd,b,ng,n1,mag,tx,n2,kids,gY,sm⟩:=t;have hd:=vD (H:=H) (n:=(ng,mag)) hW hV hs ⟨_,rfl,.vs n1 mag q1⟩ (by simp only at q2 ⊢; omega);simp only at h1 h2; subst h1; subst h2;refine ay hS.t126 ?_;try refine go ?_
 refine ak hd ?_;rintro d s2 ⟨rfl,b1⟩;try refine go ?_
 exact ai ⟨rfl,b1⟩
theorem Km (hS:TS T)(hW:TW T)(hV:TV T)(hs:s.Ok)(dT:bE s so o la ta pl mp P Sh Ds n lv tk)(hb:lT s bo so tms x)(hR:Refs s x R)(hk:tms[k]? =some t)(hr:R[k]? =some r)(hi:Ds[r]? =some d)(hv:fH Q F s d v)(h1:t.kd=14)(h2:t.hs=false):
  cu T H 126 [.ptr bo 0,.int .i64 (k:Nat)] s fun d s1=>d= .int .i64 (VP (v.num:Nat))/\aC Nil s s1:=by
 have hg:=hb.go;have ha:=ee hk;obtain⟨ra,rfl,hra,har,j6⟩:=hR.at' hr;have vk:=ir R;have hn:=V4 (H:=H) hS dT hi hv;have hd:=Gk (H:=H) (n:=(v.num:Nat)) hV hs;obtain⟨kd,b,ng,n1,mag,tx,n2,kids,gY,sm⟩:=t;simp only at h1 h2; subst h1; subst h2;refine ay hS.t126 ?_;try refine go ?_
 refine bf hn ?_;rintro d s1 ⟨rfl,rfl⟩;refine⟨rfl,by rfl, ?_⟩;try refine go ?_
 refine bf hd ?_;rintro d s1 ⟨rfl,b1⟩;refine⟨rfl,by rfl, ?_⟩;try refine go ?_
 exact ai ⟨rfl,b1⟩
end
end Go.Proofs.Tab
