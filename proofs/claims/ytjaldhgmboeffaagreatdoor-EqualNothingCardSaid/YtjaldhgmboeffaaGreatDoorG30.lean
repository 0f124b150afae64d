/- Part. -/
import Derived.Test.YtjaldhgmboeffaaGreatDoorG29
set_option linter.unusedSimpArgs false
set_option linter.unusedVariables false
set_option linter.unusedSectionVars false
set_option maxRecDepth 100000
set_option maxHeartbeats 1000000
namespace Go.Proofs.Tab
open Go Go.Ab Go.Ab.Sm
structure me (s:St)(o la ta:Nat)(V:List D):Prop where
 go:s.get o=some (.var 164 (.agg [.sl la 0 V.length V.length,.sl ta 0 V.length V.length,.vs true 0 []]))
 gl:s.get la=some (.arr 1 101 V 0)
 gt:s.get ta=some (.arr 1 4 (List.replicate V.length (.bool true)) 0)
 ol:o≠la
 ot:o≠ta
 lt:la≠ta
theorem me.dK {W:Nat->Prop}{s s1:St}{o la ta:Nat}{V:List D}(h:me s o la ta V)(hs:s.Ok)(hb:aF W s s1)(h1: ¬ W o)(h2: ¬ W la)(h3: ¬ W ta):me s1 o la ta V:=
 ⟨hb.get hs h.go h1,hb.get hs h.gl h2,hb.get hs h.gt h3,h.ol,h.ot,h.lt⟩
structure bc (s:St)(so o la ta pl mp:Nat)(P Sh:Nat)(V:List D)(n lv tk:Nat):Prop where
 go:s.get so=some (.var 105 (.agg [.int .i64 0,.int .i64 P,.int .i64 Sh,.vs true 0 [],.vs true 0 [],.cz,.ptr o 0,.int .i64 n,.int .i64 lv,.int .i64 0,.ptr pl 0,.bool false]))
 gp:s.get pl=some (.var 167 (.agg [.mp mp,.int .i64 tk]))
 gm:s.get mp=some (.map [] 0)
 sl:me s o la ta V
 nd:[so,o,la,ta,pl,mp].Nodup
def bA (so o la ta pl:Nat):Nat->Prop:=fun j=>j=so\/j=o\/j=la\/j=ta\/j=pl
theorem me.up {s:St}{o la ta:Nat}{V:List D}(h:me s o la ta V)(k:Nat):me (s.up k) o la ta V:=⟨h.go,h.gl,h.gt,h.ol,h.ot,h.lt⟩
section
variable {s s1:St}{so o la ta pl mp P Sh n lv tk:Nat}{V:List D}
theorem bc.up (h:bc s so o la ta pl mp P Sh V n lv tk)(k:Nat):bc (s.up k) so o la ta pl mp P Sh V n lv tk:=⟨h.go,h.gp,h.gm,h.sl.up k,h.nd⟩
theorem bc.dK {W:Nat->Prop}(h:bc s so o la ta pl mp P Sh V n lv tk)(hs:s.Ok)(hb:aF W s s1)(hw:∀j,(bA so o la ta pl j\/j=mp)-> ¬ W j):bc s1 so o la ta pl mp P Sh V n lv tk:=
 ⟨hb.get hs h.go (hw _ (by simp [bA])),hb.get hs h.gp (hw _ (by simp [bA])),hb.get hs h.gm (hw _ (by simp)),h.sl.dK hs hb (hw _ (by simp [bA])) (hw _ (by simp [bA])) (hw _ (by simp [bA])),h.nd⟩
theorem bc.lt (h:bc s so o la ta pl mp P Sh V n lv tk)(hs:s.Ok){j:Nat}(hj:bA so o la ta pl j\/j=mp):j < s.n:=by
 have m1:=hs.lt h.go; have m2:=hs.lt h.sl.go; have m3:=hs.lt h.sl.gl; have m4:=hs.lt h.sl.gt; have m5:=hs.lt h.gp; have m6:=hs.lt h.gm;rcases hj with (hj | hj | hj | hj | hj) | hj <;> omega
end
section
variable {T:Nat->Option dU}{H:ay}
theorem qM (hT:TS T){s:St}{o la ta:Nat}{V:List D}{ty:Nat}{x:D}(hs:s.Ok)(h:me s o la ta V)(hV:V.length+1<=aL):
  cu T H 40 [.ptr o 0,.ia ty x] s fun d s1=>d= .int .i64 V.length/\me s1 o la ta (V++ [.ia ty x])/\aF (fun j=>j=o\/j=la\/j=ta) s s1:=by
 have ho:=h.go; have hl:=h.gl; have ht:=h.gt; have h1:=h.ol; have h2:=h.ot; have h3:=h.lt;have l1:=hs.lt ho; have l2:=hs.lt hl; have l3:=hs.lt ht;refine ax hT.t40 ?_;try refine go ?_
 refine ai ⟨?_,⟨?_, ?_, ?_,h1,h2,h3⟩, ?_⟩
 ·simp only [aL]at hV;simp only [aV,bL];rw [wrap_small (by omega) (by omega)];show D.int .i64 _=D.int .i64 _
  congr 1; omega
 ·rw [aG];exact gI
 ·exact gI
 ·rw [aG,aZ,nF];exact gI
 ·exact bI
variable {s:St}{so o la ta pl mp P Sh n lv tk:Nat}{V:List D}
theorem Co (hT:TS T)(hs:s.Ok)(h:bc s so o la ta pl mp P Sh V n lv tk)(hn:tk < 2147483648):
  cu T H 140 [.ptr so 0] s fun d s1=>bc s1 so o la ta pl mp P Sh V n lv (tk+1)/\aF (fun j=>j=pl) s s1:=by
 obtain⟨h1,h2,h3,⟨g1,g2,g3,k1,k2,k3⟩,h5⟩:=h;have l1:=hs.lt h1; have l2:=hs.lt h2; have l3:=hs.lt h3; have l4:=hs.lt g1; have l5:=hs.lt g2; have l6:=hs.lt g3;have nd:=h5;simp only [fq,bR,fa,kL,kK,dC,fN,iq]at h5;obtain⟨⟨n1,n2,n3,n4,n5⟩,⟨n6,n7,n8,n9⟩,⟨Th,U8,TE⟩,⟨U6,T5⟩,VI⟩:=h5;refine ax hT.t140 ?_
 repeat' first | refine go ?_ | refine eW hT.t200 ?_
 have hw:IntKind.wrap .i64 ((tk:Int)+1)=((tk+1:Nat):Int):=by rw [wrap_small (by omega) (by omega)]; omega
 try simp only [hw]
 refine iu ⟨⟨?_, ?_, ?_,⟨?_, ?_, ?_,k1,k2,k3⟩,nd⟩, ?_⟩
 ·exact gI
 ·exact gI
 ·exact gI
 ·exact gI
 ·exact gI
 ·exact gI
 ·exact bI
theorem uW (hT:TS T)(hs:s.Ok)(h:bc s so o la ta pl mp P Sh V n lv tk)(hn:n < 2147483648)(hl:lv < 2147483648)(ht:tk < 2147483648):
  cu T H 142 [.ptr so 0] s fun d s1=>d= .agg [.int .i64 (n+1:Nat)]/\bc s1 so o la ta pl mp P Sh V (n+1) (lv+1) (tk+1)/\aF (fun j=>j=so\/j=pl) s s1:=by
 have hm:=Co (H:=H) hT hs h ht;refine ax hT.t142 ?_;try refine go ?_
 refine ak hm ?_;rintro d s1 ⟨⟨h1,h2,h3,⟨g1,g2,g3,k1,k2,k3⟩,h5⟩,b1⟩;have ok1:=b1.ok;have l1:=ok1.lt h1; have l2:=ok1.lt h2; have l3:=ok1.lt h3; have l4:=ok1.lt g1; have l5:=ok1.lt g2; have l6:=ok1.lt g3;have nd:=h5;simp only [fq,bR,fa,kL,kK,dC,fN,iq]at h5;obtain⟨⟨n1,n2,n3,n4,n5⟩,⟨n6,n7,n8,n9⟩,⟨Th,U8,TE⟩,⟨U6,T5⟩,VI⟩:=h5;try refine go ?_
 have hw:IntKind.wrap .i64 ((n:Int)+1)=((n+1:Nat):Int):=by rw [wrap_small (by omega) (by omega)]; omega
 have Nw:IntKind.wrap .i64 ((lv:Int)+1)=((lv+1:Nat):Int):=by rw [wrap_small (by omega) (by omega)]; omega
 try simp only [hw,Nw]
 have hb:∀x:D,aF (fun j=>j=so) s1 (s1.bF so (.var 105 x)):=fun x=>aF.set (W:=fun j=>j=so) (aF.refl ok1) _ l1 (fun _=>rfl);have jK:∀x y:D,aF (fun j=>j=so) s1 ((s1.bF so (.var 105 x)).bF so (.var 105 y)):=fun x y=>aF.set (W:=fun j=>j=so) (hb x) _ l1 (fun _=>rfl);refine ai ⟨rfl,⟨?_, ?_, ?_,⟨?_, ?_, ?_,k1,k2,k3⟩,nd⟩,(b1.mono fun j hj=> .inr hj).trans ((jK _ _).mono fun j hj=> .inl hj)⟩
 ·exact gI
 ·exact gI
 ·exact gI
 ·exact gI
 ·exact gI
 ·exact gI
theorem dD (hT:TS T){i ty:Nat}{x:D}(h:bc s so o la ta pl mp P Sh V n lv tk)(hi:V[i]? =some (.ia ty x)):
  cu T H 43 [.ptr so 0,.int .i64 i] s fun d s1=>d= .ia ty x/\s1=s:=by
 obtain⟨h1,h2,h3,⟨g1,g2,g3,k1,k2,k3⟩,h5⟩:=h;have l:i < V.length:=(aj.mp hi).1;have ht:(List.replicate V.length (D.bool true))[0+i]? =some (.bool true):=by rw [aN,List.getElem?_replicate,bT l]
 have hi' :V[0+i]? =some (.ia ty x):=by rw [aN]; exact hi
 refine ax hT.t43 ?_
 repeat' first | refine go ?_ | refine eW hT.t85 ?_ | refine eW hT.t148 ?_
 exact ai ⟨rfl,rfl⟩
end
inductive gP where
 | none
 | bool (b:Bool)
 | int (n:Bool×List Nat)
 | str (t:List UInt8)
 | row (num kd:Nat) (L:List Int)
 | sU (num kd:Nat) (E:List eU)
 | cls (num:Nat) (h sm:Bool)
 | inst (num c:Nat)
 | view (num kd:Nat) (of:Int)
def gP.kind:gP->Nat
 | .none=>1
 | .bool _=>2
 | .int _=>3
 | .str _=>4
 | .row _ kd _=>kd
 | .sU _ kd _=>kd
 | .cls .. =>13
 | .inst .. =>14
 | .view _ kd _=>kd
def gP.num:gP->Nat
 | .row n _ _=>n
 | .sU n _ _=>n
 | .cls n _ _=>n
 | .inst n _=>n
 | .view n _ _=>n
 | _=>0
def ints (L:List Int):List D:=L.map fun v=>D.int .i64 v
theorem fB (L:List Int):(ints L).length=L.length:=aJ _
def eY (P:Nat)(F:Nat->Prop)(s:St)(d:D):gP->Prop
 | .none=>d= .ia 109 (.agg [])
 | .bool b=>d= .ia 111 (.agg [.bool b])
 | .int n=>∃y,d= .ia 184 (.agg [.bool n.1,y])/\Ws s y n.2/\(∀o a l c,y= .sl o a l c->F o)/\n.2.length<=100000000
 | .str t=>d= .ia 191 (.agg [.str t])/\t.length<=1000000000
 | .row num kd L=>∃ro lx st,d= .ia 118 (.ptr ro 0)/\s.get ro=some (.var 122 (.agg [.int .i64 num,.sl lx 0 L.length L.length,.int .i64 kd]))/\s.get lx=some (.arr 1 3 (ints L) st)/\st<=L.length/\F ro/\F lx
 | .sU num kd E=>∃po dv,d= .ia 81 (.ptr po 0)/\s.get po=some (.var 89 (.agg [.int .i64 num,.ptr dv 0,.int .i64 kd]))/\fD F s dv P E/\F po
 | .cls num h sm=>∃po dv fo,d= .ia 175 (.ptr po 0)/\s.get po=some (.var 179 (.agg [.int .i64 num,.ptr dv 0,.str [67],.int .i64 (-1),.ptr fo 0,.bool h,.bool sm]))/\
   (F po/\F fo/\∃(sh:Nat) (ko mo:Nat),s.get fo=some (.var 307 (.agg [.int .i64 sh,.int .i64 P,.cz,.ptr ko 0,.vs true 0 [],.mp mo])))
 | .inst num c=>∃po sp,d= .ia 199 (.ptr po 0)/\s.get po=some (.var 213 (.agg [.int .i64 num,.ptr sp 0,.int .i64 c]))/\
   (F po/\F sp/\∃fo ro,s.get sp=some (.var 315 (.agg [.ptr fo 0,.ia 309 (.ptr ro 0),.int .u64 0]))/\s.get ro=some (.var 311 (.agg [.vs true 0 []]))/\F ro)
 | .view num kd of=>∃po,d= .ia 143 (.ptr po 0)/\s.get po=some (.var 208 (.agg [.int .i64 num,.int .i64 of,.int .i64 kd]))/\F po
theorem Ws.Xk {W:Nat->Prop}{s s1:St}{x:D}{V:List Nat}(h:Ws s x V)(hs:s.Ok)(hb:aF W s s1)(hw:∀o a l c,x= .sl o a l c-> ¬ W o):Ws s1 x V:=by
 rcases h with ⟨nl,V,hn⟩ | _ | ⟨o,cp,V,R,hg,hc⟩
 ·exact .vs nl V hn
 ·exact .nil
 ·exact .sl o cp V R (hb.get hs hg (hw _ _ _ _ rfl)) hc
theorem eY.dK {P:Nat}{F W:Nat->Prop}{s s1:St}{d:D}{v:gP}(h:eY P F s d v)(hs:s.Ok)(hb:aF W s s1)(hw:∀j,j < s.n->F j-> ¬ W j):eY P F s1 d v:=by
 cases v with
 | none=>exact h
 | bool b=>exact h
 | int n=>
  obtain⟨y,h1,h2,h3,h4⟩:=h
  exact⟨y,h1,h2.Xk hs hb (fun o a l c e=>by
   subst e;rcases h2 with _ | _ | ⟨_,_,_,_,hg,_⟩;exact hw o (hs.lt hg) (h3 _ _ _ _ rfl)),h3,h4⟩
 | str t=>exact h
 | row num kd L=>
  obtain⟨ro,lx,st,h1,h2,h3,h6,h4,h5⟩:=h;exact⟨ro,lx,st,h1,hb.get hs h2 (hw _ (hs.lt h2) h4),hb.get hs h3 (hw _ (hs.lt h3) h5),h6,h4,h5⟩
 | sU num kd E=>
  obtain⟨po,dv,h1,h2,h3,h4⟩:=h;exact⟨po,dv,h1,hb.get hs h2 (hw _ (hs.lt h2) h4),h3.dK hs hb hw,h4⟩
 | cls num a b=>
  obtain⟨po,dv,fo,h1,h2,h3,h4,sh,ko,mo,h5⟩:=h;exact⟨po,dv,fo,h1,hb.get hs h2 (hw _ (hs.lt h2) h3),h3,h4,sh,ko,mo,hb.get hs h5 (hw _ (hs.lt h5) h4)⟩
 | inst num c=>
  obtain⟨po,sp,h1,h2,h3,h4,fo,ro,h5,h6,h7⟩:=h;exact⟨po,sp,h1,hb.get hs h2 (hw _ (hs.lt h2) h3),h3,h4,fo,ro,hb.get hs h5 (hw _ (hs.lt h5) h4),hb.get hs h6 (hw _ (hs.lt h6) h7),h7⟩
 | view num kd of=>
  obtain⟨po,h1,h2,h3⟩:=h;exact⟨po,h1,hb.get hs h2 (hw _ (hs.lt h2) h3),h3⟩
theorem fD.mono {W W' :Nat->Prop}{s:St}{dv most:Nat}{E:List eU}(h:fD W s dv most E)(hw:∀o,W o->W' o):fD W' s dv most E:=by
 obtain⟨to,eo,co,ro,log,b,st,x,C,ver,p1,p2,v1,v2,v3,v4,v5,p3⟩:=h;exact⟨to,eo,co,ro,log,b,st,x,C,ver,p1,p2,hw _ v1,hw _ v2,hw _ v3,hw _ v4,hw _ v5,p3⟩
theorem eY.mono {P:Nat} {F F' :Nat->Prop}{s:St}{d:D}{v:gP}(h:eY P F s d v)(hw:∀o,F o->F' o):eY P F' s d v:=by
 cases v with
 | none=>exact h
 | bool b=>exact h
 | int n=>
  obtain⟨y,h1,h2,h3,h4⟩:=h;exact⟨y,h1,h2,fun o a l c e=>hw _ (h3 o a l c e),h4⟩
 | str t=>exact h
 | row num kd L=>
  obtain⟨ro,lx,st,h1,h2,h3,h6,h4,h5⟩:=h;exact⟨ro,lx,st,h1,h2,h3,h6,hw _ h4,hw _ h5⟩
 | sU num kd E=>
  obtain⟨po,dv,h1,h2,h3,h4⟩:=h;exact⟨po,dv,h1,h2,h3.mono hw,hw _ h4⟩
 | cls num a b=>
  obtain⟨po,dv,fo,h1,h2,h3,h4,sh,ko,mo,h5⟩:=h;exact⟨po,dv,fo,h1,h2,hw _ h3,hw _ h4,sh,ko,mo,h5⟩
 | inst num c=>
  obtain⟨po,sp,h1,h2,h3,h4,fo,ro,h5,h6,h7⟩:=h;exact⟨po,sp,h1,h2,hw _ h3,hw _ h4,fo,ro,h5,h6,hw _ h7⟩
 | view num kd of=>
  obtain⟨po,h1,h2,h3⟩:=h;exact⟨po,h1,h2,hw _ h3⟩
def E7 (s:St)(o:Nat):Prop:=∃es st,s.get o=some (.arr 1 194 es st)
structure eV (P:Nat)(s:St)(F:Nat->Nat->Prop)(Ds:List D)(Vs:List gP):Prop where
 ln:Ds.length=Vs.length
 at' :∀i d v,Ds[i]? =some d->Vs[i]? =some v->eY P (F i) s d v
 dj:∀i j o,F i o->F j o->i=j\/E7 s o
 lt:∀i o,F i o->o < s.n/\i < Ds.length
theorem eV.get {P:Nat}{s:St}{F:Nat->Nat->Prop}{Ds:List D}{Vs:List gP}(h:eV P s F Ds Vs){i:Nat}{v:gP}(hi:Vs[i]? =some v):∃d,Ds[i]? =some d/\eY P (F i) s d v:=by
 have l:i < Vs.length:=(aj.mp hi).1;have l2:i < Ds.length:=by rw [h.ln]; exact l
 exact⟨Ds[i],ab l2,h.at' i _ _ (ab l2) hi⟩
theorem E7.dK {W:Nat->Prop}{s s1:St}{o:Nat}(h:E7 s o)(hs:s.Ok)(hb:aF W s s1)(hw: ¬ W o):E7 s1 o:=by
 obtain⟨es,st,h⟩:=h;exact⟨es,st,hb.get hs h hw⟩
theorem eV.dK {P:Nat}{W:Nat->Prop}{s s1:St}{F:Nat->Nat->Prop}{Ds:List D}{Vs:List gP}(h:eV P s F Ds Vs)(hs:s.Ok)(hb:aF W s s1)(hw:∀i j,F i j-> ¬ W j):eV P s1 F Ds Vs:=
 ⟨h.ln,fun i d v h1 h2=>(h.at' i d v h1 h2).dK hs hb (fun j _ hj=>hw i j hj),fun i j o h1 h2=>(h.dj i j o h1 h2).imp id fun h=>h.dK hs hb (hw i o h1),fun i o ho=>⟨eK (h.lt i o ho).1 hb.n,(h.lt i o ho).2⟩⟩
def more (F:Nat->Nat->Prop)(k:Nat)(G:Nat->Prop):Nat->Nat->Prop:=fun i o=>if i=k then G o else F i o
theorem eV.snoc {P:Nat}{W G:Nat->Prop}{s s1:St}{F:Nat->Nat->Prop}{Ds:List D}{Vs:List gP}(h:eV P s F Ds Vs)(hs:s.Ok)(hb:aF W s s1)(hw:∀i j,F i j-> ¬ W j){d:D}{v:gP}(hv:eY P G s1 d v)(hG:∀o,G o->(s.n<=o/\o < s1.n)\/E7 s1 o):
  eV P s1 (more F Ds.length G) (Ds++ [d]) (Vs++ [v]):=by
 have h' :=h.dK hs hb hw
 have hF:∀i o,F i o->more F Ds.length G i o:=fun i o ho=>by
  have:=(h.lt i o ho).2;simp only [more,aK (show i≠Ds.length by omega)]; exact ho
 refine⟨by rw [aG,aG,h.ln,aZ,aZ],fun i d' v' h1 h2=> ?_,fun i j o h1 h2=> ?_,fun i o h1=> ?_⟩
 ·rcases gZ i Ds.length with hl | hl | hl
  ·rw [aP hl]at h1;rw [aP (by rw [← h.ln]; exact hl)]at h2;exact (h'.at' i d' v' h1 h2).mono (hF i)
  ·subst hl;rw [aT (aq _),eG]at h1;rw [aT (by rw [h.ln]; exact aq _),h.ln,eG]at h2;simp only [aR,aa]at h1 h2;subst h1; subst h2;exact hv.mono fun o ho=>by simp only [more,eu]; exact ho
  ·have:=(aj.mp h1).1;rw [aG,aZ]at this;omega
 ·simp only [more]at h1 h2;split at h1 <;> split at h2
  ·left; omega
  ·rcases hG o h1 with h3 | h3
   ·have:=(h.lt j o h2).1; omega
   ·exact .inr h3
  ·rcases hG o h2 with h3 | h3
   ·have:=(h.lt i o h1).1; omega
   ·exact .inr h3
  ·exact h'.dj i j o h1 h2
 ·simp only [more]at h1;rw [aG,aZ];split at h1
  ·rcases hG o h1 with h3 | ⟨es,st,h3⟩
   ·omega
   ·have:=hb.ok.lt h3; omega
  ·have:=h'.lt i o h1; omega
section
variable {T:Nat->Option dU}{H:ay}{s:St}{so o la ta pl mp P Sh n lv tk i:Nat}{Ds:List D}{d:D}{v:gP}{Q:Nat}{F:Nat->Prop}
theorem Ip (hT:TS T)(h:bc s so o la ta pl mp P Sh Ds n lv tk)(hi:Ds[i]? =some d)(hv:eY Q F s d v):
  cu T H 18 [.ptr so 0,.int .i64 i] s fun d s1=>d= .int .i64 v.kind/\s1=s:=by
 refine ax hT.t18 ?_;cases v with
 | none=>
  subst hv;try refine go ?_
  refine ak (dD hT h hi) ?_;rintro d s1 ⟨rfl,rfl⟩
  repeat' first | refine go ?_ | refine eW hT.t353 ?_
  exact ai ⟨rfl,rfl⟩
 | bool b=>
  subst hv;try refine go ?_
  refine ak (dD hT h hi) ?_;rintro d s1 ⟨rfl,rfl⟩
  repeat' first | refine go ?_ | refine eW hT.t354 ?_
  exact ai ⟨rfl,rfl⟩
 | int n=>
  obtain⟨y,rfl,h2,h3⟩:=hv;rcases h2.sh with ⟨nl,z,l,rfl⟩ | ⟨o',l,c,rfl⟩
  all_goals
   try refine go ?_
   refine ak (dD hT h hi) ?_;rintro d s1 ⟨rfl,rfl⟩
   repeat' first | refine go ?_ | refine eW hT.t367 ?_
   exact ai ⟨rfl,rfl⟩
 | str t=>
  obtain⟨rfl,h2⟩:=hv;try refine go ?_
  refine ak (dD hT h hi) ?_;rintro d s1 ⟨rfl,rfl⟩
  repeat' first | refine go ?_ | refine eW hT.t368 ?_
  exact ai ⟨rfl,rfl⟩
 | row num kd L=>
  obtain⟨ro,lx,st,rfl,h2,h3⟩:=hv;try refine go ?_
  refine ak (dD hT h hi) ?_;rintro d s1 ⟨rfl,rfl⟩
  repeat' first | refine go ?_ | refine eW hT.t90 ?_
  exact ai ⟨rfl,rfl⟩
 | sU num kd E=>
  obtain⟨po,dv,rfl,h2,h3⟩:=hv;try refine go ?_
  refine ak (dD hT h hi) ?_;rintro d s1 ⟨rfl,rfl⟩
  repeat' first | refine go ?_ | refine eW hT.t29 ?_
  exact ai ⟨rfl,rfl⟩
 | cls num a b=>
  obtain⟨po,dv,fo,rfl,h2,h3⟩:=hv;try refine go ?_
  refine ak (dD hT h hi) ?_;rintro d s1 ⟨rfl,rfl⟩
  repeat' first | refine go ?_ | refine eW hT.t364 ?_
  exact ai ⟨rfl,rfl⟩
 | inst num c=>
  obtain⟨po,sp,rfl,h2,h3⟩:=hv;try refine go ?_
  refine ak (dD hT h hi) ?_;rintro d s1 ⟨rfl,rfl⟩
  repeat' first | refine go ?_ | refine eW hT.t369 ?_
  exact ai ⟨rfl,rfl⟩
 | view num kd of=>
  obtain⟨po,rfl,h2,h3⟩:=hv;try refine go ?_
  refine ak (dD hT h hi) ?_;rintro d s1 ⟨rfl,rfl⟩
  repeat' first | refine go ?_ | refine eW hT.t116 ?_
  exact ai ⟨rfl,rfl⟩
theorem WB (hT:TS T)(h:bc s so o la ta pl mp P Sh Ds n lv tk)(hi:Ds[i]? =some d)(hv:eY Q F s d v):
  cu T H 97 [.ptr so 0,.int .i64 i] s fun d s1=>d= .int .i64 v.num/\s1=s:=by
 refine ax hT.t97 ?_;have ld:∀ {o c:Nat} {d:D},s.get o=some (.var c d)->∀x,(match d with | .agg (y::_)=>some y | _=>none)=some x->x.sc=true->ru s (.ptr o 0) (.load 0 (some 1))=some (.agg [x]):=by
  intro o c d hg x hx H4;cases d <;> first | (cases hx; done) | skip
  rename_i l;cases l with
  | nil=>cases hx
  | cons y l=>
   simp only [aa]at hx; subst hx;have e:Nat.ble (0+0+1) (y::l).length=true:=au (by simp);show iP s (some 1) (.ptr o (0+0))=_;simp only [iP,hg,D.flat,part,e];rfl
 cases v with
 | none=>
  subst hv;try refine go ?_
  refine ak (dD hT h hi) ?_;rintro d s1 ⟨rfl,rfl⟩
  repeat' first | refine go ?_ | refine eW hT.t352 ?_
  exact ai ⟨rfl,rfl⟩
 | bool b=>
  subst hv;try refine go ?_
  refine ak (dD hT h hi) ?_;rintro d s1 ⟨rfl,rfl⟩
  repeat' first | refine go ?_ | refine eW hT.t352 ?_
  exact ai ⟨rfl,rfl⟩
 | int n=>
  obtain⟨y,rfl,h2,h3⟩:=hv;rcases h2.sh with ⟨nl,z,l,rfl⟩ | ⟨o',l,c,rfl⟩
  all_goals
   try refine go ?_
   refine ak (dD hT h hi) ?_;rintro d s1 ⟨rfl,rfl⟩
   repeat' first | refine go ?_ | refine eW hT.t352 ?_
   exact ai ⟨rfl,rfl⟩
 | str t=>
  obtain⟨rfl,h2⟩:=hv;try refine go ?_
  refine ak (dD hT h hi) ?_;rintro d s1 ⟨rfl,rfl⟩
  repeat' first | refine go ?_ | refine eW hT.t352 ?_
  exact ai ⟨rfl,rfl⟩
 | row num kd L=>
  obtain⟨ro,lx,st,rfl,h2,h3⟩:=hv;have h4:=ld h2 _ rfl rfl;try refine go ?_
  refine ak (dD hT h hi) ?_;rintro d s1 ⟨rfl,rfl⟩
  repeat' first | refine go ?_ | refine kG ?_ (hu:=h4) | refine eW hT.t347 ?_
  exact ai ⟨rfl,rfl⟩
 | sU num kd E=>
  obtain⟨po,dv,rfl,h2,h3⟩:=hv;have h4:=ld h2 _ rfl rfl;try refine go ?_
  refine ak (dD hT h hi) ?_;rintro d s1 ⟨rfl,rfl⟩
  repeat' first | refine go ?_ | refine kG ?_ (hu:=h4) | refine eW hT.t347 ?_
  exact ai ⟨rfl,rfl⟩
 | cls num a b=>
  obtain⟨po,dv,fo,rfl,h2,h3⟩:=hv;have h4:=ld h2 _ rfl rfl;try refine go ?_
  refine ak (dD hT h hi) ?_;rintro d s1 ⟨rfl,rfl⟩
  repeat' first | refine go ?_ | refine kG ?_ (hu:=h4) | refine eW hT.t347 ?_
  exact ai ⟨rfl,rfl⟩
 | inst num c=>
  obtain⟨po,sp,rfl,h2,h3⟩:=hv;have h4:=ld h2 _ rfl rfl;try refine go ?_
  refine ak (dD hT h hi) ?_;rintro d s1 ⟨rfl,rfl⟩
  repeat' first | refine go ?_ | refine kG ?_ (hu:=h4) | refine eW hT.t347 ?_
  exact ai ⟨rfl,rfl⟩
 | view num kd of=>
  obtain⟨po,rfl,h2,h3⟩:=hv;have h4:=ld h2 _ rfl rfl;try refine go ?_
  refine ak (dD hT h hi) ?_;rintro d s1 ⟨rfl,rfl⟩
  repeat' first | refine go ?_ | refine kG ?_ (hu:=h4) | refine eW hT.t347 ?_
  exact ai ⟨rfl,rfl⟩
end
def gP.whole:gP->Option (Bool×List Nat)
 | .bool b=>some (if b then (false,[1]) else (false,[]))
 | .int n=>some n
 | _=>Option.none
def gP.text:gP->Option (List UInt8)
 | .str t=>some t
 | _=>Option.none
section
variable {T:Nat->Option dU}{H:ay}{s:St}{so o la ta pl mp P Sh n lv tk i:Nat}{Ds:List D}{d:D}{v:gP}{Q:Nat}{F:Nat->Prop}
theorem iN (hS:TS T)(hW:TW T)(hV:TV T)(h:bc s so o la ta pl mp P Sh Ds n lv tk)(hi:Ds[i]? =some d)(hv:eY Q F s d v):
  cu T H 46 [.ptr so 0,.int .i64 i] s fun d s1=>s1=s/\∃x,d= .gK [x,.bool v.whole.isSome]/\qD s x (v.whole.getD (false,[])):=by
 have ho0:=Po (H:=H) (s:=s) hW hV (.inl rfl);have Xg:=Po (H:=H) (s:=s) hW hV (.inr (.inl rfl));simp only [eu,jg,Int.one_ne_zero,show ((1:Int)=0)=False by simp]at ho0 Xg;have nz:qD s (.agg [.bool false,.vs true 0 []]) (false,[]):=⟨_,rfl,.nil⟩;refine ax hS.t46 ?_;cases v with
 | none=>
  subst hv;try refine go ?_
  refine ak (dD hS h hi) ?_;rintro d s1 ⟨rfl,rfl⟩;try refine go ?_
  exact ai ⟨rfl,_,rfl,nz⟩
 | bool b=>
  subst hv;try refine go ?_
  refine ak (dD hS h hi) ?_;rintro d s1 ⟨rfl,rfl⟩;try refine go ?_
  cases b
  ·try refine go ?_
   refine ak ho0 ?_;rintro d s1 ⟨rfl,y,rfl,hy⟩;rcases hy.sh with ⟨nl,z,l,rfl⟩ | ⟨o',l,c,rfl⟩
   all_goals
    repeat' first | refine go ?_ | refine dW ?_
    exact ai ⟨rfl,_,rfl,_,rfl,hy⟩
  ·try refine go ?_
   refine ak Xg ?_;rintro d s1 ⟨rfl,y,rfl,hy⟩;rcases hy.sh with ⟨nl,z,l,rfl⟩ | ⟨o',l,c,rfl⟩
   all_goals
    repeat' first | refine go ?_ | refine dW ?_
    exact ai ⟨rfl,_,rfl,_,rfl,hy⟩
 | int n=>
  obtain⟨y,rfl,h2,h3⟩:=hv;rcases h2.sh with ⟨nl,z,l,rfl⟩ | ⟨o',l,c,rfl⟩
  all_goals
   try refine go ?_
   refine ak (dD hS h hi) ?_;rintro d s1 ⟨rfl,rfl⟩;try refine go ?_
   exact ai ⟨rfl,_,rfl,_,rfl,h2⟩
 | str t=>
  obtain⟨rfl,h2⟩:=hv;try refine go ?_
  refine ak (dD hS h hi) ?_;rintro d s1 ⟨rfl,rfl⟩;try refine go ?_
  exact ai ⟨rfl,_,rfl,nz⟩
 | row num kd L=>
  obtain⟨ro,lx,st,rfl,h2,h3⟩:=hv;try refine go ?_
  refine ak (dD hS h hi) ?_;rintro d s1 ⟨rfl,rfl⟩;try refine go ?_
  exact ai ⟨rfl,_,rfl,nz⟩
 | sU num kd E=>
  obtain⟨po,dv,rfl,h2,h3⟩:=hv;try refine go ?_
  refine ak (dD hS h hi) ?_;rintro d s1 ⟨rfl,rfl⟩;try refine go ?_
  exact ai ⟨rfl,_,rfl,nz⟩
 | cls num a b=>
  obtain⟨po,dv,fo,rfl,h2,h3⟩:=hv;try refine go ?_
  refine ak (dD hS h hi) ?_;rintro d s1 ⟨rfl,rfl⟩;try refine go ?_
  exact ai ⟨rfl,_,rfl,nz⟩
 | inst num c=>
  obtain⟨po,sp,rfl,h2,h3⟩:=hv;try refine go ?_
  refine ak (dD hS h hi) ?_;rintro d s1 ⟨rfl,rfl⟩;try refine go ?_
  exact ai ⟨rfl,_,rfl,nz⟩
 | view num kd of=>
  obtain⟨po,rfl,h2,h3⟩:=hv;try refine go ?_
  refine ak (dD hS h hi) ?_;rintro d s1 ⟨rfl,rfl⟩;try refine go ?_
  exact ai ⟨rfl,_,rfl,nz⟩
theorem kj (hS:TS T)(h:bc s so o la ta pl mp P Sh Ds n lv tk)(hi:Ds[i]? =some d)(hv:eY Q F s d v):
  cu T H 49 [.ptr so 0,.int .i64 i] s fun d s1=>d= .gK [.str (v.text.getD []),.bool v.text.isSome]/\s1=s:=by
 refine ax hS.t49 ?_;cases v with
 | none=>
  subst hv;try refine go ?_
  refine ak (dD hS h hi) ?_;rintro d s1 ⟨rfl,rfl⟩;try refine go ?_
  exact ai ⟨rfl,rfl⟩
 | bool b=>
  subst hv;try refine go ?_
  refine ak (dD hS h hi) ?_;rintro d s1 ⟨rfl,rfl⟩;try refine go ?_
  exact ai ⟨rfl,rfl⟩
 | int n=>
  obtain⟨y,rfl,h2,h3⟩:=hv;try refine go ?_
  refine ak (dD hS h hi) ?_;rintro d s1 ⟨rfl,rfl⟩;try refine go ?_
  exact ai ⟨rfl,rfl⟩
 | str t=>
  obtain⟨rfl,h2⟩:=hv;try refine go ?_
  refine ak (dD hS h hi) ?_;rintro d s1 ⟨rfl,rfl⟩;try refine go ?_
  exact ai ⟨rfl,rfl⟩
 | row num kd L=>
  obtain⟨ro,lx,st,rfl,h2,h3⟩:=hv;try refine go ?_
  refine ak (dD hS h hi) ?_;rintro d s1 ⟨rfl,rfl⟩;try refine go ?_
  exact ai ⟨rfl,rfl⟩
 | sU num kd E=>
  obtain⟨po,dv,rfl,h2,h3⟩:=hv;try refine go ?_
  refine ak (dD hS h hi) ?_;rintro d s1 ⟨rfl,rfl⟩;try refine go ?_
  exact ai ⟨rfl,rfl⟩
 | cls num a b=>
  obtain⟨po,dv,fo,rfl,h2,h3⟩:=hv;try refine go ?_
  refine ak (dD hS h hi) ?_;rintro d s1 ⟨rfl,rfl⟩;try refine go ?_
  exact ai ⟨rfl,rfl⟩
 | inst num c=>
  obtain⟨po,sp,rfl,h2,h3⟩:=hv;try refine go ?_
  refine ak (dD hS h hi) ?_;rintro d s1 ⟨rfl,rfl⟩;try refine go ?_
  exact ai ⟨rfl,rfl⟩
 | view num kd of=>
  obtain⟨po,rfl,h2,h3⟩:=hv;try refine go ?_
  refine ak (dD hS h hi) ?_;rintro d s1 ⟨rfl,rfl⟩;try refine go ?_
  exact ai ⟨rfl,rfl⟩
end
noncomputable def BI:List (Nat×Nat×Recv):=match WH.1.body with
 | .seq _ (.seq (.seq _ (.seq _ (.cond _ (.seq (.sn (_::⟨_,.invoke t _ _,_,_⟩::_)) _) _))) _)=>t
 | _=> []
def vZ (i:Nat)(v:gP)(j:Nat)(w:gP):Bool:=
 decide (i=j) || match v.whole,w.whole with
  | some a,some b=>decide (eh a.1 a.2=eh b.1 b.2)
  | _,_=>(match v.text,w.text with
   | some a,some b=>a==b
   | _,_=>false) || (v.kind==1 && w.kind==1)
theorem eY.ia {Q:Nat}{F:Nat->Prop}{s:St}{d:D}{v:gP}(h:eY Q F s d v):∃ty x,d= .ia ty x/\Nat.beq ty 202=false:=by
 cases v with
 | none=>exact ⟨_,_,h,rfl⟩
 | bool b=>exact ⟨_,_,h,rfl⟩
 | int n=>obtain ⟨y,rfl,_⟩:=h; exact ⟨_,_,rfl,rfl⟩
 | str t=>obtain ⟨rfl,_⟩:=h; exact ⟨_,_,rfl,rfl⟩
 | row num kd L=>obtain ⟨_,_,_,rfl,_⟩:=h; exact ⟨_,_,rfl,rfl⟩
 | sU num kd E=>obtain ⟨_,_,rfl,_⟩:=h; exact ⟨_,_,rfl,rfl⟩
 | cls num a b=>obtain ⟨_,_,_,rfl,_⟩:=h; exact ⟨_,_,rfl,rfl⟩
 | inst num c=>obtain ⟨_,_,rfl,_⟩:=h; exact ⟨_,_,rfl,rfl⟩
 | view num kd of=>obtain ⟨_,rfl,_⟩:=h; exact ⟨_,_,rfl,rfl⟩
section
variable {T:Nat->Option dU}{H:ay}{s:St}{b t:Nat}{l:List bg}{k:List iT}{e:Env}{ds:List (D×List D)}{g:Option (Nat×Bool)}{QQ:QP}{d:D}{v:gP}{Q:Nat}{F:Nat->Prop}
theorem kJ (hT:TS T){x:bP}(hv:eY Q F s d v)(h:gG T H b l k ⟨(t,.int .i64 v.kind)::e,ds⟩ s QQ)(hw:aI e g=some true:=by rfl)(hx:x.ev e=some d:=by rfl):gG T H b (⟨some t,.invoke BI x [],g,none⟩::l) k ⟨e,ds⟩ s QQ:=by
 have key:∀ {ty f:Nat} {y:D},d= .ia ty y->sF BI ty=some (f,.self)->cu T H f [y] s (fun d s1=>d= .int .i64 v.kind/\s1=s)->gG T H b (⟨some t,.invoke BI x [],g,none⟩::l) k ⟨e,ds⟩ s QQ:=by
  intro ty f y hd ht hE;subst hd;refine kG (ak hE ?_) hw hx rfl ht rfl;rintro d s1 ⟨rfl,rfl⟩;exact h
 cases v with
 | none=>
  refine key hv rfl (ax hT.t353 ?_);try refine go ?_
  exact ai ⟨rfl,rfl⟩
 | bool b=>
  refine key hv rfl (ax hT.t354 ?_);try refine go ?_
  exact ai ⟨rfl,rfl⟩
 | int n=>
  obtain⟨y,hd,h2,h3⟩:=hv;rcases h2.sh with ⟨nl,z,l,rfl⟩ | ⟨o',l,c,rfl⟩
  all_goals
   refine key hd rfl (ax hT.t367 ?_);try refine go ?_
   exact ai ⟨rfl,rfl⟩
 | str t=>
  refine key hv.1 rfl (ax hT.t368 ?_);try refine go ?_
  exact ai ⟨rfl,rfl⟩
 | row num kd L=>
  obtain⟨ro,lx,st,hd,h2,h3⟩:=hv;refine key hd rfl (ax hT.t90 ?_);try refine go ?_
  exact ai ⟨rfl,rfl⟩
 | sU num kd E=>
  obtain⟨po,dv,hd,h2,h3⟩:=hv;refine key hd rfl (ax hT.t29 ?_);try refine go ?_
  exact ai ⟨rfl,rfl⟩
 | cls num a b=>
  obtain⟨po,dv,fo,hd,h2,h3⟩:=hv;refine key hd rfl (ax hT.t364 ?_);try refine go ?_
  exact ai ⟨rfl,rfl⟩
 | inst num c=>
  obtain⟨po,sp,hd,h2,h3⟩:=hv;refine key hd rfl (ax hT.t369 ?_);try refine go ?_
  exact ai ⟨rfl,rfl⟩
 | view num kd of=>
  obtain⟨po,hd,h2,h3⟩:=hv;refine key hd rfl (ax hT.t116 ?_);try refine go ?_
  exact ai ⟨rfl,rfl⟩
end
theorem mQ {C:ay}{s:St}{al:Option Nat}{e:Env}{t ty:Nat}{z y:D}{x:bP}(hx:x.ev e=some (.ia ty y))(ht:Nat.beq ty t=false):cC C e s al (.se t z true x)=some (.gK [z,.bool false],s):=by
 simp only [cC,hx,ht]
theorem Ws.sc {s:St}{y:D}{V:List Nat}(h:Ws s y V):y.sc=true:=by cases h <;> rfl
theorem qc {s:St}{y p q:D}{a:Bool}{V:List Nat}(h:Ws s y V):D.over (.agg [p,q]) 0 (.agg [.bool a,y])=some (.agg [.bool a,y]):=by
 cases h <;> rfl
section
variable {T:Nat->Option dU}{H:ay}{s:St}{so o la ta pl mp P Sh n lv tk i j:Nat}{Ds:List D} {d d' :D}{v w:gP}{Q:Nat} {F F' :Nat->Prop}
theorem eY.uX (h:eY Q F s d v):(v.whole.getD (false,[])).2.length<=aL:=by
 simp only [aL];cases v with
 | int n=>obtain ⟨y,_,_,_,h⟩:=h; simp only [gP.whole,Option.getD]; omega
 | bool b=>cases b <;> simp [gP.whole]
 | _=>simp [gP.whole]
theorem Ha (hS:TS T)(hW:TW T)(hV:TV T)(hs:s.Ok)(h:bc s so o la ta pl mp P Sh Ds n lv tk)(hi:Ds[i]? =some d)(hv:eY Q F s d v)(hj:Ds[j]? =some d')(hw:eY Q F' s d' w)(nO:i=j):
  cu T H 53 [.ptr so 0,.int .i64 i,.int .i64 j] s fun d s1=>d= .bool (true)/\s1=s:=by
 obtain⟨ty,x,rfl,hn⟩:=hv.ia;obtain⟨ty',x',rfl,Fm⟩:=hw.ia;have gi:=dD (H:=H) hS h hi;have gj:=dD (H:=H) hS h hj;have wi:=iN (H:=H) hS hW hV h hi hv;have wj:=iN (H:=H) hS hW hV h hj hw;have ti:=kj (H:=H) hS h hi hv;have tj:=kj (H:=H) hS h hj hw;have l1:=hv.uX;have l2:=hw.uX;refine ax hS.t53 ?_;try refine go ?_
 refine ak gi ?_;rintro d s1 ⟨rfl,rfl⟩;try refine go ?_
 refine ak gj ?_;rintro d s1 ⟨rfl,rfl⟩;try refine go ?_
 exact ai ⟨rfl,rfl⟩
theorem CY (hS:TS T)(hW:TW T)(hV:TV T)(hs:s.Ok)(h:bc s so o la ta pl mp P Sh Ds n lv tk)(hi:Ds[i]? =some d)(hv:eY Q F s d v)(hj:Ds[j]? =some d')(hw:eY Q F' s d' w)(nO:i≠j){a b:Bool×List Nat}(ha:v.whole=some a)(hb:w.whole=some b):
  cu T H 53 [.ptr so 0,.int .i64 i,.int .i64 j] s fun d s1=>d= .bool (decide (eh a.1 a.2=eh b.1 b.2))/\s1=s:=by
 obtain⟨ty,x,rfl,hn⟩:=hv.ia;obtain⟨ty',x',rfl,Fm⟩:=hw.ia;have gi:=dD (H:=H) hS h hi;have gj:=dD (H:=H) hS h hj;have wi:=iN (H:=H) hS hW hV h hi hv;have wj:=iN (H:=H) hS hW hV h hj hw;have ti:=kj (H:=H) hS h hi hv;have tj:=kj (H:=H) hS h hj hw;have l1:=hv.uX;have l2:=hw.uX;simp only [ha,hb,Option.getD,Option.isSome]at wi wj l1 l2;refine ax hS.t53 ?_;try refine go ?_
 refine ak gi ?_;rintro d s1 ⟨rfl,rfl⟩;try refine go ?_
 refine ak gj ?_;rintro d s1 ⟨rfl,rfl⟩;try refine go ?_
 refine ak wi ?_;rintro d s1 ⟨rfl,x1,rfl,vR⟩;have PE:=vR;obtain⟨y1,rfl,w7⟩:=vR;have Ln:=fun p q=>qc (p:=p) (q:=q) (a:=a.1) w7
 repeat' first | refine go ?_ | refine dW ?_ (hp:=Ln _ _)
 refine ak wj ?_;rintro d s1 ⟨rfl,x2,rfl,vQ⟩;have PG:=vQ;obtain⟨y2,rfl,yp⟩:=vQ;have OC:=fun p q=>qc (p:=p) (q:=q) (a:=b.1) yp;have aa6:=FO (H:=H) hW hV hs PE PG l1 l2
 repeat' first | refine go ?_ | refine dW ?_ (hp:=OC _ _)
 refine ak aa6 ?_;rintro d s1 ⟨rfl,c,rfl,hc⟩;try refine go ?_
 exact ai ⟨congrArg D.bool (decide_eq_decide.mpr hc),rfl⟩
end
end Go.Proofs.Tab
