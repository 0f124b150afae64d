/- Part. -/
import Derived.Test.YtjaldhgmboeffaaGreatDoorG31
set_option linter.unusedSimpArgs false
set_option linter.unusedVariables false
set_option linter.unusedSectionVars false
set_option maxRecDepth 100000
set_option maxHeartbeats 2000000
namespace Go.Proofs.Tab
open Go Go.Ab Go.Ab.Sm
def iU:List Int->List Int
 | []=> []
 | [a]=> [a]
 | a::_::r=>a::iU r
theorem qm:∀L:List Int,(iU L).length=(L.length+1) / 2
 | []=>rfl
 | [a]=>by simp [iU]
 | a::b::r=>by simp only [iU,aV,qm r]; omega
theorem tU:∀(L:List Int) (j:Nat),(iU L)[j]? =L[2 * j]?
 | [],j=>by simp [iU]
 | [a],j=>by
  cases j with
  | zero=>rfl
  | succ j=>simp [iU]
 | a::b::r,j=>by
  cases j with
  | zero=>rfl
  | succ j=>simp only [iU,bY,tU r j,show 2 * (j+1)=2 * j+1+1 by omega]
def fi (t:Tm):List Int:=if t.kd=8\/t.kd=9 then t.kids else if t.kd=7 then iU t.kids else []
theorem tB (t:Tm):(fi t).length<=t.kids.length:=by
 unfold fi; split
 ·exact aq _
 ·split
  ·rw [qm]; omega
  ·simp
inductive o9 (s:St):D->List Int->Prop
 | vs (nl:Bool) (L:List Int) (hn:nl=true->L=[]):o9 s (.vs nl 1 (ints L)) L
 | nil:o9 s (.vs true 0 []) []
 | sl (o:Nat) (L:List Int) (h:s.get o=some (.arr 1 3 (ints L) 0)):o9 s (.sl o 0 L.length L.length) L
theorem o9.dK {W:Nat->Prop}{s s1:St}{x:D}{L:List Int}(h:o9 s x L)(hs:s.Ok)(hb:aF W s s1)(hw:∀o a l c,x= .sl o a l c-> ¬ W o):o9 s1 x L:=by
 rcases h with ⟨nl,L,hn⟩ | _ | ⟨o,L,h1⟩
 ·exact .vs nl L hn
 ·exact .nil
 ·exact .sl o L (hb.get hs h1 (hw _ _ _ _ rfl))
theorem ints_at {L:List Int}{j:Nat}{v:Int}(h:L[j]? =some v):(ints L)[j]? =some (.int .i64 v):=by simp only [ints,aC,h]; rfl
section
variable {T:Nat->Option dU}{H:ay}{s:St}{t:Tm}
theorem NM (hS:TS T)(h1:t.kd=8\/t.kd=9):cu T H 135 [t.d] s fun d s1=>d= .vs t.n2 1 (ints t.kids)/\s1=s:=by
 obtain⟨kd,b,ng,n1,mag,tx,n2,kids,gW,sm⟩:=t;simp only at h1;refine ax hS.t135 ?_;rcases h1 with rfl | rfl
 all_goals
  try refine go ?_
  exact ai ⟨rfl,rfl⟩
theorem JT (hS:TS T)(h1:t.kd≠8/\t.kd≠9/\t.kd≠7):cu T H 135 [t.d] s fun d s1=>d= .vs true 0 []/\s1=s:=by
 obtain⟨kd,b,ng,n1,mag,tx,n2,kids,gW,sm⟩:=t;simp only at h1;obtain⟨h1,h2,h3⟩:=h1;refine ax hS.t135 ?_;try refine go ?_
 exact ai ⟨rfl,rfl⟩
def abk (s:St)(d:D)(K:List Int)(m:Nat)(env:Env) (s' :St):Prop:=aF Nil s s' /\∃j,j<=K.length/\m=K.length - j/\
 ((j=0/\s' =s/\env=[(1,.lv d),(3,.vs true 0 []),(4,.int .i64 ((0:Nat):Int))])\/
  (0 < j/\s'.get s.n=some (.arr 1 3 (ints (K.take j)) 0)/\env=[(1,.lv d),(3,.sl s.n 0 j j),(4,.int .i64 ((2 * j:Nat):Int))]))
theorem J1 (hS:TS T)(hs:s.Ok)(ho:t.Ok)(h1:t.kd=7):cu T H 135 [t.d] s fun d s1=>o9 s1 d (iU t.kids)/\(∀o a l c,d= .sl o a l c->s.n<=o)/\aF Nil s s1:=by
 have hk:=ho.kids;obtain⟨kd,b,ng,n1,mag,tx,n2,kids,gW,sm⟩:=t;simp only at h1 hk; subst h1;have hl:=qm kids;have oM:=tU kids;have ja:=fB kids;have ZX:=fun j=>fB ((iU kids).take j);have yr:∀j,((iU kids).take j).length=min j (iU kids).length:=fun j=>cM;refine ax hS.t135 ?_;try refine go ?_
 refine cg (abk s (.agg [.int .i64 7,.bool b,.bool ng,.vs n1 1 (dz mag),.str tx,.vs n2 1 (ints kids),.bool gW,.bool sm]) (iU kids)) (iU kids).length rfl ⟨aF.refl hs,0,by omega,by omega,.inl ⟨rfl,rfl,rfl⟩⟩ ?_;rintro m env s1 ⟨b1,j,hj,rfl,hinv⟩;have ok1:=b1.ok;rcases aH j (iU kids).length with dM | pW
 ·have h2:2 * j < kids.length:=by omega
  have e1:kids[2 * j]? =some kids[2 * j]:=ab h2;have e2:(ints kids)[2 * j]? =some (.int .i64 kids[2 * j]):=ints_at e1;have e3:(iU kids)[j]? =some kids[2 * j]:=by rw [oM,e1]
  have e4:(iU kids).take (j+1)=(iU kids).take j++ [kids[2 * j]]:=by rw [ji,e3]; rfl
  have hw:IntKind.wrap .i64 (((2 * j:Nat):Int)+2)=((2 * (j+1):Nat):Int):=by rw [wrap_small (by omega) (by omega)]; omega
  rcases hinv with ⟨rfl,rfl,rfl⟩ | ⟨R0,hg,rfl⟩
  ·have Pu:IntKind.wrap .i64 (((0:Nat):Int)+2)=((2 * (0+1):Nat):Int):=hw;have e2' :(ints kids)[0]? =some (.int .i64 kids[2 * 0]):=e2;try refine go ?_
   simp only [Pu];try refine go ?_
   refine bf ((iU kids).length - (0+1)) (by omega) rfl ⟨aF.push b1 _,1,by omega,by omega,.inr ⟨by omega, ?_,rfl⟩⟩;rw [St.bu,e4]; rfl
  ·have acs:=ZX j;have acv:=yr j;have ln:=ok1.lt hg;have e5:(ints (List.take j (iU kids))).length=j:=by omega
   try refine go ?_
   simp only [hw];try refine go ?_
   refine bf ((iU kids).length - (j+1)) (by omega) rfl ⟨aF.set b1 _ ln (fun h=>by omega),j+1,by omega,by omega,.inr ⟨by omega, ?_,rfl⟩⟩;rw [St.aO,e4];simp only [ints,jb,bG,ef]
 ·have hje:j=(iU kids).length:=by omega
  rcases hinv with ⟨rfl,rfl,rfl⟩ | ⟨R0,hg,rfl⟩
  ·have e0:kids=[]:=by cases kids with
    | nil=>rfl
    | cons a l=>simp only [aV]at hl; omega
   subst e0;try refine go ?_
   exact ai ⟨.nil,fun _ _ _ _ e=>(by cases e),b1⟩
  ·try refine go ?_
   rw [hje,eE]at hg;refine ai (d:= .sl s.n 0 j j) ⟨?_,fun o a l c e=>(by cases e; exact aq _),b1⟩;rw [hje];exact .sl s.n _ hg
theorem Cp (hS:TS T)(hs:s.Ok)(ho:t.Ok):cu T H 135 [t.d] s fun d s1=>o9 s1 d (fi t)/\(∀o a l c,d= .sl o a l c->s.n<=o)/\aF Nil s s1:=by
 by_cases h1:t.kd=8\/t.kd=9
 ·obtain⟨d,s1,e,rfl,rfl⟩:=NM (H:=H) (s:=s) hS h1;refine⟨_,_,e, ?_,fun _ _ _ _ e=>(by cases e),aF.refl hs⟩;rw [fi,bT h1];exact .vs _ _ ho.n2
 ·by_cases h2:t.kd=7
  ·obtain⟨d,s1,e,h3,h4,h5⟩:=J1 (H:=H) hS hs ho h2;refine⟨_,_,e, ?_,h4,h5⟩;rw [fi,aK h1,bT h2]; exact h3
  ·obtain⟨d,s1,e,rfl,rfl⟩:=JT (H:=H) (s:=s) (t:=t) hS (by omega);refine⟨_,_,e, ?_,fun _ _ _ _ e=>(by cases e),aF.refl hs⟩;rw [fi,aK h1,aK h2]; exact .nil
end
section
variable {T:Nat->Option dU}{H:ay}{s:St}{so o la ta pl mp P Sh n lv tk:Nat}{V:List D}
theorem W6 (hT:TS T)(hs:s.Ok)(h:bc s so o la ta pl mp P Sh V n lv tk)(hn:n < 2147483648)(hl:lv < 2147483648)(ht:tk < 2147483648)(hV:V.length+1<=aL){kd:Int}{lx m:Nat}:
  cu T H 80 [.ptr so 0,.int .i64 kd,.sl lx 0 m m] s fun d s1=>d= .int .i64 V.length/\∃ro,s.n<=ro/\ro < s1.n/\s1.get ro=some (.var 122 (.agg [.int .i64 (n+1:Nat),.sl lx 0 m m,.int .i64 kd]))/\bc s1 so o la ta pl mp P Sh (V++ [.ia 118 (.ptr ro 0)]) (n+1) (lv+1) (tk+1)/\aF (bA so o la ta pl) s s1:=by
 have h0:=h;obtain⟨h1,h2,h3,⟨g1,g2,g3,k1,k2,k3⟩,h5⟩:=h0;have l1:=hs.lt h1; have l2:=hs.lt h2; have l3:=hs.lt h3; have l4:=hs.lt g1; have l5:=hs.lt g2; have l6:=hs.lt g3;have nd:=h5;simp only [fq,bR,fa,kL,kK,dC,fN,iq]at h5;obtain⟨⟨n1,n2,n3,n4,n5⟩,⟨n6,n7,n8,n9⟩,⟨Th,U8,TE⟩,⟨U6,T5⟩,VI⟩:=h5;refine ax hT.t80 ?_;try refine go ?_
 refine aX (uW hT (hs.up 1) (h.up 1) hn hl ht) ?_;rintro d s1 ⟨rfl,q1,q2⟩;have f1:(s.up 1).get so=_:=h1;have f2:=q1.go;refine⟨rfl,by simp [lost,eQ.kind,cK,dE,cF,aI,bC,bC.cW,gk,bP.ev,Env.get,cS,D.flat,D.isAgg,cP,D.fw,D.beq,aA,Obj.aW,bE,br,D.bW,D.aW,f1,f2], ?_⟩;have m1:=q2.n;have m2:=q2.ok;simp only [St.jx]at m1;have m0:s1.get (s.n+0)=none:=by
  rw [q2.same _ (by rw [St.jx]; omega) (by omega)];exact hs.fresh _ (by omega)
 have p1:=q1.go;try refine go ?_
 have c3:=(aF.set (W:=fun j=>j=s.n+0) (aF.refl q2.ok) (.var 122 (.agg [.int .i64 (n+1:Nat),.sl lx 0 m m,.int .i64 kd])) (o:=s.n+0) (by omega) (fun _=>rfl));have c1:=c3.ok;have c2:=q1.sl.dK q2.ok c3 (by omega) (by omega) (by omega);refine aX (qM hT c1 c2 hV) ?_;rintro d s2 ⟨rfl,q3,q4⟩;have e1:=c3.get q2.ok p1 (by omega);have e2:=q4.get c1 e1 (by omega);refine⟨rfl,by simp [lost,eQ.kind,cK,dE,cF,aI,bC,bC.cW,gk,bP.ev,Env.get,cS,D.flat,D.isAgg,cP,D.fw,D.beq,aA,Obj.aW,bE,br,D.bW,D.aW,e1,e2], ?_⟩;try refine go ?_
 have y1:=q4.get c1 (c3.get q2.ok q1.gp (by omega)) (by omega);have y2:=q4.get c1 (c3.get q2.ok q1.gm (by omega)) (by omega);have y3:=q4.get (o:=s.n+0) c1 St.aO (by omega);have z1:=q4.n;simp only [St.fE]at z1;refine ai ⟨rfl,s.n+0,by omega,by omega,y3,⟨e2,y1,y2,q3,nd⟩, ?_⟩;refine aF.trans' (W' :=fun j=>j=o\/j=la\/j=ta) (aF.trans' (W' :=fun j=>j=s.n+0) (aF.trans' (W' :=fun j=>j=so\/j=pl) ((aF.refl hs).up 1) q2 ?_) c3 ?_) q4 ?_
 ·rintro j (rfl | rfl) _ <;> simp [bA]
 ·rintro j rfl hj; omega
 ·rintro j (rfl | rfl | rfl) _ <;> simp [bA]
theorem FA (hT:TS T)(hs:s.Ok)(h:bc s so o la ta pl mp P Sh V n lv tk)(hn:n < 2147483648)(hl:lv < 2147483648)(ht:tk < 2147483648)(hV:V.length+1<=aL){kd:Int}{dv:Nat}:
  cu T H 202 [.ptr so 0,.int .i64 kd,.ptr dv 0] s fun d s1=>d= .int .i64 V.length/\∃ro,s.n<=ro/\ro < s1.n/\s1.get ro=some (.var 89 (.agg [.int .i64 (n+1:Nat),.ptr dv 0,.int .i64 kd]))/\bc s1 so o la ta pl mp P Sh (V++ [.ia 81 (.ptr ro 0)]) (n+1) (lv+1) (tk+1)/\aF (bA so o la ta pl) s s1:=by
 have h0:=h;obtain⟨h1,h2,h3,⟨g1,g2,g3,k1,k2,k3⟩,h5⟩:=h0;have l1:=hs.lt h1; have l2:=hs.lt h2; have l3:=hs.lt h3; have l4:=hs.lt g1; have l5:=hs.lt g2; have l6:=hs.lt g3;have nd:=h5;simp only [fq,bR,fa,kL,kK,dC,fN,iq]at h5;obtain⟨⟨n1,n2,n3,n4,n5⟩,⟨n6,n7,n8,n9⟩,⟨Th,U8,TE⟩,⟨U6,T5⟩,VI⟩:=h5;refine ax hT.t202 ?_;try refine go ?_
 refine aX (uW hT (hs.up 1) (h.up 1) hn hl ht) ?_;rintro d s1 ⟨rfl,q1,q2⟩;have f1:(s.up 1).get so=_:=h1;have f2:=q1.go;refine⟨rfl,by simp [lost,eQ.kind,cK,dE,cF,aI,bC,bC.cW,gk,bP.ev,Env.get,cS,D.flat,D.isAgg,cP,D.fw,D.beq,aA,Obj.aW,bE,br,D.bW,D.aW,f1,f2], ?_⟩;have m1:=q2.n;have m2:=q2.ok;simp only [St.jx]at m1;have m0:s1.get (s.n+0)=none:=by
  rw [q2.same _ (by rw [St.jx]; omega) (by omega)];exact hs.fresh _ (by omega)
 have p1:=q1.go;try refine go ?_
 have c3:=(aF.set (W:=fun j=>j=s.n+0) (aF.refl q2.ok) (.var 89 (.agg [.int .i64 (n+1:Nat),.ptr dv 0,.int .i64 kd])) (o:=s.n+0) (by omega) (fun _=>rfl));have c1:=c3.ok;have c2:=q1.sl.dK q2.ok c3 (by omega) (by omega) (by omega);refine aX (qM hT c1 c2 hV) ?_;rintro d s2 ⟨rfl,q3,q4⟩;have e1:=c3.get q2.ok p1 (by omega);have e2:=q4.get c1 e1 (by omega);refine⟨rfl,by simp [lost,eQ.kind,cK,dE,cF,aI,bC,bC.cW,gk,bP.ev,Env.get,cS,D.flat,D.isAgg,cP,D.fw,D.beq,aA,Obj.aW,bE,br,D.bW,D.aW,e1,e2], ?_⟩;try refine go ?_
 have y1:=q4.get c1 (c3.get q2.ok q1.gp (by omega)) (by omega);have y2:=q4.get c1 (c3.get q2.ok q1.gm (by omega)) (by omega);have y3:=q4.get (o:=s.n+0) c1 St.aO (by omega);have z1:=q4.n;simp only [St.fE]at z1;refine ai ⟨rfl,s.n+0,by omega,by omega,y3,⟨e2,y1,y2,q3,nd⟩, ?_⟩;refine aF.trans' (W' :=fun j=>j=o\/j=la\/j=ta) (aF.trans' (W' :=fun j=>j=s.n+0) (aF.trans' (W' :=fun j=>j=so\/j=pl) ((aF.refl hs).up 1) q2 ?_) c3 ?_) q4 ?_
 ·rintro j (rfl | rfl) _ <;> simp [bA]
 ·rintro j rfl hj; omega
 ·rintro j (rfl | rfl | rfl) _ <;> simp [bA]
theorem QI (hT:TS T)(hs:s.Ok)(h:bc s so o la ta pl mp P Sh V n lv tk)(hn:n < 2147483648)(hl:lv < 2147483648)(ht:tk < 2147483648)(hV:V.length+1<=aL){kd v:Int}:
  cu T H 84 [.ptr so 0,.int .i64 kd,.int .i64 v] s fun d s1=>d= .int .i64 V.length/\∃ro,s.n<=ro/\ro < s1.n/\s1.get ro=some (.var 208 (.agg [.int .i64 (n+1:Nat),.int .i64 v,.int .i64 kd]))/\bc s1 so o la ta pl mp P Sh (V++ [.ia 143 (.ptr ro 0)]) (n+1) (lv+1) (tk+1)/\aF (bA so o la ta pl) s s1:=by
 have h0:=h;obtain⟨h1,h2,h3,⟨g1,g2,g3,k1,k2,k3⟩,h5⟩:=h0;have l1:=hs.lt h1; have l2:=hs.lt h2; have l3:=hs.lt h3; have l4:=hs.lt g1; have l5:=hs.lt g2; have l6:=hs.lt g3;have nd:=h5;simp only [fq,bR,fa,kL,kK,dC,fN,iq]at h5;obtain⟨⟨n1,n2,n3,n4,n5⟩,⟨n6,n7,n8,n9⟩,⟨Th,U8,TE⟩,⟨U6,T5⟩,VI⟩:=h5;refine ax hT.t84 ?_;try refine go ?_
 refine aX (uW hT (hs.up 1) (h.up 1) hn hl ht) ?_;rintro d s1 ⟨rfl,q1,q2⟩;have f1:(s.up 1).get so=_:=h1;have f2:=q1.go;refine⟨rfl,by simp [lost,eQ.kind,cK,dE,cF,aI,bC,bC.cW,gk,bP.ev,Env.get,cS,D.flat,D.isAgg,cP,D.fw,D.beq,aA,Obj.aW,bE,br,D.bW,D.aW,f1,f2], ?_⟩;have m1:=q2.n;have m2:=q2.ok;simp only [St.jx]at m1;have m0:s1.get (s.n+0)=none:=by
  rw [q2.same _ (by rw [St.jx]; omega) (by omega)];exact hs.fresh _ (by omega)
 have p1:=q1.go;try refine go ?_
 have c3:=(aF.set (W:=fun j=>j=s.n+0) (aF.refl q2.ok) (.var 208 (.agg [.int .i64 (n+1:Nat),.int .i64 v,.int .i64 kd])) (o:=s.n+0) (by omega) (fun _=>rfl));have c1:=c3.ok;have c2:=q1.sl.dK q2.ok c3 (by omega) (by omega) (by omega);refine aX (qM hT c1 c2 hV) ?_;rintro d s2 ⟨rfl,q3,q4⟩;have e1:=c3.get q2.ok p1 (by omega);have e2:=q4.get c1 e1 (by omega);refine⟨rfl,by simp [lost,eQ.kind,cK,dE,cF,aI,bC,bC.cW,gk,bP.ev,Env.get,cS,D.flat,D.isAgg,cP,D.fw,D.beq,aA,Obj.aW,bE,br,D.bW,D.aW,e1,e2], ?_⟩;try refine go ?_
 have y1:=q4.get c1 (c3.get q2.ok q1.gp (by omega)) (by omega);have y2:=q4.get c1 (c3.get q2.ok q1.gm (by omega)) (by omega);have y3:=q4.get (o:=s.n+0) c1 St.aO (by omega);have z1:=q4.n;simp only [St.fE]at z1;refine ai ⟨rfl,s.n+0,by omega,by omega,y3,⟨e2,y1,y2,q3,nd⟩, ?_⟩;refine aF.trans' (W' :=fun j=>j=o\/j=la\/j=ta) (aF.trans' (W' :=fun j=>j=s.n+0) (aF.trans' (W' :=fun j=>j=so\/j=pl) ((aF.refl hs).up 1) q2 ?_) c3 ?_) q4 ?_
 ·rintro j (rfl | rfl) _ <;> simp [bA]
 ·rintro j rfl hj; omega
 ·rintro j (rfl | rfl | rfl) _ <;> simp [bA]
theorem Xu (hT:TS T)(hs:s.Ok)(h:bc s so o la ta pl mp P Sh V n lv tk)(ht:tk < 2147483648)(hV:V.length+1<=aL){x:List UInt8}:
  cu T H 79 [.ptr so 0,.str x] s fun d s1=>d= .int .i64 V.length/\bc s1 so o la ta pl mp P Sh (V++ [.ia 191 (.agg [.str x])]) n lv (tk+1)/\aF (bA so o la ta pl) s s1:=by
 have hm:=Co (H:=H) hT hs h ht;refine ax hT.t79 ?_;try refine go ?_
 refine ak hm ?_;rintro d s1 ⟨q1,q2⟩;have g:=q1.go;have ok1:=q2.ok;try refine go ?_
 refine ak (qM hT ok1 q1.sl hV) ?_;rintro d s2 ⟨rfl,q3,q4⟩;have nd:=q1.nd;simp only [fq,bR,fa,kL,kK,dC,fN,iq]at nd;obtain⟨⟨n1,n2,n3,n4,n5⟩,⟨n6,n7,n8,n9⟩,⟨Th,U8,TE⟩,⟨U6,T5⟩,VI⟩:=nd;try refine go ?_
 refine ai ⟨rfl,⟨q4.get ok1 g (by omega),q4.get ok1 q1.gp (by omega),q4.get ok1 q1.gm (by omega),q3,q1.nd⟩,(q2.mono fun j hj=>by subst hj; simp [bA]).trans (q4.mono fun j hj=> ?_)⟩;rcases hj with rfl | rfl | rfl <;> simp [bA]
theorem WL (hT:TS T)(hs:s.Ok)(h:bc s so o la ta pl mp P Sh V n lv tk)(ht:tk < 2147483648)(hV:V.length+1<=aL){m:Bool×List Nat}{y:D}(hy:Ws s y m.2):
  cu T H 77 [.ptr so 0,.agg [.bool m.1,y]] s fun d s1=>d= .int .i64 V.length/\bc s1 so o la ta pl mp P Sh (V++ [.ia 184 (.agg [.bool m.1,y])]) n lv (tk+1)/\aF (bA so o la ta pl) s s1:=by
 have hm:=Co (H:=H) hT hs h ht;refine ax hT.t77 ?_;rcases hy.sh with ⟨nl,z,l,rfl⟩ | ⟨o',l,c,rfl⟩
 all_goals
  try refine go ?_
  refine ak hm ?_;rintro d s1 ⟨q1,q2⟩;have g:=q1.go;have ok1:=q2.ok;try refine go ?_
  refine aX (qM hT ok1 q1.sl hV) ?_;rintro d s2 ⟨rfl,q3,q4⟩;refine⟨rfl,by rfl, ?_⟩;have nd:=q1.nd;simp only [fq,bR,fa,kL,kK,dC,fN,iq]at nd;obtain⟨⟨n1,n2,n3,n4,n5⟩,⟨n6,n7,n8,n9⟩,⟨Th,U8,TE⟩,⟨U6,T5⟩,VI⟩:=nd;try refine go ?_
  refine ai ⟨rfl,⟨q4.get ok1 g (by omega),q4.get ok1 q1.gp (by omega),q4.get ok1 q1.gm (by omega),q3,q1.nd⟩,(q2.mono fun j hj=>by subst hj; simp [bA]).trans (q4.mono fun j hj=> ?_)⟩;rcases hj with rfl | rfl | rfl <;> simp [bA]
end
section
variable {T:Nat->Option dU}{H:ay}{s:St}{so o la ta pl mp P Sh n lv tk:Nat}{V:List D}
theorem bc.nil {s1:St}(h:bc s so o la ta pl mp P Sh V n lv tk)(hs:s.Ok)(hb:aF Nil s s1):bc s1 so o la ta pl mp P Sh V n lv tk:=h.dK hs hb fun _ _ h=>h
theorem OF (hS:TS T)(hT:TT T)(hP:TP T)(hs:s.Ok)(h:bc s so o la ta pl mp P Sh V n lv tk)(hn:n < 2147483648)(hl:lv < 2147483648)(ht:tk < 2147483648)(hV:V.length+1<=aL)(hp:P<=65536){kd:Nat}:
  cu T H 143 [.ptr so 0,.int .i64 kd] s fun d s1=>d= .int .i64 V.length/\∃po dv,s.n<=po/\po < s1.n/\s1.get po=some (.var 89 (.agg [.int .i64 (n+1:Nat),.ptr dv 0,.int .i64 kd]))/\
   fD (fun j=>s.n<=j/\j < s1.n) s1 dv P []/\fD (fun j=>s.n<=j/\j < s1.n/\j≠po) s1 dv P []/\bc s1 so o la ta pl mp P Sh (V++ [.ia 81 (.ptr po 0)]) (n+1) (lv+1) (tk+1)/\aF (bA so o la ta pl) s s1:=by
 have g:=h.go;have WG:=Ii (H:=H) hT hP hs hp;refine ax hS.t143 ?_;try refine go ?_
 refine aX WG ?_;rintro d s1 ⟨to,dv,co,ro,b,st,C,rfl,h1,h2,h3,h4,h5,h6,h7,h8⟩;refine⟨rfl,by rfl, ?_⟩;have ok1:=h8.ok;have mE:=h.nil hs h8;try refine go ?_
 refine ak (FA hS ok1 mE hn hl ht hV) ?_;rintro d s2 ⟨rfl,po,p1,p2,p3,p4,p5⟩;have ln:=h8.n; have ln2:=p5.n;have dM:=fun j (hj:bA so o la ta pl j\/j=mp)=>h.lt hs hj;have nW:∀j,s.n<=j-> ¬ bA so o la ta pl j:=fun j hj hh=>by have:=dM j (.inl hh); omega
 have l1:=ok1.lt h6; have l2:=ok1.lt h7.go; have l3:=ok1.lt h7.ce.go; have l4:=ok1.lt h7.ce.gr;have d2:fD (fun j=>s.n<=j/\j < s1.n) s1 dv P []:=⟨to,to,co,ro,3,b,st,_,C,0,h6,⟨h7.go,.nil to,h7.ce,h7.la,h7.rm⟩,⟨h2,l1⟩,⟨h1,l2⟩,⟨h1,l2⟩,⟨h3,l3⟩,⟨h4,l4⟩,aS _⟩;have d3:=d2.dK ok1 p5 fun o _ ho=>nW o ho.1;try refine go ?_
 exact ai ⟨rfl,po,dv,by omega,p2,p3,d3.mono fun o ho=>⟨ho.1,by omega⟩,d3.mono fun o ho=>⟨ho.1,by omega,by omega⟩,p4,(h8.mono fun _ h=>h.elim).trans p5⟩
end
section
variable {T:Nat->Option dU}{H:ay}{s:St}{so o la ta pl mp P Sh n lv tk:Nat}{V:List D}
@[reducible] def QS (sh P ko mo:Nat):D:= .agg [.int .i64 sh,.int .i64 P,.cz,.ptr ko 0,.vs true 0 [],.mp mo]
theorem Ww (hS:TS T)(hT:TT T)(hs:s.Ok)(hp:P<=65536)(gX:Sh<=256):
  cu T H 146 [.int .i64 Sh,.int .i64 P,.cz] s fun d s1=>∃fo ko mo,d= .gK [.ptr fo 0,.int .i64 0]/\s.n<=fo/\s1.get fo=some (.var 307 (QS Sh P ko mo))/\aF Nil s s1:=by
 have hn:=Hz (H:=H) hT hs;refine ax hS.t146 ?_;try refine go ?_
 refine ak hn ?_;rintro d s1 ⟨rfl,co,ro,b,st,C,h1,h2,h3,h4,h5,h6⟩;have ok1:=h6.ok;have n1:=h6.n;try refine go ?_
 refine ai ⟨_,_,_,rfl, ?_,St.bu,aF.push (aF.push h6 _) _⟩;rw [St.dV]; omega
theorem M5 (hS:TS T)(hT:TT T)(hP:TP T)(hs:s.Ok)(h:bc s so o la ta pl mp P Sh V n lv tk)(hn:n < 2147483648)(hl:lv < 2147483648)(ht:tk < 2147483648)(hV:V.length+1<=aL)(hp:P<=65536)(gX:Sh<=256):
  cu T H 82 [.ptr so 0,.str [67],.int .i64 (-1)] s fun d s1=>d= .int .i64 V.length/\∃po dv fo ko mo,s.n<=po/\s.n<=fo/\po≠fo/\s1.get po=some (.var 179 (.agg [.int .i64 (n+1:Nat),.ptr dv 0,.str [67],.int .i64 (-1),.ptr fo 0,.bool false,.bool false]))/\
   s1.get fo=some (.var 307 (QS Sh P ko mo))/\bc s1 so o la ta pl mp P Sh (V++ [.ia 175 (.ptr po 0)]) (n+1) (lv+1) (tk+1)/\aF (bA so o la ta pl) s s1:=by
 have g:=h.go;have WG:=Ii (H:=H) hT hP hs hp;refine ax hS.t82 ?_;try refine go ?_
 refine aX WG ?_;rintro d s1 ⟨to,dv,co,ro,b,st,C,rfl,h1,h2,h3,h4,h5,h6,h7,h8⟩;refine⟨rfl,by rfl, ?_⟩;have ok1:=h8.ok;have mE:=h.nil hs h8;have g1:=mE.go;have hfm:=Ww (H:=H) hS hT ok1 hp gX;try refine go ?_
 refine aX hfm ?_;rintro d s2 ⟨fo,ko,mo,rfl,i1,i2,i3⟩;refine⟨rfl,by rfl, ?_⟩;have ok2:=i3.ok;have tJ:=mE.nil ok1 i3;have g2:=tJ.go;have ln:=h8.n; have ln2:=i3.n;have lfo:=ok2.lt i2;have dM:=fun j (hj:bA so o la ta pl j\/j=mp)=>h.lt hs hj;have nW:∀j,s.n<=j-> ¬ bA so o la ta pl j:=fun j hj hh=>by have:=dM j (.inl hh); omega
 have h0:=tJ;obtain⟨u1,u2,u3,⟨v1,v2,v3,k1,k2,k3⟩,u5⟩:=h0;have l1:=ok2.lt u1; have l2:=ok2.lt u2; have l3:=ok2.lt u3; have l4:=ok2.lt v1; have l5:=ok2.lt v2; have l6:=ok2.lt v3;have nd:=u5;simp only [fq,bR,fa,kL,kK,dC,fN,iq]at u5;obtain⟨⟨n1,n2,n3,n4,n5⟩,⟨n6,n7,n8,n9⟩,⟨Th,U8,TE⟩,⟨U6,T5⟩,VI⟩:=u5;try refine go ?_
 refine aX (uW hS (ok2.up 1) (tJ.up 1) hn hl ht) ?_;rintro d s3 ⟨rfl,q1,q2⟩;have f1:(s2.up 1).get so=_:=u1;have f2:=q1.go;refine⟨rfl,by simp [lost,eQ.kind,cK,dE,cF,aI,bC,bC.cW,gk,bP.ev,Env.get,cS,D.flat,D.isAgg,cP,D.fw,D.beq,aA,Obj.aW,bE,br,D.bW,D.aW,f1,f2], ?_⟩;have m1:=q2.n;have m2:=q2.ok;simp only [St.jx]at m1;have m0:s3.get (s2.n+0)=none:=by
  rw [q2.same _ (by rw [St.jx]; omega) (by omega)];exact ok2.fresh _ (by omega)
 have p1:=q1.go;try refine go ?_
 have c3:=(aF.set (W:=fun j=>j=s2.n+0) (aF.refl q2.ok) (.var 179 (.agg [.int .i64 (n+1:Nat),.ptr dv 0,.str [67],.int .i64 (-1),.ptr fo 0,.bool false,.bool false])) (o:=s2.n+0) (by omega) (fun _=>rfl));have c1:=c3.ok;have c2:=q1.sl.dK q2.ok c3 (by omega) (by omega) (by omega);refine aX (qM hS c1 c2 hV) ?_;rintro d s4 ⟨rfl,q3,q4⟩;have e1:=c3.get q2.ok p1 (by omega);have e2:=q4.get c1 e1 (by omega);refine⟨rfl,by simp [lost,eQ.kind,cK,dE,cF,aI,bC,bC.cW,gk,bP.ev,Env.get,cS,D.flat,D.isAgg,cP,D.fw,D.beq,aA,Obj.aW,bE,br,D.bW,D.aW,e1,e2], ?_⟩;try refine go ?_
 have y1:=q4.get c1 (c3.get q2.ok q1.gp (by omega)) (by omega);have y2:=q4.get c1 (c3.get q2.ok q1.gm (by omega)) (by omega);have y3:=q4.get (o:=s2.n+0) c1 St.aO (by omega);have nfo: ¬ bA so o la ta pl fo:=nW fo (by omega);have y4:=q4.get c1 (c3.get q2.ok (q2.get (ok2.up 1) (St.Cn i2) (fun hh=>nfo (by rcases hh with rfl | rfl <;> simp [bA]))) (by omega)) (fun hh=>nfo (by rcases hh with rfl | rfl | rfl <;> simp [bA]));refine ai ⟨rfl,s2.n+0,dv,fo,ko,mo,by omega,by omega,by omega,y3,y4,⟨e2,y1,y2,q3,nd⟩, ?_⟩;refine ((h8.mono fun _ h=>h.elim).trans (i3.mono fun _ h=>h.elim)).trans (aF.trans' (W' :=fun j=>j=o\/j=la\/j=ta) (aF.trans' (W' :=fun j=>j=s2.n+0) (aF.trans' (W' :=fun j=>j=so\/j=pl) ((aF.refl ok2).up 1) q2 ?_) c3 ?_) q4 ?_)
 ·rintro j (rfl | rfl) _ <;> simp [bA]
 ·rintro j rfl hj; omega
 ·rintro j (rfl | rfl | rfl) _ <;> simp [bA]
end
section
variable {T:Nat->Option dU}{H:ay}{s:St}{so o la ta pl mp P Sh n lv tk:Nat}{V:List D}
theorem RG (hS:TS T)(hs:s.Ok){fo sh P ko mo:Nat}(hf:s.get fo=some (.var 307 (QS sh P ko mo))):
  cu T H 147 [.ptr fo 0] s fun d s1=>∃sp ro,d= .ptr sp 0/\s.n<=sp/\s.n<=ro/\s1.get sp=some (.var 315 (.agg [.ptr fo 0,.ia 309 (.ptr ro 0),.int .u64 0]))/\s1.get ro=some (.var 311 (.agg [.vs true 0 []]))/\aF Nil s s1:=by
 refine ax hS.t147 ?_
 repeat' first | refine go ?_ | refine eW hS.t205 ?_
 refine ai ⟨s.n+1,s.n,rfl,by omega,by omega, ?_, ?_,aF.push (aF.push (aF.refl hs) _) _⟩
 ·exact St.bu
 ·exact St.fV St.bu (by rw [St.dV]; omega)
theorem EK (hS:TS T)(hs:s.Ok)(h:bc s so o la ta pl mp P Sh V n lv tk)(hn:n < 2147483648)(hl:lv < 2147483648)(ht:tk < 2147483648)(hV:V.length+1<=aL){c cp fo sh Q ko mo:Nat}{cn cd cb:D}{chs csm:Bool}{ct:List UInt8}
  (hc:V[c]? =some (.ia 175 (.ptr cp 0)))(gc:s.get cp=some (.var 179 (.agg [cn,cd,.str ct,cb,.ptr fo 0,.bool chs,.bool csm])))(gf:s.get fo=some (.var 307 (QS sh Q ko mo)))(wc: ¬ bA so o la ta pl cp)(wf: ¬ bA so o la ta pl fo):
  cu T H 83 [.ptr so 0,.int .i64 c] s fun d s1=>d= .int .i64 V.length/\∃po sp ro,s.n<=po/\s.n<=sp/\s.n<=ro/\s1.get po=some (.var 213 (.agg [.int .i64 (n+1:Nat),.ptr sp 0,.int .i64 c]))/\
   s1.get sp=some (.var 315 (.agg [.ptr fo 0,.ia 309 (.ptr ro 0),.int .u64 0]))/\s1.get ro=some (.var 311 (.agg [.vs true 0 []]))/\bc s1 so o la ta pl mp P Sh (V++ [.ia 199 (.ptr po 0)]) (n+1) (lv+1) (tk+1)/\aF (bA so o la ta pl) s s1:=by
 have dM:=fun j (hj:bA so o la ta pl j\/j=mp)=>h.lt hs hj;have nW:∀j,s.n<=j-> ¬ bA so o la ta pl j:=fun j hj hh=>by have:=dM j (.inl hh); omega
 refine ax hS.t83 ?_;try refine go ?_
 refine ak (uW hS hs h hn hl ht) ?_;rintro d s1 ⟨rfl,mE,b1⟩;have ok1:=b1.ok;have PB :aF (bA so o la ta pl) s s1:=b1.mono fun j hj=>by rcases hj with rfl | rfl <;> simp [bA]
 have gc1:=PB.get hs gc wc;have gf1:=PB.get hs gf wf;have ln1:=b1.n;try refine go ?_
 obtain⟨s2,GY⟩:∃s2,s2=s1.bz (.var 213 (.agg [.int .i64 (n+1:Nat),.cz,.int .i64 c])):=⟨_,rfl⟩;have b2:aF Nil s1 s2:=by rw [GY]; exact aF.push (aF.refl ok1) _
 have g2:s2.get s1.n=some (.var 213 (.agg [.int .i64 (n+1:Nat),.cz,.int .i64 c])):=by rw [GY]; exact St.bu
 show Sm.Call T H _ _ _ _ _ _ _ (s1.bz (.var 213 (.agg [.int .i64 (n+1:Nat),.cz,.int .i64 c]))) _;rw [← GY];have ok2:=b2.ok;have tJ:=mE.nil ok1 b2;have gc2:=b2.get ok1 gc1 (fun h=>h);have gf2:=b2.get ok1 gf1 (fun h=>h);refine ak (dD hS tJ hc) ?_;rintro d s2 ⟨rfl,rfl⟩;try refine go ?_
 refine ak (RG hS ok2 gf2) ?_;rintro d s3 ⟨sp,ro,rfl,i1,i2,i3,i4,b3⟩;have ok3:=b3.ok;have Yi:=tJ.nil ok2 b3;have g3:=b3.get ok2 g2 (fun h=>h);have ln2:=b2.n; have ln3:=b3.n;have l3:=ok3.lt g3;have acH:s2.n=s1.n+1:=by rw [GY]; rfl
 have gs3:=Yi.go;have lso:=ok3.lt gs3;have nso:so≠s1.n:=by have:=dM so (.inl (by simp [bA])); omega
 try refine go ?_
 have b4:aF (fun j=>j=s1.n) s3 (s3.bF s1.n (.var 213 (.agg [.int .i64 (n+1:Nat),.ptr sp 0,.int .i64 c]))):=aF.set (W:=fun j=>j=s1.n) (aF.refl ok3) _ l3 (fun _=>rfl);have Ft:=Yi.dK ok3 b4 fun j hj e=>by have:=dM j hj; omega
 refine ak (qM hS b4.ok Ft.sl hV) ?_;rintro d s5 ⟨rfl,q3,q4⟩;have nd:=Ft.nd;simp only [fq,bR,fa,kL,kK,dC,fN,iq]at nd;obtain⟨⟨n1,n2,n3,n4,n5⟩,⟨n6,n7,n8,n9⟩,⟨Th,U8,TE⟩,⟨U6,T5⟩,VI⟩:=nd;have nw:∀j,s.n<=j-> ¬ (j=o\/j=la\/j=ta):=fun j hj hh=>nW j hj (by rcases hh with rfl | rfl | rfl <;> simp [bA]);try refine go ?_
 refine ai ⟨rfl,s1.n,sp,ro,by omega,by omega,by omega,q4.get b4.ok St.aO (nw _ (by omega)),q4.get b4.ok (b4.get ok3 i3 (by omega)) (nw _ (by omega)),q4.get b4.ok (b4.get ok3 i4 (by omega)) (nw _ (by omega)),
  ⟨q4.get b4.ok Ft.go (by omega),q4.get b4.ok Ft.gp (by omega),q4.get b4.ok Ft.gm (by omega),q3,Ft.nd⟩, ?_⟩
 refine (((PB.trans (b2.mono fun _ h=>h.elim)).trans (b3.mono fun _ h=>h.elim)).trans' b4 fun o h1 h2=>by exfalso; omega).trans' q4 ?_;rintro j (rfl | rfl | rfl) _ <;> simp [bA]
end
inductive EY (Vs:List gP)(most:Nat):List (Nat×Int)->List eU->Prop
 | nil:EY Vs most [] []
 | snoc {l:List (Nat×Int)} {E:List eU} (h:Int) (r:Nat) (v:Int) (hp:EY Vs most l E):EY Vs most (l++ [(r,v)]) (Ez Vs most E h r v)
def wP (t:Tm)(R:List Nat)(j:Nat):List (Nat×Int):=(List.range j).map fun i=>(R.getD ((fi t).getD i 0).toNat 0,if t.kd=7 then ((R.getD (t.kids.getD (2 * i+1) 0).toNat 0:Nat):Int) else 0)
theorem Fw (t:Tm)(R:List Nat)(j:Nat):wP t R (j+1)=wP t R j++ [(R.getD ((fi t).getD j 0).toNat 0,if t.kd=7 then ((R.getD (t.kids.getD (2 * j+1) 0).toNat 0:Nat):Int) else 0)]:=by
 simp only [wP,nR,jb,bG,ef]
structure ka (tms:List Tm)(i:Nat)(t:Tm):Prop where
 kids:∀k∈t.kids,0<=k/\k < (if t.kd=6 then tms.length else i:Nat)
 keys:∀k∈fi t,∃u,tms[k.toNat]? =some u/\EE u
 even:t.kd=7->t.kids.length % 2=0
 kind:(1<=t.kd/\t.kd<=9)\/(14<=t.kd/\t.kd<=17)
 none:(t.kd<=4\/t.kd=14)->t.kids=[]
 view:15<=t.kd->t.kids.length=1
def Mk (tms:List Tm)(R:List Nat)(Vs:List gP):Prop:=∀(k r:Nat) (t:Tm),R[k]? =some r->tms[k]? =some t->∃w,Vs[r]? =some w/\zr t w
theorem vp:∀ {L:List Int} {k:Int},k∈iU L->k∈L
 | [],k,h=>by simp [iU]at h
 | [a],k,h=>by simpa [iU] using h
 | a::b::r,k,h=>by
  simp only [iU,bR]at h ⊢;rcases h with h | h
  ·exact .inl h
  ·exact .inr (.inr (vp h))
theorem yI {t:Tm}{k:Int}(h:k∈fi t):k∈t.kids:=by
 unfold fi at h;split at h
 ·exact h
 ·split at h
  ·exact vp h
  ·simp at h
structure qH (P Sh:Nat)(s:St)(so o la ta pl mp:Nat)(Ds:List D)(n lv tk po dv:Nat)(Vs:List gP)(t:Tm)(R:List Nat)(xk:D)(j:Nat) (s' :St):Prop where
 ok:s'.Ok
 bh:aF (bA so o la ta pl) s s'
 st:bc s' so o la ta pl mp P Sh (Ds++ [.ia 81 (.ptr po 0)]) (n+1) (lv+1) (tk+1)
 gp:s'.get po=some (.var 89 (.agg [.int .i64 (n+1:Nat),.ptr dv 0,.int .i64 t.kd]))
 pn:s.n<=po/\po < s'.n
 ks:o9 s' xk (fi t)
 kn:∀o a l c,xk= .sl o a l c->s.n<=o/\o≠po
 di:∃W E,fD W s' dv P E/\(∀o,W o->s.n<=o/\o < s'.n/\o≠po/\∀q a l c,xk= .sl q a l c->o≠q)/\pV Ds.length E/\EY Vs P (wP t R j) E
section
variable {T:Nat->Option dU}{H:ay}{s:St}{so o la ta pl mp P Sh n lv tk bo i:Nat}{Ds:List D}{Vs:List gP}{F:Nat->Nat->Prop}{tms:List Tm}{t:Tm}{R:List Nat}{x:D}
theorem qH.put (hS:TS T)(hT:TT T)(hP:TP T)(hW:TW T)(hV:TV T)(hs:s.Ok)(hp:P<=1000)(dN:bc s so o la ta pl mp P Sh Ds n lv tk)(zJ:eV P s F Ds Vs)(hF:∀i j,F i j-> ¬ bA so o la ta pl j)(hb:lS s bo so tms x)(hR:Refs s x R)(hRi:R.length=i)
  (AO:Mk tms R Vs)(wh:tms[i]? =some t)(fK:∀u∈tms,u.Ok)(hg:ka tms i t)(h6:t.kd≠6)(Q0: ¬ bA so o la ta pl bo)(hx:∀q a l c,x= .sl q a l c-> ¬ bA so o la ta pl q)
  {po dv:Nat}{xk:D}{j:Nat} {s' :St}(hI:qH P Sh s so o la ta pl mp Ds n lv tk po dv Vs t R xk j s'){k:Int}(hk:(fi t)[j]? =some k){v:Int}(hv:v=if t.kd=7 then ((R.getD (t.kids.getD (2 * j+1) 0).toNat 0:Nat):Int) else 0):
  ∃q r,k=(q:Nat)/\R[q]? =some r/\cu T H 144 [.ptr bo 0,.ptr po 0,.int .i64 k,.int .i64 v] s' fun _ s1=>qH P Sh s so o la ta pl mp Ds n lv tk po dv Vs t R xk (j+1) s1:=by
 obtain⟨ok',bh,st,gp,⟨po1,po2⟩,ks,kn,W,E,d1,d2,d3,d4⟩:=hI;have hkm:=aM hk;obtain⟨k0,k1⟩:=hg.kids k (yI hkm);rw [aK h6]at k1;obtain⟨q,rfl⟩:∃q:Nat,k=q:=⟨k.toNat,by omega⟩;have hq:q < R.length:=by omega
 obtain⟨u,hu,hku⟩:=hg.keys _ hkm;simp only [cZ]at hu;have hr:R[q]? =some R[q]:=ab hq;obtain⟨w,hw1,Nw⟩:=AO q R[q] u hr hu;have ur:R[q] < Ds.length:=by
  have:=(aj.mp hw1).1;rw [zJ.ln]; exact this
 refine⟨q,R[q],rfl,hr, ?_⟩;have jl :lS s' bo so tms x:=⟨bh.get hs hb.go Q0⟩;have hR' :Refs s' x R:=hR.dK hs bh hx;have dM:=fun j (hj:bA so o la ta pl j\/j=mp)=>dN.lt hs hj;have lbo:=hs.lt hb.go
 have hcx:CV P s' Ds.length (Ds++ [.ia 81 (.ptr po 0)]) Vs W:=fun i hi=>by
  have Fk:i < Vs.length:=by rw [← zJ.ln]; exact hi
  refine⟨Ds[i],Vs[i],F i,by rw [aP hi,ab hi],ab Fk,(zJ.at' i _ _ (ab hi) (ab Fk)).dK hs bh (fun j _ hj=>hF i j hj),fun j hj hw=> ?_⟩;have:=(zJ.lt i j hj).1;have:=(d2 j hw).1;omega
 have tW:=WC (H:=H) (v:=v) hS hT hP hW hV ok' st jl hR' hu (fK u (aM hu)) hr hcx ur d3 (fun w' hw' =>by rw [hw1]at hw'; simp only [aa]at hw'; subst hw'; exact Nw) hku gp d1 hp (fun j hj=>(d2 j hj).2.1)
  (fun j hj hw=>by have:=dM j hj; have:=(d2 j hw).1; omega) (fun hw=>by have:=(d2 bo hw).1; omega) (fun q a l c e hw=>by
   subst e;rcases hR with _ | ⟨hg,_⟩;have:=hs.lt hg; have:=(d2 q hw).1; omega)
 obtain⟨d,s1,e1,⟨h,LB⟩,e2⟩:=tW;refine⟨d,s1,e1,e2.ok, ?_, ?_, ?_,⟨po1,by have:=e2.n; omega⟩, ?_,kn, ?_⟩
 ·exact bh.trans' e2 fun o h1 h2=>by have:=(d2 o h1).1; omega
 ·exact st.dK ok' e2 fun j hj hw=>by have:=dM j hj; have:=(d2 j hw).1; omega
 ·exact e2.get ok' gp fun hw=>(d2 po hw).2.2.1 rfl
 ·exact ks.dK ok' e2 fun q a l c e hw=>(d2 q hw).2.2.2 q a l c e rfl
 ·refine⟨_,_,LB,fun o ho=> ?_,d3.put ur, ?_⟩
  ·have:=e2.n;rcases ho with ho | ⟨Xg,ho2⟩
   ·obtain⟨a1,a2,a3,a4⟩:=d2 o ho;exact⟨a1,by omega,a3,a4⟩
   ·have:=bh.n;refine⟨by omega,ho2,by omega,fun q a l c e=> ?_⟩;subst e;rcases ks with _ | _ | ⟨_,_,hg⟩;have:=ok'.lt hg;omega
  ·rw [Fw];have e3:(R.getD ((fi t).getD j 0).toNat 0)=R[q]:=by
    simp only [ed,hk,eZ,cZ,hr]
   rw [e3,← hv];exact .snoc h _ _ d4
end
end Go.Proofs.Tab
