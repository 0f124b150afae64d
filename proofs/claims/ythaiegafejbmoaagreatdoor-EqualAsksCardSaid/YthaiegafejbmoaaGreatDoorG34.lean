/- Part. -/
import Derived.Test.YthaiegafejbmoaaGreatDoorG33
set_option linter.unusedSectionVars false
set_option maxRecDepth 100000
set_option maxHeartbeats 2000000
set_option linter.unusedSimpArgs false
set_option linter.unusedVariables false
namespace Go.Proofs.Tab
open Go Go.Ab Go.Ab.Sm
def iz:List Int->List Int
 | []=> []
 | [a]=> [a]
 | a::_::r=>a::iz r
theorem nU:∀L:List Int,(iz L).length=(L.length+1) / 2
 | []=>rfl
 | [a]=>by simp [iz]
 | a::b::r=>by simp only [iz,aT,nU r]; omega
theorem yJ:∀(L:List Int) (j:Nat),(iz L)[j]? =L[2 * j]?
 | [],j=>by simp [iz]
 | [a],j=>by
  cases j with
  | zero=>rfl
  | succ j=>simp [iz]
 | a::b::r,j=>by
  cases j with
  | zero=>rfl
  | succ j=>simp only [iz,bP,yJ r j,show 2 * (j+1)=2 * j+1+1 by omega]
def er (t:Tm):List Int:=if t.kd=8\/t.kd=9 then t.kids else if t.kd=7 then iz t.kids else []
theorem qB (t:Tm):(er t).length<=t.kids.length:=by
 unfold er; split
 ·exact aq _
 ·split
  ·rw [nU]; omega
  ·simp
inductive ou (s:St):D->List Int->Prop
 | vs (nl:Bool) (L:List Int) (hn:nl=true->L=[]):ou s (.vs nl 1 (ints L)) L
 | nil:ou s (.vs true 0 []) []
 | sl (o:Nat) (L:List Int) (h:s.get o=some (.arr 1 3 (ints L) 0)):ou s (.sl o 0 L.length L.length) L
theorem ou.dT {W:Nat->Prop}{s s1:St}{x:D}{L:List Int}(h:ou s x L)(hs:s.Ok)(hb:aH W s s1)(hw:∀o a l c,x= .sl o a l c-> ¬ W o):ou s1 x L:=by
 rcases h with ⟨nl,L,hn⟩ | _ | ⟨o,L,h1⟩
 ·exact .vs nl L hn
 ·exact .nil
 ·exact .sl o L (hb.get hs h1 (hw _ _ _ _ rfl))
theorem ints_at {L:List Int}{j:Nat}{v:Int}(h:L[j]? =some v):(ints L)[j]? =some (.int .i64 v):=by simp only [ints,aO,h]; rfl
section
variable {T:Nat->Option dJ}{H:au}{s:St}{t:Tm}
theorem O9 (hS:TS T)(h1:t.kd=8\/t.kd=9):bY T H 81 [t.d] s fun d s1=>d= .vs t.n2 1 (ints t.kids)/\s1=s:=by
 obtain⟨kd,b,ng,n1,ft,tx,n2,kids,gy,sm⟩:=t;simp only at h1;refine aD hS.t81 ?_;rcases h1 with rfl | rfl
 all_goals
  try refine go ?_
  exact ai ⟨rfl,rfl⟩
theorem Kc (hS:TS T)(h1:t.kd≠8/\t.kd≠9/\t.kd≠7):bY T H 81 [t.d] s fun d s1=>d= .vs true 0 []/\s1=s:=by
 obtain⟨kd,b,ng,n1,ft,tx,n2,kids,gy,sm⟩:=t;simp only at h1;obtain⟨h1,h2,h3⟩:=h1;refine aD hS.t81 ?_;try refine go ?_
 exact ai ⟨rfl,rfl⟩
def aa0 (s:St)(d:D)(K:List Int)(m:Nat)(env:Env) (s' :St):Prop:=aH Nil s s' /\∃j,j<=K.length/\m=K.length - j/\
 ((j=0/\s' =s/\env=[(1,.lv d),(3,.vs true 0 []),(4,.int .i64 ((0:Nat):Int))])\/
  (0 < j/\s'.get s.n=some (.arr 1 3 (ints (K.take j)) 0)/\env=[(1,.lv d),(3,.sl s.n 0 j j),(4,.int .i64 ((2 * j:Nat):Int))]))
theorem Kb (hS:TS T)(hs:s.Ok)(ho:t.Ok)(h1:t.kd=7):bY T H 81 [t.d] s fun d s1=>ou s1 d (iz t.kids)/\(∀o a l c,d= .sl o a l c->s.n<=o)/\aH Nil s s1:=by
 have hk:=ho.kids;obtain⟨kd,b,ng,n1,ft,tx,n2,kids,gy,sm⟩:=t;simp only at h1 hk; subst h1;have hl:=nU kids;have uy:=yJ kids;have s9:=fH kids;have aaf:=fun j=>fH ((iz kids).take j);have xO:∀j,((iz kids).take j).length=min j (iz kids).length:=fun j=>dB;refine aD hS.t81 ?_;try refine go ?_
 refine fY (aa0 s (.agg [.int .i64 7,.bool b,.bool ng,.vs n1 1 (eJ ft),.str tx,.vs n2 1 (ints kids),.bool gy,.bool sm]) (iz kids)) (iz kids).length rfl ⟨aH.refl hs,0,by omega,by omega,.inl ⟨rfl,rfl,rfl⟩⟩ ?_;rintro m env s1 ⟨b1,j,hj,rfl,hinv⟩;have ok1:=b1.ok;rcases aP j (iz kids).length with eW | vO
 ·have h2:2 * j < kids.length:=by omega
  have e1:kids[2 * j]? =some kids[2 * j]:=ak h2;have e2:(ints kids)[2 * j]? =some (.int .i64 kids[2 * j]):=ints_at e1;have e3:(iz kids)[j]? =some kids[2 * j]:=by rw [uy,e1]
  have e4:(iz kids).take (j+1)=(iz kids).take j++ [kids[2 * j]]:=by rw [gH,e3]; rfl
  have hw:IntKind.wrap .i64 (((2 * j:Nat):Int)+2)=((2 * (j+1):Nat):Int):=by rw [wrap_small (by omega) (by omega)]; omega
  rcases hinv with ⟨rfl,rfl,rfl⟩ | ⟨hj0,hg,rfl⟩
  ·have Rl:IntKind.wrap .i64 (((0:Nat):Int)+2)=((2 * (0+1):Nat):Int):=hw;have e2' :(ints kids)[0]? =some (.int .i64 kids[2 * 0]):=e2;try refine go ?_
   simp only [Rl];try refine go ?_
   refine ec ((iz kids).length - (0+1)) (by omega) rfl ⟨aH.push b1 _,1,by omega,by omega,.inr ⟨by omega, ?_,rfl⟩⟩;rw [St.bq,e4]; rfl
  ·have acq:=aaf j;have acA:=xO j;have ln:=ok1.lt hg;have e5:(ints (List.take j (iz kids))).length=j:=by omega
   try refine go ?_
   simp only [hw];try refine go ?_
   refine ec ((iz kids).length - (j+1)) (by omega) rfl ⟨aH.set b1 _ ln (fun h=>by omega),j+1,by omega,by omega,.inr ⟨by omega, ?_,rfl⟩⟩;rw [St.aG,e4];simp only [ints,eX,bT,eH]
 ·have hje:j=(iz kids).length:=by omega
  rcases hinv with ⟨rfl,rfl,rfl⟩ | ⟨hj0,hg,rfl⟩
  ·have e0:kids=[]:=by cases kids with
    | nil=>rfl
    | cons a l=>simp only [aT]at hl; omega
   subst e0;try refine go ?_
   exact ai ⟨.nil,fun _ _ _ _ e=>(by cases e),b1⟩
  ·try refine go ?_
   rw [hje,fb]at hg;refine ai (d:= .sl s.n 0 j j) ⟨?_,fun o a l c e=>(by cases e; exact aq _),b1⟩;rw [hje];exact .sl s.n _ hg
theorem Cs (hS:TS T)(hs:s.Ok)(ho:t.Ok):bY T H 81 [t.d] s fun d s1=>ou s1 d (er t)/\(∀o a l c,d= .sl o a l c->s.n<=o)/\aH Nil s s1:=by
 by_cases h1:t.kd=8\/t.kd=9
 ·obtain⟨d,s1,e,rfl,rfl⟩:=O9 (H:=H) (s:=s) hS h1;refine⟨_,_,e, ?_,fun _ _ _ _ e=>(by cases e),aH.refl hs⟩;rw [er,bQ h1];exact .vs _ _ ho.n2
 ·by_cases h2:t.kd=7
  ·obtain⟨d,s1,e,h3,h4,h5⟩:=Kb (H:=H) hS hs ho h2;refine⟨_,_,e, ?_,h4,h5⟩;rw [er,aI h1,bQ h2]; exact h3
  ·obtain⟨d,s1,e,rfl,rfl⟩:=Kc (H:=H) (s:=s) (t:=t) hS (by omega);refine⟨_,_,e, ?_,fun _ _ _ _ e=>(by cases e),aH.refl hs⟩;rw [er,aI h1,aI h2]; exact .nil
end
section
variable {T:Nat->Option dJ}{H:au}{s:St}{so o la ta pl mp P Sh n lv tk:Nat}{V:List D}
theorem X8 (hT:TS T)(hs:s.Ok)(h:aX s so o la ta pl mp P Sh V n lv tk)(hn:n < 2147483648)(hl:lv < 2147483648)(ht:tk < 2147483648)(hV:V.length+1<=aM){kd:Int}{lx m:Nat}:
  bY T H 52 [.ptr so 0,.int .i64 kd,.sl lx 0 m m] s fun d s1=>d= .int .i64 V.length/\∃ro,s.n<=ro/\ro < s1.n/\s1.get ro=some (.var 111 (.agg [.int .i64 (n+1:Nat),.sl lx 0 m m,.int .i64 kd]))/\aX s1 so o la ta pl mp P Sh (V++ [.eM 107 (.ptr ro 0)]) (n+1) (lv+1) (tk+1)/\aH (br so o la ta pl) s s1:=by
 have h0:=h;obtain⟨h1,h2,h3,⟨g1,g2,g3,k1,k2,k3⟩,h5⟩:=h0;have l1:=hs.lt h1; have l2:=hs.lt h2; have l3:=hs.lt h3; have l4:=hs.lt g1; have l5:=hs.lt g2; have l6:=hs.lt g3;have nd:=h5;simp only [dZ,aN,eZ,cJ,jr,cT,fj,ix]at h5;obtain⟨⟨n1,n2,n3,n4,n5⟩,⟨n6,n7,n8,n9⟩,⟨U0,U1,U2⟩,⟨U3,U4⟩,U5⟩:=h5;refine aD hT.t52 ?_;try refine go ?_
 refine aV (ux hT (hs.up 1) (h.up 1) hn hl ht) ?_;rintro d s1 ⟨rfl,q1,q2⟩;have f1:(s.up 1).get so=_:=h1;have f2:=q1.go;refine⟨rfl,by simp [lost,eE.kind,cF,dG,cl,aJ,bD,bD.cL,gF,bO.ev,Env.get,cQ,D.flat,D.isAgg,cK,D.fC,D.beq,aA,Obj.a8,bH,bC,D.bU,D.a8,f1,f2], ?_⟩;have m1:=q2.n;have m2:=q2.ok;simp only [St.iK]at m1;have m0:s1.get (s.n+0)=none:=by
  rw [q2.same _ (by rw [St.iK]; omega) (by omega)];exact hs.fresh _ (by omega)
 have p1:=q1.go;try refine go ?_
 have c3:=(aH.set (W:=fun j=>j=s.n+0) (aH.refl q2.ok) (.var 111 (.agg [.int .i64 (n+1:Nat),.sl lx 0 m m,.int .i64 kd])) (o:=s.n+0) (by omega) (fun _=>rfl));have c1:=c3.ok;have c2:=q1.sl.dT q2.ok c3 (by omega) (by omega) (by omega);refine aV (qs hT c1 c2 hV) ?_;rintro d s2 ⟨rfl,q3,q4⟩;have e1:=c3.get q2.ok p1 (by omega);have e2:=q4.get c1 e1 (by omega);refine⟨rfl,by simp [lost,eE.kind,cF,dG,cl,aJ,bD,bD.cL,gF,bO.ev,Env.get,cQ,D.flat,D.isAgg,cK,D.fC,D.beq,aA,Obj.a8,bH,bC,D.bU,D.a8,e1,e2], ?_⟩;try refine go ?_
 have y1:=q4.get c1 (c3.get q2.ok q1.gp (by omega)) (by omega);have y2:=q4.get c1 (c3.get q2.ok q1.gm (by omega)) (by omega);have y3:=q4.get (o:=s.n+0) c1 St.aG (by omega);have z1:=q4.n;simp only [St.ej]at z1;refine ai ⟨rfl,s.n+0,by omega,by omega,y3,⟨e2,y1,y2,q3,nd⟩, ?_⟩;refine aH.trans' (W' :=fun j=>j=o\/j=la\/j=ta) (aH.trans' (W' :=fun j=>j=s.n+0) (aH.trans' (W' :=fun j=>j=so\/j=pl) ((aH.refl hs).up 1) q2 ?_) c3 ?_) q4 ?_
 ·rintro j (rfl | rfl) _ <;> simp [br]
 ·rintro j rfl hj; omega
 ·rintro j (rfl | rfl | rfl) _ <;> simp [br]
theorem Hq (hT:TS T)(hs:s.Ok)(h:aX s so o la ta pl mp P Sh V n lv tk)(hn:n < 2147483648)(hl:lv < 2147483648)(ht:tk < 2147483648)(hV:V.length+1<=aM){kd:Int}{dv:Nat}:
  bY T H 128 [.ptr so 0,.int .i64 kd,.ptr dv 0] s fun d s1=>d= .int .i64 V.length/\∃ro,s.n<=ro/\ro < s1.n/\s1.get ro=some (.var 67 (.agg [.int .i64 (n+1:Nat),.ptr dv 0,.int .i64 kd]))/\aX s1 so o la ta pl mp P Sh (V++ [.eM 56 (.ptr ro 0)]) (n+1) (lv+1) (tk+1)/\aH (br so o la ta pl) s s1:=by
 have h0:=h;obtain⟨h1,h2,h3,⟨g1,g2,g3,k1,k2,k3⟩,h5⟩:=h0;have l1:=hs.lt h1; have l2:=hs.lt h2; have l3:=hs.lt h3; have l4:=hs.lt g1; have l5:=hs.lt g2; have l6:=hs.lt g3;have nd:=h5;simp only [dZ,aN,eZ,cJ,jr,cT,fj,ix]at h5;obtain⟨⟨n1,n2,n3,n4,n5⟩,⟨n6,n7,n8,n9⟩,⟨U0,U1,U2⟩,⟨U3,U4⟩,U5⟩:=h5;refine aD hT.t128 ?_;try refine go ?_
 refine aV (ux hT (hs.up 1) (h.up 1) hn hl ht) ?_;rintro d s1 ⟨rfl,q1,q2⟩;have f1:(s.up 1).get so=_:=h1;have f2:=q1.go;refine⟨rfl,by simp [lost,eE.kind,cF,dG,cl,aJ,bD,bD.cL,gF,bO.ev,Env.get,cQ,D.flat,D.isAgg,cK,D.fC,D.beq,aA,Obj.a8,bH,bC,D.bU,D.a8,f1,f2], ?_⟩;have m1:=q2.n;have m2:=q2.ok;simp only [St.iK]at m1;have m0:s1.get (s.n+0)=none:=by
  rw [q2.same _ (by rw [St.iK]; omega) (by omega)];exact hs.fresh _ (by omega)
 have p1:=q1.go;try refine go ?_
 have c3:=(aH.set (W:=fun j=>j=s.n+0) (aH.refl q2.ok) (.var 67 (.agg [.int .i64 (n+1:Nat),.ptr dv 0,.int .i64 kd])) (o:=s.n+0) (by omega) (fun _=>rfl));have c1:=c3.ok;have c2:=q1.sl.dT q2.ok c3 (by omega) (by omega) (by omega);refine aV (qs hT c1 c2 hV) ?_;rintro d s2 ⟨rfl,q3,q4⟩;have e1:=c3.get q2.ok p1 (by omega);have e2:=q4.get c1 e1 (by omega);refine⟨rfl,by simp [lost,eE.kind,cF,dG,cl,aJ,bD,bD.cL,gF,bO.ev,Env.get,cQ,D.flat,D.isAgg,cK,D.fC,D.beq,aA,Obj.a8,bH,bC,D.bU,D.a8,e1,e2], ?_⟩;try refine go ?_
 have y1:=q4.get c1 (c3.get q2.ok q1.gp (by omega)) (by omega);have y2:=q4.get c1 (c3.get q2.ok q1.gm (by omega)) (by omega);have y3:=q4.get (o:=s.n+0) c1 St.aG (by omega);have z1:=q4.n;simp only [St.ej]at z1;refine ai ⟨rfl,s.n+0,by omega,by omega,y3,⟨e2,y1,y2,q3,nd⟩, ?_⟩;refine aH.trans' (W' :=fun j=>j=o\/j=la\/j=ta) (aH.trans' (W' :=fun j=>j=s.n+0) (aH.trans' (W' :=fun j=>j=so\/j=pl) ((aH.refl hs).up 1) q2 ?_) c3 ?_) q4 ?_
 ·rintro j (rfl | rfl) _ <;> simp [br]
 ·rintro j rfl hj; omega
 ·rintro j (rfl | rfl | rfl) _ <;> simp [br]
theorem T9 (hT:TS T)(hs:s.Ok)(h:aX s so o la ta pl mp P Sh V n lv tk)(hn:n < 2147483648)(hl:lv < 2147483648)(ht:tk < 2147483648)(hV:V.length+1<=aM){kd v:Int}:
  bY T H 56 [.ptr so 0,.int .i64 kd,.int .i64 v] s fun d s1=>d= .int .i64 V.length/\∃ro,s.n<=ro/\ro < s1.n/\s1.get ro=some (.var 191 (.agg [.int .i64 (n+1:Nat),.int .i64 v,.int .i64 kd]))/\aX s1 so o la ta pl mp P Sh (V++ [.eM 189 (.ptr ro 0)]) (n+1) (lv+1) (tk+1)/\aH (br so o la ta pl) s s1:=by
 have h0:=h;obtain⟨h1,h2,h3,⟨g1,g2,g3,k1,k2,k3⟩,h5⟩:=h0;have l1:=hs.lt h1; have l2:=hs.lt h2; have l3:=hs.lt h3; have l4:=hs.lt g1; have l5:=hs.lt g2; have l6:=hs.lt g3;have nd:=h5;simp only [dZ,aN,eZ,cJ,jr,cT,fj,ix]at h5;obtain⟨⟨n1,n2,n3,n4,n5⟩,⟨n6,n7,n8,n9⟩,⟨U0,U1,U2⟩,⟨U3,U4⟩,U5⟩:=h5;refine aD hT.t56 ?_;try refine go ?_
 refine aV (ux hT (hs.up 1) (h.up 1) hn hl ht) ?_;rintro d s1 ⟨rfl,q1,q2⟩;have f1:(s.up 1).get so=_:=h1;have f2:=q1.go;refine⟨rfl,by simp [lost,eE.kind,cF,dG,cl,aJ,bD,bD.cL,gF,bO.ev,Env.get,cQ,D.flat,D.isAgg,cK,D.fC,D.beq,aA,Obj.a8,bH,bC,D.bU,D.a8,f1,f2], ?_⟩;have m1:=q2.n;have m2:=q2.ok;simp only [St.iK]at m1;have m0:s1.get (s.n+0)=none:=by
  rw [q2.same _ (by rw [St.iK]; omega) (by omega)];exact hs.fresh _ (by omega)
 have p1:=q1.go;try refine go ?_
 have c3:=(aH.set (W:=fun j=>j=s.n+0) (aH.refl q2.ok) (.var 191 (.agg [.int .i64 (n+1:Nat),.int .i64 v,.int .i64 kd])) (o:=s.n+0) (by omega) (fun _=>rfl));have c1:=c3.ok;have c2:=q1.sl.dT q2.ok c3 (by omega) (by omega) (by omega);refine aV (qs hT c1 c2 hV) ?_;rintro d s2 ⟨rfl,q3,q4⟩;have e1:=c3.get q2.ok p1 (by omega);have e2:=q4.get c1 e1 (by omega);refine⟨rfl,by simp [lost,eE.kind,cF,dG,cl,aJ,bD,bD.cL,gF,bO.ev,Env.get,cQ,D.flat,D.isAgg,cK,D.fC,D.beq,aA,Obj.a8,bH,bC,D.bU,D.a8,e1,e2], ?_⟩;try refine go ?_
 have y1:=q4.get c1 (c3.get q2.ok q1.gp (by omega)) (by omega);have y2:=q4.get c1 (c3.get q2.ok q1.gm (by omega)) (by omega);have y3:=q4.get (o:=s.n+0) c1 St.aG (by omega);have z1:=q4.n;simp only [St.ej]at z1;refine ai ⟨rfl,s.n+0,by omega,by omega,y3,⟨e2,y1,y2,q3,nd⟩, ?_⟩;refine aH.trans' (W' :=fun j=>j=o\/j=la\/j=ta) (aH.trans' (W' :=fun j=>j=s.n+0) (aH.trans' (W' :=fun j=>j=so\/j=pl) ((aH.refl hs).up 1) q2 ?_) c3 ?_) q4 ?_
 ·rintro j (rfl | rfl) _ <;> simp [br]
 ·rintro j rfl hj; omega
 ·rintro j (rfl | rfl | rfl) _ <;> simp [br]
theorem Yc (hT:TS T)(hs:s.Ok)(h:aX s so o la ta pl mp P Sh V n lv tk)(ht:tk < 2147483648)(hV:V.length+1<=aM){x:List UInt8}:
  bY T H 51 [.ptr so 0,.str x] s fun d s1=>d= .int .i64 V.length/\aX s1 so o la ta pl mp P Sh (V++ [.eM 177 (.agg [.str x])]) n lv (tk+1)/\aH (br so o la ta pl) s s1:=by
 have hm:=Cz (H:=H) hT hs h ht;refine aD hT.t51 ?_;try refine go ?_
 refine af hm ?_;rintro d s1 ⟨q1,q2⟩;have g:=q1.go;have ok1:=q2.ok;try refine go ?_
 refine af (qs hT ok1 q1.sl hV) ?_;rintro d s2 ⟨rfl,q3,q4⟩;have nd:=q1.nd;simp only [dZ,aN,eZ,cJ,jr,cT,fj,ix]at nd;obtain⟨⟨n1,n2,n3,n4,n5⟩,⟨n6,n7,n8,n9⟩,⟨U0,U1,U2⟩,⟨U3,U4⟩,U5⟩:=nd;try refine go ?_
 refine ai ⟨rfl,⟨q4.get ok1 g (by omega),q4.get ok1 q1.gp (by omega),q4.get ok1 q1.gm (by omega),q3,q1.nd⟩,(q2.mono fun j hj=>by subst hj; simp [br]).trans (q4.mono fun j hj=> ?_)⟩;rcases hj with rfl | rfl | rfl <;> simp [br]
theorem XE (hT:TS T)(hs:s.Ok)(h:aX s so o la ta pl mp P Sh V n lv tk)(ht:tk < 2147483648)(hV:V.length+1<=aM){m:Bool×List Nat}{y:D}(hy:Ws s y m.2):
  bY T H 49 [.ptr so 0,.agg [.bool m.1,y]] s fun d s1=>d= .int .i64 V.length/\aX s1 so o la ta pl mp P Sh (V++ [.eM 175 (.agg [.bool m.1,y])]) n lv (tk+1)/\aH (br so o la ta pl) s s1:=by
 have hm:=Cz (H:=H) hT hs h ht;refine aD hT.t49 ?_;rcases hy.sh with ⟨nl,z,l,rfl⟩ | ⟨o',l,c,rfl⟩
 all_goals
  try refine go ?_
  refine af hm ?_;rintro d s1 ⟨q1,q2⟩;have g:=q1.go;have ok1:=q2.ok;try refine go ?_
  refine aV (qs hT ok1 q1.sl hV) ?_;rintro d s2 ⟨rfl,q3,q4⟩;refine⟨rfl,by rfl, ?_⟩;have nd:=q1.nd;simp only [dZ,aN,eZ,cJ,jr,cT,fj,ix]at nd;obtain⟨⟨n1,n2,n3,n4,n5⟩,⟨n6,n7,n8,n9⟩,⟨U0,U1,U2⟩,⟨U3,U4⟩,U5⟩:=nd;try refine go ?_
  refine ai ⟨rfl,⟨q4.get ok1 g (by omega),q4.get ok1 q1.gp (by omega),q4.get ok1 q1.gm (by omega),q3,q1.nd⟩,(q2.mono fun j hj=>by subst hj; simp [br]).trans (q4.mono fun j hj=> ?_)⟩;rcases hj with rfl | rfl | rfl <;> simp [br]
end
section
variable {T:Nat->Option dJ}{H:au}{s:St}{so o la ta pl mp P Sh n lv tk:Nat}{V:List D}
theorem aX.nil {s1:St}(h:aX s so o la ta pl mp P Sh V n lv tk)(hs:s.Ok)(hb:aH Nil s s1):aX s1 so o la ta pl mp P Sh V n lv tk:=h.dT hs hb fun _ _ h=>h
theorem QA (hS:TS T)(hT:TT T)(hP:TP T)(hs:s.Ok)(h:aX s so o la ta pl mp P Sh V n lv tk)(hn:n < 2147483648)(hl:lv < 2147483648)(ht:tk < 2147483648)(hV:V.length+1<=aM)(hp:P<=65536){kd:Nat}:
  bY T H 89 [.ptr so 0,.int .i64 kd] s fun d s1=>d= .int .i64 V.length/\∃po dv,s.n<=po/\po < s1.n/\s1.get po=some (.var 67 (.agg [.int .i64 (n+1:Nat),.ptr dv 0,.int .i64 kd]))/\
   dQ (fun j=>s.n<=j/\j < s1.n) s1 dv P []/\dQ (fun j=>s.n<=j/\j < s1.n/\j≠po) s1 dv P []/\aX s1 so o la ta pl mp P Sh (V++ [.eM 56 (.ptr po 0)]) (n+1) (lv+1) (tk+1)/\aH (br so o la ta pl) s s1:=by
 have g:=h.go;have Xr:=IP (H:=H) hT hP hs hp;refine aD hS.t89 ?_;try refine go ?_
 refine aV Xr ?_;rintro d s1 ⟨to,dv,co,ro,b,st,C,rfl,h1,h2,h3,h4,h5,h6,h7,h8⟩;refine⟨rfl,by rfl, ?_⟩;have ok1:=h8.ok;have Aa:=h.nil hs h8;try refine go ?_
 refine af (Hq hS ok1 Aa hn hl ht hV) ?_;rintro d s2 ⟨rfl,po,p1,p2,p3,p4,p5⟩;have ln:=h8.n; have ln2:=p5.n;have eW:=fun j (hj:br so o la ta pl j\/j=mp)=>h.lt hs hj;have nW:∀j,s.n<=j-> ¬ br so o la ta pl j:=fun j hj hh=>by have:=eW j (.inl hh); omega
 have l1:=ok1.lt h6; have l2:=ok1.lt h7.go; have l3:=ok1.lt h7.ce.go; have l4:=ok1.lt h7.ce.gr;have d2:dQ (fun j=>s.n<=j/\j < s1.n) s1 dv P []:=⟨to,to,co,ro,3,b,st,_,C,0,h6,⟨h7.go,.nil to,h7.ce,h7.la,h7.rm⟩,⟨h2,l1⟩,⟨h1,l2⟩,⟨h1,l2⟩,⟨h3,l3⟩,⟨h4,l4⟩,cH _⟩;have d3:=d2.dT ok1 p5 fun o _ ho=>nW o ho.1;try refine go ?_
 exact ai ⟨rfl,po,dv,by omega,p2,p3,d3.mono fun o ho=>⟨ho.1,by omega⟩,d3.mono fun o ho=>⟨ho.1,by omega,by omega⟩,p4,(h8.mono fun _ h=>h.elim).trans p5⟩
end
section
variable {T:Nat->Option dJ}{H:au}{s:St}{so o la ta pl mp P Sh n lv tk:Nat}{V:List D}
@[reducible] def R9 (sh P ko mo:Nat):D:= .agg [.int .i64 sh,.int .i64 P,.dU,.ptr ko 0,.vs true 0 [],.mp mo]
theorem WO (hS:TS T)(hT:TT T)(hs:s.Ok)(hp:P<=65536)(iC:Sh<=256):
  bY T H 92 [.int .i64 Sh,.int .i64 P,.dU] s fun d s1=>∃fo ko mo,d= .gW [.ptr fo 0,.int .i64 0]/\s.n<=fo/\s1.get fo=some (.var 248 (R9 Sh P ko mo))/\aH Nil s s1:=by
 have hn:=I4 (H:=H) hT hs;refine aD hS.t92 ?_;try refine go ?_
 refine af hn ?_;rintro d s1 ⟨rfl,co,ro,b,st,C,h1,h2,h3,h4,h5,h6⟩;have ok1:=h6.ok;have n1:=h6.n;try refine go ?_
 refine ai ⟨_,_,_,rfl, ?_,St.bq,aH.push (aH.push h6 _) _⟩;rw [St.ck]; omega
theorem NG (hS:TS T)(hT:TT T)(hP:TP T)(hs:s.Ok)(h:aX s so o la ta pl mp P Sh V n lv tk)(hn:n < 2147483648)(hl:lv < 2147483648)(ht:tk < 2147483648)(hV:V.length+1<=aM)(hp:P<=65536)(iC:Sh<=256):
  bY T H 54 [.ptr so 0,.str [67],.int .i64 (-1)] s fun d s1=>d= .int .i64 V.length/\∃po dv fo ko mo,s.n<=po/\s.n<=fo/\po≠fo/\s1.get po=some (.var 142 (.agg [.int .i64 (n+1:Nat),.ptr dv 0,.str [67],.int .i64 (-1),.ptr fo 0,.bool false,.bool false]))/\
   s1.get fo=some (.var 248 (R9 Sh P ko mo))/\aX s1 so o la ta pl mp P Sh (V++ [.eM 138 (.ptr po 0)]) (n+1) (lv+1) (tk+1)/\aH (br so o la ta pl) s s1:=by
 have g:=h.go;have Xr:=IP (H:=H) hT hP hs hp;refine aD hS.t54 ?_;try refine go ?_
 refine aV Xr ?_;rintro d s1 ⟨to,dv,co,ro,b,st,C,rfl,h1,h2,h3,h4,h5,h6,h7,h8⟩;refine⟨rfl,by rfl, ?_⟩;have ok1:=h8.ok;have Aa:=h.nil hs h8;have g1:=Aa.go;have hfm:=WO (H:=H) hS hT ok1 hp iC;try refine go ?_
 refine aV hfm ?_;rintro d s2 ⟨fo,ko,mo,rfl,i1,i2,i3⟩;refine⟨rfl,by rfl, ?_⟩;have ok2:=i3.ok;have xh:=Aa.nil ok1 i3;have g2:=xh.go;have ln:=h8.n; have ln2:=i3.n;have lfo:=ok2.lt i2;have eW:=fun j (hj:br so o la ta pl j\/j=mp)=>h.lt hs hj;have nW:∀j,s.n<=j-> ¬ br so o la ta pl j:=fun j hj hh=>by have:=eW j (.inl hh); omega
 have h0:=xh;obtain⟨u1,u2,u3,⟨v1,v2,v3,k1,k2,k3⟩,u5⟩:=h0;have l1:=ok2.lt u1; have l2:=ok2.lt u2; have l3:=ok2.lt u3; have l4:=ok2.lt v1; have l5:=ok2.lt v2; have l6:=ok2.lt v3;have nd:=u5;simp only [dZ,aN,eZ,cJ,jr,cT,fj,ix]at u5;obtain⟨⟨n1,n2,n3,n4,n5⟩,⟨n6,n7,n8,n9⟩,⟨U0,U1,U2⟩,⟨U3,U4⟩,U5⟩:=u5;try refine go ?_
 refine aV (ux hS (ok2.up 1) (xh.up 1) hn hl ht) ?_;rintro d s3 ⟨rfl,q1,q2⟩;have f1:(s2.up 1).get so=_:=u1;have f2:=q1.go;refine⟨rfl,by simp [lost,eE.kind,cF,dG,cl,aJ,bD,bD.cL,gF,bO.ev,Env.get,cQ,D.flat,D.isAgg,cK,D.fC,D.beq,aA,Obj.a8,bH,bC,D.bU,D.a8,f1,f2], ?_⟩;have m1:=q2.n;have m2:=q2.ok;simp only [St.iK]at m1;have m0:s3.get (s2.n+0)=none:=by
  rw [q2.same _ (by rw [St.iK]; omega) (by omega)];exact ok2.fresh _ (by omega)
 have p1:=q1.go;try refine go ?_
 have c3:=(aH.set (W:=fun j=>j=s2.n+0) (aH.refl q2.ok) (.var 142 (.agg [.int .i64 (n+1:Nat),.ptr dv 0,.str [67],.int .i64 (-1),.ptr fo 0,.bool false,.bool false])) (o:=s2.n+0) (by omega) (fun _=>rfl));have c1:=c3.ok;have c2:=q1.sl.dT q2.ok c3 (by omega) (by omega) (by omega);refine aV (qs hS c1 c2 hV) ?_;rintro d s4 ⟨rfl,q3,q4⟩;have e1:=c3.get q2.ok p1 (by omega);have e2:=q4.get c1 e1 (by omega);refine⟨rfl,by simp [lost,eE.kind,cF,dG,cl,aJ,bD,bD.cL,gF,bO.ev,Env.get,cQ,D.flat,D.isAgg,cK,D.fC,D.beq,aA,Obj.a8,bH,bC,D.bU,D.a8,e1,e2], ?_⟩;try refine go ?_
 have y1:=q4.get c1 (c3.get q2.ok q1.gp (by omega)) (by omega);have y2:=q4.get c1 (c3.get q2.ok q1.gm (by omega)) (by omega);have y3:=q4.get (o:=s2.n+0) c1 St.aG (by omega);have nfo: ¬ br so o la ta pl fo:=nW fo (by omega);have y4:=q4.get c1 (c3.get q2.ok (q2.get (ok2.up 1) (St.yN i2) (fun hh=>nfo (by rcases hh with rfl | rfl <;> simp [br]))) (by omega)) (fun hh=>nfo (by rcases hh with rfl | rfl | rfl <;> simp [br]));refine ai ⟨rfl,s2.n+0,dv,fo,ko,mo,by omega,by omega,by omega,y3,y4,⟨e2,y1,y2,q3,nd⟩, ?_⟩;refine ((h8.mono fun _ h=>h.elim).trans (i3.mono fun _ h=>h.elim)).trans (aH.trans' (W' :=fun j=>j=o\/j=la\/j=ta) (aH.trans' (W' :=fun j=>j=s2.n+0) (aH.trans' (W' :=fun j=>j=so\/j=pl) ((aH.refl ok2).up 1) q2 ?_) c3 ?_) q4 ?_)
 ·rintro j (rfl | rfl) _ <;> simp [br]
 ·rintro j rfl hj; omega
 ·rintro j (rfl | rfl | rfl) _ <;> simp [br]
end
section
variable {T:Nat->Option dJ}{H:au}{s:St}{so o la ta pl mp P Sh n lv tk:Nat}{V:List D}
theorem S3 (hS:TS T)(hs:s.Ok){fo sh P ko mo:Nat}(hf:s.get fo=some (.var 248 (R9 sh P ko mo))):
  bY T H 93 [.ptr fo 0] s fun d s1=>∃sp ro,d= .ptr sp 0/\s.n<=sp/\s.n<=ro/\s1.get sp=some (.var 256 (.agg [.ptr fo 0,.eM 250 (.ptr ro 0),.int .u64 0]))/\s1.get ro=some (.var 252 (.agg [.vs true 0 []]))/\aH Nil s s1:=by
 refine aD hS.t93 ?_
 repeat' first | refine go ?_ | refine eD hS.t131 ?_
 refine ai ⟨s.n+1,s.n,rfl,by omega,by omega, ?_, ?_,aH.push (aH.push (aH.refl hs) _) _⟩
 ·exact St.bq
 ·exact St.dN St.bq (by rw [St.ck]; omega)
theorem Em (hS:TS T)(hs:s.Ok)(h:aX s so o la ta pl mp P Sh V n lv tk)(hn:n < 2147483648)(hl:lv < 2147483648)(ht:tk < 2147483648)(hV:V.length+1<=aM){c cp fo sh Q ko mo:Nat}{cn cd cb:D}{chs csm:Bool}{ct:List UInt8}
  (hc:V[c]? =some (.eM 138 (.ptr cp 0)))(gc:s.get cp=some (.var 142 (.agg [cn,cd,.str ct,cb,.ptr fo 0,.bool chs,.bool csm])))(gf:s.get fo=some (.var 248 (R9 sh Q ko mo)))(wc: ¬ br so o la ta pl cp)(wf: ¬ br so o la ta pl fo):
  bY T H 55 [.ptr so 0,.int .i64 c] s fun d s1=>d= .int .i64 V.length/\∃po sp ro,s.n<=po/\s.n<=sp/\s.n<=ro/\s1.get po=some (.var 187 (.agg [.int .i64 (n+1:Nat),.ptr sp 0,.int .i64 c]))/\
   s1.get sp=some (.var 256 (.agg [.ptr fo 0,.eM 250 (.ptr ro 0),.int .u64 0]))/\s1.get ro=some (.var 252 (.agg [.vs true 0 []]))/\aX s1 so o la ta pl mp P Sh (V++ [.eM 184 (.ptr po 0)]) (n+1) (lv+1) (tk+1)/\aH (br so o la ta pl) s s1:=by
 have eW:=fun j (hj:br so o la ta pl j\/j=mp)=>h.lt hs hj;have nW:∀j,s.n<=j-> ¬ br so o la ta pl j:=fun j hj hh=>by have:=eW j (.inl hh); omega
 refine aD hS.t55 ?_;try refine go ?_
 refine af (ux hS hs h hn hl ht) ?_;rintro d s1 ⟨rfl,Aa,b1⟩;have ok1:=b1.ok;have QZ :aH (br so o la ta pl) s s1:=b1.mono fun j hj=>by rcases hj with rfl | rfl <;> simp [br]
 have gc1:=QZ.get hs gc wc;have gf1:=QZ.get hs gf wf;have ln1:=b1.n;try refine go ?_
 obtain⟨s2,o7⟩:∃s2,s2=s1.aZ (.var 187 (.agg [.int .i64 (n+1:Nat),.dU,.int .i64 c])):=⟨_,rfl⟩;have b2:aH Nil s1 s2:=by rw [o7]; exact aH.push (aH.refl ok1) _
 have g2:s2.get s1.n=some (.var 187 (.agg [.int .i64 (n+1:Nat),.dU,.int .i64 c])):=by rw [o7]; exact St.bq
 show Sm.Call T H _ _ _ _ _ _ _ (s1.aZ (.var 187 (.agg [.int .i64 (n+1:Nat),.dU,.int .i64 c]))) _;rw [← o7];have ok2:=b2.ok;have xh:=Aa.nil ok1 b2;have gc2:=b2.get ok1 gc1 (fun h=>h);have ZH:=b2.get ok1 gf1 (fun h=>h);refine af (cz hS xh hc) ?_;rintro d s2 ⟨rfl,rfl⟩;try refine go ?_
 refine af (S3 hS ok2 ZH) ?_;rintro d s3 ⟨sp,ro,rfl,i1,i2,i3,i4,b3⟩;have ok3:=b3.ok;have st3:=xh.nil ok2 b3;have g3:=b3.get ok2 g2 (fun h=>h);have ln2:=b2.n; have ln3:=b3.n;have l3:=ok3.lt g3;have acC:s2.n=s1.n+1:=by rw [o7]; rfl
 have gs3:=st3.go;have lso:=ok3.lt gs3;have nso:so≠s1.n:=by have:=eW so (.inl (by simp [br])); omega
 try refine go ?_
 have b4:aH (fun j=>j=s1.n) s3 (s3.bn s1.n (.var 187 (.agg [.int .i64 (n+1:Nat),.ptr sp 0,.int .i64 c]))):=aH.set (W:=fun j=>j=s1.n) (aH.refl ok3) _ l3 (fun _=>rfl);have Lt:=st3.dT ok3 b4 fun j hj e=>by have:=eW j hj; omega
 refine af (qs hS b4.ok Lt.sl hV) ?_;rintro d s5 ⟨rfl,q3,q4⟩;have nd:=Lt.nd;simp only [dZ,aN,eZ,cJ,jr,cT,fj,ix]at nd;obtain⟨⟨n1,n2,n3,n4,n5⟩,⟨n6,n7,n8,n9⟩,⟨U0,U1,U2⟩,⟨U3,U4⟩,U5⟩:=nd;have nw:∀j,s.n<=j-> ¬ (j=o\/j=la\/j=ta):=fun j hj hh=>nW j hj (by rcases hh with rfl | rfl | rfl <;> simp [br]);try refine go ?_
 refine ai ⟨rfl,s1.n,sp,ro,by omega,by omega,by omega,q4.get b4.ok St.aG (nw _ (by omega)),q4.get b4.ok (b4.get ok3 i3 (by omega)) (nw _ (by omega)),q4.get b4.ok (b4.get ok3 i4 (by omega)) (nw _ (by omega)),
  ⟨q4.get b4.ok Lt.go (by omega),q4.get b4.ok Lt.gp (by omega),q4.get b4.ok Lt.gm (by omega),q3,Lt.nd⟩, ?_⟩
 refine (((QZ.trans (b2.mono fun _ h=>h.elim)).trans (b3.mono fun _ h=>h.elim)).trans' b4 fun o h1 h2=>by exfalso; omega).trans' q4 ?_;rintro j (rfl | rfl | rfl) _ <;> simp [br]
end
inductive yf (Vs:List fE)(most:Nat):List (Int×Nat×Int)->List dY->Prop
 | nil:yf Vs most [] []
 | snoc {l:List (Int×Nat×Int)} {E:List dY} (h:Int) (r:Nat) (v:Int) (hp:yf Vs most l E):yf Vs most (l++ [(h,r,v)]) (zI Vs most E h r v)
theorem Qd {Vs:List fE}{most:Nat}{E:List dY}{h:Int}{r:Nat}{v:Int}:(zI Vs most E h r v).length<=E.length+1:=by
 unfold zI;split
 ·split
  ·rw [iL]; omega
  ·omega
 ·split
  ·rw [an,aC]; omega
  ·omega
theorem yf.len {Vs:List fE}{most:Nat}{l:List (Int×Nat×Int)}{E:List dY}(h:yf Vs most l E):E.length<=l.length:=by
 induction h with
 | nil=>exact aq _
 | snoc h r v hp ih=>rw [an,aC]; have:= @Qd; exact bW this (by omega)
noncomputable def vN (tms:List Tm)(Vs:List fE)(R:List Nat)(k:Nat):Int:=match tms[k]?,Vs[R.getD k 0]? with
 | some t,some w=>Ka t w
 | _,_=>0
noncomputable def pA (tms:List Tm)(Vs:List fE)(t:Tm)(R:List Nat)(j:Nat):List (Int×Nat×Int):=(List.range j).map fun i=>(vN tms Vs R ((er t).getD i 0).toNat,R.getD ((er t).getD i 0).toNat 0,if t.kd=7 then ((R.getD (t.kids.getD (2 * i+1) 0).toNat 0:Nat):Int) else 0)
theorem G8 (tms:List Tm)(Vs:List fE)(t:Tm)(R:List Nat)(j:Nat):pA tms Vs t R (j+1)=pA tms Vs t R j++ [(vN tms Vs R ((er t).getD j 0).toNat,R.getD ((er t).getD j 0).toNat 0,if t.kd=7 then ((R.getD (t.kids.getD (2 * j+1) 0).toNat 0:Nat):Int) else 0)]:=by
 simp only [pA,kO,eX,bT,eH]
structure mV (tms:List Tm)(i:Nat)(t:Tm):Prop where
 kids:∀k∈t.kids,0<=k/\k < (if t.kd=6 then tms.length else i:Nat)
 keys:∀k∈er t,∃u,tms[k.toNat]? =some u/\Dh u
 even:t.kd=7->t.kids.length % 2=0
 kind:(1<=t.kd/\t.kd<=9)\/(14<=t.kd/\t.kd<=17)
 none:(t.kd<=4\/t.kd=14)->t.kids=[]
 view:15<=t.kd->t.kids.length=1
def Mk (tms:List Tm)(R:List Nat)(Vs:List fE):Prop:=∀(k r:Nat) (t:Tm),R[k]? =some r->tms[k]? =some t->∃w,Vs[r]? =some w/\F7 t w
theorem vG:∀ {L:List Int} {k:Int},k∈iz L->k∈L
 | [],k,h=>by simp [iz]at h
 | [a],k,h=>by simpa [iz] using h
 | a::b::r,k,h=>by
  simp only [iz,aN]at h ⊢;rcases h with h | h
  ·exact .inl h
  ·exact .inr (.inr (vG h))
theorem ze {t:Tm}{k:Int}(h:k∈er t):k∈t.kids:=by
 unfold er at h;split at h
 ·exact h
 ·split at h
  ·exact vG h
  ·simp at h
structure qp (P Sh:Nat)(s:St)(so o la ta pl mp:Nat)(Ds:List D)(n lv tk po dv:Nat)(Vs:List fE)(tms:List Tm)(t:Tm)(R:List Nat)(xk:D)(j:Nat) (s' :St):Prop where
 ok:s'.Ok
 bh:aH (br so o la ta pl) s s'
 st:aX s' so o la ta pl mp P Sh (Ds++ [.eM 56 (.ptr po 0)]) (n+1) (lv+1) (tk+1)
 gp:s'.get po=some (.var 67 (.agg [.int .i64 (n+1:Nat),.ptr dv 0,.int .i64 t.kd]))
 pn:s.n<=po/\po < s'.n
 ks:ou s' xk (er t)
 kn:∀o a l c,xk= .sl o a l c->s.n<=o/\o≠po
 di:∃W E,dQ W s' dv P E/\(∀o,W o->s.n<=o/\o < s'.n/\o≠po/\∀q a l c,xk= .sl q a l c->o≠q)/\pE Ds.length E/\yf Vs P (pA tms Vs t R j) E
section
variable {T:Nat->Option dJ}{H:au}{s:St}{so o la ta pl mp P Sh n lv tk bo i:Nat}{Ds:List D}{Vs:List fE}{F:Nat->Nat->Prop}{tms:List Tm}{t:Tm}{R:List Nat}{x:D}
theorem qp.put (hS:TS T)(hT:TT T)(hP:TP T)(hW:TW T)(hV:TV T)(hs:s.Ok)(hp:P<=65536)(cG:aX s so o la ta pl mp P Sh Ds n lv tk)(y8:eh P s F Ds Vs)(hF:∀i j,F i j-> ¬ br so o la ta pl j)(hb:kZ s bo so tms x)(hR:Refs s x R)(hRi:R.length=i)
  (Xn:Mk tms R Vs)(vR:tms[i]? =some t)(lE:∀u∈tms,u.Ok)(hg:mV tms i t)(h6:t.kd≠6)(Sp: ¬ br so o la ta pl bo)(hx:∀q a l c,x= .sl q a l c-> ¬ br so o la ta pl q)
  {po dv:Nat}{xk:D}{j:Nat} {s' :St}(hI:qp P Sh s so o la ta pl mp Ds n lv tk po dv Vs tms t R xk j s'){k:Int}(hk:(er t)[j]? =some k){v:Int}(hv:v=if t.kd=7 then ((R.getD (t.kids.getD (2 * j+1) 0).toNat 0:Nat):Int) else 0):
  ∃q r,k=(q:Nat)/\R[q]? =some r/\bY T H 90 [.ptr bo 0,.ptr po 0,.int .i64 k,.int .i64 v] s' fun _ s1=>qp P Sh s so o la ta pl mp Ds n lv tk po dv Vs tms t R xk (j+1) s1:=by
 obtain⟨ok',bh,st,gp,⟨po1,po2⟩,ks,kn,W,E,d1,d2,d3,d4⟩:=hI;have hkm:=bG hk;have hEl:E.length < 20000:=by
  have h1:=d4.len;simp only [pA,aY,lH]at h1;have h2:=(aj.mp hk).1;have h3:=qB t;have h4:=(lE t (bG vR)).kids;omega
 obtain⟨k0,k1⟩:=hg.kids k (ze hkm);rw [aI h6]at k1;obtain⟨q,rfl⟩:∃q:Nat,k=q:=⟨k.toNat,by omega⟩;have hq:q < R.length:=by omega
 obtain⟨u,hu,hku⟩:=hg.keys _ hkm;simp only [aQ]at hu;have hr:R[q]? =some R[q]:=ak hq;obtain⟨w,hw1,XB⟩:=Xn q R[q] u hr hu;have vQ:R[q] < Ds.length:=by
  have:=(aj.mp hw1).1;rw [y8.ln]; exact this
 refine⟨q,R[q],rfl,hr, ?_⟩;have iS :kZ s' bo so tms x:=⟨bh.get hs hb.go Sp⟩;have hR' :Refs s' x R:=hR.dT hs bh hx;have eW:=fun j (hj:br so o la ta pl j\/j=mp)=>cG.lt hs hj;have lbo:=hs.lt hb.go
 have Z4:Dg P s' Ds.length (Ds++ [.eM 56 (.ptr po 0)]) Vs W:=fun i hi=>by
  have FO:i < Vs.length:=by rw [← y8.ln]; exact hi
  refine⟨Ds[i],Vs[i],F i,by rw [aK hi,ak hi],ak FO,(y8.at' i _ _ (ak hi) (ak FO)).dT hs bh (fun j _ hj=>hF i j hj),fun j hj hw=> ?_⟩;have:=(y8.lt i j hj).1;have:=(d2 j hw).1;omega
 have uB:=X4 (H:=H) (v:=v) hS hT hP hW hV ok' st iS hR' hu (lE u (bG hu)) hr Z4 vQ d3 (fun w' XA =>by rw [hw1]at XA; simp only [aa]at XA; subst XA; exact XB) hku gp d1 hEl (fun j hj=>(d2 j hj).2.1)
  (fun j hj hw=>by have:=eW j hj; have:=(d2 j hw).1; omega) (fun hw=>by have:=(d2 bo hw).1; omega) (fun q a l c e hw=>by
   subst e;rcases hR with _ | ⟨hg,_⟩;have:=hs.lt hg; have:=(d2 q hw).1; omega)
 obtain⟨d,s1,e1,⟨w2,hw3,OA⟩,e2⟩:=uB;rw [hw1]at hw3; cases hw3;refine⟨d,s1,e1,e2.ok, ?_, ?_, ?_,⟨po1,by have:=e2.n; omega⟩, ?_,kn, ?_⟩
 ·exact bh.trans' e2 fun o h1 h2=>by have:=(d2 o h1).1; omega
 ·exact st.dT ok' e2 fun j hj hw=>by have:=eW j hj; have:=(d2 j hw).1; omega
 ·exact e2.get ok' gp fun hw=>(d2 po hw).2.2.1 rfl
 ·exact ks.dT ok' e2 fun q a l c e hw=>(d2 q hw).2.2.2 q a l c e rfl
 ·refine⟨_,_,OA,fun o ho=> ?_,d3.put vQ, ?_⟩
  ·have:=e2.n;rcases ho with ho | ⟨OP,ho2⟩
   ·obtain⟨a1,a2,a3,a4⟩:=d2 o ho;exact⟨a1,by omega,a3,a4⟩
   ·have:=bh.n;refine⟨by omega,ho2,by omega,fun q a l c e=> ?_⟩;subst e;rcases ks with _ | _ | ⟨_,_,hg⟩;have:=ok'.lt hg;omega
  ·rw [G8];have e3:(R.getD ((er t).getD j 0).toNat 0)=R[q]:=by
    simp only [bZ,hk,eB,aQ,hr]
   have e4:vN tms Vs R ((er t).getD j 0).toNat=Ka u w:=by
    have e5:((er t).getD j 0).toNat=q:=by simp only [bZ,hk,eB,aQ]
    rw [e5]at e3 ⊢;simp only [vN,hu,e3,hw1]
   rw [e4,e3,← hv];exact .snoc _ _ _ d4
end
end Go.Proofs.Tab
