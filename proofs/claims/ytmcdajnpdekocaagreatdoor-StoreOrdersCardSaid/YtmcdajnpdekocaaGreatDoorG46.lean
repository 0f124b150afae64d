/- Part. -/
import Derived.Test.YtmcdajnpdekocaaGreatDoorG45
set_option linter.unusedSectionVars false
set_option linter.unusedSimpArgs false
set_option linter.unusedVariables false
set_option maxRecDepth 100000
set_option maxHeartbeats 2000000
namespace Go.Proofs.YtmcdajnpdekocaaGreatDoor.Tab
open Go Go.Ab Go.Ab.Sm
theorem zTr {acc:List Fp}{x y:Fp}{i:Nat}(h:acc[i]? =some x)(ha:zDb x y=true):ckA acc y [i]=true:=by
 simp only [ckA,h,ha]
def yHw (P:Nat)(s:St)(N:Nat)(Ds:List D)(Vs:List Val)(W:Nat→Prop):Prop:=∀i,i < N→∃d w F,Ds[i]? =some d∧Vs[i]? =some w∧ValAt P F s d w∧∀j,F j→ ¬ W j
theorem yHw.beh {P N:Nat}{s s1:St}{Ds:List D}{Vs:List Val}{W:Nat→Prop}(h:yHw P s N Ds Vs W)(hs:s.Ok)(hb:Beh W s s1):yHw P s1 N Ds Vs W:=fun i hi=>by
 obtain⟨d,w,F,h1,h2,h3,h4⟩:=h i hi
 exact⟨d,w,F,h1,h2,h3.beh hs hb (fun j _ hj=>h4 j hj),h4⟩
theorem zAw.len {W:Nat→Prop}{s:St}{dv most:Nat}{E:List Ent}(h:zAw W s dv most E):E.length≤1000:=by
 obtain⟨to,eo,co,ro,log,b,st,x,C,ver,p1,p2,v1,v2,v3,v4,v5,p3⟩:=h
 exact p3
def PutInv (W:Nat→Prop)(s:St)(bo k mo dv most:Nat)(E:List Ent)(Vs:List Val)(h:Int)(r:Nat)(v:Int)(m:Nat)(env:Env) (s' :St):Prop:=s'.Ok∧Beh W s s' ∧
 ((∃(n:Nat) (e:Ent) (so' :Nat),E.length - n≤m∧env=[(0,.ptr bo 0),(2,.int .i64 (k:Nat)),(8,.ptr mo 0),(9,.lv (turnD 1 e.k false 0 0))]∧E[n]? =some e∧e.h=h∧e.k≠(r:Nat)∧zGd W s' mo dv so' most E h (r:Nat) v 2 (n:Nat) (n:Nat)∧s.n≤so' ∧∀(m:Nat) (f:Ent),m < n→E[m]? =some f→zQg Vs h r f=false)∨
  (∃x0 x1 x2 x3 x4,env=[(0,.ptr bo 0),(2,.int .i64 (k:Nat)),(8,.ptr mo 0),(9,.lv (turnD x0 x1 x2 x3 x4))]∧(x0=2∨x0=3)∧Done Vs W s.n s' dv most E h r v))
section
variable {T:Nat→Option AFn}{H:zAa}
theorem tell_ev (hP:TP T){W:Nat→Prop}{s:St}{mo dv so most:Nat}{E:List Ent}{h k v entry told:Int}{same:Bool}(hs:s.Ok)(hm:zGd W s mo dv so most E h k v 2 entry told):
  EvP T H 95 [.ptr mo 0,.bool same] s fun d s1=>d= .int .i64 0∧zGd W s1 mo dv so most E h k v (if same then 3 else 1) entry told∧Beh (fun j=>j=mo) s s1:=by
 obtain⟨⟨to,eo,co,ro,log,b,st,x,C,ver,J,scans,t0,t1,t2,t3,t4,h1,h2,w1,w2,w3,w4,w5,h3,h4,h5,h6⟩,nm,ns,nq⟩:=hm
 obtain⟨d,s1,e1,rfl,e2,e3⟩:=Tell_ev (H:=H) (same:=same) hP hs h4
 have ne:∀o,W o→o≠mo:=fun o ho e=>nm (e ▸ ho)
 exact⟨_,s1,e1,rfl,⟨⟨to,eo,co,ro,log,b,st,x,C,ver,J,scans,t0,t1,t2,t3,t4,e3.get hs h1 (ne _ w1),h2.beh hs e3 (ne _ w2) (fun _ _ _=>ne _ w3) (ne _ w4) (ne _ w5),w1,w2,w3,w4,w5,h3,e2,e3.get hs h5 (fun e=>nq e.symm),h6⟩,nm,ns,nq⟩,e3⟩
variable {s:St}{so o la ta pl mp P Sh n lv tk bo k r po dv most N:Nat}{Ds:List D}{x:D}{Vs:List Val}{tms:List Tm}{t:Tm}{R:List Nat}{W:Nat→Prop}{E:List Ent}{num kd v:Int}
theorem put_ev (hS:TS T)(hT:TT T)(hP:TP T)(hW:TW T)(hV:TV T)(hs:s.Ok)(hst:StA s so o la ta pl mp P Sh Ds n lv tk)(hb:zQc s bo so tms x)(hR:Refs s x R)(hk:tms[k]? =some t)(ho:t.Ok)(hr:R[k]? =some r)
  (hcx:yHw P s N Ds Vs W)(hrN:r < N)(hE:zGv N E)(hof:∀w,Vs[r]? =some w→OfTm t w)(hkey:zZi t)(gp:s.get po=some (.var 91 (.agg [.int .i64 num,.ptr dv 0,.int .i64 kd])))(hd:zAw W s dv most E)(hmost:most≤1000)
  (hW1:∀j,W j→j < s.n)(hWs:∀j,(OfS so o la ta pl j∨j=mp)→ ¬ W j)(hWb: ¬ W bo)(hWx:∀o a l c,x= .sl o a l c→ ¬ W o):
  EvP T H 74 [.ptr bo 0,.ptr po 0,.int .i64 (k:Nat),.int .i64 v] s fun _ s1=>(∃h,Done Vs W s.n s1 dv most E h r v)∧Beh W s s1:=by
 obtain⟨dr,wr,Fr,hr1,hr2,hr3,hr4⟩:=hcx r hrN
 have hh:=hash_ev (H:=H) hS hW hV hs hst hb hR hk ho hr hr1 hr3 (hof _ hr2) hkey
 have gb:=hb.go
 obtain⟨ra,rfl,gra,gar,hkl⟩:=hR.at' hr
 have hrl:=zBt R
 have lb:=hs.lt gb; have lr:=hs.lt gra; have lp:=hs.lt gp
 refine evI hS.t74 ?_
 try refine go ?_
 refine dpC hh ?_
 rintro d s1 ⟨⟨h,rfl⟩,b1⟩
 have ok1:=b1.ok
 have gp1:=b1.get hs gp (fun h=>h)
 have gb1:=b1.get hs gb (fun h=>h)
 have gra1:=b1.get hs gra (fun h=>h)
 have hd1:=hd.beh hs b1 (fun _ _ _ h=>h)
 refine⟨rfl,by simp [lost,AOp.kind,lAs,zAf,fpOf,wtD,fpRd,fpRd.objs,fpRg,Opd.ev,Env.get,sOb,D.flat,D.isAgg,cEq,D.beqs,D.beq,Nat.beq_refl,Obj.beq_rfl,laR,soR,D.bsR,D.beq_rfl,gp,gp1], ?_⟩
 have sb:∀q∈ [bo],s1.get q=s.get q:=by intro q hq; simp only [List.mem_singleton]at hq; subst hq; rw [gb,gb1]
 have sr:∀q∈ [ra],s1.get q=s.get q:=by intro q hq; simp only [List.mem_singleton]at hq; subst hq; rw [gra,gra1]
 repeat' first | refine go ?_ | refine zNu ?_ (hc:=zTr rfl (zKo sb)) | refine zNw ?_ (hc:=zTr rfl (zKo sr)) | refine zNv ?_ (hc:=zTr rfl (zKo sr))
 have hdx:=hd1
 obtain⟨to,eo,co,ro,log,b,st,x1,C,ver,gd1,_,wdv,_⟩:=hdx
 have hbeg:=Begin_ev (H:=H) (h:=h) (k:=(r:Nat)) (v:=v) hP ok1 gd1
 refine dpC hbeg ?_
 rintro d s2 ⟨mo,rfl,hmo,gm2,b2⟩
 have ok2:=b2.ok
 have n1:=b1.n; have n2:=b2.n
 have lm2:=ok2.lt gm2
 have hd2:=hd1.beh ok1 b2 (fun _ _ _ h=>h)
 refine⟨rfl,by rfl, ?_⟩
 have hstep:=zTx (H:=H) hT hP ok2 hmost hd2 (fun hw=>by have:=hW1 _ hw; omega) (fun hw=>by have:=hW1 _ hw; omega) gm2
 try refine go ?_
 refine clE hstep ?_
 rintro d s3 ⟨s0,b3,n3,hS3⟩
 have hNN:∀i,i < N→∃w,Vs[i]? =some w:=fun i hi=>by
  obtain⟨_,w,_,_,h2,_⟩:=hcx i hi
  exact⟨w,h2⟩
 have ok3:s3.Ok:=by
  rcases hS3 with ⟨_,_,_,_,_,_,_,hb⟩ | ⟨_,_,_,_,_,_,_,hb⟩ | ⟨_,_,_,_,hb⟩ | ⟨_,_,_,_,hb⟩ <;> exact hb.ok
 have wlt:∀ {j a:Nat},s.n≤a→j=a→j < s.n→W j:=fun h1 h2 h3=>by omega
 have b03:Beh W s s0:=(b1.mono fun _ h=>h.elim).trans' ((b2.mono fun _ h=>h.elim:Beh W s1 s2).trans' b3 fun o h1 h2=>by
  exfalso; omega) fun o hw hl=>hw
 have hout:=hS3.out (Vs:=Vs) (N:=N) (n0:=s.n) (by omega) ok3 (by omega) hE hNN hrN (fun m f h1 hf=>absurd h1 (by omega))
 have hfl:∃x0 x1 x2 x3 x4,d=turnD x0 x1 x2 x3 x4:=by
  rcases hout with ⟨n,e,_,_,_,_,rfl,_⟩ | ⟨_,_,_,_,_,rfl,_⟩ <;> exact ⟨_,_,_,_,_,rfl⟩
 have ask:∀ {s4:St} {n:Nat} {e:Ent} {d:D} {s5:St} {so1:Nat},s.n≤so1→s.n≤s4.n→Beh W s s4→E[n]? =some e→(∀(m:Nat) (f:Ent),m < n→E[m]? =some f→zQg Vs h r f=false)→True:=fun _ _ _ _ _=>trivial
 clear ask
 have inv0:PutInv W s bo k mo dv most E Vs h r v (E.length+1) [(0,.ptr bo 0),(2,.int .i64 (k:Nat)),(8,.ptr mo 0),(9,.lv d)] s3:=by
  rcases hout with ⟨n,e,q1,q2,q3,q4,rfl,q5,q6,q7⟩ | ⟨x0,x1,x2,x3,x4,rfl,q1,q2,q3⟩
  ·have hn:n < E.length:=(List.getElem?_eq_some_iff.mp q1).1
   exact⟨ok3,b03.trans' q6 (fun o h1 h2=>by exfalso; omega),.inl ⟨n,e,s2.n,by omega,rfl,q1,q3,q4,q5,by omega,q7⟩⟩
  ·exact⟨ok3,b03.trans' q3 (fun o h1 h2=>by rcases h1 with h1 | h1 | h1; exact h1; omega; omega),.inr ⟨x0,x1,x2,x3,x4,rfl,q1,q2⟩⟩
 obtain⟨y0,y1,y2,y3,y4,rfl⟩:=hfl
 repeat' first | refine go ?_ | refine opL ?_
 refine zAm (PutInv W s bo k mo dv most E Vs h r v) (E.length+1) rfl inv0 ?_
 rintro m env s4 ⟨ok4,bs4,hinv⟩
 rcases hinv with ⟨n,e,so1,hmn,rfl,he,heh,hek,hM,hso,hp⟩ | ⟨x0,x1,x2,x3,x4,rfl,hx,hdone⟩
 ·have hst4:=hst.beh hs bs4 hWs
  have hcx4:=hcx.beh hs bs4
  have gb4:=bs4.get hs gb hWb
  have gra4:=bs4.get hs gra (hWx _ _ _ _ rfl)
  obtain⟨i,hik,hiN⟩:=hE n e he
  obtain⟨di,wi,Fi,hi1,hi2,hi3,hi4⟩:=hcx4 i hiN
  obtain⟨dr',wr',Fr',hr1',hr2',hr3',hr4'⟩:=hcx4 r hrN
  have hal:=zFs (H:=H) hS hW hV ok4 hst4 hi1 hi3 hr1' hr3'
  have hla:zOm Vs e.k.toNat r=zPs i wi r wr' :=by simp [zOm,hik,hi2,hr2']
  have hn:n < E.length:=(List.getElem?_eq_some_iff.mp he).1
  have gM:=hM
  have lmo:s.n≤mo:=by omega
  have hek' :e.k=(i:Int):=hik
  rw [hek']
  try refine go ?_
  refine dpC hal ?_
  rintro d s5 ⟨rfl,rfl⟩
  refine⟨rfl,by rfl, ?_⟩
  try refine go ?_
  refine dpC (tell_ev (same:=zPs i wi r wr') hP ok4 hM) ?_
  rintro d s6 ⟨rfl,hM6,b6⟩
  refine⟨rfl,by rfl, ?_⟩
  have bs6:Beh W s s6:=bs4.trans' b6 fun o h1 h2=>by exfalso; omega
  cases hl:zPs i wi r wr' with
  | true=>
   rw [hl]at hM6
   have hst6:=yEv (H:=H) hT hP b6.ok hM6 he
   try refine go ?_
   refine clE hst6 ?_
   rintro d s7 ⟨rfl,hd7,b7⟩
   repeat' first | refine go ?_ | refine opL ?_
   refine rtN 0 (by omega) rfl ?_
   refine⟨b7.ok,bs6.trans' b7 (fun o h1 h2=>by rcases h1 with h1 | h1; exact h1; omega),.inr ⟨_,_,_,_,_,rfl,.inl rfl, ?_⟩⟩
   unfold Done
   rw [zVj he (by simp [zQg,heh,hla,hl]) hp]
   exact hd7.mono fun o ho=> .inl ho
  | false=>
   rw [hl]at hM6
   have hst6:=yEw (H:=H) hT hP b6.ok hmost (by have:=hd.len; omega) hM6
   try refine go ?_
   refine clE hst6 ?_
   rintro d s7 hS7
   have ok7:s7.Ok:=by
    rcases hS7 with ⟨_,_,_,_,_,_,_,hb⟩ | ⟨_,_,_,_,_,_,_,hb⟩ | ⟨_,_,_,_,hb⟩ | ⟨_,_,_,_,hb⟩ <;> exact hb.ok
   have n6:=bs6.n
   have hout7:=hS7.out (Vs:=Vs) (N:=N) (n0:=s.n) n6 ok7 lmo hE hNN hrN (fun m f h1 hf=>by
    rcases Nat.lt_or_ge m n with h2 | h2
    ·exact hp m f h2 hf
    ·obtain rfl:m=n:=by omega
     rw [he]at hf; simp only [Option.some.injEq]at hf; subst hf
     simp [zQg,hla,hl])
   rcases hout7 with ⟨n',e',q1,q2,q3,q4,rfl,q5,q6,q7⟩ | ⟨x0,x1,x2,x3,x4,rfl,q1,q2,q3⟩
   ·have hn' :n' < E.length:=(List.getElem?_eq_some_iff.mp q1).1
    repeat' first | refine go ?_ | refine opL ?_
    refine rtN (E.length - n') (by omega) rfl ?_
    exact⟨ok7,bs6.trans' q6 (fun o h1 h2=>by exfalso; omega),.inl ⟨n',e',so1,by omega,rfl,q1,q3,q4,q5,hso,q7⟩⟩
   ·repeat' first | refine go ?_ | refine opL ?_
    refine rtN 0 (by omega) rfl ?_
    exact⟨ok7,bs6.trans' q3 (fun o h1 h2=>by rcases h1 with h1 | h1 | h1; exact h1; omega; omega),.inr ⟨x0,x1,x2,x3,x4,rfl,q1,q2⟩⟩
 ·rcases hx with rfl | rfl
  all_goals
   try refine go ?_
   exact zBx ⟨⟨h,hdone⟩,bs4⟩
end
def evens:List Int→List Int
 | []=> []
 | [a]=> [a]
 | a::_::r=>a::evens r
theorem zFe:∀L:List Int,(evens L).length=(L.length+1) / 2
 | []=>rfl
 | [a]=>by simp [evens]
 | a::b::r=>by simp only [evens,List.length_cons,zFe r]; omega
theorem zWf:∀(L:List Int) (j:Nat),(evens L)[j]? =L[2 * j]?
 | [],j=>by simp [evens]
 | [a],j=>by
  cases j with
  | zero=>rfl
  | succ j=>simp [evens]
 | a::b::r,j=>by
  cases j with
  | zero=>rfl
  | succ j=>simp only [evens,List.getElem?_cons_succ,zWf r j,show 2 * (j+1)=2 * j+1+1 by omega]
def zAo (t:Tm):List Int:=if t.kd=8∨t.kd=9 then t.kids else if t.kd=7 then evens t.kids else []
theorem zIa (t:Tm):(zAo t).length≤t.kids.length:=by
 unfold zAo; split
 ·exact Nat.le_refl _
 ·split
  ·rw [zFe]; omega
  ·simp
inductive zGw (s:St):D→List Int→Prop
 | vs (nl:Bool) (L:List Int) (hn:nl=true→L=[]):zGw s (.vs nl 1 (ints L)) L
 | nil:zGw s (.vs true 0 []) []
 | sl (o:Nat) (L:List Int) (h:s.get o=some (.arr 1 3 (ints L) 0)):zGw s (.sl o 0 L.length L.length) L
theorem zGw.beh {W:Nat→Prop}{s s1:St}{x:D}{L:List Int}(h:zGw s x L)(hs:s.Ok)(hb:Beh W s s1)(hw:∀o a l c,x= .sl o a l c→ ¬ W o):zGw s1 x L:=by
 rcases h with ⟨nl,L,hn⟩ | _ | ⟨o,L,h1⟩
 ·exact .vs nl L hn
 ·exact .nil
 ·exact .sl o L (hb.get hs h1 (hw _ _ _ _ rfl))
theorem zDk {L:List Int}{j:Nat}{v:Int}(h:L[j]? =some v):(ints L)[j]? =some (.int .i64 v):=by simp only [ints,List.getElem?_map,h]; rfl
section
variable {T:Nat→Option AFn}{H:zAa}{s:St}{t:Tm}
theorem keys_set (hS:TS T)(h1:t.kd=8∨t.kd=9):EvP T H 66 [t.d] s fun d s1=>d= .vs t.n2 1 (ints t.kids)∧s1=s:=by
 obtain⟨kd,b,ng,n1,mag,tx,n2,kids,hs',sm⟩:=t
 simp only at h1
 refine evI hS.t66 ?_
 rcases h1 with rfl | rfl
 all_goals
  try refine go ?_
  exact rtF ⟨rfl,rfl⟩
theorem yGa (hS:TS T)(h1:t.kd≠8∧t.kd≠9∧t.kd≠7):EvP T H 66 [t.d] s fun d s1=>d= .vs true 0 []∧s1=s:=by
 obtain⟨kd,b,ng,n1,mag,tx,n2,kids,hs',sm⟩:=t
 simp only at h1
 obtain⟨h1,h2,h3⟩:=h1
 refine evI hS.t66 ?_
 try refine go ?_
 exact rtF ⟨rfl,rfl⟩
def KInv (s:St)(d:D)(K:List Int)(m:Nat)(env:Env) (s' :St):Prop:=Beh Nil s s' ∧∃j,j≤K.length∧m=K.length - j∧
 ((j=0∧s' =s∧env=[(1,.lv d),(3,.vs true 0 []),(4,.int .i64 ((0:Nat):Int))])∨
  (0 < j∧s'.get s.n=some (.arr 1 3 (ints (K.take j)) 0)∧env=[(1,.lv d),(3,.sl s.n 0 j j),(4,.int .i64 ((2 * j:Nat):Int))]))
theorem yGb (hS:TS T)(hs:s.Ok)(ho:t.Ok)(h1:t.kd=7):EvP T H 66 [t.d] s fun d s1=>zGw s1 d (evens t.kids)∧(∀o a l c,d= .sl o a l c→s.n≤o)∧Beh Nil s s1:=by
 have hk:=ho.kids
 obtain⟨kd,b,ng,n1,mag,tx,n2,kids,hs',sm⟩:=t
 simp only at h1 hk; subst h1
 have hl:=zFe kids
 have hat:=zWf kids
 have hil:=zAp kids
 have hil2:=fun j=>zAp ((evens kids).take j)
 have htl:∀j,((evens kids).take j).length=min j (evens kids).length:=fun j=>List.length_take
 refine evI hS.t66 ?_
 try refine go ?_
 refine zAm (KInv s (.agg [.int .i64 7,.bool b,.bool ng,.vs n1 1 (u32s mag),.str tx,.vs n2 1 (ints kids),.bool hs',.bool sm]) (evens kids)) (evens kids).length rfl ⟨Beh.refl hs,0,by omega,by omega,.inl ⟨rfl,rfl,rfl⟩⟩ ?_
 rintro m env s1 ⟨b1,j,hj,rfl,hinv⟩
 have ok1:=b1.ok
 rcases Nat.lt_or_ge j (evens kids).length with hlt | hge
 ·have h2:2 * j < kids.length:=by omega
  have e1:kids[2 * j]? =some kids[2 * j]:=List.getElem?_eq_getElem h2
  have e2:(ints kids)[2 * j]? =some (.int .i64 kids[2 * j]):=zDk e1
  have e3:(evens kids)[j]? =some kids[2 * j]:=by rw [hat,e1]
  have e4:(evens kids).take (j+1)=(evens kids).take j++ [kids[2 * j]]:=by rw [List.take_add_one,e3]; rfl
  have hw:IntKind.wrap .i64 (((2 * j:Nat):Int)+2)=((2 * (j+1):Nat):Int):=by rw [wrap_small (by omega) (by omega)]; omega
  rcases hinv with ⟨rfl,rfl,rfl⟩ | ⟨hj0,hg,rfl⟩
  ·have hw0:IntKind.wrap .i64 (((0:Nat):Int)+2)=((2 * (0+1):Nat):Int):=hw
   have e2' :(ints kids)[0]? =some (.int .i64 kids[2 * 0]):=e2
   try refine go ?_
   simp only [hw0]
   try refine go ?_
   refine rtN ((evens kids).length - (0+1)) (by omega) rfl ⟨Beh.push b1 _,1,by omega,by omega,.inr ⟨by omega, ?_,rfl⟩⟩
   rw [St.gpE,e4]; rfl
  ·have hil3:=hil2 j
   have htl3:=htl j
   have ln:=ok1.lt hg
   have e5:(ints (List.take j (evens kids))).length=j:=by omega
   try refine go ?_
   simp only [hw]
   try refine go ?_
   refine rtN ((evens kids).length - (j+1)) (by omega) rfl ⟨Beh.set b1 _ ln (fun h=>by omega),j+1,by omega,by omega,.inr ⟨by omega, ?_,rfl⟩⟩
   rw [St.gsE,e4]
   simp only [ints,List.map_append,List.map_cons,List.map_nil]
 ·have hje:j=(evens kids).length:=by omega
  rcases hinv with ⟨rfl,rfl,rfl⟩ | ⟨hj0,hg,rfl⟩
  ·have e0:kids=[]:=by cases kids with
    | nil=>rfl
    | cons a l=>simp only [List.length_cons]at hl; omega
   subst e0
   try refine go ?_
   exact rtF ⟨.nil,fun _ _ _ _ e=>(by cases e),b1⟩
  ·try refine go ?_
   rw [hje,List.take_length]at hg
   refine rtF (d:= .sl s.n 0 j j) ⟨?_,fun o a l c e=>(by cases e; exact Nat.le_refl _),b1⟩
   rw [hje]
   exact .sl s.n _ hg
theorem zTm (hS:TS T)(hs:s.Ok)(ho:t.Ok):EvP T H 66 [t.d] s fun d s1=>zGw s1 d (zAo t)∧(∀o a l c,d= .sl o a l c→s.n≤o)∧Beh Nil s s1:=by
 by_cases h1:t.kd=8∨t.kd=9
 ·obtain⟨d,s1,e,rfl,rfl⟩:=keys_set (H:=H) (s:=s) hS h1
  refine⟨_,_,e, ?_,fun _ _ _ _ e=>(by cases e),Beh.refl hs⟩
  rw [zAo,if_pos h1]
  exact .vs _ _ ho.n2
 ·by_cases h2:t.kd=7
  ·obtain⟨d,s1,e,h3,h4,h5⟩:=yGb (H:=H) hS hs ho h2
   refine⟨_,_,e, ?_,h4,h5⟩
   rw [zAo,if_neg h1,if_pos h2]; exact h3
  ·obtain⟨d,s1,e,rfl,rfl⟩:=yGa (H:=H) (s:=s) (t:=t) hS (by omega)
   refine⟨_,_,e, ?_,fun _ _ _ _ e=>(by cases e),Beh.refl hs⟩
   rw [zAo,if_neg h1,if_neg h2]; exact .nil
end
section
variable {T:Nat→Option AFn}{H:zAa}{s:St}{so o la ta pl mp P Sh n lv tk:Nat}{V:List D}
theorem row_ev (hT:TS T)(hs:s.Ok)(h:StA s so o la ta pl mp P Sh V n lv tk)(hn:n < 2147483648)(hl:lv < 2147483648)(ht:tk < 2147483648)(hV:V.length+1≤mxE){kd:Int}{lx m:Nat}:
  EvP T H 42 [.ptr so 0,.int .i64 kd,.sl lx 0 m m] s fun d s1=>d= .int .i64 V.length∧∃ro,s.n≤ro∧ro < s1.n∧s1.get ro=some (.var 76 (.agg [.int .i64 (n+1:Nat),.sl lx 0 m m,.int .i64 kd]))∧StA s1 so o la ta pl mp P Sh (V++ [.ifc 70 (.ptr ro 0)]) (n+1) (lv+1) (tk+1)∧Beh (OfS so o la ta pl) s s1:=by
 have h0:=h
 obtain⟨h1,h2,h3,⟨g1,g2,g3,k1,k2,k3⟩,h5⟩:=h0
 have l1:=hs.lt h1; have l2:=hs.lt h2; have l3:=hs.lt h3; have l4:=hs.lt g1; have l5:=hs.lt g2; have l6:=hs.lt g3
 have nd:=h5
 simp only [List.nodup_cons,List.mem_cons,List.not_mem_nil,or_false,not_or,not_false_eq_true,List.nodup_nil,and_true]at h5
 obtain⟨⟨n1,n2,n3,n4,n5⟩,⟨n6,n7,n8,n9⟩,⟨n10,n11,n12⟩,⟨n13,n14⟩,n15⟩:=h5
 refine evI hT.t42 ?_
 try refine go ?_
 refine dpC (zJp hT (hs.up 1) (h.up 1) hn hl ht) ?_
 rintro d s1 ⟨rfl,q1,q2⟩
 have f1:(s.up 1).get so=_:=h1
 have f2:=q1.go
 refine⟨rfl,by simp [lost,AOp.kind,lAs,zAf,fpOf,wtD,fpRd,fpRd.objs,fpRg,Opd.ev,Env.get,sOb,D.flat,D.isAgg,cEq,D.beqs,D.beq,Nat.beq_refl,Obj.beq_rfl,laR,soR,D.bsR,D.beq_rfl,f1,f2], ?_⟩
 have m1:=q2.n
 have m2:=q2.ok
 simp only [St.n_up]at m1
 have m0:s1.get (s.n+0)=none:=by
  rw [q2.same _ (by rw [St.n_up]; omega) (by omega)]
  exact hs.fresh _ (by omega)
 have p1:=q1.go
 try refine go ?_
 have c3:=(Beh.set (W:=fun j=>j=s.n+0) (Beh.refl q2.ok) (.var 76 (.agg [.int .i64 (n+1:Nat),.sl lx 0 m m,.int .i64 kd])) (o:=s.n+0) (by omega) (fun _=>rfl))
 have c1:=c3.ok
 have c2:=q1.sl.beh q2.ok c3 (by omega) (by omega) (by omega)
 refine dpC (zGs hT c1 c2 hV) ?_
 rintro d s2 ⟨rfl,q3,q4⟩
 have e1:=c3.get q2.ok p1 (by omega)
 have e2:=q4.get c1 e1 (by omega)
 refine⟨rfl,by simp [lost,AOp.kind,lAs,zAf,fpOf,wtD,fpRd,fpRd.objs,fpRg,Opd.ev,Env.get,sOb,D.flat,D.isAgg,cEq,D.beqs,D.beq,Nat.beq_refl,Obj.beq_rfl,laR,soR,D.bsR,D.beq_rfl,e1,e2], ?_⟩
 try refine go ?_
 have y1:=q4.get c1 (c3.get q2.ok q1.gp (by omega)) (by omega)
 have y2:=q4.get c1 (c3.get q2.ok q1.gm (by omega)) (by omega)
 have y3:=q4.get (o:=s.n+0) c1 St.gsE (by omega)
 have z1:=q4.n
 simp only [St.nS0]at z1
 refine rtF ⟨rfl,s.n+0,by omega,by omega,y3,⟨e2,y1,y2,q3,nd⟩, ?_⟩
 refine Beh.trans' (W' :=fun j=>j=o∨j=la∨j=ta) (Beh.trans' (W' :=fun j=>j=s.n+0) (Beh.trans' (W' :=fun j=>j=so∨j=pl) ((Beh.refl hs).up 1) q2 ?_) c3 ?_) q4 ?_
 ·rintro j (rfl | rfl) _ <;> simp [OfS]
 ·rintro j rfl hj; omega
 ·rintro j (rfl | rfl | rfl) _ <;> simp [OfS]
theorem zXk (hT:TS T)(hs:s.Ok)(h:StA s so o la ta pl mp P Sh V n lv tk)(hn:n < 2147483648)(hl:lv < 2147483648)(ht:tk < 2147483648)(hV:V.length+1≤mxE){kd:Int}{dv:Nat}:
  EvP T H 91 [.ptr so 0,.int .i64 kd,.ptr dv 0] s fun d s1=>d= .int .i64 V.length∧∃ro,s.n≤ro∧ro < s1.n∧s1.get ro=some (.var 91 (.agg [.int .i64 (n+1:Nat),.ptr dv 0,.int .i64 kd]))∧StA s1 so o la ta pl mp P Sh (V++ [.ifc 88 (.ptr ro 0)]) (n+1) (lv+1) (tk+1)∧Beh (OfS so o la ta pl) s s1:=by
 have h0:=h
 obtain⟨h1,h2,h3,⟨g1,g2,g3,k1,k2,k3⟩,h5⟩:=h0
 have l1:=hs.lt h1; have l2:=hs.lt h2; have l3:=hs.lt h3; have l4:=hs.lt g1; have l5:=hs.lt g2; have l6:=hs.lt g3
 have nd:=h5
 simp only [List.nodup_cons,List.mem_cons,List.not_mem_nil,or_false,not_or,not_false_eq_true,List.nodup_nil,and_true]at h5
 obtain⟨⟨n1,n2,n3,n4,n5⟩,⟨n6,n7,n8,n9⟩,⟨n10,n11,n12⟩,⟨n13,n14⟩,n15⟩:=h5
 refine evI hT.t91 ?_
 try refine go ?_
 refine dpC (zJp hT (hs.up 1) (h.up 1) hn hl ht) ?_
 rintro d s1 ⟨rfl,q1,q2⟩
 have f1:(s.up 1).get so=_:=h1
 have f2:=q1.go
 refine⟨rfl,by simp [lost,AOp.kind,lAs,zAf,fpOf,wtD,fpRd,fpRd.objs,fpRg,Opd.ev,Env.get,sOb,D.flat,D.isAgg,cEq,D.beqs,D.beq,Nat.beq_refl,Obj.beq_rfl,laR,soR,D.bsR,D.beq_rfl,f1,f2], ?_⟩
 have m1:=q2.n
 have m2:=q2.ok
 simp only [St.n_up]at m1
 have m0:s1.get (s.n+0)=none:=by
  rw [q2.same _ (by rw [St.n_up]; omega) (by omega)]
  exact hs.fresh _ (by omega)
 have p1:=q1.go
 try refine go ?_
 have c3:=(Beh.set (W:=fun j=>j=s.n+0) (Beh.refl q2.ok) (.var 91 (.agg [.int .i64 (n+1:Nat),.ptr dv 0,.int .i64 kd])) (o:=s.n+0) (by omega) (fun _=>rfl))
 have c1:=c3.ok
 have c2:=q1.sl.beh q2.ok c3 (by omega) (by omega) (by omega)
 refine dpC (zGs hT c1 c2 hV) ?_
 rintro d s2 ⟨rfl,q3,q4⟩
 have e1:=c3.get q2.ok p1 (by omega)
 have e2:=q4.get c1 e1 (by omega)
 refine⟨rfl,by simp [lost,AOp.kind,lAs,zAf,fpOf,wtD,fpRd,fpRd.objs,fpRg,Opd.ev,Env.get,sOb,D.flat,D.isAgg,cEq,D.beqs,D.beq,Nat.beq_refl,Obj.beq_rfl,laR,soR,D.bsR,D.beq_rfl,e1,e2], ?_⟩
 try refine go ?_
 have y1:=q4.get c1 (c3.get q2.ok q1.gp (by omega)) (by omega)
 have y2:=q4.get c1 (c3.get q2.ok q1.gm (by omega)) (by omega)
 have y3:=q4.get (o:=s.n+0) c1 St.gsE (by omega)
 have z1:=q4.n
 simp only [St.nS0]at z1
 refine rtF ⟨rfl,s.n+0,by omega,by omega,y3,⟨e2,y1,y2,q3,nd⟩, ?_⟩
 refine Beh.trans' (W' :=fun j=>j=o∨j=la∨j=ta) (Beh.trans' (W' :=fun j=>j=s.n+0) (Beh.trans' (W' :=fun j=>j=so∨j=pl) ((Beh.refl hs).up 1) q2 ?_) c3 ?_) q4 ?_
 ·rintro j (rfl | rfl) _ <;> simp [OfS]
 ·rintro j rfl hj; omega
 ·rintro j (rfl | rfl | rfl) _ <;> simp [OfS]
theorem view_ev (hT:TS T)(hs:s.Ok)(h:StA s so o la ta pl mp P Sh V n lv tk)(hn:n < 2147483648)(hl:lv < 2147483648)(ht:tk < 2147483648)(hV:V.length+1≤mxE){kd v:Int}:
  EvP T H 46 [.ptr so 0,.int .i64 kd,.int .i64 v] s fun d s1=>d= .int .i64 V.length∧∃ro,s.n≤ro∧ro < s1.n∧s1.get ro=some (.var 96 (.agg [.int .i64 (n+1:Nat),.int .i64 v,.int .i64 kd]))∧StA s1 so o la ta pl mp P Sh (V++ [.ifc 92 (.ptr ro 0)]) (n+1) (lv+1) (tk+1)∧Beh (OfS so o la ta pl) s s1:=by
 have h0:=h
 obtain⟨h1,h2,h3,⟨g1,g2,g3,k1,k2,k3⟩,h5⟩:=h0
 have l1:=hs.lt h1; have l2:=hs.lt h2; have l3:=hs.lt h3; have l4:=hs.lt g1; have l5:=hs.lt g2; have l6:=hs.lt g3
 have nd:=h5
 simp only [List.nodup_cons,List.mem_cons,List.not_mem_nil,or_false,not_or,not_false_eq_true,List.nodup_nil,and_true]at h5
 obtain⟨⟨n1,n2,n3,n4,n5⟩,⟨n6,n7,n8,n9⟩,⟨n10,n11,n12⟩,⟨n13,n14⟩,n15⟩:=h5
 refine evI hT.t46 ?_
 try refine go ?_
 refine dpC (zJp hT (hs.up 1) (h.up 1) hn hl ht) ?_
 rintro d s1 ⟨rfl,q1,q2⟩
 have f1:(s.up 1).get so=_:=h1
 have f2:=q1.go
 refine⟨rfl,by simp [lost,AOp.kind,lAs,zAf,fpOf,wtD,fpRd,fpRd.objs,fpRg,Opd.ev,Env.get,sOb,D.flat,D.isAgg,cEq,D.beqs,D.beq,Nat.beq_refl,Obj.beq_rfl,laR,soR,D.bsR,D.beq_rfl,f1,f2], ?_⟩
 have m1:=q2.n
 have m2:=q2.ok
 simp only [St.n_up]at m1
 have m0:s1.get (s.n+0)=none:=by
  rw [q2.same _ (by rw [St.n_up]; omega) (by omega)]
  exact hs.fresh _ (by omega)
 have p1:=q1.go
 try refine go ?_
 have c3:=(Beh.set (W:=fun j=>j=s.n+0) (Beh.refl q2.ok) (.var 96 (.agg [.int .i64 (n+1:Nat),.int .i64 v,.int .i64 kd])) (o:=s.n+0) (by omega) (fun _=>rfl))
 have c1:=c3.ok
 have c2:=q1.sl.beh q2.ok c3 (by omega) (by omega) (by omega)
 refine dpC (zGs hT c1 c2 hV) ?_
 rintro d s2 ⟨rfl,q3,q4⟩
 have e1:=c3.get q2.ok p1 (by omega)
 have e2:=q4.get c1 e1 (by omega)
 refine⟨rfl,by simp [lost,AOp.kind,lAs,zAf,fpOf,wtD,fpRd,fpRd.objs,fpRg,Opd.ev,Env.get,sOb,D.flat,D.isAgg,cEq,D.beqs,D.beq,Nat.beq_refl,Obj.beq_rfl,laR,soR,D.bsR,D.beq_rfl,e1,e2], ?_⟩
 try refine go ?_
 have y1:=q4.get c1 (c3.get q2.ok q1.gp (by omega)) (by omega)
 have y2:=q4.get c1 (c3.get q2.ok q1.gm (by omega)) (by omega)
 have y3:=q4.get (o:=s.n+0) c1 St.gsE (by omega)
 have z1:=q4.n
 simp only [St.nS0]at z1
 refine rtF ⟨rfl,s.n+0,by omega,by omega,y3,⟨e2,y1,y2,q3,nd⟩, ?_⟩
 refine Beh.trans' (W' :=fun j=>j=o∨j=la∨j=ta) (Beh.trans' (W' :=fun j=>j=s.n+0) (Beh.trans' (W' :=fun j=>j=so∨j=pl) ((Beh.refl hs).up 1) q2 ?_) c3 ?_) q4 ?_
 ·rintro j (rfl | rfl) _ <;> simp [OfS]
 ·rintro j rfl hj; omega
 ·rintro j (rfl | rfl | rfl) _ <;> simp [OfS]
theorem str_ev (hT:TS T)(hs:s.Ok)(h:StA s so o la ta pl mp P Sh V n lv tk)(ht:tk < 2147483648)(hV:V.length+1≤mxE){x:List UInt8}:
  EvP T H 41 [.ptr so 0,.str x] s fun d s1=>d= .int .i64 V.length∧StA s1 so o la ta pl mp P Sh (V++ [.ifc 86 (.agg [.str x])]) n lv (tk+1)∧Beh (OfS so o la ta pl) s s1:=by
 have hm:=zTi (H:=H) hT hs h ht
 refine evI hT.t41 ?_
 try refine go ?_
 refine clE hm ?_
 rintro d s1 ⟨q1,q2⟩
 have g:=q1.go
 have ok1:=q2.ok
 try refine go ?_
 refine clE (zGs hT ok1 q1.sl hV) ?_
 rintro d s2 ⟨rfl,q3,q4⟩
 have nd:=q1.nd
 simp only [List.nodup_cons,List.mem_cons,List.not_mem_nil,or_false,not_or,not_false_eq_true,List.nodup_nil,and_true]at nd
 obtain⟨⟨n1,n2,n3,n4,n5⟩,⟨n6,n7,n8,n9⟩,⟨n10,n11,n12⟩,⟨n13,n14⟩,n15⟩:=nd
 try refine go ?_
 refine rtF ⟨rfl,⟨q4.get ok1 g (by omega),q4.get ok1 q1.gp (by omega),q4.get ok1 q1.gm (by omega),q3,q1.nd⟩,(q2.mono fun j hj=>by subst hj; simp [OfS]).trans (q4.mono fun j hj=> ?_)⟩
 rcases hj with rfl | rfl | rfl <;> simp [OfS]
theorem int_ev (hT:TS T)(hs:s.Ok)(h:StA s so o la ta pl mp P Sh V n lv tk)(ht:tk < 2147483648)(hV:V.length+1≤mxE){m:Bool×List Nat}{y:D}(hy:Ws s y m.2):
  EvP T H 39 [.ptr so 0,.agg [.bool m.1,y]] s fun d s1=>d= .int .i64 V.length∧StA s1 so o la ta pl mp P Sh (V++ [.ifc 102 (.agg [.bool m.1,y])]) n lv (tk+1)∧Beh (OfS so o la ta pl) s s1:=by
 have hm:=zTi (H:=H) hT hs h ht
 refine evI hT.t39 ?_
 rcases hy.sh with ⟨nl,z,l,rfl⟩ | ⟨o',l,c,rfl⟩
 all_goals
  try refine go ?_
  refine clE hm ?_
  rintro d s1 ⟨q1,q2⟩
  have g:=q1.go
  have ok1:=q2.ok
  try refine go ?_
  refine dpC (zGs hT ok1 q1.sl hV) ?_
  rintro d s2 ⟨rfl,q3,q4⟩
  refine⟨rfl,by rfl, ?_⟩
  have nd:=q1.nd
  simp only [List.nodup_cons,List.mem_cons,List.not_mem_nil,or_false,not_or,not_false_eq_true,List.nodup_nil,and_true]at nd
  obtain⟨⟨n1,n2,n3,n4,n5⟩,⟨n6,n7,n8,n9⟩,⟨n10,n11,n12⟩,⟨n13,n14⟩,n15⟩:=nd
  try refine go ?_
  refine rtF ⟨rfl,⟨q4.get ok1 g (by omega),q4.get ok1 q1.gp (by omega),q4.get ok1 q1.gm (by omega),q3,q1.nd⟩,(q2.mono fun j hj=>by subst hj; simp [OfS]).trans (q4.mono fun j hj=> ?_)⟩
  rcases hj with rfl | rfl | rfl <;> simp [OfS]
end
section
variable {T:Nat→Option AFn}{H:zAa}{s:St}{so o la ta pl mp P Sh n lv tk:Nat}{V:List D}
theorem StA.nil {s1:St}(h:StA s so o la ta pl mp P Sh V n lv tk)(hs:s.Ok)(hb:Beh Nil s s1):StA s1 so o la ta pl mp P Sh V n lv tk:=h.beh hs hb fun _ _ h=>h
theorem yIi (hS:TS T)(hT:TT T)(hP:TP T)(hs:s.Ok)(h:StA s so o la ta pl mp P Sh V n lv tk)(hn:n < 2147483648)(hl:lv < 2147483648)(ht:tk < 2147483648)(hV:V.length+1≤mxE)(hp:P≤65536){kd:Nat}:
  EvP T H 73 [.ptr so 0,.int .i64 kd] s fun d s1=>d= .int .i64 V.length∧∃po dv,s.n≤po∧po < s1.n∧s1.get po=some (.var 91 (.agg [.int .i64 (n+1:Nat),.ptr dv 0,.int .i64 kd]))∧
   zAw (fun j=>s.n≤j∧j < s1.n) s1 dv P []∧zAw (fun j=>s.n≤j∧j < s1.n∧j≠po) s1 dv P []∧StA s1 so o la ta pl mp P Sh (V++ [.ifc 88 (.ptr po 0)]) (n+1) (lv+1) (tk+1)∧Beh (OfS so o la ta pl) s s1:=by
 have g:=h.go
 have hpn:=yAf (H:=H) hT hP hs hp
 refine evI hS.t73 ?_
 try refine go ?_
 refine dpC hpn ?_
 rintro d s1 ⟨to,dv,co,ro,b,st,C,rfl,h1,h2,h3,h4,h5,h6,h7,h8⟩
 refine⟨rfl,by rfl, ?_⟩
 have ok1:=h8.ok
 have st1:=h.nil hs h8
 try refine go ?_
 refine clE (zXk hS ok1 st1 hn hl ht hV) ?_
 rintro d s2 ⟨rfl,po,p1,p2,p3,p4,p5⟩
 have ln:=h8.n; have ln2:=p5.n
 have hlt:=fun j (hj:OfS so o la ta pl j∨j=mp)=>h.lt hs hj
 have nW:∀j,s.n≤j→ ¬ OfS so o la ta pl j:=fun j hj hh=>by have:=hlt j (.inl hh); omega
 have l1:=ok1.lt h6; have l2:=ok1.lt h7.go; have l3:=ok1.lt h7.ce.go; have l4:=ok1.lt h7.ce.gr
 have d2:zAw (fun j=>s.n≤j∧j < s1.n) s1 dv P []:=⟨to,to,co,ro,3,b,st,_,C,0,h6,⟨h7.go,.nil to,h7.ce,h7.la,h7.rm⟩,⟨h2,l1⟩,⟨h1,l2⟩,⟨h1,l2⟩,⟨h3,l3⟩,⟨h4,l4⟩,Nat.zero_le _⟩
 have d3:=d2.beh ok1 p5 fun o _ ho=>nW o ho.1
 try refine go ?_
 exact rtF ⟨rfl,po,dv,by omega,p2,p3,d3.mono fun o ho=>⟨ho.1,by omega⟩,d3.mono fun o ho=>⟨ho.1,by omega,by omega⟩,p4,(h8.mono fun _ h=>h.elim).trans p5⟩
end
section
variable {T:Nat→Option AFn}{H:zAa}{s:St}{so o la ta pl mp P Sh n lv tk:Nat}{V:List D}
@[reducible] def famD (sh P ko mo:Nat):D:= .agg [.int .i64 sh,.int .i64 P,.nilp,.ptr ko 0,.vs true 0 [],.mp mo]
theorem fam_ev (hS:TS T)(hT:TT T)(hs:s.Ok)(hp:P≤65536)(hsh:Sh≤256):
  EvP T H 76 [.int .i64 Sh,.int .i64 P,.nilp] s fun d s1=>∃fo ko mo,d= .tup [.ptr fo 0,.int .i64 0]∧s.n≤fo∧s1.get fo=some (.var 209 (famD Sh P ko mo))∧Beh Nil s s1:=by
 have hn:=zZw (H:=H) hT hs
 refine evI hS.t76 ?_
 try refine go ?_
 refine clE hn ?_
 rintro d s1 ⟨rfl,co,ro,b,st,C,h1,h2,h3,h4,h5,h6⟩
 have ok1:=h6.ok
 have n1:=h6.n
 try refine go ?_
 refine rtF ⟨_,_,_,rfl, ?_,St.gpE,Beh.push (Beh.push h6 _) _⟩
 rw [St.nP0]; omega
theorem class_ev (hS:TS T)(hT:TT T)(hP:TP T)(hs:s.Ok)(h:StA s so o la ta pl mp P Sh V n lv tk)(hn:n < 2147483648)(hl:lv < 2147483648)(ht:tk < 2147483648)(hV:V.length+1≤mxE)(hp:P≤65536)(hsh:Sh≤256):
  EvP T H 44 [.ptr so 0,.str [67],.int .i64 (-1)] s fun d s1=>d= .int .i64 V.length∧∃po dv fo ko mo,s.n≤po∧s.n≤fo∧po≠fo∧s1.get po=some (.var 124 (.agg [.int .i64 (n+1:Nat),.ptr dv 0,.str [67],.int .i64 (-1),.ptr fo 0,.bool false,.bool false]))∧
   s1.get fo=some (.var 209 (famD Sh P ko mo))∧StA s1 so o la ta pl mp P Sh (V++ [.ifc 120 (.ptr po 0)]) (n+1) (lv+1) (tk+1)∧Beh (OfS so o la ta pl) s s1:=by
 have g:=h.go
 have hpn:=yAf (H:=H) hT hP hs hp
 refine evI hS.t44 ?_
 try refine go ?_
 refine dpC hpn ?_
 rintro d s1 ⟨to,dv,co,ro,b,st,C,rfl,h1,h2,h3,h4,h5,h6,h7,h8⟩
 refine⟨rfl,by rfl, ?_⟩
 have ok1:=h8.ok
 have st1:=h.nil hs h8
 have g1:=st1.go
 have hfm:=fam_ev (H:=H) hS hT ok1 hp hsh
 try refine go ?_
 refine dpC hfm ?_
 rintro d s2 ⟨fo,ko,mo,rfl,i1,i2,i3⟩
 refine⟨rfl,by rfl, ?_⟩
 have ok2:=i3.ok
 have st2:=st1.nil ok1 i3
 have g2:=st2.go
 have ln:=h8.n; have ln2:=i3.n
 have lfo:=ok2.lt i2
 have hlt:=fun j (hj:OfS so o la ta pl j∨j=mp)=>h.lt hs hj
 have nW:∀j,s.n≤j→ ¬ OfS so o la ta pl j:=fun j hj hh=>by have:=hlt j (.inl hh); omega
 have h0:=st2
 obtain⟨u1,u2,u3,⟨v1,v2,v3,k1,k2,k3⟩,u5⟩:=h0
 have l1:=ok2.lt u1; have l2:=ok2.lt u2; have l3:=ok2.lt u3; have l4:=ok2.lt v1; have l5:=ok2.lt v2; have l6:=ok2.lt v3
 have nd:=u5
 simp only [List.nodup_cons,List.mem_cons,List.not_mem_nil,or_false,not_or,not_false_eq_true,List.nodup_nil,and_true]at u5
 obtain⟨⟨n1,n2,n3,n4,n5⟩,⟨n6,n7,n8,n9⟩,⟨n10,n11,n12⟩,⟨n13,n14⟩,n15⟩:=u5
 try refine go ?_
 refine dpC (zJp hS (ok2.up 1) (st2.up 1) hn hl ht) ?_
 rintro d s3 ⟨rfl,q1,q2⟩
 have f1:(s2.up 1).get so=_:=u1
 have f2:=q1.go
 refine⟨rfl,by simp [lost,AOp.kind,lAs,zAf,fpOf,wtD,fpRd,fpRd.objs,fpRg,Opd.ev,Env.get,sOb,D.flat,D.isAgg,cEq,D.beqs,D.beq,Nat.beq_refl,Obj.beq_rfl,laR,soR,D.bsR,D.beq_rfl,f1,f2], ?_⟩
 have m1:=q2.n
 have m2:=q2.ok
 simp only [St.n_up]at m1
 have m0:s3.get (s2.n+0)=none:=by
  rw [q2.same _ (by rw [St.n_up]; omega) (by omega)]
  exact ok2.fresh _ (by omega)
 have p1:=q1.go
 try refine go ?_
 have c3:=(Beh.set (W:=fun j=>j=s2.n+0) (Beh.refl q2.ok) (.var 124 (.agg [.int .i64 (n+1:Nat),.ptr dv 0,.str [67],.int .i64 (-1),.ptr fo 0,.bool false,.bool false])) (o:=s2.n+0) (by omega) (fun _=>rfl))
 have c1:=c3.ok
 have c2:=q1.sl.beh q2.ok c3 (by omega) (by omega) (by omega)
 refine dpC (zGs hS c1 c2 hV) ?_
 rintro d s4 ⟨rfl,q3,q4⟩
 have e1:=c3.get q2.ok p1 (by omega)
 have e2:=q4.get c1 e1 (by omega)
 refine⟨rfl,by simp [lost,AOp.kind,lAs,zAf,fpOf,wtD,fpRd,fpRd.objs,fpRg,Opd.ev,Env.get,sOb,D.flat,D.isAgg,cEq,D.beqs,D.beq,Nat.beq_refl,Obj.beq_rfl,laR,soR,D.bsR,D.beq_rfl,e1,e2], ?_⟩
 try refine go ?_
 have y1:=q4.get c1 (c3.get q2.ok q1.gp (by omega)) (by omega)
 have y2:=q4.get c1 (c3.get q2.ok q1.gm (by omega)) (by omega)
 have y3:=q4.get (o:=s2.n+0) c1 St.gsE (by omega)
 have nfo: ¬ OfS so o la ta pl fo:=nW fo (by omega)
 have y4:=q4.get c1 (c3.get q2.ok (q2.get (ok2.up 1) (St.get_up i2) (fun hh=>nfo (by rcases hh with rfl | rfl <;> simp [OfS]))) (by omega)) (fun hh=>nfo (by rcases hh with rfl | rfl | rfl <;> simp [OfS]))
 refine rtF ⟨rfl,s2.n+0,dv,fo,ko,mo,by omega,by omega,by omega,y3,y4,⟨e2,y1,y2,q3,nd⟩, ?_⟩
 refine ((h8.mono fun _ h=>h.elim).trans (i3.mono fun _ h=>h.elim)).trans (Beh.trans' (W' :=fun j=>j=o∨j=la∨j=ta) (Beh.trans' (W' :=fun j=>j=s2.n+0) (Beh.trans' (W' :=fun j=>j=so∨j=pl) ((Beh.refl ok2).up 1) q2 ?_) c3 ?_) q4 ?_)
 ·rintro j (rfl | rfl) _ <;> simp [OfS]
 ·rintro j rfl hj; omega
 ·rintro j (rfl | rfl | rfl) _ <;> simp [OfS]
end
end Go.Proofs.YtmcdajnpdekocaaGreatDoor.Tab
