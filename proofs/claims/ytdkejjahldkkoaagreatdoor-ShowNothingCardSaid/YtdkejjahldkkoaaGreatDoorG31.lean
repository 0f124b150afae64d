/- Part. -/
import Derived.Test.YtdkejjahldkkoaaGreatDoorG30
set_option linter.unusedSectionVars false
set_option maxRecDepth 100000
set_option maxHeartbeats 4000000
set_option linter.unusedSimpArgs false
set_option linter.unusedVariables false
namespace Go.Proofs.Tab
open Go Go.Ab Go.Ab.Sm
section
variable {T:Nat->Option dS}{H:au}{s:St}{so o la ta pl mp P Sh n lv tk:Nat}{V:List D}
theorem PY (hS:TS T)(hs:s.Ok){fo sh P ko mo:Nat}(hf:s.get fo=some (.var 241 (QK sh P ko mo))):
  cu T H 82 [.ptr fo 0] s fun d s1=>∃sp ro,d= .ptr sp 0/\s.n<=sp/\s.n<=ro/\s1.get sp=some (.var 249 (.agg [.ptr fo 0,.ig 243 (.ptr ro 0),.int .u64 0]))/\s1.get ro=some (.var 245 (.agg [.vs true 0 []]))/\aC Nil s s1:=by
 refine ay hS.t82 ?_
 repeat' first | refine go ?_ | refine gP hS.t131 ?_
 refine ai ⟨s.n+1,s.n,rfl,by omega,by omega, ?_, ?_,aC.push (aC.push (aC.refl hs) _) _⟩
 ·exact St.ba
 ·exact St.fh St.ba (by rw [St.dN]; omega)
theorem Fa (hS:TS T)(hs:s.Ok)(h:bE s so o la ta pl mp P Sh V n lv tk)(hn:n < 2147483648)(hl:lv < 2147483648)(ht:tk < 2147483648)(hV:V.length+1<=aL){c cp fo sh Q ko mo:Nat}{cn cd cb:D}{chs csm:Bool}{ct:List UInt8}
  (hc:V[c]? =some (.ig 134 (.ptr cp 0)))(gc:s.get cp=some (.var 139 (.agg [cn,cd,.str ct,cb,.ptr fo 0,.bool chs,.bool csm])))(gf:s.get fo=some (.var 241 (QK sh Q ko mo)))(wc: ¬ bw so o la ta pl cp)(wf: ¬ bw so o la ta pl fo):
  cu T H 40 [.ptr so 0,.int .i64 c] s fun d s1=>d= .int .i64 V.length/\∃po sp ro,s.n<=po/\s.n<=sp/\s.n<=ro/\s1.get po=some (.var 190 (.agg [.int .i64 (n+1:Nat),.ptr sp 0,.int .i64 c]))/\
   s1.get sp=some (.var 249 (.agg [.ptr fo 0,.ig 243 (.ptr ro 0),.int .u64 0]))/\s1.get ro=some (.var 245 (.agg [.vs true 0 []]))/\bE s1 so o la ta pl mp P Sh (V++ [.ig 156 (.ptr po 0)]) (n+1) (lv+1) (tk+1)/\aC (bw so o la ta pl) s s1:=by
 have dQ:=fun j (hj:bw so o la ta pl j\/j=mp)=>h.lt hs hj;have nW:∀j,s.n<=j-> ¬ bw so o la ta pl j:=fun j hj hh=>by have:=dQ j (.inl hh); omega
 refine ay hS.t40 ?_;try refine go ?_
 refine ak (uj hS hs h hn hl ht) ?_;rintro d s1 ⟨rfl,mu,b1⟩;have ok1:=b1.ok;have PF :aC (bw so o la ta pl) s s1:=b1.mono fun j hj=>by rcases hj with rfl | rfl <;> simp [bw]
 have gc1:=PF.get hs gc wc;have gf1:=PF.get hs gf wf;have ln1:=b1.n;try refine go ?_
 obtain⟨s2,GG⟩:∃s2,s2=s1.bc (.var 190 (.agg [.int .i64 (n+1:Nat),.cT,.int .i64 c])):=⟨_,rfl⟩;have b2:aC Nil s1 s2:=by rw [GG]; exact aC.push (aC.refl ok1) _
 have g2:s2.get s1.n=some (.var 190 (.agg [.int .i64 (n+1:Nat),.cT,.int .i64 c])):=by rw [GG]; exact St.ba
 show Sm.Call T H _ _ _ _ _ _ _ (s1.bc (.var 190 (.agg [.int .i64 (n+1:Nat),.cT,.int .i64 c]))) _;rw [← GG];have ok2:=b2.ok;have tR:=mu.nil ok1 b2;have gc2:=b2.get ok1 gc1 (fun h=>h);have gf2:=b2.get ok1 gf1 (fun h=>h);refine ak (eh hS tR hc) ?_;rintro d s2 ⟨rfl,rfl⟩;try refine go ?_
 refine ak (PY hS ok2 gf2) ?_;rintro d s3 ⟨sp,ro,rfl,i1,i2,i3,i4,b3⟩;have ok3:=b3.ok;have XV:=tR.nil ok2 b3;have g3:=b3.get ok2 g2 (fun h=>h);have ln2:=b2.n; have ln3:=b3.n;have l3:=ok3.lt g3;have acX:s2.n=s1.n+1:=by rw [GG]; rfl
 have gs3:=XV.go;have lso:=ok3.lt gs3;have nso:so≠s1.n:=by have:=dQ so (.inl (by simp [bw])); omega
 try refine go ?_
 have b4:aC (fun j=>j=s1.n) s3 (s3.bD s1.n (.var 190 (.agg [.int .i64 (n+1:Nat),.ptr sp 0,.int .i64 c]))):=aC.set (W:=fun j=>j=s1.n) (aC.refl ok3) _ l3 (fun _=>rfl);have FB:=XV.dU ok3 b4 fun j hj e=>by have:=dQ j hj; omega
 refine ak (qI hS b4.ok FB.sl hV) ?_;rintro d s5 ⟨rfl,q3,q4⟩;have nd:=FB.nd;simp only [fm,bS,eZ,kI,kH,dD,fN,iv]at nd;obtain⟨⟨n1,n2,n3,n4,n5⟩,⟨n6,n7,n8,n9⟩,⟨UC,Uu,Vd⟩,⟨UH,T5⟩,T3⟩:=nd;have nw:∀j,s.n<=j-> ¬ (j=o\/j=la\/j=ta):=fun j hj hh=>nW j hj (by rcases hh with rfl | rfl | rfl <;> simp [bw]);try refine go ?_
 refine ai ⟨rfl,s1.n,sp,ro,by omega,by omega,by omega,q4.get b4.ok St.aN (nw _ (by omega)),q4.get b4.ok (b4.get ok3 i3 (by omega)) (nw _ (by omega)),q4.get b4.ok (b4.get ok3 i4 (by omega)) (nw _ (by omega)),
  ⟨q4.get b4.ok FB.go (by omega),q4.get b4.ok FB.gp (by omega),q4.get b4.ok FB.gm (by omega),q3,FB.nd⟩, ?_⟩
 refine (((PF.trans (b2.mono fun _ h=>h.elim)).trans (b3.mono fun _ h=>h.elim)).trans' b4 fun o h1 h2=>by exfalso; omega).trans' q4 ?_;rintro j (rfl | rfl | rfl) _ <;> simp [bw]
end
inductive zM (Vs:List gX)(most:Nat):List (Int×Nat×Int)->List eS->Prop
 | nil:zM Vs most [] []
 | snoc {l:List (Int×Nat×Int)} {E:List eS} (h:Int) (r:Nat) (v:Int) (hp:zM Vs most l E):zM Vs most (l++ [(h,r,v)]) (zZ Vs most E h r v)
theorem Mm {Vs:List gX}{most:Nat}{E:List eS}{h:Int}{r:Nat}{v:Int}:(zZ Vs most E h r v).length<=E.length+1:=by
 unfold zZ;split
 ·split
  ·rw [gE]; omega
  ·omega
 ·split
  ·rw [aB,aW]; omega
  ·omega
theorem zM.len {Vs:List gX}{most:Nat}{l:List (Int×Nat×Int)}{E:List eS}(h:zM Vs most l E):E.length<=l.length:=by
 induction h with
 | nil=>exact an _
 | snoc h r v hp ih=>rw [aB,aW]; have:= @Mm; exact cU this (by omega)
noncomputable def CG (tms:List Tm)(Vs:List gX)(R:List Nat)(k:Nat):Int:=match tms[k]?,Vs[R.getD k 0]? with
 | some t,some w=>Kt t w
 | _,_=>0
noncomputable def ua (tms:List Tm)(Vs:List gX)(t:Tm)(R:List Nat)(j:Nat):List (Int×Nat×Int):=(List.range j).map fun i=>(CG tms Vs R ((eU t).getD i 0).toNat,R.getD ((eU t).getD i 0).toNat 0,if t.kd=7 then ((R.getD (t.kids.getD (2 * i+1) 0).toNat 0:Nat):Int) else 0)
theorem Ga (tms:List Tm)(Vs:List gX)(t:Tm)(R:List Nat)(j:Nat):ua tms Vs t R (j+1)=ua tms Vs t R j++ [(CG tms Vs R ((eU t).getD j 0).toNat,R.getD ((eU t).getD j 0).toNat 0,if t.kd=7 then ((R.getD (t.kids.getD (2 * j+1) 0).toNat 0:Nat):Int) else 0)]:=by
 simp only [ua,nP,jc,bG,ed]
structure lg (tms:List Tm)(i:Nat)(t:Tm):Prop where
 kids:∀k∈t.kids,0<=k/\k < (if t.kd=6 then tms.length else i:Nat)
 keys:∀k∈eU t,∃u,tms[k.toNat]? =some u/\Dc u
 even:t.kd=7->t.kids.length % 2=0
 kind:(1<=t.kd/\t.kd<=9)\/(14<=t.kd/\t.kd<=17)
 none:(t.kd<=4\/t.kd=14)->t.kids=[]
 view:15<=t.kd->t.kids.length=1
def Mk (tms:List Tm)(R:List Nat)(Vs:List gX):Prop:=∀(k r:Nat) (t:Tm),R[k]? =some r->tms[k]? =some t->∃w,Vs[r]? =some w/\Ha t w
theorem wk:∀ {L:List Int} {k:Int},k∈iW L->k∈L
 | [],k,h=>by simp [iW]at h
 | [a],k,h=>by simpa [iW] using h
 | a::b::r,k,h=>by
  simp only [iW,bS]at h ⊢;rcases h with h | h
  ·exact .inl h
  ·exact .inr (.inr (wk h))
theorem zj {t:Tm}{k:Int}(h:k∈eU t):k∈t.kids:=by
 unfold eU at h;split at h
 ·exact h
 ·split at h
  ·exact wk h
  ·simp at h
structure qD (P Sh:Nat)(s:St)(so o la ta pl mp:Nat)(Ds:List D)(n lv tk po dv:Nat)(Vs:List gX)(tms:List Tm)(t:Tm)(R:List Nat)(xk:D)(j:Nat) (s' :St):Prop where
 ok:s'.Ok
 bh:aC (bw so o la ta pl) s s'
 st:bE s' so o la ta pl mp P Sh (Ds++ [.ig 152 (.ptr po 0)]) (n+1) (lv+1) (tk+1)
 gp:s'.get po=some (.var 217 (.agg [.int .i64 (n+1:Nat),.ptr dv 0,.int .i64 t.kd]))
 pn:s.n<=po/\po < s'.n
 ks:oM s' xk (eU t)
 kn:∀o a l c,xk= .sl o a l c->s.n<=o/\o≠po
 di:∃W E,fC W s' dv P E/\(∀o,W o->s.n<=o/\o < s'.n/\o≠po/\∀q a l c,xk= .sl q a l c->o≠q)/\pT Ds.length E/\zM Vs P (ua tms Vs t R j) E
section
variable {T:Nat->Option dS}{H:au}{s:St}{so o la ta pl mp P Sh n lv tk bo i:Nat}{Ds:List D}{Vs:List gX}{F:Nat->Nat->Prop}{tms:List Tm}{t:Tm}{R:List Nat}{x:D}
theorem qD.put (hS:TS T)(hT:TT T)(hP:TP T)(hW:TW T)(hV:TV T)(hs:s.Ok)(hp:P<=65536)(dT:bE s so o la ta pl mp P Sh Ds n lv tk)(MZ:eW P s F Ds Vs)(hF:∀i j,F i j-> ¬ bw so o la ta pl j)(hb:lT s bo so tms x)(hR:Refs s x R)(hRi:R.length=i)
  (Kj:Mk tms R Vs)(vy:tms[i]? =some t)(fK:∀u∈tms,u.Ok)(hg:lg tms i t)(h6:t.kd≠6)(Q2: ¬ bw so o la ta pl bo)(hx:∀q a l c,x= .sl q a l c-> ¬ bw so o la ta pl q)
  {po dv:Nat}{xk:D}{j:Nat} {s' :St}(hI:qD P Sh s so o la ta pl mp Ds n lv tk po dv Vs tms t R xk j s'){k:Int}(hk:(eU t)[j]? =some k){v:Int}(hv:v=if t.kd=7 then ((R.getD (t.kids.getD (2 * j+1) 0).toNat 0:Nat):Int) else 0):
  ∃q r,k=(q:Nat)/\R[q]? =some r/\cu T H 79 [.ptr bo 0,.ptr po 0,.int .i64 k,.int .i64 v] s' fun _ s1=>qD P Sh s so o la ta pl mp Ds n lv tk po dv Vs tms t R xk (j+1) s1:=by
 obtain⟨ok',bh,st,gp,⟨po1,po2⟩,ks,kn,W,E,d1,d2,d3,d4⟩:=hI;have hkm:=aK hk;have hEl:E.length < 20000:=by
  have h1:=d4.len;simp only [ua,aH,pR]at h1;have h2:=(af.mp hk).1;have h3:=qA t;have h4:=(fK t (aK vy)).kids;omega
 obtain⟨k0,k1⟩:=hg.kids k (zj hkm);rw [aJ h6]at k1;obtain⟨q,rfl⟩:∃q:Nat,k=q:=⟨k.toNat,by omega⟩;have hq:q < R.length:=by omega
 obtain⟨u,hu,hku⟩:=hg.keys _ hkm;simp only [cQ]at hu;have hr:R[q]? =some R[q]:=ae hq;obtain⟨w,YY,Pu⟩:=Kj q R[q] u hr hu;have vk:R[q] < Ds.length:=by
  have:=(af.mp YY).1;rw [MZ.ln]; exact this
 refine⟨q,R[q],rfl,hr, ?_⟩;have jm :lT s' bo so tms x:=⟨bh.get hs hb.go Q2⟩;have hR' :Refs s' x R:=hR.dU hs bh hx;have dQ:=fun j (hj:bw so o la ta pl j\/j=mp)=>dT.lt hs hj;have lbo:=hs.lt hb.go
 have ZR:Dj P s' Ds.length (Ds++ [.ig 152 (.ptr po 0)]) Vs W:=fun i hi=>by
  have Fv:i < Vs.length:=by rw [← MZ.ln]; exact hi
  refine⟨Ds[i],Vs[i],F i,by rw [aO hi,ae hi],ae Fv,(MZ.at' i _ _ (ae hi) (ae Fv)).dU hs bh (fun j _ hj=>hF i j hj),fun j hj hw=> ?_⟩;have:=(MZ.lt i j hj).1;have:=(d2 j hw).1;omega
 have uM:=VX (H:=H) (v:=v) hS hT hP hW hV ok' st jm hR' hu (fK u (aK hu)) hr ZR vk d3 (fun w' hw' =>by rw [YY]at hw'; simp only [aa]at hw'; subst hw'; exact Pu) hku gp d1 hEl (fun j hj=>(d2 j hj).2.1)
  (fun j hj hw=>by have:=dQ j hj; have:=(d2 j hw).1; omega) (fun hw=>by have:=(d2 bo hw).1; omega) (fun q a l c e hw=>by
   subst e;rcases hR with _ | ⟨hg,_⟩;have:=hs.lt hg; have:=(d2 q hw).1; omega)
 obtain⟨d,s1,e1,⟨w2,hw3,Ma⟩,e2⟩:=uM;rw [YY]at hw3; cases hw3;refine⟨d,s1,e1,e2.ok, ?_, ?_, ?_,⟨po1,by have:=e2.n; omega⟩, ?_,kn, ?_⟩
 ·exact bh.trans' e2 fun o h1 h2=>by have:=(d2 o h1).1; omega
 ·exact st.dU ok' e2 fun j hj hw=>by have:=dQ j hj; have:=(d2 j hw).1; omega
 ·exact e2.get ok' gp fun hw=>(d2 po hw).2.2.1 rfl
 ·exact ks.dU ok' e2 fun q a l c e hw=>(d2 q hw).2.2.2 q a l c e rfl
 ·refine⟨_,_,Ma,fun o ho=> ?_,d3.put vk, ?_⟩
  ·have:=e2.n;rcases ho with ho | ⟨VF,ho2⟩
   ·obtain⟨a1,a2,a3,a4⟩:=d2 o ho;exact⟨a1,by omega,a3,a4⟩
   ·have:=bh.n;refine⟨by omega,ho2,by omega,fun q a l c e=> ?_⟩;subst e;rcases ks with _ | _ | ⟨_,_,hg⟩;have:=ok'.lt hg;omega
  ·rw [Ga];have e3:(R.getD ((eU t).getD j 0).toNat 0)=R[q]:=by
    simp only [dJ,hk,eQ,cQ,hr]
   have e4:CG tms Vs R ((eU t).getD j 0).toNat=Kt u w:=by
    have e5:((eU t).getD j 0).toNat=q:=by simp only [dJ,hk,eQ,cQ]
    rw [e5]at e3 ⊢;simp only [CG,hu,e3,YY]
   rw [e4,e3,← hv];exact .snoc _ _ _ d4
end
theorem oM.get {s:St}{o l c:Nat}{L:List Int}(h:oM s (.sl o 0 l c) L):s.get o=some (.arr 1 3 (ints L) 0):=by
 generalize hx:D.sl o 0 l c=x at h;cases h with
 | vs nl L hn=>cases hx
 | nil=>cases hx
 | sl o' L h=>
  simp only [D.sl.injEq]at hx;obtain⟨rfl,_⟩:=hx;exact h
section
variable {T:Nat->Option dS}{H:au}{s:St}{so o la ta pl mp P Sh n lv tk bo i:Nat}{Ds:List D}{Vs:List gX}{F:Nat->Nat->Prop}{tms:List Tm}{t:Tm}{R:List Nat}{x:D}
theorem JB (hS:TS T)(hT:TT T)(hP:TP T)(hW:TW T)(hV:TV T)(hs:s.Ok)(hp:P<=65536)(dT:bE s so o la ta pl mp P Sh Ds n lv tk)(hn:n < 2147483648)(hl:lv < 2147483648)(ht:tk < 2147483648)(hD:Ds.length+1<=aL)
  (MZ:eW P s F Ds Vs)(hF:∀i j,F i j-> ¬ bw so o la ta pl j)(hb:lT s bo so tms x)(hR:Refs s x R)(hRi:R.length=i)(Kj:Mk tms R Vs)(vy:tms[i]? =some t)(fK:∀u∈tms,u.Ok)(hg:lg tms i t)(h7:t.kd=7\/t.kd=8\/t.kd=9)(Q2: ¬ bw so o la ta pl bo)(hx:∀q a l c,x= .sl q a l c-> ¬ bw so o la ta pl q):
  cu T H 38 [.ptr bo 0,t.d] s fun d s1=>d= .int .i64 Ds.length/\∃dt E,bE s1 so o la ta pl mp P Sh (Ds++ [dt]) (n+1) (lv+1) (tk+1)/\fH P (fun j=>s.n<=j/\j < s1.n) s1 dt (.tG (n+1) t.kd.toNat E)/\pT Ds.length E/\zM Vs P (ua tms Vs t R (eU t).length) E/\aC (bw so o la ta pl) s s1:=by
 have gb:=hb.go;have lb:=hs.lt gb;have Q8:((t.kd.toNat:Nat):Int)=t.kd:=by omega
 have htb:=Nv (H:=H) (kd:=t.kd.toNat) hS hT hP hs dT hn hl ht hD (by omega);have pw:=fK t (aK vy);have j6:=pw.kids;have Xd:=fun (s' :St) (h' :s'.Ok)=>Ce (H:=H) (t:=t) hS h' pw;have dQ:=fun j (hj:bw so o la ta pl j\/j=mp)=>dT.lt hs hj;have L5:=hg.even;have jh:=hg.kids;rw [Q8]at htb;have uM:=fun (po dv:Nat) (xk:D) (j:Nat) (s' :St) hI (k:Int) hk (v:Int) hv=>qD.put (H:=H) hS hT hP hW hV hs hp dT MZ hF hb hR hRi Kj vy fK hg (by omega) Q2 hx (po:=po) (dv:=dv) (xk:=xk) (j:=j) (s' :=s') hI (k:=k) hk (v:=v) hv;have hTI:∀ {po dv:Nat} {xk:D} {j:Nat} {s' :St},qD P Sh s so o la ta pl mp Ds n lv tk po dv Vs tms t R xk j s' ->s'.get bo=some (.var 97 (.agg [.ptr so 0,.vs false 8 (tms.map Tm.d),x]))/\Refs s' x R:=fun hI=>⟨hI.bh.get hs gb Q2,hR.dU hs hI.bh hx⟩;have fin:∀ {po dv:Nat} {xk:D} {s' :St},qD P Sh s so o la ta pl mp Ds n lv tk po dv Vs tms t R xk (eU t).length s' ->∃dt E,bE s' so o la ta pl mp P Sh (Ds++ [dt]) (n+1) (lv+1) (tk+1)/\fH P (fun j=>s.n<=j/\j < s'.n) s' dt (.tG (n+1) t.kd.toNat E)/\pT Ds.length E/\zM Vs P (ua tms Vs t R (eU t).length) E/\aC (bw so o la ta pl) s s' :=by
  rintro po dv xk s' ⟨ok',bh,st,gp,⟨po1,po2⟩,ks,kn,W,E,d1,d2,d3,d4⟩;refine⟨_,E,st,⟨po,dv,rfl,by rw [Q8]; exact gp,d1.mono fun j hj=>⟨(d2 j hj).1,(d2 j hj).2.1⟩,po1,po2⟩,d3,d4,bh⟩
 obtain⟨kd,b,ng,n1,mag,tx,n2,kids,gY,sm⟩:=t;refine ay hS.t38 ?_;try refine go ?_
 refine bf htb ?_;rintro d s1 ⟨rfl,po,dv,p1,p2,p3,p4,p5,p6,p7⟩;refine⟨rfl,by rfl, ?_⟩;have ok1:=p7.ok;have Gt:=p7.get hs gb Q2;try refine go ?_
 refine ak (eh hS p6 (i:=Ds.length) (by rw [aT (an _),eF]; rfl)) ?_;rintro d s1 ⟨rfl,rfl⟩;try refine go ?_
 refine ak (Xd _ ok1) ?_;rintro xk s2 ⟨q1,q2,q3⟩;have EE:qD P Sh s so o la ta pl mp Ds n lv tk po dv Vs tms ⟨kd,b,ng,n1,mag,tx,n2,kids,gY,sm⟩ R xk 0 s2:=by
  refine⟨q3.ok,p7.trans (q3.mono fun _ h=>h.elim),p6.nil ok1 q3,q3.get ok1 p3 (fun h=>h),⟨p1,by have:=q3.n; omega⟩,q1,fun o a l c e=>by have:=q2 o a l c e; have:=p7.n; omega,_,[],p5.dU ok1 q3 (fun _ _ _ h=>h),fun o ho=> ?_,fun m e hm=>by simp at hm,.nil⟩;have:=q3.n;exact⟨ho.1,by omega,ho.2.2,fun q a l c e=>by have:=q2 q a l c e; omega⟩
 have DA:=qA ⟨kd,b,ng,n1,mag,tx,n2,kids,gY,sm⟩;have jg:=fw (eU ⟨kd,b,ng,n1,mag,tx,n2,kids,gY,sm⟩);have YT:=fw kids;generalize hK:eU ⟨kd,b,ng,n1,mag,tx,n2,kids,gY,sm⟩=K at *;rcases q1 with ⟨nl,K,FE⟩ | _ | ⟨ko,K,rP⟩
 ·try refine go ?_
  refine eT K.length (fun j=> [(0,.ptr bo 0),(3,.lv (Tm.d ⟨kd,b,ng,n1,mag,tx,n2,kids,gY,sm⟩)),(5,.int .i64 (Ds.length:Nat)),(6,.ptr po 0),(32,.vs nl 1 (ints K)),(33,.int .i64 ((ints K).length:Nat)),(34,.int .i64 (j:Nat))]) (fun j s' =>qD P Sh s so o la ta pl mp Ds n lv tk po dv Vs tms ⟨kd,b,ng,n1,mag,tx,n2,kids,gY,sm⟩ R (.vs nl 1 (ints K)) j s') EE ?_;intro j s3 hj hI;obtain⟨ZW,hR3⟩:=hTI hI;rcases aG j K.length with mO | qc
  ·have hk:K[j]? =some K[j]:=ae mO;have Co:(ints K)[j]? =some (.int .i64 K[j]):=ints_at hk;have abS:(ints K)[0+j]? =some (.int .i64 K[j]):=by rw [aM]; exact Co
   by_cases h70:kd=7
   ·subst h70;have e7:K=iW kids:=by rw [← hK]; simp [eU]
    have el:=qt kids;have QT:=L5 rfl;simp only at QT;have h2:2 * j+1 < kids.length:=by rw [e7]at mO; omega
    have zL:kids[2 * j+1]? =some kids[2 * j+1]:=ae h2;have W5:(ints kids)[2 * j+1]? =some (.int .i64 kids[2 * j+1]):=ints_at zL;obtain⟨k0,k1⟩:=jh kids[2 * j+1] (bH h2);rw [aJ (by simp)]at k1;obtain⟨q2,Ar⟩:∃q2:Nat,kids[2 * j+1]=q2:=⟨kids[2 * j+1].toNat,by omega⟩;have Y3:R[q2]? =some (R[q2]'(by omega)):=ae (by omega);rw [Ar]at W5;obtain⟨ra,Qg,gra,gar,gl⟩:=hR3.at' Y3;have vk:=ir R;have EF:=uM po dv (.vs nl 1 (ints K)) j s3 hI K[j] hk (R[q2]'(by omega):Nat) (by simp only [ep,dJ,zL,eQ,Ar,cQ,Y3]);obtain⟨q,r,hkq,hrq,EF⟩:=EF;have w1:IntKind.wrap .i64 (2 * (j:Int))=((2 * j:Nat):Int):=by simp only at j6; rw [wrap_small (by omega) (by omega)]; omega
    have w2:IntKind.wrap .i64 (((2 * j:Nat):Int)+1)=((2 * j+1:Nat):Int):=by simp only at j6; rw [wrap_small (by omega) (by omega)]; omega
    rw [Qg]at ZW;try refine go ?_
    simp only [w1,w2];try refine go ?_
    refine ak EF ?_;intro d s4 W7;try refine go ?_
    exact dO mO W7
   ·have EF:=uM po dv (.vs nl 1 (ints K)) j s3 hI K[j] hk 0 (by simp only [aJ h70]);obtain⟨q,r,hkq,hrq,EF⟩:=EF;try refine go ?_
    refine ak EF ?_;intro d s4 W7;try refine go ?_
    exact dO mO W7
  ·obtain rfl:j=K.length:=by omega
   try refine go ?_
   exact ai ⟨rfl,fin hI⟩
 ·try refine go ?_
  refine lQ ?_;try refine go ?_
  exact ai ⟨rfl,fin EE⟩
 ·try refine go ?_
  refine eT K.length (fun j=> [(0,.ptr bo 0),(3,.lv (Tm.d ⟨kd,b,ng,n1,mag,tx,n2,kids,gY,sm⟩)),(5,.int .i64 (Ds.length:Nat)),(6,.ptr po 0),(32,.sl ko 0 K.length K.length),(33,.int .i64 (K.length:Nat)),(34,.int .i64 (j:Nat))]) (fun j s' =>qD P Sh s so o la ta pl mp Ds n lv tk po dv Vs tms ⟨kd,b,ng,n1,mag,tx,n2,kids,gY,sm⟩ R (.sl ko 0 K.length K.length) j s') EE ?_;intro j s3 hj hI;obtain⟨ZW,hR3⟩:=hTI hI;rcases aG j K.length with mO | qc
  ·have hk:K[j]? =some K[j]:=ae mO;have Co:(ints K)[j]? =some (.int .i64 K[j]):=ints_at hk;have abS:(ints K)[0+j]? =some (.int .i64 K[j]):=by rw [aM]; exact Co
   have acV:s3.get ko=some (.arr 1 3 (ints K) 0):=by
    have:=hI.ks;rw [hK]at this;exact this.get
   by_cases h70:kd=7
   ·subst h70;have e7:K=iW kids:=by rw [← hK]; simp [eU]
    have el:=qt kids;have QT:=L5 rfl;simp only at QT;have h2:2 * j+1 < kids.length:=by rw [e7]at mO; omega
    have zL:kids[2 * j+1]? =some kids[2 * j+1]:=ae h2;have W5:(ints kids)[2 * j+1]? =some (.int .i64 kids[2 * j+1]):=ints_at zL;obtain⟨k0,k1⟩:=jh kids[2 * j+1] (bH h2);rw [aJ (by simp)]at k1;obtain⟨q2,Ar⟩:∃q2:Nat,kids[2 * j+1]=q2:=⟨kids[2 * j+1].toNat,by omega⟩;have Y3:R[q2]? =some (R[q2]'(by omega)):=ae (by omega);rw [Ar]at W5;obtain⟨ra,Qg,gra,gar,gl⟩:=hR3.at' Y3;have vk:=ir R;have EF:=uM po dv (.sl ko 0 K.length K.length) j s3 hI K[j] hk (R[q2]'(by omega):Nat) (by simp only [ep,dJ,zL,eQ,Ar,cQ,Y3]);obtain⟨q,r,hkq,hrq,EF⟩:=EF;have w1:IntKind.wrap .i64 (2 * (j:Int))=((2 * j:Nat):Int):=by simp only at j6; rw [wrap_small (by omega) (by omega)]; omega
    have w2:IntKind.wrap .i64 (((2 * j:Nat):Int)+1)=((2 * j+1:Nat):Int):=by simp only at j6; rw [wrap_small (by omega) (by omega)]; omega
    rw [Qg]at ZW;try refine go ?_
    simp only [w1,w2];try refine go ?_
    refine ak EF ?_;intro d s4 W7;try refine go ?_
    exact dO mO W7
   ·have EF:=uM po dv (.sl ko 0 K.length K.length) j s3 hI K[j] hk 0 (by simp only [aJ h70]);obtain⟨q,r,hkq,hrq,EF⟩:=EF;try refine go ?_
    refine ak EF ?_;intro d s4 W7;try refine go ?_
    exact dO mO W7
  ·obtain rfl:j=K.length:=by omega
   try refine go ?_
   exact ai ⟨rfl,fin hI⟩
end
inductive iM (P:Nat)(tms:List Tm)(Vs:List gX)(R:List Nat)(t:Tm)(n:Nat):List gX->Nat->Nat->Prop
 | none (h:t.kd=1):iM P tms Vs R t n [] 0 n
 | bool (h:t.kd=2):iM P tms Vs R t n [] (if t.b then 2 else 1) n
 | int (h:t.kd=3):iM P tms Vs R t n [.int (dZ t.ng t.mag)] Vs.length n
 | str (h:t.kd=4):iM P tms Vs R t n [.str t.tx] Vs.length n
 | row (h:t.kd=5\/t.kd=6):iM P tms Vs R t n [.row (n+1) t.kd.toNat (List.replicate t.kids.length 0)] Vs.length (n+1)
 | tG (h:t.kd=7\/t.kd=8\/t.kd=9) (E:List eS) (hk:pT Vs.length E) (hp:zM Vs P (ua tms Vs t R (eU t).length) E):iM P tms Vs R t n [.tG (n+1) t.kd.toNat E] Vs.length (n+1)
 | inst (h:t.kd=14):iM P tms Vs R t n [.cls (n+1) t.hs t.sm,.inst (n+2) Vs.length] (Vs.length+1) (n+2)
 | view (h:t.kd=15\/t.kd=16\/t.kd=17) (k:Int) (hk:t.kids=[k]) (r:Nat) (hr:R[k.toNat]? =some r):iM P tms Vs R t n [.view (n+1) t.kd.toNat r] Vs.length (n+1)
structure mb (P Sh:Nat)(s:St)(so o la ta pl mp n lv tk bo:Nat)(Ds:List D)(Vs:List gX)(F:Nat->Nat->Prop)(tms:List Tm)(R:List Nat)(x:D):Prop where
 ok:s.Ok
 pb:P<=65536
 sb:Sh<=256
 st:bE s so o la ta pl mp P Sh Ds n lv tk
 nb:n < 1000000000
 lb:lv < 1000000000
 tb:tk < 1000000000
 ds:Ds.length < 1000000000
 vs:eW P s F Ds Vs
 hF:∀i j,F i j-> ¬ bw so o la ta pl j/\j≠bo/\∀q a l c,x= .sl q a l c->j≠q
 bl:lT s bo so tms x
 rf:Refs s x R
 md:Mk tms R Vs
 b0: ¬ bw so o la ta pl bo/\bo≠mp
 x0:∀q a l c,x= .sl q a l c-> ¬ bw so o la ta pl q/\q≠mp/\q≠bo
 tm:∀u∈tms,u.Ok
def jW (P Sh:Nat)(s:St)(so o la ta pl mp n lv tk:Nat)(Ds:List D)(Vs:List gX)(F:Nat->Nat->Prop)(tms:List Tm)(t:Tm)(R:List Nat)(d:D)(s1:St):Prop:=
 ∃Dn Vn r n' tk' F',iM P tms Vs R t n Vn r n' /\d= .int .i64 (r:Nat)/\bE s1 so o la ta pl mp P Sh (Ds++Dn) n' (lv+(n' - n)) tk' /\tk' <=tk+2/\eW P s1 F' (Ds++Dn) (Vs++Vn)/\(∀i j,F' i j->F i j\/s.n<=j\/E5 s1 j)/\aC (bw so o la ta pl) s s1
section
variable {P Sh:Nat}{s s1:St}{so o la ta pl mp n lv tk bo:Nat}{Ds:List D}{Vs:List gX}{F:Nat->Nat->Prop}{tms:List Tm}{t:Tm}{R:List Nat}{x d:D}
theorem jW.zero (h:mb P Sh s so o la ta pl mp n lv tk bo Ds Vs F tms R x){r:Nat}(hm:iM P tms Vs R t n [] r n):jW P Sh s so o la ta pl mp n lv tk Ds Vs F tms t R (.int .i64 (r:Nat)) s:=by
 refine⟨[],[],r,n,tk,F,hm,rfl, ?_,by omega, ?_,fun i j h=> .inl h,aC.refl h.ok⟩
 ·rw [dY,eF]; exact h.st
 ·rw [dY,dY]; exact h.vs
theorem jW.one (h:mb P Sh s so o la ta pl mp n lv tk bo Ds Vs F tms R x){v:gX}{dv:D} {n' tk' :Nat}{G:Nat->Prop}(hm:iM P tms Vs R t n [v] Vs.length n')(dT:bE s1 so o la ta pl mp P Sh (Ds++ [dv]) n' (lv+(n' - n)) tk')(ht:tk' <=tk+2)(hv:fH P G s1 dv v)(hG:∀o,G o->(s.n<=o/\o < s1.n)\/E5 s1 o)(hb:aC (bw so o la ta pl) s s1):
  jW P Sh s so o la ta pl mp n lv tk Ds Vs F tms t R (.int .i64 (Ds.length:Nat)) s1:=by
 have MZ:=h.vs.snoc h.ok hb (fun i j hj=>(h.hF i j hj).1) hv hG;refine⟨[dv],[v],Vs.length,n',tk',_,hm,by rw [h.vs.ln],dT,ht,MZ,fun i j hj=> ?_,hb⟩;simp only [more]at hj;split at hj
 ·rcases hG j hj with h1 | h1
  ·exact .inr (.inl h1.1)
  ·exact .inr (.inr h1)
 ·exact .inl hj
end
section
variable {T:Nat->Option dS}{H:au}{P Sh:Nat}{s:St}{so o la ta pl mp n lv tk bo:Nat}{Ds:List D}{Vs:List gX}{F:Nat->Nat->Prop}{tms:List Tm}{t:Tm}{R:List Nat}{x:D}
theorem Rm (hS:TS T)(h:mb P Sh s so o la ta pl mp n lv tk bo Ds Vs F tms R x)(h1:t.kd=1):cu T H 21 [.ptr bo 0,t.d] s (jW P Sh s so o la ta pl mp n lv tk Ds Vs F tms t R):=by
 have hr:=jW.zero h (iM.none h1);obtain⟨kd,b,ng,n1,mag,tx,n2,kids,gY,sm⟩:=t;simp only at h1; subst h1;refine ay hS.t21 ?_;try refine go ?_
 exact ai hr
theorem Qm (hS:TS T)(h:mb P Sh s so o la ta pl mp n lv tk bo Ds Vs F tms R x)(h1:t.kd=2):cu T H 21 [.ptr bo 0,t.d] s (jW P Sh s so o la ta pl mp n lv tk Ds Vs F tms t R):=by
 have hr:=jW.zero h (iM.bool h1);obtain⟨kd,b,ng,n1,mag,tx,n2,kids,gY,sm⟩:=t;simp only at h1; subst h1;refine ay hS.t21 ?_;cases b
 ·repeat' first | refine go ?_ | refine gP hS.t33 ?_
  exact ai hr
 ·repeat' first | refine go ?_ | refine gP hS.t33 ?_
  exact ai hr
theorem XI (hS:TS T)(h:mb P Sh s so o la ta pl mp n lv tk bo Ds Vs F tms R x)(ho:t.Ok)(h1:t.kd=4):cu T H 21 [.ptr bo 0,t.d] s (jW P Sh s so o la ta pl mp n lv tk Ds Vs F tms t R):=by
 have pL:=h.ds; have zP:=h.tb; have hs:=h.ok;have dT:=Wm (H:=H) (x:=t.tx) hS h.ok h.st (by omega) (by simp only [aL]; omega);have BZ:=ho.tx;have hm:iM P tms Vs R t n [.str t.tx] Vs.length n:=iM.str h1;have gb:=h.bl.go
 have key:∀ {s1:St},bE s1 so o la ta pl mp P Sh (Ds++ [.ig 110 (.agg [.str t.tx])]) n lv (tk+1)->aC (bw so o la ta pl) s s1->jW P Sh s so o la ta pl mp n lv tk Ds Vs F tms t R (.int .i64 (Ds.length:Nat)) s1:=fun q1 q2=>
  jW.one h (G:=fun _=>False) hm (by rw [eF]; exact q1) (by omega) ⟨rfl,by omega⟩ (fun _ h=>h.elim) q2
 obtain⟨kd,b,ng,n1,mag,tx,n2,kids,gY,sm⟩:=t;simp only at h1; subst h1;refine ay hS.t21 ?_;try refine go ?_
 refine bf dT ?_;rintro d s1 ⟨rfl,q1,q2⟩;refine⟨rfl,by rfl, ?_⟩;try refine go ?_
 exact ai (key q1 q2)
theorem VH (hS:TS T)(hW:TW T)(h:mb P Sh s so o la ta pl mp n lv tk bo Ds Vs F tms R x)(ho:t.Ok)(h1:t.kd=3):cu T H 21 [.ptr bo 0,t.d] s (jW P Sh s so o la ta pl mp n lv tk Ds Vs F tms t R):=by
 have pL:=h.ds; have zP:=h.tb; have hs:=h.ok;have abk:=ho.mag;have RF:=l7 t.ng t.mag;have acs:(dZ t.ng t.mag).2.length<=100000000:=by omega
 have hf:=EG (H:=H) (n:=(t.ng,t.mag)) hW h.ok ⟨_,rfl,.vs t.n1 t.mag ho.n1⟩ (by simp only [aL]; omega);have hm:iM P tms Vs R t n [.int (dZ t.ng t.mag)] Vs.length n:=iM.int h1;have gb:=h.bl.go;obtain⟨kd,b,ng,n1,mag,tx,n2,kids,gY,sm⟩:=t;simp only at h1 hf; subst h1;refine ay hS.t21 ?_;try refine go ?_
 refine bf hf ?_;rintro d s1 ⟨⟨y,rfl,hy⟩,b1⟩;have Gt:=b1.get h.ok gb (fun h=>h);have ok1:=b1.ok;refine⟨rfl,by simp [lost,eN.kind,cJ,dE,cE,aI,bz,bz.cV,fZ,bP.ev,Env.get,cP,D.flat,D.isAgg,cL,D.fv,D.beq,az,Obj.aV,bC,bu,D.bV,D.aV,gb,Gt], ?_⟩;have mr:=VW (H:=H) (m:=dZ ng mag) hS b1.ok (h.st.nil h.ok b1) (by omega) (by simp only [aL]; omega) hy
 have key:∀ {s2:St},bE s2 so o la ta pl mp P Sh (Ds++ [.ig 180 (.agg [.bool (dZ ng mag).1,y])]) n lv (tk+1)->aC (bw so o la ta pl) s1 s2->jW P Sh s so o la ta pl mp n lv tk Ds Vs F tms ⟨3,b,ng,n1,mag,tx,n2,kids,gY,sm⟩ R (.int .i64 (Ds.length:Nat)) s2:=fun {s2} q1 q2=>by
  have hnW:∀o' a l c,y= .sl o' a l c-> ¬ bw so o la ta pl o' :=fun q a l c e hh=>by
   subst e;rcases hy with _ | _ | ⟨_,_,_,_,hg,_⟩;have mu:=h.st.nil h.ok b1;rcases hh with e | e | e | e | e <;> rw [e]at hg
   ·rw [mu.go]at hg; cases hg
   ·rw [mu.sl.go]at hg; cases hg
   ·rw [mu.sl.gl]at hg; simp at hg
   ·rw [mu.sl.gt]at hg; simp at hg
   ·rw [mu.gp]at hg; cases hg
  have yo:=hy.Xk b1.ok q2 hnW;refine jW.one h (G:=E5 s2) hm (by rw [eF]; exact q1) (by omega) ⟨y,rfl,yo,fun q a l c e=> ?_,acs⟩ (fun _ h=> .inr h) ((b1.mono fun _ h=>h.elim).trans q2);subst e;rcases yo with _ | _ | ⟨_,_,_,_,hg,_⟩;exact⟨_,_,hg⟩
 rcases hy.sh with ⟨nl,z,l,rfl⟩ | ⟨o',l,c,rfl⟩
 all_goals
  try refine go ?_
  refine bf mr ?_;rintro d s2 ⟨rfl,q1,q2⟩;refine⟨rfl,by rfl, ?_⟩;try refine go ?_
  exact ai (key q1 q2)
end
section
variable {T:Nat->Option dS}{H:au}{P Sh:Nat}{s:St}{so o la ta pl mp n lv tk bo i:Nat}{Ds:List D}{Vs:List gX}{F:Nat->Nat->Prop}{tms:List Tm}{t:Tm}{R:List Nat}{x:D}
theorem Xf (hS:TS T)(h:mb P Sh s so o la ta pl mp n lv tk bo Ds Vs F tms R x)(ho:t.Ok)(h1:t.kd=5\/t.kd=6):cu T H 21 [.ptr bo 0,t.d] s (jW P Sh s so o la ta pl mp n lv tk Ds Vs F tms t R):=by
 have pL:=h.ds; have zP:=h.tb; have PA:=h.nb; have tV:=h.lb;have j6:=ho.kids;have hs:=h.ok;have hm:iM P tms Vs R t n [.row (n+1) t.kd.toNat (List.replicate t.kids.length 0)] Vs.length (n+1):=iM.row h1;have Q8:((t.kd.toNat:Nat):Int)=t.kd:=by omega
 have gb:=h.bl.go;have lb:=hs.lt gb;have dQ:=fun j (hj:bw so o la ta pl j\/j=mp)=>h.st.lt hs hj
 have key:∀ {s2:St} {ro:Nat},s.n<=ro->ro < s2.n->s2.get ro=some (.var 106 (.agg [.int .i64 (n+1:Nat),.sl (s.n+0) 0 (ints t.kids).length (ints t.kids).length,.int .i64 t.kd]))->s2.get (s.n+0)=some (.arr 1 3 (List.replicate (ints t.kids).length (.int .i64 0)) 0)->s.n+0 < s2.n->
   bE s2 so o la ta pl mp P Sh (Ds++ [.ig 100 (.ptr ro 0)]) (n+1) (lv+1) (tk+1)->aC (bw so o la ta pl) s s2->jW P Sh s so o la ta pl mp n lv tk Ds Vs F tms t R (.int .i64 (Ds.length:Nat)) s2:=fun {s2 ro} r1 r2 r3 r4 r5 q1 q2=>by
  refine jW.one h (G:=fun j=>s.n<=j/\j < s2.n) hm (by rw [show n+1 - n=1 by omega]; exact q1) (by omega) ⟨ro,s.n+0,0,rfl, ?_, ?_,aR _,⟨r1,r2⟩,by omega,r5⟩ (fun _ h=> .inl h) q2
  ·rw [Q8,iV,← fw t.kids]; exact r3
  ·rw [fw]at r4;rw [r4,ints,pt]
 obtain⟨kd,b,ng,n1,mag,tx,n2,kids,gY,sm⟩:=t;have jg:=fw kids;simp only at h1 j6 key;refine ay hS.t21 ?_;rcases h1 with rfl | rfl
 all_goals
  try refine go ?_
  refine ox (dl:= .int .i64 ((ints kids).length:Nat)) (dc:= .int .i64 ((ints kids).length:Nat)) ju ju (an _) (by omega) (by simp only [aL]; omega) ?_;try refine go ?_
  have c3:aC Nil s ((s.up 1).bD (s.n+0) (.arr 1 3 (List.replicate (ints kids).length (.int .i64 0)) 0)):=aC.set ((aC.refl hs).up 1) _ (by rw [St.jw]; omega) (fun hh=>by omega);have c1:=c3.ok;refine bf (XG hS c1 (h.st.nil hs c3) (by omega) (by omega) (by omega) (by simp only [aL]; omega)) ?_;rintro d s2 ⟨rfl,ro,r1,r2,r3,r4,r5⟩;have e1:=c3.get hs gb (fun hj=>hj);have e2:=r5.get c1 e1 h.b0.1;refine⟨rfl,by simp [lost,eN.kind,cJ,dE,cE,aI,bz,bz.cV,fZ,bP.ev,Env.get,cP,D.flat,D.isAgg,cL,D.fv,D.beq,az,Obj.aV,bC,bu,D.bV,D.aV,e1,e2], ?_⟩;try refine go ?_
  have z1:=r5.n;simp only [St.fE,St.jw]at z1 r1;have e3:=r5.get (o:=s.n+0) c1 St.aN (fun hh=>by have:=dQ (s.n+0) (.inl hh); omega);exact ai (key (by omega) r2 r3 e3 (by omega) r4 ((c3.mono fun _ h=>h.elim).trans r5))
theorem Xv (hS:TS T)(hT:TT T)(hP:TP T)(hW:TW T)(hV:TV T)(h:mb P Sh s so o la ta pl mp n lv tk bo Ds Vs F tms R x)(vy:tms[R.length]? =some t)(hg:lg tms R.length t)(h1:t.kd=7\/t.kd=8\/t.kd=9):cu T H 21 [.ptr bo 0,t.d] s (jW P Sh s so o la ta pl mp n lv tk Ds Vs F tms t R):=by
 have pL:=h.ds; have zP:=h.tb; have PA:=h.nb; have tV:=h.lb;have O4:=JB (H:=H) hS hT hP hW hV h.ok h.pb h.st (by omega) (by omega) (by omega) (by simp only [aL]; omega) h.vs (fun i j hj=>(h.hF i j hj).1) h.bl h.rf rfl h.md vy h.tm hg h1 h.b0.1 (fun q a l c e=>(h.x0 q a l c e).1);have pA:∀ {s1:St},(∃dt E,bE s1 so o la ta pl mp P Sh (Ds++ [dt]) (n+1) (lv+1) (tk+1)/\fH P (fun j=>s.n<=j/\j < s1.n) s1 dt (.tG (n+1) t.kd.toNat E)/\pT Ds.length E/\zM Vs P (ua tms Vs t R (eU t).length) E/\aC (bw so o la ta pl) s s1)->jW P Sh s so o la ta pl mp n lv tk Ds Vs F tms t R (.int .i64 (Ds.length:Nat)) s1:=by
  rintro s1 ⟨dt,E,q1,q2,q3,q4,q5⟩;exact jW.one h (iM.tG h1 E (by rw [← h.vs.ln]; exact q3) q4) (by rw [show n+1 - n=1 by omega]; exact q1) (by omega) q2 (fun _ h=> .inl h) q5
 obtain⟨kd,b,ng,n1,mag,tx,n2,kids,gY,sm⟩:=t;simp only at h1 O4 pA;refine ay hS.t21 ?_;rcases h1 with rfl | rfl | rfl
 all_goals
  try refine go ?_
  refine ak O4 ?_;rintro d s1 ⟨rfl,hq⟩;try refine go ?_
  exact ai (pA hq)
theorem Qp (hS:TS T)(h:mb P Sh s so o la ta pl mp n lv tk bo Ds Vs F tms R x)(hg:lg tms R.length t)(h1:t.kd=15\/t.kd=16\/t.kd=17):cu T H 21 [.ptr bo 0,t.d] s (jW P Sh s so o la ta pl mp n lv tk Ds Vs F tms t R):=by
 have pL:=h.ds; have zP:=h.tb; have PA:=h.nb; have tV:=h.lb;have hs:=h.ok;have gb:=h.bl.go;have qw:=hg.view (by omega);have vm:=hg.kids;have Q8:((t.kd.toNat:Nat):Int)=t.kd:=by omega
 obtain⟨k,hk⟩:∃k,t.kids=[k]:=List.length_eq_one_iff.mp qw;obtain⟨k0,k2⟩:=vm k (by rw [hk]; simp);rw [aJ (by omega)]at k2;obtain⟨q,rfl⟩:∃q:Nat,k=q:=⟨k.toNat,by omega⟩;have hq:R[q]? =some (R[q]'(by omega)):=ae (by omega);have hm:=iM.view (P:=P) (tms:=tms) (Vs:=Vs) (n:=n) h1 q hk (R[q]'(by omega)) (by rw [cQ]; exact hq);obtain⟨ra,Qg,gra,gar,gl⟩:=h.rf.at' hq;have vk:=ir R;generalize R[q]'(by omega)=r at hm gar;have hvw:=RC (H:=H) (kd:=t.kd) (v:=(r:Nat)) hS hs h.st (by omega) (by omega) (by omega) (by simp only [aL]; omega);have pA:∀ {s1:St},(∃ro,s.n<=ro/\ro < s1.n/\s1.get ro=some (.var 193 (.agg [.int .i64 (n+1:Nat),.int .i64 (r:Nat),.int .i64 t.kd]))/\bE s1 so o la ta pl mp P Sh (Ds++ [.ig 154 (.ptr ro 0)]) (n+1) (lv+1) (tk+1)/\aC (bw so o la ta pl) s s1)->jW P Sh s so o la ta pl mp n lv tk Ds Vs F tms t R (.int .i64 (Ds.length:Nat)) s1:=by
  rintro s1 ⟨ro,q1,q2,q3,q4,q5⟩;exact jW.one h (G:=fun j=>s.n<=j/\j < s1.n) hm (by rw [show n+1 - n=1 by omega]; exact q4) (by omega) ⟨ro,rfl,by rw [Q8]; exact q3,q1,q2⟩ (fun _ h=> .inl h) q5
 obtain⟨kd,b,ng,n1,mag,tx,n2,kids,gY,sm⟩:=t;simp only at h1 hvw pA hk;subst hk;rw [Qg]at gb;have Co:(ints [(q:Int)])[0]? =some (.int .i64 (q:Nat)):=rfl;refine ay hS.t21 ?_;rcases h1 with rfl | rfl | rfl
 all_goals
  try refine go ?_
  refine bf hvw ?_;rintro d s1 ⟨rfl,hq⟩;refine⟨rfl,by rfl, ?_⟩;try refine go ?_
  exact ai (pA hq)
end
section
variable {T:Nat->Option dS}{H:au}{P Sh:Nat}{s:St}{so o la ta pl mp n lv tk bo i:Nat}{Ds:List D}{Vs:List gX}{F:Nat->Nat->Prop}{tms:List Tm}{t:Tm}{R:List Nat}{x:D}
theorem Qf (hS:TS T)(hT:TT T)(hP:TP T)(h:mb P Sh s so o la ta pl mp n lv tk bo Ds Vs F tms R x)(h1:t.kd=14):cu T H 21 [.ptr bo 0,t.d] s (jW P Sh s so o la ta pl mp n lv tk Ds Vs F tms t R):=by
 have pL:=h.ds; have zP:=h.tb; have PA:=h.nb; have tV:=h.lb; have WX:=h.pb;have hs:=h.ok;have gb:=h.bl.go;have hm:iM P tms Vs R t n [.cls (n+1) t.hs t.sm,.inst (n+2) Vs.length] (Vs.length+1) (n+2):=iM.inst h1;have dQ:=fun j (hj:bw so o la ta pl j\/j=mp)=>h.st.lt hs hj;have nW:∀j,s.n<=j-> ¬ bw so o la ta pl j:=fun j hj hh=>by have:=dQ j (.inl hh); omega
 have zf:=N5 (H:=H) hS hT hP hs h.st (by omega) (by omega) (by omega) (by simp only [aL]; omega) (by omega) h.sb;obtain⟨kd,b,ng,n1,mag,tx,n2,kids,gY,sm⟩:=t;simp only at h1 hm; subst h1;refine ay hS.t21 ?_;try refine go ?_
 refine ak zf ?_;rintro d s1 ⟨rfl,po,dv,fo,ko,mo,p1,p2,p3,p4,p5,p6,p7⟩;have ok1:=p7.ok;have Gt:=p7.get hs gb h.b0.1;have lpo:=ok1.lt p4;have Rt :=p7.n;try refine go ?_
 refine ak (eh hS p6 (i:=Ds.length) (by rw [aT (an _),eF]; rfl)) ?_;rintro d s1 ⟨rfl,rfl⟩;have lb1:=ok1.lt Gt;have nbp:bo≠po:=by have:=hs.lt gb; omega
 try refine go ?_
 obtain⟨s2,GG⟩:∃s2,s2=(s1.bD po (.var 139 (.agg [.int .i64 (n+1:Nat),.ptr dv 0,.str [67],.int .i64 (-1),.ptr fo 0,.bool gY,.bool false]))).bD po (.var 139 (.agg [.int .i64 (n+1:Nat),.ptr dv 0,.str [67],.int .i64 (-1),.ptr fo 0,.bool gY,.bool sm])):=⟨_,rfl⟩;have b2:aC (fun j=>j=po) s1 s2:=by rw [GG]; exact aC.set (W:=fun j=>j=po) (aC.set (W:=fun j=>j=po) (aC.refl ok1) _ lpo (fun _=>rfl)) _ lpo (fun _=>rfl)
 have g2:s2.get po=some (.var 139 (.agg [.int .i64 (n+1:Nat),.ptr dv 0,.str [67],.int .i64 (-1),.ptr fo 0,.bool gY,.bool sm])):=by rw [GG]; exact St.aN
 show Sm.Call T H _ _ _ _ _ _ _ ((s1.bD po (.var 139 (.agg [.int .i64 (n+1:Nat),.ptr dv 0,.str [67],.int .i64 (-1),.ptr fo 0,.bool gY,.bool false]))).bD po (.var 139 (.agg [.int .i64 (n+1:Nat),.ptr dv 0,.str [67],.int .i64 (-1),.ptr fo 0,.bool gY,.bool sm]))) _;rw [← GG];have ok2:=b2.ok;have gf2:=b2.get ok1 p5 (fun e=>p3 e.symm);have tR:=p6.dU ok1 b2 fun j hj e=>by have:=dQ j hj; omega
 have mr:=Fa (H:=H) hS ok2 tR (by omega) (by omega) (by omega) (by rw [aB]; simp only [aL,aW]; omega) (c:=Ds.length) (by rw [aT (an _),eF]; rfl) g2 gf2 (nW _ p1) (nW _ p2);refine ak mr ?_;rintro d s3 ⟨rfl,io,sp,ro,i1,i2,i3,i4,i5,i6,i7,i8⟩;have b02:aC (bw so o la ta pl) s s2:=p7.trans' b2 fun j e hl=>by exfalso; omega
 have SG :=b2.n; have n3' :=i8.n;have ok3:=i8.ok;have lfo:=ok2.lt gf2;have v1:=h.vs.snoc hs b02 (fun i j hj=>(h.hF i j hj).1) (G:=fun j=>s.n<=j/\j < s2.n) (d:= .ig 134 (.ptr po 0)) (v:= .cls (n+1) gY sm) ⟨po,dv,fo,rfl,g2,⟨p1,by omega⟩,⟨p2,lfo⟩,Sh,ko,mo,gf2⟩ (fun _ h=> .inl h)
 have hF1:∀i j,more F Ds.length (fun j=>s.n<=j/\j < s2.n) i j-> ¬ bw so o la ta pl j:=fun i j hj=>by
  simp only [more]at hj;split at hj
  ·exact nW j hj.1
  ·exact (h.hF i j hj).1
 have pQ:=h.vs.ln;have i4:=pQ ▸ i4;have l4:=ok3.lt i4; have l5:=ok3.lt i5; have l6:=ok3.lt i6;have v2:=v1.snoc ok2 i8 hF1 (G:=fun j=>s2.n<=j/\j < s3.n) (d:= .ig 156 (.ptr io 0)) (v:= .inst (n+2) Vs.length) ⟨io,sp,rfl,i4,⟨i1,l4⟩,⟨i2,l5⟩,fo,ro,i5,i6,⟨i3,l6⟩⟩ (fun _ h=> .inl h);try refine go ?_
 refine ai ⟨[.ig 134 (.ptr po 0),.ig 156 (.ptr io 0)],[.cls (n+1) gY sm,.inst (n+2) Vs.length],Vs.length+1,n+2,tk+1+1,more (more F Ds.length (fun j=>s.n<=j/\j < s2.n)) (Ds++ [D.ig 134 (.ptr po 0)]).length (fun j=>s2.n<=j/\j < s3.n),hm, ?_, ?_,by omega, ?_,fun i j hj=> ?_,b02.trans i8⟩;rotate_left
 ·rw [show lv+(n+2 - n)=lv+1+1 by omega,show Ds++ [D.ig 134 (.ptr po 0),.ig 156 (.ptr io 0)]=Ds++ [D.ig 134 (.ptr po 0)]++ [.ig 156 (.ptr io 0)] by simp];exact i7
 ·rw [show Ds++ [D.ig 134 (.ptr po 0),.ig 156 (.ptr io 0)]=Ds++ [D.ig 134 (.ptr po 0)]++ [.ig 156 (.ptr io 0)] by simp,show Vs++ [gX.cls (n+1) gY sm,.inst (n+2) Vs.length]=Vs++ [gX.cls (n+1) gY sm]++ [.inst (n+2) Vs.length] by simp];exact v2
 ·simp only [more]at hj;split at hj
  ·right; left; omega
  ·split at hj
   ·right; left; omega
   ·exact .inl hj
 ·show D.int .i64 (((Ds++ [D.ig 134 (.ptr po 0)]).length:Nat):Int)=_;rw [aB,aW,pQ]
theorem N6 (hS:TS T)(hT:TT T)(hP:TP T)(hW:TW T)(hV:TV T)(h:mb P Sh s so o la ta pl mp n lv tk bo Ds Vs F tms R x)(vy:tms[R.length]? =some t)(hg:lg tms R.length t):cu T H 21 [.ptr bo 0,t.d] s (jW P Sh s so o la ta pl mp n lv tk Ds Vs F tms t R):=by
 have ho:=h.tm t (aK vy);have hk:=hg.kind;by_cases h1:t.kd=1
 ·exact Rm hS h h1
 by_cases h2:t.kd=2
 ·exact Qm hS h h2
 by_cases h3:t.kd=3
 ·exact VH hS hW h ho h3
 by_cases h4:t.kd=4
 ·exact XI hS h ho h4
 by_cases h5:t.kd=5\/t.kd=6
 ·exact Xf hS h ho h5
 by_cases h7:t.kd=7\/t.kd=8\/t.kd=9
 ·exact Xv hS hT hP hW hV h vy hg h7
 by_cases h14:t.kd=14
 ·exact Qf hS hT hP h h14
 ·exact Qp hS h hg (by omega)
end
def dX (kd:Int):Prop:=(1<=kd/\kd<=9)\/(14<=kd/\kd<=17)
def IsKey (u:Tm):Prop:=(1<=u.kd/\u.kd<=4)\/(u.kd=14/\(u.hs=true\/u.sm=false))
theorem IsKey.tm {u:Tm}(h:IsKey u):Dc u:=by unfold IsKey at h; unfold Dc; omega
section
variable {T:Nat->Option dS}{H:au}{s:St}
theorem Jr (hS:TS T){kd:Int}:cu T H 29 [.int .i64 kd] s fun d s1=>(∃b,d= .bool b/\(b=true↔dX kd))/\s1=s:=by
 refine ay hS.t29 ?_;by_cases h1:1<=kd
 ·by_cases h2:kd<=9
  ·try refine go ?_
   exact ai ⟨⟨true,rfl,by simp only [dX,true_iff]; omega⟩,rfl⟩
  ·by_cases h3:kd=14
   ·try refine go ?_
    exact ai ⟨⟨true,rfl,by simp only [dX,true_iff]; omega⟩,rfl⟩
   ·by_cases h4:15<=kd
    ·by_cases h5:kd<=17
     ·try refine go ?_
      exact ai ⟨⟨true,rfl,by simp only [dX,true_iff]; omega⟩,rfl⟩
     ·try refine go ?_
      exact ai ⟨⟨false,rfl,by simp only [dX,db,false_iff]; omega⟩,rfl⟩
    ·try refine go ?_
     exact ai ⟨⟨false,rfl,by simp only [dX,db,false_iff]; omega⟩,rfl⟩
 ·have h3:kd≠14:=by omega
  try refine go ?_
  exact ai ⟨⟨false,rfl,by simp only [dX,db,false_iff]; omega⟩,rfl⟩
theorem Dl (hS:TS T){t:Tm}:cu T H 71 [t.d] s fun d s1=>(∃b,d= .bool b/\(b=true↔IsKey t))/\s1=s:=by
 unfold IsKey;obtain⟨kd,b,ng,n1,mag,tx,n2,kids,gY,sm⟩:=t;refine ay hS.t71 ?_;by_cases h1:1<=kd
 ·by_cases h2:kd<=4
  ·try refine go ?_
   exact ai ⟨⟨true,rfl,by simp only [true_iff]; omega⟩,rfl⟩
  ·by_cases h3:kd=14
   ·subst h3;cases gY
    ·cases sm
     ·try refine go ?_
      exact ai ⟨⟨true,rfl,by simp⟩,rfl⟩
     ·try refine go ?_
      exact ai ⟨⟨false,rfl,by simp⟩,rfl⟩
    ·try refine go ?_
     exact ai ⟨⟨true,rfl,by simp⟩,rfl⟩
   ·try refine go ?_
    exact ai ⟨⟨false,rfl,by simp only [db,false_iff]; omega⟩,rfl⟩
 ·have h3:kd≠14:=by omega
  try refine go ?_
  exact ai ⟨⟨false,rfl,by simp only [db,false_iff]; omega⟩,rfl⟩
end
end Go.Proofs.Tab
