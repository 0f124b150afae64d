/- Part. -/
import Derived.Test.YtmcdajnpdekocaaGreatDoorG49
set_option linter.unusedSectionVars false
set_option linter.unusedSimpArgs false
set_option linter.unusedVariables false
set_option maxRecDepth 100000
set_option maxHeartbeats 1000000
namespace Go.Proofs.YtmcdajnpdekocaaGreatDoor.Tab
open Go Go.Ab Go.Ab.Sm
inductive zGk (P:Nat)(tms:List Tm)(Vs0:List Val)(n0:Nat):List Nat→List Val→Nat→Prop
 | nil:zGk P tms Vs0 n0 [] Vs0 n0
 | snoc {R:List Nat} {Vs:List Val} {n:Nat} (h:zGk P tms Vs0 n0 R Vs n) {t:Tm} (ht:tms[R.length]? =some t) {Vn:List Val} {r n' :Nat} (hm:zQa P Vs R t n Vn r n'):zGk P tms Vs0 n0 (R++ [r]) (Vs++Vn) n'
def zQv (Vs:List Val):Prop:=Vs[0]? =some .none∧Vs[1]? =some (.bool false)∧Vs[2]? =some (.bool true)
theorem getA {α:Type}{L M:List α}{i:Nat}{v:α}(h:L[i]? =some v):(L++M)[i]? =some v:=by
 rw [List.getElem?_append_left (List.getElem?_eq_some_iff.mp h).1]; exact h
theorem zQv.app {Vs:List Val}(h:zQv Vs)(Vn:List Val):zQv (Vs++Vn):=⟨getA h.1,getA h.2.1,getA h.2.2⟩
theorem zQs {α:Type}{L:List α}{v:α}:(L++ [v])[L.length]? =some v:=by rw [List.getElem?_append_right (Nat.le_refl _),Nat.sub_self]; rfl
theorem zQa.of {P:Nat}{Vs:List Val}{R:List Nat}{t:Tm}{n:Nat}{Vn:List Val} {r n' :Nat}(h:zQa P Vs R t n Vn r n')(hb:zQv Vs):∃w,(Vs++Vn)[r]? =some w∧OfTm t w:=by
 unfold OfTm
 cases h with
 | none h=>exact ⟨_,getA hb.1,.inl ⟨h,rfl⟩⟩
 | bool h=>
  refine⟨.bool t.b, ?_,.inr (.inl ⟨h,rfl⟩)⟩
  cases t.b
  ·exact getA hb.2.1
  ·exact getA hb.2.2
 | int h=>exact ⟨_,zQs,.inr (.inr (.inl ⟨h,rfl⟩))⟩
 | str h=>exact ⟨_,zQs,.inr (.inr (.inr (.inl ⟨h,rfl⟩)))⟩
 | row h=>exact ⟨_,zQs,.inr (.inr (.inr (.inr (.inl ⟨h,_,_,_,rfl,by omega,List.length_replicate ..⟩))))⟩
 | tbl h E=>exact ⟨_,zQs,.inr (.inr (.inr (.inr (.inr (.inl ⟨h,_,_,_,rfl,by omega⟩)))))⟩
 | inst h=>exact ⟨.inst (n+2) Vs.length,by rw [List.getElem?_append_right (by omega),show Vs.length+1 - Vs.length=1 by omega]; rfl,.inr (.inr (.inr (.inr (.inr (.inr (.inl ⟨h,_,_,rfl⟩))))))⟩
 | view h=>exact ⟨_,zQs,.inr (.inr (.inr (.inr (.inr (.inr (.inr ⟨h,_,_,_,rfl,by omega⟩))))))⟩
theorem Mk.step {P:Nat}{tms:List Tm}{Vs:List Val}{R:List Nat}{t:Tm}{n:Nat}{Vn:List Val} {r n' :Nat}(h:Mk tms R Vs)(hm:zQa P Vs R t n Vn r n')(hb:zQv Vs)(ht:tms[R.length]? =some t):Mk tms (R++ [r]) (Vs++Vn):=by
 intro k q u h1 h2
 by_cases hk:k < R.length
 ·rw [List.getElem?_append_left hk]at h1
  obtain⟨w,e1,e2⟩:=h k q u h1 h2
  exact⟨w,getA e1,e2⟩
 ·have hl:=(List.getElem?_eq_some_iff.mp h1).1
  rw [List.length_append,List.length_singleton]at hl
  have:k=R.length:=by omega
  subst this
  rw [zQs]at h1
  rw [ht]at h2
  cases h1; cases h2
  exact hm.of hb
theorem MkCx.nil {P Sh:Nat}{s s1:St}{so o la ta pl mp n lv tk bo:Nat}{Ds:List D}{Vs:List Val}{F:Nat→Nat→Prop}{tms:List Tm}{R:List Nat}{x:D}(h:MkCx P Sh s so o la ta pl mp n lv tk bo Ds Vs F tms R x)(hb:Beh Nil s s1):MkCx P Sh s1 so o la ta pl mp n lv tk bo Ds Vs F tms R x:=
 {h with ok:=hb.ok,st:=h.st.beh h.ok hb (fun _ _ h=>h),vs:=h.vs.beh h.ok hb (fun _ _ _ h=>h),bl:=⟨hb.get h.ok h.bl.go id⟩,rf:=h.rf.beh h.ok hb (fun _ _ _ _ _ h=>h)}
def Round2 (P Sh:Nat)(s:St)(so o la ta pl mp n lv tk bo:Nat)(Ds:List D)(Vs:List Val)(tms:List Tm)(t:Tm)(R:List Nat)(x:D)(s1:St):Prop:=
 ∃Dn Vn r n' tk' F' x1,zQa P Vs R t n Vn r n' ∧MkCx P Sh s1 so o la ta pl mp n' (lv+(n' - n)) tk' bo (Ds++Dn) (Vs++Vn) F' tms (R++ [r]) x1∧tk' ≤tk+2∧(∀q a l c,x1= .sl q a l c→(∃a l c,x= .sl q a l c)∨s.n≤q)∧Beh (fun q=>OfS so o la ta pl q∨q=bo∨∃a l c,x= .sl q a l c) s s1
section
variable {T:Nat→Option AFn}{H:zAa}{s:St}{so bo i:Nat}{x:D}{tms:List Tm}{t:Tm}{o la ta pl mp P Sh n lv tk:Nat}{Ds:List D}{Vs:List Val}{F:Nat→Nat→Prop}{R:List Nat}
def bldB2:AC:=match bldL 2 with
 | .loop _ a=>a
 | _=> .skip
def F2 (nl:Bool)(so bo:Nat)(tms:List Tm)(j:Nat):Env:=[(0,.ptr so 0),(1,.vs nl 8 (tms.map Tm.d)),(6,.ptr bo 0),(35,.vs nl 8 (tms.map Tm.d)),(36,.int .i64 (tms.length:Nat)),(37,.int .i64 (j:Nat))]
theorem zQa.le {P:Nat}{Vs:List Val}{R:List Nat}{t:Tm}{n:Nat}{Vn:List Val} {r n' :Nat}(h:zQa P Vs R t n Vn r n'):n≤n' ∧n' ≤n+2∧Vn.length≤2:=by
 cases h <;> simp
theorem StA.u32 {s1:St} {tk' :Nat}{j:Nat}(h:StA s1 so o la ta pl mp P Sh Ds n lv tk')(hu:U32 s1 j): ¬ OfS so o la ta pl j:=by
 obtain⟨es,st,hg⟩:=hu
 rintro (rfl | rfl | rfl | rfl | rfl)
 ·rw [h.go]at hg; cases hg
 ·rw [h.sl.go]at hg; cases hg
 ·rw [h.sl.gl]at hg; cases hg
 ·rw [h.sl.gt]at hg; cases hg
 ·rw [h.gp]at hg; cases hg
theorem zKs (h:MkCx P Sh s so o la ta pl mp n lv tk bo Ds Vs F tms R x)(htm:tms[R.length]? =some t)(hb3:zQv Vs)(q1:n+2 < 1000000000)(q2:lv+2 < 1000000000)(q3:tk+2 < 1000000000)(q4:Ds.length+2 < 1000000000)
  {s1 s2:St}{Dn:List D}{Vn:List Val}{r n' tk' q:Nat} {F' :Nat→Nat→Prop}(z1:zQa P Vs R t n Vn r n')(z2:StA s1 so o la ta pl mp P Sh (Ds++Dn) n' (lv+(n' - n)) tk')(z3:tk' ≤tk+2)(z4:Vals P s1 F' (Ds++Dn) (Vs++Vn))(z5:∀(i j:Nat),F' i j→F i j∨(s.up 1).n≤j∨U32 s1 j)(z6:Beh (OfS so o la ta pl) (s.up 1) s1)
  (hq:q=s.n∨∃a l c,x= .sl q a l c)(hq1:∀es st,s1.get q≠some (.arr 1 140 es st))(hb1:∀es st,s1.get bo≠some (.arr 1 140 es st))
  (g1:s2.get q=some (.arr 1 3 (ints ((R++ [r]).map Int.ofNat)) 0))(g2:s2.get bo=some (.var 67 (.agg [.ptr so 0,.vs false 8 (tms.map Tm.d),.sl q 0 (R.length+1) (R.length+1)])))(hb:Beh (fun j=>j=q∨j=bo) s1 s2):
  Round2 P Sh s so o la ta pl mp n lv tk bo Ds Vs tms t R x s2:=by
 have hs:=h.ok
 have ok1:=z6.ok
 have lb:=hs.lt h.bl.go
 have n1:s.n+1≤s1.n:=z6.n
 obtain⟨m1,m2,m3⟩:=z1.le
 have hl:=z4.ln
 have hl0:=h.vs.ln
 rw [List.length_append,List.length_append]at hl
 have nof:∀j,s.n≤j→ ¬ OfS so o la ta pl j∧j≠mp:=fun j hj=>⟨fun hh=>by have:=h.st.lt hs (.inl hh); omega,fun hh=>by have:=h.st.lt hs (.inr hh); omega⟩
 have hqq: ¬ OfS so o la ta pl q∧q≠mp∧q≠bo∧∀i, ¬ F i q:=by
  rcases hq with rfl | ⟨a,l,c,e⟩
  ·exact⟨(nof _ (Nat.le_refl _)).1,(nof _ (Nat.le_refl _)).2,by omega,fun i hi=>by have:=(h.vs.lt i _ hi).1; omega⟩
  ·obtain⟨y1,y2,y3⟩:=h.x0 _ _ _ _ e
   exact⟨y1,y2,y3,fun i hi=>(h.hF i _ hi).2.2 _ _ _ _ e rfl⟩
 have lq:q < s.n+1:=by
  rcases hq with rfl | ⟨a,l,c,e⟩
  ·omega
  ·have hr:=h.rf
   rw [e]at hr
   cases hr with
   | sl hg _=>have:=hs.lt hg; omega
 have sep:∀i j,F' i j→ ¬ OfS so o la ta pl j∧j≠bo∧j≠q:=by
  intro i j hj
  rcases z5 i j hj with h1 | h1 | h1
  ·have h2:=h.hF i j h1
   exact⟨h2.1,h2.2.1,fun e=>hqq.2.2.2 i (e ▸ h1)⟩
  ·have h1:s.n+1≤j:=h1
   exact⟨(nof j (by omega)).1,by omega,by omega⟩
  ·refine⟨z2.u32 h1, ?_, ?_⟩
   ·rintro rfl; obtain ⟨es,st,e⟩:=h1; exact hb1 _ _ e
   ·rintro rfl; obtain ⟨es,st,e⟩:=h1; exact hq1 _ _ e
 refine⟨Dn,Vn,r,n',tk',F',.sl q 0 (R.length+1) (R.length+1),z1, ?_,z3, ?_, ?_⟩
 ·refine { ok:=hb.ok,pb:=h.pb,sb:=h.sb,st:=z2.beh ok1 hb ?_,nb:=by omega,lb:=by omega,tb:=by omega,ds:=by rw [List.length_append]; omega,vs:=z4.beh ok1 hb fun i j hj=> ?_,hF:=fun i j hj=> ?_,bl:=⟨g2⟩,rf:= ?_,md:=h.md.step z1 hb3 htm,b0:=h.b0,x0:=fun q' a l c e=> ?_,tm:=h.tm}
  ·rintro j hj (rfl | rfl)
   ·rcases hj with hj | hj
    ·exact hqq.1 hj
    ·exact hqq.2.1 hj
   ·rcases hj with hj | hj
    ·exact h.b0.1 hj
    ·exact h.b0.2 hj
  ·have:=sep i j hj
   rintro (e | e)
   ·exact this.2.2 e
   ·exact this.2.1 e
  ·have:=sep i j hj
   refine⟨this.1,this.2.1,fun q' a l c e=> ?_⟩
   simp only [D.sl.injEq]at e
   rw [← e.1]; exact this.2.2
  ·have:=Refs.sl (s:=s2) (o:=q) (R:=R++ [r]) g1 (by simp)
   rw [List.length_append,List.length_singleton]at this
   exact this
  ·simp only [D.sl.injEq]at e
   rw [← e.1]; exact ⟨hqq.1,hqq.2.1,hqq.2.2.1⟩
 ·intro q' a l c e
  simp only [D.sl.injEq]at e
  rw [← e.1]
  rcases hq with rfl | hq
  ·exact .inr (Nat.le_refl _)
  ·exact .inl hq
 ·have b1:Beh (fun j=>OfS so o la ta pl j∨j=bo∨∃a l c,x= .sl j a l c) s s1:=((Beh.refl hs).up 1).trans (z6.mono fun j hj=> .inl hj)
  refine b1.trans' hb ?_
  rintro j (rfl | rfl) hlt
  ·rcases hq with rfl | hq
   ·omega
   ·exact .inr (.inr hq)
  ·exact .inr (.inl rfl)
theorem round2 (hS:TS T)(hT:TT T)(hP:TP T)(hW:TW T)(hV:TV T)(h:MkCx P Sh s so o la ta pl mp n lv tk bo Ds Vs F tms R x)(htm:tms[R.length]? =some t)(hg:zFa tms R.length t)(hN:tms.length≤40){I:Nat→St→Prop}{k:List Kont}{Q:QP}{nl:Bool}(hnl:nl=true→tms=[])(hb3:zQv Vs)(q1:n+2 < 1000000000)(q2:lv+2 < 1000000000)(q3:tk+2 < 1000000000)(q4:Ds.length+2 < 1000000000)
  (hk:∀s1,Round2 P Sh s so o la ta pl mp n lv tk bo Ds Vs tms t R x s1→I (R.length+1) s1):
  Run T H bldB2 (.loop (cntI tms.length (F2 nl so bo tms) I) [0,1,6,35,36,37] (tms.length - R.length)::k) ⟨F2 nl so bo tms R.length,[]⟩ s Q:=by
 have hj:R.length < tms.length:=(List.getElem?_eq_some_iff.mp htm).1
 have hd:decide ((R.length:Int) < (tms.length:Nat))=true:=decide_eq_true (by omega)
 obtain rfl:nl=false:=by
  cases nl
  ·rfl
  ·rw [hnl rfl]at hj; cases hj
 have ha:=zPx htm
 have gb:=h.bl.go
 have hs:=h.ok
 have hmk:=make_ev' (H:=H) hS hT hP hW hV (h.nil ((Beh.refl hs).up 1)) htm hg
 have w1:IntKind.wrap .i64 ((R.length:Int)+1)=((R.length+1:Nat):Int):=by rw [wrap_small (by omega) (by omega)]; omega
 show Run T H (.seq _ _) _ ⟨[(0,.ptr so 0),(1,.vs false 8 (tms.map Tm.d)),(6,.ptr bo 0),(35,.vs false 8 (tms.map Tm.d)),(36,.int .i64 (tms.length:Nat)),(37,.int .i64 (R.length:Nat))],[]⟩ s Q
 rcases h.rf with _ | ⟨hgr,hne⟩
 ·try refine go ?_
  refine dpC hmk ?_
  rintro d s1 ⟨Dn,Vn,r,n',tk',F',z1,rfl,z2,z3,z4,z5,z6⟩
  have gb0:(s.up 1).get bo=_:=gb
  have gb1:=z6.get (hs.up 1) gb0 h.b0.1
  have ok1:=z6.ok
  have n1:s.n+1≤s1.n:=z6.n
  have hof: ¬ OfS so o la ta pl s.n:=fun hh=>Nat.lt_irrefl _ (h.st.lt hs (.inl hh))
  have hfr:s1.get (s.n+0)=none:=(z6.same s.n (Nat.lt_succ_self _) hof).trans (hs.fresh _ (Nat.le_refl _))
  have lb:=hs.lt gb
  refine⟨rfl,by simp [lost,AOp.kind,lAs,zAf,fpOf,wtD,fpRd,fpRd.objs,fpRg,Opd.ev,Env.get,sOb,D.flat,D.isAgg,cEq,D.beqs,D.beq,Nat.beq_refl,Obj.beq_rfl,laR,soR,D.bsR,D.beq_rfl,gb0,gb1], ?_⟩
  try refine go ?_
  refine rtC hj (hk _ (zKs (q:=s.n) h htm hb3 q1 q2 q3 q4 z1 z2 z3 z4 z5 z6 (.inl rfl) (fun es st e=>by rw [Nat.add_zero]at hfr; rw [hfr]at e; cases e) (fun es st e=>by rw [gb1]at e; cases e) ?_ ?_ ?_))
  ·exact gI
  ·exact gI
  ·exact bI
 ·try refine go ?_
  refine dpC hmk ?_
  rintro d s1 ⟨Dn,Vn,r,n',tk',F',z1,rfl,z2,z3,z4,z5,z6⟩
  have gb0:(s.up 1).get bo=_:=gb
  have gb1:=z6.get (hs.up 1) gb0 h.b0.1
  have ok1:=z6.ok
  have n1:s.n+1≤s1.n:=z6.n
  have lb:=hs.lt gb
  obtain⟨y1,y2,y3⟩:=h.x0 _ _ _ _ rfl
  have gr1:=z6.get (hs.up 1) hgr y1
  have lr:=hs.lt hgr
  have hrl:=zBt R
  refine⟨rfl,by simp [lost,AOp.kind,lAs,zAf,fpOf,wtD,fpRd,fpRd.objs,fpRg,Opd.ev,Env.get,sOb,D.flat,D.isAgg,cEq,D.beqs,D.beq,Nat.beq_refl,Obj.beq_rfl,laR,soR,D.bsR,D.beq_rfl,gb0,gb1], ?_⟩
  try refine go ?_
  refine rtC hj (hk _ (zKs h htm hb3 q1 q2 q3 q4 z1 z2 z3 z4 z5 z6 (.inr ⟨_,_,_,rfl⟩) (fun es st e=>by rw [gr1]at e; cases e) (fun es st e=>by rw [gb1]at e; cases e) ?_ ?_ ?_))
  ·rw [show ints ((R++ [r]).map Int.ofNat)=ints (R.map Int.ofNat)++ [.int .i64 (r:Nat)] by simp [ints]]
   exact gI
  ·exact gI
  ·exact bI
end
section
variable {T:Nat→Option AFn}{H:zAa}{s:St}{so bo i:Nat}{tms:List Tm}{o la ta pl mp P Sh n0 lv0 tk0:Nat}{Ds0:List D}{Vs0:List Val}{F0:Nat→Nat→Prop}
def Made2 (P Sh:Nat)(s:St)(so o la ta pl mp n0 lv0 tk0 bo:Nat)(Ds0:List D)(Vs0:List Val)(tms:List Tm)(j:Nat)(s1:St):Prop:=
 ∃Ds Vs n lv tk F R x,MkCx P Sh s1 so o la ta pl mp n lv tk bo Ds Vs F tms R x∧R.length=j∧zGk P tms Vs0 n0 R Vs n∧zQv Vs∧(n0≤n∧n≤n0+2 * j∧lv=lv0+(n - n0)∧tk≤tk0+2 * j∧Ds.length≤Ds0.length+2 * j)∧(∀q a l c,x= .sl q a l c→s.n≤q)∧Beh (fun q=>OfS so o la ta pl q∨q=bo) s s1
theorem loop2_ev (hS:TS T)(hT:TT T)(hP:TP T)(hW:TW T)(hV:TV T)(h:MkCx P Sh s so o la ta pl mp n0 lv0 tk0 bo Ds0 Vs0 F0 tms [] (.vs true 0 []))(hg:∀i t,tms[i]? =some t→zFa tms i t)(hN:tms.length≤40){k:List Kont}{Q:QP}{nl:Bool}(hnl:nl=true→tms=[])(hb3:zQv Vs0)(b1:n0≤1000000)(b2:lv0≤1000000)(b3:tk0≤1000000)(b4:Ds0.length≤1000000){E:Env}
  (hE:E.keep [0,1,6,35,36,37]=F2 nl so bo tms 0)
  (hd:∀s1,Made2 P Sh s so o la ta pl mp n0 lv0 tk0 bo Ds0 Vs0 tms tms.length s1→Ret T H .normal k ⟨[(38,.bool false),(0,.ptr so 0),(1,.vs nl 8 (tms.map Tm.d)),(6,.ptr bo 0),(35,.vs nl 8 (tms.map Tm.d)),(36,.int .i64 (tms.length:Nat)),(37,.int .i64 (tms.length:Nat))],[]⟩ s1 Q):
  Run T H (bldL 2) (.block 2::k) ⟨E,[]⟩ s Q:=by
 show Run T H (.loop _ _) (.block 2::k) ⟨E,[]⟩ s Q
 refine zAh tms.length (F2 nl so bo tms) (Made2 P Sh s so o la ta pl mp n0 lv0 tk0 bo Ds0 Vs0 tms) ⟨Ds0,Vs0,n0,lv0,tk0,F0,[],_,h,rfl,.nil,hb3,by omega,(fun _ _ _ _ e=>by cases e),Beh.refl h.ok⟩ ?_ rfl hE
 rintro j s1 hj hI
 by_cases hlt:j < tms.length
 ·obtain⟨t,ht⟩:∃t,tms[j]? =some t:=⟨_,List.getElem?_eq_getElem hlt⟩
  obtain⟨Ds,Vs,n,lv,tk,F,R,x,c1,rfl,c3,c4,c5,c6,c7⟩:=hI
  refine round2 hS hT hP hW hV c1 ht (hg _ _ ht) hN hnl c4 (by omega) (by omega) (by omega) (by omega) ?_
  rintro s2 ⟨Dn,Vn,r,n',tk',F',x1,d1,d2,d3,d4,d5⟩
  obtain⟨m1,m2,m3⟩:=d1.le
  have l1:=d2.vs.ln
  have l2:=c1.vs.ln
  have n1:=c7.n
  refine⟨_,_,_,_,_,_,_,_,d2,by rw [List.length_append,List.length_singleton],c3.snoc ht d1,c4.app _, ?_, ?_, ?_⟩
  ·rw [List.length_append,List.length_append]at l1
   rw [List.length_append]
   omega
  ·intro q a l c e
   rcases d4 q a l c e with ⟨a',l',c',e'⟩ | h1
   ·exact c6 _ _ _ _ e'
   ·omega
  ·refine c7.trans' d5 ?_
   rintro q (hq | hq | ⟨a,l,c,hq⟩) hl
   ·exact .inl hq
   ·exact .inr hq
   ·have:=c6 _ _ _ _ hq; omega
 ·have hjl:j=tms.length:=by omega
  subst hjl
  have hdd:decide ((tms.length:Int) < (tms.length:Nat))=false:=decide_eq_false (by omega)
  show Run T H _ _ ⟨[(0,.ptr so 0),(1,.vs nl 8 (tms.map Tm.d)),(6,.ptr bo 0),(35,.vs nl 8 (tms.map Tm.d)),(36,.int .i64 (tms.length:Nat)),(37,.int .i64 (tms.length:Nat))],[]⟩ s1 Q
  try refine go ?_
  exact hd s1 hI
end
def rowOf (R:List Nat)(t:Tm):List Int:=t.kids.map fun k=>((R[k.toNat]?.getD 0:Nat):Int)
def zDv (R:List Nat)(t:Tm)(r:Nat)(Vs:List Val):List Val:=match Vs[r]? with
 | some (.row num kd L)=>Vs.set r (.row num kd (rowOf R t))
 | _=>Vs
theorem zPa (R:List Nat)(t:Tm):(rowOf R t).length=t.kids.length:=List.length_map _
section
variable {s s1:St}{so bo i:Nat}{x:D}{tms:List Tm}{t:Tm}{o la ta pl mp P Sh n lv tk:Nat}{Ds:List D}{Vs:List Val}{F:Nat→Nat→Prop}{R:List Nat}
theorem MkCx.fill (h:MkCx P Sh s so o la ta pl mp n lv tk bo Ds Vs F tms R x){r num kd:Nat} {L L' :List Int}{d:D}{ro lx st:Nat}(hv:Vs[r]? =some (.row num kd L))(hd:Ds[r]? =some d)
  (e1:d= .ifc 70 (.ptr ro 0))(e2:s.get ro=some (.var 76 (.agg [.int .i64 num,.sl lx 0 L.length L.length,.int .i64 kd])))(e3:s.get lx=some (.arr 1 3 (ints L) st))(e4:st≤L.length)(e5:F r ro)(e6:F r lx)
  (hl:L'.length=L.length) {st' :Nat} (e4' :st' ≤L.length)(g:s1.get lx=some (.arr 1 3 (ints L') st'))(hb:Beh (fun j=>j=lx) s s1)(hk:Mk tms R (Vs.set r (.row num kd L'))):MkCx P Sh s1 so o la ta pl mp n lv tk bo Ds (Vs.set r (.row num kd L')) F tms R x:=by
 have hs:=h.ok
 have hFl:=h.hF r lx e6
 have nro:ro≠lx:=by rintro rfl; rw [e2]at e3; cases e3
 have nmp:lx≠mp:=by rintro rfl; rw [h.st.gm]at e3; cases e3
 have nu: ¬ U32 s lx:=by rintro ⟨es,st0,hg⟩; rw [e3]at hg; cases hg
 have u2:∀q,U32 s q→U32 s1 q:=by
  intro q hq
  have hq' :=hq
  obtain⟨es,st0,hg⟩:=hq
  exact⟨es,st0,hb.get hs hg (by rintro rfl; exact nu hq')⟩
 refine { h with ok:=hb.ok,st:=h.st.beh hs hb ?_,vs:= ?_,bl:=⟨hb.get hs h.bl.go (fun e=>hFl.2.1 e.symm)⟩,rf:=h.rf.beh hs hb (fun q a l c e e' =>hFl.2.2 q a l c e (by rw [e'])),md:=hk}
 ·rintro j (hj | hj) rfl
  ·exact hFl.1 hj
  ·exact nmp hj
 ·refine⟨by rw [List.length_set]; exact h.vs.ln,fun i d' v h1 h2=> ?_,fun i j q h1 h2=> ?_,fun i q hq=> ?_⟩
  ·by_cases hir:i=r
   ·subst hir
    rw [hd]at h1
    have hlt:=(List.getElem?_eq_some_iff.mp hv).1
    rw [List.getElem?_set_self hlt]at h2
    cases h1; cases h2
    refine⟨ro,lx,st',e1, ?_,g,by omega,e5,e6⟩
    rw [hl]; exact hb.get hs e2 nro
   ·rw [List.getElem?_set_ne (fun e=>hir e.symm)]at h2
    refine (h.vs.at' i d' v h1 h2).beh hs hb fun j _ hj e=> ?_
    subst e
    rcases h.vs.dj i r _ hj e6 with e | e
    ·exact hir e
    ·exact nu e
  ·exact (h.vs.dj i j q h1 h2).imp id (u2 q)
  ·exact⟨Nat.lt_of_lt_of_le (h.vs.lt i q hq).1 hb.n,(h.vs.lt i q hq).2⟩
theorem Mk.fill (h:Mk tms R Vs){r num kd:Nat} {L L' :List Int}(hv:Vs[r]? =some (.row num kd L))(hl:L'.length=L.length):Mk tms R (Vs.set r (.row num kd L')):=by
 intro k q u h1 h2
 obtain⟨w,h3,h4⟩:=h k q u h1 h2
 by_cases hqr:q=r
 ·subst hqr
  rw [hv]at h3; cases h3
  refine⟨_,List.getElem?_set_self (List.getElem?_eq_some_iff.mp hv).1, ?_⟩
  unfold OfTm at h4 ⊢
  rcases h4 with ⟨_,h5⟩ | ⟨_,h5⟩ | ⟨_,h5⟩ | ⟨_,h5⟩ | ⟨h6,_,_,_,h5,h7,h8⟩ | ⟨_,_,_,_,h5,_⟩ | ⟨_,_,_,h5⟩ | ⟨_,_,_,_,h5,_⟩
  all_goals first | (cases h5; done) | skip
  cases h5
  exact .inr (.inr (.inr (.inr (.inl ⟨h6,_,_,_,rfl,h7,by omega⟩))))
 ·exact⟨w,by rw [List.getElem?_set_ne (fun e=>hqr e.symm)]; exact h3,h4⟩
end
def bldK:AC:=match bldL 3 with
 | .loop _ (.seq _ (.seq _ (.seq (.block _ (.seq _ (.seq _ (.seq _ (.cond _ (.seq _ (.block _ c)) _))))) _)))=>c
 | _=> .skip
def FK (nl:Bool)(so bo ro:Nat)(tms:List Tm)(j:Nat)(n2:Bool)(kids:List Int)(i:Nat):Env:=[(0,.ptr so 0),(6,.ptr bo 0),(13,.ptr ro 0),(54,.vs nl 8 (tms.map Tm.d)),(55,.int .i64 (tms.length:Nat)),(56,.int .i64 (j:Nat)),(76,.vs n2 1 (ints kids)),(77,.int .i64 (kids.length:Nat)),(78,.int .i64 (i:Nat))]
theorem yEz {α:Type}{A L:List α}{i:Nat}{a:α}(hl:A.length=L.length)(ha:A[i]? =some a):(A.take i++L.drop i).set i a=A.take (i+1)++L.drop (i+1):=by
 obtain⟨h1,rfl⟩:=List.getElem?_eq_some_iff.mp ha
 have h2:i < L.length:=by omega
 have h3:(A.take i).length=i:=by rw [List.length_take]; omega
 rw [List.set_append_right _ _ (by omega),h3,Nat.sub_self,List.drop_eq_getElem_cons h2,List.set_cons_zero,show A.take (i+1)=A.take i++ [A[i]] by rw [List.take_add_one,List.getElem?_eq_getElem h1]; rfl,List.append_assoc]
 rfl
theorem ints_set (L:List Int)(i:Nat)(a:Int):(ints L).set i (.int .i64 a)=ints (L.set i a):=by
 simp [ints,List.map_set]
section
variable {T:Nat→Option AFn}{H:zAa}{s s1:St}{so bo i:Nat}{x:D}{tms:List Tm}{t:Tm}{o la ta pl mp P Sh n lv tk:Nat}{Ds:List D}{Vs:List Val}{F:Nat→Nat→Prop}{R:List Nat}
theorem yGm (h:MkCx P Sh s so o la ta pl mp n lv tk bo Ds Vs F tms R x)(hN:tms.length≤40)(hR:R.length=tms.length)(hg:∀k∈t.kids,0≤k∧k < tms.length)(hok:t.Ok){r num kd:Nat}{L:List Int}{ro lx st:Nat}
  (e2:s.get ro=some (.var 76 (.agg [.int .i64 num,.sl lx 0 L.length L.length,.int .i64 kd])))(e3:s.get lx=some (.arr 1 3 (ints L) st))(e4:st≤L.length)(e5:F r ro)(e6:F r lx)(hl:L.length=t.kids.length){nl n2:Bool}{j:Nat}{k:List Kont}{Q:QP}{E:Env}
  (hE:E.keep [0,6,13,54,55,56,76,77,78]=FK nl so bo ro tms j n2 t.kids 0)
  (hd:∀s1 st',st' ≤L.length→s1.get lx=some (.arr 1 3 (ints (rowOf R t)) st')→Beh (fun j=>j=lx) s s1→Ret T H .normal k ⟨(79,.bool false)::FK nl so bo ro tms j n2 t.kids t.kids.length,[]⟩ s1 Q):
  Run T H bldK (.block 6::k) ⟨E,[]⟩ s Q:=by
 have hs:=h.ok
 have hFl:=h.hF r lx e6
 have nro:ro≠lx:=by rintro rfl; rw [e2]at e3; cases e3
 have hrl:=zPa R t
 have hkl:=hok.kids
 have gb:=h.bl.go
 have hbl:bo≠lx:=fun e=>hFl.2.1 e.symm
 show Run T H (.loop _ _) (.block 6::k) ⟨E,[]⟩ s Q
 refine zAh t.kids.length (FK nl so bo ro tms j n2 t.kids) (fun i s1=>∃st',st' ≤L.length∧s1.get lx=some (.arr 1 3 (ints ((rowOf R t).take i++L.drop i)) st')∧Beh (fun j=>j=lx) s s1) ⟨st,e4,by simpa using e3,Beh.refl hs⟩ ?_ rfl hE
 rintro i s1 hi ⟨st',hst',gl1,b1⟩
 have ok1:=b1.ok
 by_cases hlt:i < t.kids.length
 ·obtain⟨kn,hk⟩:∃kn:Nat,t.kids[i]? =some (kn:Int):=by
   have:=hg t.kids[i] (List.getElem_mem hlt)
   exact⟨t.kids[i].toNat,by rw [List.getElem?_eq_getElem hlt]; congr 1; omega⟩
  have hkm:=hg _ (List.mem_of_getElem? hk)
  have hkn:kn < R.length:=by omega
  obtain⟨rk,hrk⟩:∃rk,R[kn]? =some rk:=⟨_,List.getElem?_eq_getElem hkn⟩
  have hro:(rowOf R t)[i]? =some ((rk:Nat):Int):=by
   simp only [rowOf,List.getElem?_map,hk,Option.map_some,Int.toNat_natCast,hrk,Option.getD_some]
  have hki:(ints t.kids)[i]? =some (.int .i64 (kn:Nat)):=by simp only [ints,List.getElem?_map,hk,Option.map_some]
  have hd:decide ((i:Int) < (t.kids.length:Nat))=true:=decide_eq_true (by omega)
  have w1:IntKind.wrap .i64 ((i:Int)+1)=((i+1:Nat):Int):=by rw [wrap_small (by omega) (by omega)]; omega
  have hll:(ints ((rowOf R t).take i++L.drop i)).length=L.length:=by
   rw [zAp,List.length_append,List.length_take,List.length_drop]; omega
  have hms:=yEz (A:=rowOf R t) (L:=L) (i:=i) (by omega) hro
  obtain⟨q,rfl,hq1,hq2,hq3⟩:=h.rf.at' hrk
  have hql:q≠lx:=fun e=>hFl.2.2 _ _ _ _ rfl e.symm
  have gb1:=b1.get hs gb hbl
  have gr1:=b1.get hs e2 nro
  have gq1:=b1.get hs hq1 hql
  have hqe:=zBt R
  obtain⟨z,hz⟩:∃z:Int,(ints ((rowOf R t).take i++L.drop i))[0+i]? =some (.int .i64 z):=by
   have h1:i < ((rowOf R t).take i++L.drop i).length:=by rw [List.length_append,List.length_take,List.length_drop]; omega
   exact⟨((rowOf R t).take i++L.drop i)[i],by rw [Nat.zero_add]; simp only [ints,List.getElem?_map,List.getElem?_eq_getElem h1,Option.map_some]⟩
  have lx1:=ok1.lt gl1
  show Run T H _ _ ⟨[(0,.ptr so 0),(6,.ptr bo 0),(13,.ptr ro 0),(54,.vs nl 8 (tms.map Tm.d)),(55,.int .i64 (tms.length:Nat)),(56,.int .i64 (j:Nat)),(76,.vs n2 1 (ints t.kids)),(77,.int .i64 (t.kids.length:Nat)),(78,.int .i64 (i:Nat))],[]⟩ _ _
  try refine go ?_
  refine rtC hlt ⟨L.length,Nat.le_refl _, ?_, ?_⟩
  ·rw [hll,Nat.zero_add,ints_set,hms]
   exact gI
  ·exact bI
 ·have hjl:i=t.kids.length:=by omega
  subst hjl
  have hdd:decide ((t.kids.length:Int) < (t.kids.length:Nat))=false:=decide_eq_false (by omega)
  show Run T H _ _ ⟨[(0,.ptr so 0),(6,.ptr bo 0),(13,.ptr ro 0),(54,.vs nl 8 (tms.map Tm.d)),(55,.int .i64 (tms.length:Nat)),(56,.int .i64 (j:Nat)),(76,.vs n2 1 (ints t.kids)),(77,.int .i64 (t.kids.length:Nat)),(78,.int .i64 (t.kids.length:Nat))],[]⟩ _ _
  try refine go ?_
  refine hd s1 st' hst' ?_ b1
  rw [List.drop_of_length_le (by omega),List.take_of_length_le (by omega),List.append_nil]at gl1
  exact gl1
end
def zDx (R:List Nat)(tms:List Tm)(Vs:List Val):Nat→List Val
 | 0=>Vs
 | j+1=>match tms[j]?,R[j]? with
  | some t,some r=>zDv R t r (zDx R tms Vs j)
  | _,_=>zDx R tms Vs j
def F3 (nl:Bool)(so bo:Nat)(tms:List Tm)(j:Nat):Env:=[(0,.ptr so 0),(6,.ptr bo 0),(54,.vs nl 8 (tms.map Tm.d)),(55,.int .i64 (tms.length:Nat)),(56,.int .i64 (j:Nat))]
section
variable {T:Nat→Option AFn}{H:zAa}{s s1:St}{so bo i:Nat}{x:D}{tms:List Tm}{t:Tm}{o la ta pl mp P Sh n lv tk:Nat}{Ds:List D}{Vs:List Val}{F:Nat→Nat→Prop}{R:List Nat}
def bldB3:AC:=match bldL 3 with
 | .loop _ a=>a
 | _=> .skip
theorem round3 (hS:TS T)(h:MkCx P Sh s so o la ta pl mp n lv tk bo Ds Vs F tms R x)(hN:tms.length≤40)(hR:R.length=tms.length){j r:Nat}(htm:tms[j]? =some t)(hr:R[j]? =some r)(hg:∀k∈t.kids,0≤k∧k < tms.length){nl:Bool}{I:Nat→St→Prop}{k:List Kont}{Q:QP}
  (hk:∀s1,MkCx P Sh s1 so o la ta pl mp n lv tk bo Ds (zDv R t r Vs) F tms R x→s.n≤s1.n→I (j+1) s1):
  Run T H bldB3 (.loop (cntI tms.length (F3 nl so bo tms) I) [0,6,54,55,56] (tms.length - j)::k) ⟨F3 nl so bo tms j,[]⟩ s Q:=by
 have hj:j < tms.length:=(List.getElem?_eq_some_iff.mp htm).1
 have hd:decide ((j:Int) < (tms.length:Nat))=true:=decide_eq_true (by omega)
 have ha:=zPx htm
 have gb:=h.bl.go
 have hs:=h.ok
 have hok:=h.tm t (List.mem_of_getElem? htm)
 have w1:IntKind.wrap .i64 ((j:Int)+1)=((j+1:Nat):Int):=by rw [wrap_small (by omega) (by omega)]; omega
 obtain⟨q,rfl,hq1,hq2,hq3⟩:=h.rf.at' hr
 have hqe:=zBt R
 obtain⟨v,hv,hof⟩:=h.md j r t hr htm
 obtain⟨d,hdr,hva⟩:=h.vs.get hv
 show Run T H (.seq _ _) _ ⟨[(0,.ptr so 0),(6,.ptr bo 0),(54,.vs nl 8 (tms.map Tm.d)),(55,.int .i64 (tms.length:Nat)),(56,.int .i64 (j:Nat))],[]⟩ s Q
 by_cases hrow:∃num kd L,v= .row num kd L
 ·obtain⟨num,kd,L,rfl⟩:=hrow
  have hfr:zDv R t r Vs=Vs.set r (.row num kd (rowOf R t)):=by unfold zDv; rw [hv]
  have hva' :=hva
  obtain⟨ro,lx,st,rfl,e2,e3,e4,e5,e6⟩:=hva
  have hL:L.length=t.kids.length:=by
   unfold OfTm at hof
   rcases hof with ⟨_,h5⟩ | ⟨_,h5⟩ | ⟨_,h5⟩ | ⟨_,h5⟩ | ⟨h6,_,_,_,h5,h7,h8⟩ | ⟨_,_,_,_,h5,_⟩ | ⟨_,_,_,h5⟩ | ⟨_,_,_,_,h5,_⟩
   all_goals first | (cases h5; done) | skip
   cases h5
   exact h8
  have hrl:=zPa R t
  have hil:=zAp t.kids
  try refine go ?_
  refine clE (zAb hS h.st hdr) ?_
  rintro d s1 ⟨rfl,rfl⟩
  try refine go ?_
  refine yGm (nl:=nl) (n2:=t.n2) (j:=j) h hN hR hg hok (r:=r) e2 e3 e4 e5 e6 hL ?_ ?_
  rotate_left
  ·intro s2 st' q1 q2 q3
   simp only [FK]
   try refine go ?_
   refine rtC hj (hk _ ?_ q3.n)
   rw [hfr]
   exact h.fill hv hdr rfl e2 e3 e4 e5 e6 (by omega) q1 q2 q3 (h.md.fill hv (by omega))
  ·simp only [FK,← hil]
   rfl
 ·have hfr:zDv R t r Vs=Vs:=by
   unfold zDv; rw [hv]
   cases v <;> first | rfl | exact absurd ⟨_,_,_,rfl⟩ hrow
  rw [hfr]at hk
  have hne:∃ty y,d= .ifc ty y∧Nat.beq ty 70=false:=by
   cases v with
   | none=>exact ⟨_,_,hva,rfl⟩
   | bool b=>exact ⟨_,_,hva,rfl⟩
   | int n=>obtain ⟨y,h1,_⟩:=hva; exact ⟨_,_,h1,rfl⟩
   | str t=>exact ⟨_,_,hva.1,rfl⟩
   | row num kd L=>exact absurd ⟨_,_,_,rfl⟩ hrow
   | tbl num kd E=>obtain ⟨_,_,h1,_⟩:=hva; exact ⟨_,_,h1,rfl⟩
   | cls num a b=>obtain ⟨_,_,_,h1,_⟩:=hva; exact ⟨_,_,h1,rfl⟩
   | inst num c=>obtain ⟨_,_,h1,_⟩:=hva; exact ⟨_,_,h1,rfl⟩
   | view num kd of=>obtain ⟨_,h1,_⟩:=hva; exact ⟨_,_,h1,rfl⟩
  obtain⟨ty,y,rfl,hty⟩:=hne
  try refine go ?_
  refine clE (zAb hS h.st hdr) ?_
  rintro d s1 ⟨rfl,rfl⟩
  refine zDp ?_ (ho:=zDf rfl hty)
  try refine go ?_
  exact rtC hj (hk _ h (Nat.le_refl _))
theorem loop3_ev (hS:TS T)(h:MkCx P Sh s so o la ta pl mp n lv tk bo Ds Vs F tms R x)(hN:tms.length≤40)(hR:R.length=tms.length)(hg:∀t∈tms,∀k∈t.kids,0≤k∧k < tms.length){nl:Bool}{k:List Kont}{Q:QP}{E:Env}
  (hE:E.keep [0,6,54,55,56]=F3 nl so bo tms 0)
  (hd:∀s1,MkCx P Sh s1 so o la ta pl mp n lv tk bo Ds (zDx R tms Vs tms.length) F tms R x→s.n≤s1.n→Ret T H .normal k ⟨[(57,.bool false),(0,.ptr so 0),(6,.ptr bo 0),(54,.vs nl 8 (tms.map Tm.d)),(55,.int .i64 (tms.length:Nat)),(56,.int .i64 (tms.length:Nat))],[]⟩ s1 Q):
  Run T H (bldL 3) (.block 4::k) ⟨E,[]⟩ s Q:=by
 show Run T H (.loop _ _) (.block 4::k) ⟨E,[]⟩ s Q
 refine zAh tms.length (F3 nl so bo tms) (fun j s1=>MkCx P Sh s1 so o la ta pl mp n lv tk bo Ds (zDx R tms Vs j) F tms R x∧s.n≤s1.n) ⟨h,Nat.le_refl _⟩ ?_ rfl hE
 rintro j s1 hj ⟨h1,h2⟩
 by_cases hlt:j < tms.length
 ·obtain⟨t,ht⟩:∃t,tms[j]? =some t:=⟨_,List.getElem?_eq_getElem hlt⟩
  obtain⟨r,hr⟩:∃r,R[j]? =some r:=⟨_,List.getElem?_eq_getElem (by omega)⟩
  refine round3 hS h1 hN hR ht hr (hg t (List.mem_of_getElem? ht)) fun s2 h3 h4=>⟨?_,by omega⟩
  have:zDx R tms Vs (j+1)=zDv R t r (zDx R tms Vs j):=by
   show (match tms[j]?,R[j]? with | some t,some r=>zDv R t r (zDx R tms Vs j) | _,_=>zDx R tms Vs j)=_
   rw [ht,hr]
  rw [this]; exact h3
 ·have hjl:j=tms.length:=by omega
  subst hjl
  have hdd:decide ((tms.length:Int) < (tms.length:Nat))=false:=decide_eq_false (by omega)
  show Run T H _ _ ⟨[(0,.ptr so 0),(6,.ptr bo 0),(54,.vs nl 8 (tms.map Tm.d)),(55,.int .i64 (tms.length:Nat)),(56,.int .i64 (tms.length:Nat))],[]⟩ s1 Q
  try refine go ?_
  exact hd s1 h1 h2
end
end Go.Proofs.YtmcdajnpdekocaaGreatDoor.Tab
