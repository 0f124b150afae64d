/- Part. -/
import Derived.Test.YtmcdajnpdekocaaGreatDoorG46
set_option linter.unusedSectionVars false
set_option linter.unusedSimpArgs false
set_option linter.unusedVariables false
set_option maxRecDepth 100000
set_option maxHeartbeats 4000000
namespace Go.Proofs.YtmcdajnpdekocaaGreatDoor.Tab
open Go Go.Ab Go.Ab.Sm
section
variable {T:Nat→Option AFn}{H:zAa}{s:St}{so o la ta pl mp P Sh n lv tk:Nat}{V:List D}
theorem make_ev (hS:TS T)(hs:s.Ok){fo sh P ko mo:Nat}(hf:s.get fo=some (.var 209 (famD sh P ko mo))):
  EvP T H 77 [.ptr fo 0] s fun d s1=>∃sp ro,d= .ptr sp 0∧s.n≤sp∧s.n≤ro∧s1.get sp=some (.var 138 (.agg [.ptr fo 0,.ifc 211 (.ptr ro 0),.int .u64 0]))∧s1.get ro=some (.var 213 (.agg [.vs true 0 []]))∧Beh Nil s s1:=by
 refine evI hS.t77 ?_
 repeat' first | refine go ?_ | refine zAi hS.t97 ?_
 refine rtF ⟨s.n+1,s.n,rfl,by omega,by omega, ?_, ?_,Beh.push (Beh.push (Beh.refl hs) _) _⟩
 ·exact St.gpE
 ·exact St.gpN St.gpE (by rw [St.nP0]; omega)
theorem zUf (hS:TS T)(hs:s.Ok)(h:StA s so o la ta pl mp P Sh V n lv tk)(hn:n < 2147483648)(hl:lv < 2147483648)(ht:tk < 2147483648)(hV:V.length+1≤mxE){c cp fo sh Q ko mo:Nat}{cn cd cb:D}{chs csm:Bool}{ct:List UInt8}
  (hc:V[c]? =some (.ifc 120 (.ptr cp 0)))(gc:s.get cp=some (.var 124 (.agg [cn,cd,.str ct,cb,.ptr fo 0,.bool chs,.bool csm])))(gf:s.get fo=some (.var 209 (famD sh Q ko mo)))(wc: ¬ OfS so o la ta pl cp)(wf: ¬ OfS so o la ta pl fo):
  EvP T H 45 [.ptr so 0,.int .i64 c] s fun d s1=>d= .int .i64 V.length∧∃po sp ro,s.n≤po∧s.n≤sp∧s.n≤ro∧s1.get po=some (.var 99 (.agg [.int .i64 (n+1:Nat),.ptr sp 0,.int .i64 c]))∧
   s1.get sp=some (.var 138 (.agg [.ptr fo 0,.ifc 211 (.ptr ro 0),.int .u64 0]))∧s1.get ro=some (.var 213 (.agg [.vs true 0 []]))∧StA s1 so o la ta pl mp P Sh (V++ [.ifc 93 (.ptr po 0)]) (n+1) (lv+1) (tk+1)∧Beh (OfS so o la ta pl) s s1:=by
 have hlt:=fun j (hj:OfS so o la ta pl j∨j=mp)=>h.lt hs hj
 have nW:∀j,s.n≤j→ ¬ OfS so o la ta pl j:=fun j hj hh=>by have:=hlt j (.inl hh); omega
 refine evI hS.t45 ?_
 try refine go ?_
 refine clE (zJp hS hs h hn hl ht) ?_
 rintro d s1 ⟨rfl,st1,b1⟩
 have ok1:=b1.ok
 have b1' :Beh (OfS so o la ta pl) s s1:=b1.mono fun j hj=>by rcases hj with rfl | rfl <;> simp [OfS]
 have gc1:=b1'.get hs gc wc
 have gf1:=b1'.get hs gf wf
 have ln1:=b1.n
 try refine go ?_
 obtain⟨s2,hs2⟩:∃s2,s2=s1.push0 (.var 99 (.agg [.int .i64 (n+1:Nat),.nilp,.int .i64 c])):=⟨_,rfl⟩
 have b2:Beh Nil s1 s2:=by rw [hs2]; exact Beh.push (Beh.refl ok1) _
 have g2:s2.get s1.n=some (.var 99 (.agg [.int .i64 (n+1:Nat),.nilp,.int .i64 c])):=by rw [hs2]; exact St.gpE
 show Sm.Call T H _ _ _ _ _ _ _ (s1.push0 (.var 99 (.agg [.int .i64 (n+1:Nat),.nilp,.int .i64 c]))) _
 rw [← hs2]
 have ok2:=b2.ok
 have st2:=st1.nil ok1 b2
 have gc2:=b2.get ok1 gc1 (fun h=>h)
 have gf2:=b2.get ok1 gf1 (fun h=>h)
 refine clE (zAb hS st2 hc) ?_
 rintro d s2 ⟨rfl,rfl⟩
 try refine go ?_
 refine clE (make_ev hS ok2 gf2) ?_
 rintro d s3 ⟨sp,ro,rfl,i1,i2,i3,i4,b3⟩
 have ok3:=b3.ok
 have st3:=st2.nil ok2 b3
 have g3:=b3.get ok2 g2 (fun h=>h)
 have ln2:=b2.n; have ln3:=b3.n
 have l3:=ok3.lt g3
 have ln22:s2.n=s1.n+1:=by rw [hs2]; rfl
 have gs3:=st3.go
 have lso:=ok3.lt gs3
 have nso:so≠s1.n:=by have:=hlt so (.inl (by simp [OfS])); omega
 try refine go ?_
 have b4:Beh (fun j=>j=s1.n) s3 (s3.set0 s1.n (.var 99 (.agg [.int .i64 (n+1:Nat),.ptr sp 0,.int .i64 c]))):=Beh.set (W:=fun j=>j=s1.n) (Beh.refl ok3) _ l3 (fun _=>rfl)
 have st4:=st3.beh ok3 b4 fun j hj e=>by have:=hlt j hj; omega
 refine clE (zGs hS b4.ok st4.sl hV) ?_
 rintro d s5 ⟨rfl,q3,q4⟩
 have nd:=st4.nd
 simp only [List.nodup_cons,List.mem_cons,List.not_mem_nil,or_false,not_or,not_false_eq_true,List.nodup_nil,and_true]at nd
 obtain⟨⟨n1,n2,n3,n4,n5⟩,⟨n6,n7,n8,n9⟩,⟨n10,n11,n12⟩,⟨n13,n14⟩,n15⟩:=nd
 have nw:∀j,s.n≤j→ ¬ (j=o∨j=la∨j=ta):=fun j hj hh=>nW j hj (by rcases hh with rfl | rfl | rfl <;> simp [OfS])
 try refine go ?_
 refine rtF ⟨rfl,s1.n,sp,ro,by omega,by omega,by omega,q4.get b4.ok St.gsE (nw _ (by omega)),q4.get b4.ok (b4.get ok3 i3 (by omega)) (nw _ (by omega)),q4.get b4.ok (b4.get ok3 i4 (by omega)) (nw _ (by omega)),
  ⟨q4.get b4.ok st4.go (by omega),q4.get b4.ok st4.gp (by omega),q4.get b4.ok st4.gm (by omega),q3,st4.nd⟩, ?_⟩
 refine (((b1'.trans (b2.mono fun _ h=>h.elim)).trans (b3.mono fun _ h=>h.elim)).trans' b4 fun o h1 h2=>by exfalso; omega).trans' q4 ?_
 rintro j (rfl | rfl | rfl) _ <;> simp [OfS]
end
inductive Puts (Vs:List Val)(most:Nat):List (Nat×Int)→List Ent→Prop
 | nil:Puts Vs most [] []
 | snoc {l:List (Nat×Int)} {E:List Ent} (h:Int) (r:Nat) (v:Int) (hp:Puts Vs most l E):Puts Vs most (l++ [(r,v)]) (putE Vs most E h r v)
def pairs (t:Tm)(R:List Nat)(j:Nat):List (Nat×Int):=(List.range j).map fun i=>(R.getD ((zAo t).getD i 0).toNat 0,if t.kd=7 then ((R.getD (t.kids.getD (2 * i+1) 0).toNat 0:Nat):Int) else 0)
theorem zXu (t:Tm)(R:List Nat)(j:Nat):pairs t R (j+1)=pairs t R j++ [(R.getD ((zAo t).getD j 0).toNat 0,if t.kd=7 then ((R.getD (t.kids.getD (2 * j+1) 0).toNat 0:Nat):Int) else 0)]:=by
 simp only [pairs,List.range_succ,List.map_append,List.map_cons,List.map_nil]
structure zFa (tms:List Tm)(i:Nat)(t:Tm):Prop where
 kids:∀k∈t.kids,0≤k∧k < (if t.kd=6 then tms.length else i:Nat)
 keys:∀k∈zAo t,∃u,tms[k.toNat]? =some u∧zZi u
 even:t.kd=7→t.kids.length % 2=0
 kind:(1≤t.kd∧t.kd≤9)∨(14≤t.kd∧t.kd≤17)
 none:(t.kd≤4∨t.kd=14)→t.kids=[]
 view:15≤t.kd→t.kids.length=1
def Mk (tms:List Tm)(R:List Nat)(Vs:List Val):Prop:=∀(k r:Nat) (t:Tm),R[k]? =some r→tms[k]? =some t→∃w,Vs[r]? =some w∧OfTm t w
theorem zKh:∀ {L:List Int} {k:Int},k∈evens L→k∈L
 | [],k,h=>by simp [evens]at h
 | [a],k,h=>by simpa [evens] using h
 | a::b::r,k,h=>by
  simp only [evens,List.mem_cons]at h ⊢
  rcases h with h | h
  ·exact .inl h
  ·exact .inr (.inr (zKh h))
theorem zMl {t:Tm}{k:Int}(h:k∈zAo t):k∈t.kids:=by
 unfold zAo at h
 split at h
 ·exact h
 ·split at h
  ·exact zKh h
  ·simp at h
structure zJj (P Sh:Nat)(s:St)(so o la ta pl mp:Nat)(Ds:List D)(n lv tk po dv:Nat)(Vs:List Val)(t:Tm)(R:List Nat)(xk:D)(j:Nat) (s' :St):Prop where
 ok:s'.Ok
 bh:Beh (OfS so o la ta pl) s s'
 st:StA s' so o la ta pl mp P Sh (Ds++ [.ifc 88 (.ptr po 0)]) (n+1) (lv+1) (tk+1)
 gp:s'.get po=some (.var 91 (.agg [.int .i64 (n+1:Nat),.ptr dv 0,.int .i64 t.kd]))
 pn:s.n≤po∧po < s'.n
 ks:zGw s' xk (zAo t)
 kn:∀o a l c,xk= .sl o a l c→s.n≤o∧o≠po
 di:∃W E,zAw W s' dv P E∧(∀o,W o→s.n≤o∧o < s'.n∧o≠po∧∀q a l c,xk= .sl q a l c→o≠q)∧zGv Ds.length E∧Puts Vs P (pairs t R j) E
section
variable {T:Nat→Option AFn}{H:zAa}{s:St}{so o la ta pl mp P Sh n lv tk bo i:Nat}{Ds:List D}{Vs:List Val}{F:Nat→Nat→Prop}{tms:List Tm}{t:Tm}{R:List Nat}{x:D}
theorem zJj.put (hS:TS T)(hT:TT T)(hP:TP T)(hW:TW T)(hV:TV T)(hs:s.Ok)(hp:P≤1000)(hst:StA s so o la ta pl mp P Sh Ds n lv tk)(hvs:Vals P s F Ds Vs)(hF:∀i j,F i j→ ¬ OfS so o la ta pl j)(hb:zQc s bo so tms x)(hR:Refs s x R)(hRi:R.length=i)
  (hmk:Mk tms R Vs)(htm:tms[i]? =some t)(hok:∀u∈tms,u.Ok)(hg:zFa tms i t)(h6:t.kd≠6)(hbo: ¬ OfS so o la ta pl bo)(hx:∀q a l c,x= .sl q a l c→ ¬ OfS so o la ta pl q)
  {po dv:Nat}{xk:D}{j:Nat} {s' :St}(hI:zJj P Sh s so o la ta pl mp Ds n lv tk po dv Vs t R xk j s'){k:Int}(hk:(zAo t)[j]? =some k){v:Int}(hv:v=if t.kd=7 then ((R.getD (t.kids.getD (2 * j+1) 0).toNat 0:Nat):Int) else 0):
  ∃q r,k=(q:Nat)∧R[q]? =some r∧EvP T H 74 [.ptr bo 0,.ptr po 0,.int .i64 k,.int .i64 v] s' fun _ s1=>zJj P Sh s so o la ta pl mp Ds n lv tk po dv Vs t R xk (j+1) s1:=by
 obtain⟨ok',bh,st,gp,⟨po1,po2⟩,ks,kn,W,E,d1,d2,d3,d4⟩:=hI
 have hkm:=List.mem_of_getElem? hk
 obtain⟨k0,k1⟩:=hg.kids k (zMl hkm)
 rw [if_neg h6]at k1
 obtain⟨q,rfl⟩:∃q:Nat,k=q:=⟨k.toNat,by omega⟩
 have hq:q < R.length:=by omega
 obtain⟨u,hu,hku⟩:=hg.keys _ hkm
 simp only [Int.toNat_natCast]at hu
 have hr:R[q]? =some R[q]:=List.getElem?_eq_getElem hq
 obtain⟨w,hw1,hw2⟩:=hmk q R[q] u hr hu
 have hrl:R[q] < Ds.length:=by
  have:=(List.getElem?_eq_some_iff.mp hw1).1
  rw [hvs.ln]; exact this
 refine⟨q,R[q],rfl,hr, ?_⟩
 have hb' :zQc s' bo so tms x:=⟨bh.get hs hb.go hbo⟩
 have hR' :Refs s' x R:=hR.beh hs bh hx
 have hlt:=fun j (hj:OfS so o la ta pl j∨j=mp)=>hst.lt hs hj
 have lbo:=hs.lt hb.go
 have hcx:yHw P s' Ds.length (Ds++ [.ifc 88 (.ptr po 0)]) Vs W:=fun i hi=>by
  have hiv:i < Vs.length:=by rw [← hvs.ln]; exact hi
  refine⟨Ds[i],Vs[i],F i,by rw [List.getElem?_append_left hi,List.getElem?_eq_getElem hi],List.getElem?_eq_getElem hiv,(hvs.at' i _ _ (List.getElem?_eq_getElem hi) (List.getElem?_eq_getElem hiv)).beh hs bh (fun j _ hj=>hF i j hj),fun j hj hw=> ?_⟩
  have:=(hvs.lt i j hj).1
  have:=(d2 j hw).1
  omega
 have hput:=put_ev (H:=H) (v:=v) hS hT hP hW hV ok' st hb' hR' hu (hok u (List.mem_of_getElem? hu)) hr hcx hrl d3 (fun w' hw' =>by rw [hw1]at hw'; simp only [Option.some.injEq]at hw'; subst hw'; exact hw2) hku gp d1 hp (fun j hj=>(d2 j hj).2.1)
  (fun j hj hw=>by have:=hlt j hj; have:=(d2 j hw).1; omega) (fun hw=>by have:=(d2 bo hw).1; omega) (fun q a l c e hw=>by
   subst e
   rcases hR with _ | ⟨hg,_⟩
   have:=hs.lt hg; have:=(d2 q hw).1; omega)
 obtain⟨d,s1,e1,⟨h,hdone⟩,e2⟩:=hput
 refine⟨d,s1,e1,e2.ok, ?_, ?_, ?_,⟨po1,by have:=e2.n; omega⟩, ?_,kn, ?_⟩
 ·exact bh.trans' e2 fun o h1 h2=>by have:=(d2 o h1).1; omega
 ·exact st.beh ok' e2 fun j hj hw=>by have:=hlt j hj; have:=(d2 j hw).1; omega
 ·exact e2.get ok' gp fun hw=>(d2 po hw).2.2.1 rfl
 ·exact ks.beh ok' e2 fun q a l c e hw=>(d2 q hw).2.2.2 q a l c e rfl
 ·refine⟨_,_,hdone,fun o ho=> ?_,d3.put hrl, ?_⟩
  ·have:=e2.n
   rcases ho with ho | ⟨ho1,ho2⟩
   ·obtain⟨a1,a2,a3,a4⟩:=d2 o ho
    exact⟨a1,by omega,a3,a4⟩
   ·have:=bh.n
    refine⟨by omega,ho2,by omega,fun q a l c e=> ?_⟩
    subst e
    rcases ks with _ | _ | ⟨_,_,hg⟩
    have:=ok'.lt hg
    omega
  ·rw [zXu]
   have e3:(R.getD ((zAo t).getD j 0).toNat 0)=R[q]:=by
    simp only [List.getD_eq_getElem?_getD,hk,Option.getD_some,Int.toNat_natCast,hr]
   rw [e3,← hv]
   exact .snoc h _ _ d4
end
theorem zGw.get {s:St}{o l c:Nat}{L:List Int}(h:zGw s (.sl o 0 l c) L):s.get o=some (.arr 1 3 (ints L) 0):=by
 generalize hx:D.sl o 0 l c=x at h
 cases h with
 | vs nl L hn=>cases hx
 | nil=>cases hx
 | sl o' L h=>
  simp only [D.sl.injEq]at hx
  obtain⟨rfl,_⟩:=hx
  exact h
section
variable {T:Nat→Option AFn}{H:zAa}{s:St}{so o la ta pl mp P Sh n lv tk bo i:Nat}{Ds:List D}{Vs:List Val}{F:Nat→Nat→Prop}{tms:List Tm}{t:Tm}{R:List Nat}{x:D}
theorem yHh (hS:TS T)(hT:TT T)(hP:TP T)(hW:TW T)(hV:TV T)(hs:s.Ok)(hp:P≤1000)(hst:StA s so o la ta pl mp P Sh Ds n lv tk)(hn:n < 2147483648)(hl:lv < 2147483648)(ht:tk < 2147483648)(hD:Ds.length+1≤mxE)
  (hvs:Vals P s F Ds Vs)(hF:∀i j,F i j→ ¬ OfS so o la ta pl j)(hb:zQc s bo so tms x)(hR:Refs s x R)(hRi:R.length=i)(hmk:Mk tms R Vs)(htm:tms[i]? =some t)(hok:∀u∈tms,u.Ok)(hg:zFa tms i t)(h7:t.kd=7∨t.kd=8∨t.kd=9)(hbo: ¬ OfS so o la ta pl bo)(hx:∀q a l c,x= .sl q a l c→ ¬ OfS so o la ta pl q):
  EvP T H 43 [.ptr bo 0,t.d] s fun d s1=>d= .int .i64 Ds.length∧∃dt E,StA s1 so o la ta pl mp P Sh (Ds++ [dt]) (n+1) (lv+1) (tk+1)∧ValAt P (fun j=>s.n≤j∧j < s1.n) s1 dt (.tbl (n+1) t.kd.toNat E)∧zGv Ds.length E∧Puts Vs P (pairs t R (zAo t).length) E∧Beh (OfS so o la ta pl) s s1:=by
 have gb:=hb.go
 have lb:=hs.lt gb
 have hkt:((t.kd.toNat:Nat):Int)=t.kd:=by omega
 have htb:=yIi (H:=H) (kd:=t.kd.toNat) hS hT hP hs hst hn hl ht hD (by omega)
 have hto:=hok t (List.mem_of_getElem? htm)
 have hkl:=hto.kids
 have hke:=fun (s' :St) (h' :s'.Ok)=>zTm (H:=H) (t:=t) hS h' hto
 have hlt:=fun j (hj:OfS so o la ta pl j∨j=mp)=>hst.lt hs hj
 have hkeven:=hg.even
 have hkids:=hg.kids
 rw [hkt]at htb
 have hput:=fun (po dv:Nat) (xk:D) (j:Nat) (s' :St) hI (k:Int) hk (v:Int) hv=>zJj.put (H:=H) hS hT hP hW hV hs hp hst hvs hF hb hR hRi hmk htm hok hg (by omega) hbo hx (po:=po) (dv:=dv) (xk:=xk) (j:=j) (s' :=s') hI (k:=k) hk (v:=v) hv
 have hTI:∀ {po dv:Nat} {xk:D} {j:Nat} {s' :St},zJj P Sh s so o la ta pl mp Ds n lv tk po dv Vs t R xk j s' →s'.get bo=some (.var 67 (.agg [.ptr so 0,.vs false 8 (tms.map Tm.d),x]))∧Refs s' x R:=fun hI=>⟨hI.bh.get hs gb hbo,hR.beh hs hI.bh hx⟩
 have fin:∀ {po dv:Nat} {xk:D} {s' :St},zJj P Sh s so o la ta pl mp Ds n lv tk po dv Vs t R xk (zAo t).length s' →∃dt E,StA s' so o la ta pl mp P Sh (Ds++ [dt]) (n+1) (lv+1) (tk+1)∧ValAt P (fun j=>s.n≤j∧j < s'.n) s' dt (.tbl (n+1) t.kd.toNat E)∧zGv Ds.length E∧Puts Vs P (pairs t R (zAo t).length) E∧Beh (OfS so o la ta pl) s s' :=by
  rintro po dv xk s' ⟨ok',bh,st,gp,⟨po1,po2⟩,ks,kn,W,E,d1,d2,d3,d4⟩
  refine⟨_,E,st,⟨po,dv,rfl,by rw [hkt]; exact gp,d1.mono fun j hj=>⟨(d2 j hj).1,(d2 j hj).2.1⟩,po1,po2⟩,d3,d4,bh⟩
 obtain⟨kd,b,ng,n1,mag,tx,n2,kids,hs',sm⟩:=t
 refine evI hS.t43 ?_
 try refine go ?_
 refine dpC htb ?_
 rintro d s1 ⟨rfl,po,dv,p1,p2,p3,p4,p5,p6,p7⟩
 refine⟨rfl,by rfl, ?_⟩
 have ok1:=p7.ok
 have gb1:=p7.get hs gb hbo
 try refine go ?_
 refine clE (zAb hS p6 (i:=Ds.length) (by rw [List.getElem?_append_right (Nat.le_refl _),Nat.sub_self]; rfl)) ?_
 rintro d s1 ⟨rfl,rfl⟩
 try refine go ?_
 refine clE (hke _ ok1) ?_
 rintro xk s2 ⟨q1,q2,q3⟩
 have inv0:zJj P Sh s so o la ta pl mp Ds n lv tk po dv Vs ⟨kd,b,ng,n1,mag,tx,n2,kids,hs',sm⟩ R xk 0 s2:=by
  refine⟨q3.ok,p7.trans (q3.mono fun _ h=>h.elim),p6.nil ok1 q3,q3.get ok1 p3 (fun h=>h),⟨p1,by have:=q3.n; omega⟩,q1,fun o a l c e=>by have:=q2 o a l c e; have:=p7.n; omega,_,[],p5.beh ok1 q3 (fun _ _ _ h=>h),fun o ho=> ?_,fun m e hm=>by simp at hm,.nil⟩
  have:=q3.n
  exact⟨ho.1,by omega,ho.2.2,fun q a l c e=>by have:=q2 q a l c e; omega⟩
 have hkl2:=zIa ⟨kd,b,ng,n1,mag,tx,n2,kids,hs',sm⟩
 have hil:=zAp (zAo ⟨kd,b,ng,n1,mag,tx,n2,kids,hs',sm⟩)
 have hil2:=zAp kids
 generalize hK:zAo ⟨kd,b,ng,n1,mag,tx,n2,kids,hs',sm⟩=K at *
 rcases q1 with ⟨nl,K,hn0⟩ | _ | ⟨ko,K,hko⟩
 ·try refine go ?_
  refine zAh K.length (fun j=> [(0,.ptr bo 0),(3,.lv (Tm.d ⟨kd,b,ng,n1,mag,tx,n2,kids,hs',sm⟩)),(5,.int .i64 (Ds.length:Nat)),(6,.ptr po 0),(32,.vs nl 1 (ints K)),(33,.int .i64 ((ints K).length:Nat)),(34,.int .i64 (j:Nat))]) (fun j s' =>zJj P Sh s so o la ta pl mp Ds n lv tk po dv Vs ⟨kd,b,ng,n1,mag,tx,n2,kids,hs',sm⟩ R (.vs nl 1 (ints K)) j s') inv0 ?_
  intro j s3 hj hI
  obtain⟨gb3,hR3⟩:=hTI hI
  rcases Nat.lt_or_ge j K.length with hlt' | hge
  ·have hk:K[j]? =some K[j]:=List.getElem?_eq_getElem hlt'
   have hki:(ints K)[j]? =some (.int .i64 K[j]):=zDk hk
   have hki0:(ints K)[0+j]? =some (.int .i64 K[j]):=by rw [Nat.zero_add]; exact hki
   by_cases h70:kd=7
   ·subst h70
    have e7:K=evens kids:=by rw [← hK]; simp [zAo]
    have el:=zFe kids
    have hev:=hkeven rfl
    simp only at hev
    have h2:2 * j+1 < kids.length:=by rw [e7]at hlt'; omega
    have hk2:kids[2 * j+1]? =some kids[2 * j+1]:=List.getElem?_eq_getElem h2
    have hki2:(ints kids)[2 * j+1]? =some (.int .i64 kids[2 * j+1]):=zDk hk2
    obtain⟨k0,k1⟩:=hkids kids[2 * j+1] (List.getElem_mem h2)
    rw [if_neg (by simp)]at k1
    obtain⟨q2,hq2⟩:∃q2:Nat,kids[2 * j+1]=q2:=⟨kids[2 * j+1].toNat,by omega⟩
    have hR2:R[q2]? =some (R[q2]'(by omega)):=List.getElem?_eq_getElem (by omega)
    rw [hq2]at hki2
    obtain⟨ra,hxe,gra,gar,gl⟩:=hR3.at' hR2
    have hrl:=zBt R
    have hpt:=hput po dv (.vs nl 1 (ints K)) j s3 hI K[j] hk (R[q2]'(by omega):Nat) (by simp only [if_true,List.getD_eq_getElem?_getD,hk2,Option.getD_some,hq2,Int.toNat_natCast,hR2])
    obtain⟨q,r,hkq,hrq,hpt⟩:=hpt
    have w1:IntKind.wrap .i64 (2 * (j:Int))=((2 * j:Nat):Int):=by simp only at hkl; rw [wrap_small (by omega) (by omega)]; omega
    have w2:IntKind.wrap .i64 (((2 * j:Nat):Int)+1)=((2 * j+1:Nat):Int):=by simp only at hkl; rw [wrap_small (by omega) (by omega)]; omega
    rw [hxe]at gb3
    try refine go ?_
    simp only [w1,w2]
    try refine go ?_
    refine clE hpt ?_
    intro d s4 hI4
    try refine go ?_
    exact rtC hlt' hI4
   ·have hpt:=hput po dv (.vs nl 1 (ints K)) j s3 hI K[j] hk 0 (by simp only [if_neg h70])
    obtain⟨q,r,hkq,hrq,hpt⟩:=hpt
    try refine go ?_
    refine clE hpt ?_
    intro d s4 hI4
    try refine go ?_
    exact rtC hlt' hI4
  ·obtain rfl:j=K.length:=by omega
   try refine go ?_
   exact rtF ⟨rfl,fin hI⟩
 ·try refine go ?_
  refine zCr ?_
  try refine go ?_
  exact rtF ⟨rfl,fin inv0⟩
 ·try refine go ?_
  refine zAh K.length (fun j=> [(0,.ptr bo 0),(3,.lv (Tm.d ⟨kd,b,ng,n1,mag,tx,n2,kids,hs',sm⟩)),(5,.int .i64 (Ds.length:Nat)),(6,.ptr po 0),(32,.sl ko 0 K.length K.length),(33,.int .i64 (K.length:Nat)),(34,.int .i64 (j:Nat))]) (fun j s' =>zJj P Sh s so o la ta pl mp Ds n lv tk po dv Vs ⟨kd,b,ng,n1,mag,tx,n2,kids,hs',sm⟩ R (.sl ko 0 K.length K.length) j s') inv0 ?_
  intro j s3 hj hI
  obtain⟨gb3,hR3⟩:=hTI hI
  rcases Nat.lt_or_ge j K.length with hlt' | hge
  ·have hk:K[j]? =some K[j]:=List.getElem?_eq_getElem hlt'
   have hki:(ints K)[j]? =some (.int .i64 K[j]):=zDk hk
   have hki0:(ints K)[0+j]? =some (.int .i64 K[j]):=by rw [Nat.zero_add]; exact hki
   have hko3:s3.get ko=some (.arr 1 3 (ints K) 0):=by
    have:=hI.ks
    rw [hK]at this
    exact this.get
   by_cases h70:kd=7
   ·subst h70
    have e7:K=evens kids:=by rw [← hK]; simp [zAo]
    have el:=zFe kids
    have hev:=hkeven rfl
    simp only at hev
    have h2:2 * j+1 < kids.length:=by rw [e7]at hlt'; omega
    have hk2:kids[2 * j+1]? =some kids[2 * j+1]:=List.getElem?_eq_getElem h2
    have hki2:(ints kids)[2 * j+1]? =some (.int .i64 kids[2 * j+1]):=zDk hk2
    obtain⟨k0,k1⟩:=hkids kids[2 * j+1] (List.getElem_mem h2)
    rw [if_neg (by simp)]at k1
    obtain⟨q2,hq2⟩:∃q2:Nat,kids[2 * j+1]=q2:=⟨kids[2 * j+1].toNat,by omega⟩
    have hR2:R[q2]? =some (R[q2]'(by omega)):=List.getElem?_eq_getElem (by omega)
    rw [hq2]at hki2
    obtain⟨ra,hxe,gra,gar,gl⟩:=hR3.at' hR2
    have hrl:=zBt R
    have hpt:=hput po dv (.sl ko 0 K.length K.length) j s3 hI K[j] hk (R[q2]'(by omega):Nat) (by simp only [if_true,List.getD_eq_getElem?_getD,hk2,Option.getD_some,hq2,Int.toNat_natCast,hR2])
    obtain⟨q,r,hkq,hrq,hpt⟩:=hpt
    have w1:IntKind.wrap .i64 (2 * (j:Int))=((2 * j:Nat):Int):=by simp only at hkl; rw [wrap_small (by omega) (by omega)]; omega
    have w2:IntKind.wrap .i64 (((2 * j:Nat):Int)+1)=((2 * j+1:Nat):Int):=by simp only at hkl; rw [wrap_small (by omega) (by omega)]; omega
    rw [hxe]at gb3
    try refine go ?_
    simp only [w1,w2]
    try refine go ?_
    refine clE hpt ?_
    intro d s4 hI4
    try refine go ?_
    exact rtC hlt' hI4
   ·have hpt:=hput po dv (.sl ko 0 K.length K.length) j s3 hI K[j] hk 0 (by simp only [if_neg h70])
    obtain⟨q,r,hkq,hrq,hpt⟩:=hpt
    try refine go ?_
    refine clE hpt ?_
    intro d s4 hI4
    try refine go ?_
    exact rtC hlt' hI4
  ·obtain rfl:j=K.length:=by omega
   try refine go ?_
   exact rtF ⟨rfl,fin hI⟩
end
inductive zQa (P:Nat)(Vs:List Val)(R:List Nat)(t:Tm)(n:Nat):List Val→Nat→Nat→Prop
 | none (h:t.kd=1):zQa P Vs R t n [] 0 n
 | bool (h:t.kd=2):zQa P Vs R t n [] (if t.b then 2 else 1) n
 | int (h:t.kd=3):zQa P Vs R t n [.int (zPp t.ng t.mag)] Vs.length n
 | str (h:t.kd=4):zQa P Vs R t n [.str t.tx] Vs.length n
 | row (h:t.kd=5∨t.kd=6):zQa P Vs R t n [.row (n+1) t.kd.toNat (List.replicate t.kids.length 0)] Vs.length (n+1)
 | tbl (h:t.kd=7∨t.kd=8∨t.kd=9) (E:List Ent) (hk:zGv Vs.length E) (hp:Puts Vs P (pairs t R (zAo t).length) E):zQa P Vs R t n [.tbl (n+1) t.kd.toNat E] Vs.length (n+1)
 | inst (h:t.kd=14):zQa P Vs R t n [.cls (n+1) t.hs t.sm,.inst (n+2) Vs.length] (Vs.length+1) (n+2)
 | view (h:t.kd=15∨t.kd=16∨t.kd=17) (k:Int) (hk:t.kids=[k]) (r:Nat) (hr:R[k.toNat]? =some r):zQa P Vs R t n [.view (n+1) t.kd.toNat r] Vs.length (n+1)
structure MkCx (P Sh:Nat)(s:St)(so o la ta pl mp n lv tk bo:Nat)(Ds:List D)(Vs:List Val)(F:Nat→Nat→Prop)(tms:List Tm)(R:List Nat)(x:D):Prop where
 ok:s.Ok
 pb:P≤1000
 sb:Sh≤256
 st:StA s so o la ta pl mp P Sh Ds n lv tk
 nb:n < 1000000000
 lb:lv < 1000000000
 tb:tk < 1000000000
 ds:Ds.length < 1000000000
 vs:Vals P s F Ds Vs
 hF:∀i j,F i j→ ¬ OfS so o la ta pl j∧j≠bo∧∀q a l c,x= .sl q a l c→j≠q
 bl:zQc s bo so tms x
 rf:Refs s x R
 md:Mk tms R Vs
 b0: ¬ OfS so o la ta pl bo∧bo≠mp
 x0:∀q a l c,x= .sl q a l c→ ¬ OfS so o la ta pl q∧q≠mp∧q≠bo
 tm:∀u∈tms,u.Ok
def zQh (P Sh:Nat)(s:St)(so o la ta pl mp n lv tk:Nat)(Ds:List D)(Vs:List Val)(F:Nat→Nat→Prop)(t:Tm)(R:List Nat)(d:D)(s1:St):Prop:=
 ∃Dn Vn r n' tk' F',zQa P Vs R t n Vn r n' ∧d= .int .i64 (r:Nat)∧StA s1 so o la ta pl mp P Sh (Ds++Dn) n' (lv+(n' - n)) tk' ∧tk' ≤tk+2∧Vals P s1 F' (Ds++Dn) (Vs++Vn)∧(∀i j,F' i j→F i j∨s.n≤j∨U32 s1 j)∧Beh (OfS so o la ta pl) s s1
section
variable {P Sh:Nat}{s s1:St}{so o la ta pl mp n lv tk bo:Nat}{Ds:List D}{Vs:List Val}{F:Nat→Nat→Prop}{tms:List Tm}{t:Tm}{R:List Nat}{x d:D}
theorem zQh.zero (h:MkCx P Sh s so o la ta pl mp n lv tk bo Ds Vs F tms R x){r:Nat}(hm:zQa P Vs R t n [] r n):zQh P Sh s so o la ta pl mp n lv tk Ds Vs F t R (.int .i64 (r:Nat)) s:=by
 refine⟨[],[],r,n,tk,F,hm,rfl, ?_,by omega, ?_,fun i j h=> .inl h,Beh.refl h.ok⟩
 ·rw [List.append_nil,Nat.sub_self]; exact h.st
 ·rw [List.append_nil,List.append_nil]; exact h.vs
theorem zQh.one (h:MkCx P Sh s so o la ta pl mp n lv tk bo Ds Vs F tms R x){v:Val}{dv:D} {n' tk' :Nat}{G:Nat→Prop}(hm:zQa P Vs R t n [v] Vs.length n')(hst:StA s1 so o la ta pl mp P Sh (Ds++ [dv]) n' (lv+(n' - n)) tk')(ht:tk' ≤tk+2)(hv:ValAt P G s1 dv v)(hG:∀o,G o→(s.n≤o∧o < s1.n)∨U32 s1 o)(hb:Beh (OfS so o la ta pl) s s1):
  zQh P Sh s so o la ta pl mp n lv tk Ds Vs F t R (.int .i64 (Ds.length:Nat)) s1:=by
 have hvs:=h.vs.snoc h.ok hb (fun i j hj=>(h.hF i j hj).1) hv hG
 refine⟨[dv],[v],Vs.length,n',tk',_,hm,by rw [h.vs.ln],hst,ht,hvs,fun i j hj=> ?_,hb⟩
 simp only [more]at hj
 split at hj
 ·rcases hG j hj with h1 | h1
  ·exact .inr (.inl h1.1)
  ·exact .inr (.inr h1)
 ·exact .inl hj
end
section
variable {T:Nat→Option AFn}{H:zAa}{P Sh:Nat}{s:St}{so o la ta pl mp n lv tk bo:Nat}{Ds:List D}{Vs:List Val}{F:Nat→Nat→Prop}{tms:List Tm}{t:Tm}{R:List Nat}{x:D}
theorem mk_none (hS:TS T)(h:MkCx P Sh s so o la ta pl mp n lv tk bo Ds Vs F tms R x)(h1:t.kd=1):EvP T H 20 [.ptr bo 0,t.d] s (zQh P Sh s so o la ta pl mp n lv tk Ds Vs F t R):=by
 have hr:=zQh.zero h (zQa.none h1)
 obtain⟨kd,b,ng,n1,mag,tx,n2,kids,hs',sm⟩:=t
 simp only at h1; subst h1
 refine evI hS.t20 ?_
 try refine go ?_
 exact rtF hr
theorem mk_bool (hS:TS T)(h:MkCx P Sh s so o la ta pl mp n lv tk bo Ds Vs F tms R x)(h1:t.kd=2):EvP T H 20 [.ptr bo 0,t.d] s (zQh P Sh s so o la ta pl mp n lv tk Ds Vs F t R):=by
 have hr:=zQh.zero h (zQa.bool h1)
 obtain⟨kd,b,ng,n1,mag,tx,n2,kids,hs',sm⟩:=t
 simp only at h1; subst h1
 refine evI hS.t20 ?_
 cases b
 ·repeat' first | refine go ?_ | refine zAi hS.t38 ?_
  exact rtF hr
 ·repeat' first | refine go ?_ | refine zAi hS.t38 ?_
  exact rtF hr
theorem mk_str (hS:TS T)(h:MkCx P Sh s so o la ta pl mp n lv tk bo Ds Vs F tms R x)(ho:t.Ok)(h1:t.kd=4):EvP T H 20 [.ptr bo 0,t.d] s (zQh P Sh s so o la ta pl mp n lv tk Ds Vs F t R):=by
 have hds:=h.ds; have htk:=h.tb; have hs:=h.ok
 have hst:=str_ev (H:=H) (x:=t.tx) hS h.ok h.st (by omega) (by simp only [mxE]; omega)
 have htx:=ho.tx
 have hm:zQa P Vs R t n [.str t.tx] Vs.length n:=zQa.str h1
 have gb:=h.bl.go
 have key:∀ {s1:St},StA s1 so o la ta pl mp P Sh (Ds++ [.ifc 86 (.agg [.str t.tx])]) n lv (tk+1)→Beh (OfS so o la ta pl) s s1→zQh P Sh s so o la ta pl mp n lv tk Ds Vs F t R (.int .i64 (Ds.length:Nat)) s1:=fun q1 q2=>
  zQh.one h (G:=fun _=>False) hm (by rw [Nat.sub_self]; exact q1) (by omega) ⟨rfl,by omega⟩ (fun _ h=>h.elim) q2
 obtain⟨kd,b,ng,n1,mag,tx,n2,kids,hs',sm⟩:=t
 simp only at h1; subst h1
 refine evI hS.t20 ?_
 try refine go ?_
 refine dpC hst ?_
 rintro d s1 ⟨rfl,q1,q2⟩
 refine⟨rfl,by rfl, ?_⟩
 try refine go ?_
 exact rtF (key q1 q2)
theorem mk_int (hS:TS T)(hW:TW T)(h:MkCx P Sh s so o la ta pl mp n lv tk bo Ds Vs F tms R x)(ho:t.Ok)(h1:t.kd=3):EvP T H 20 [.ptr bo 0,t.d] s (zQh P Sh s so o la ta pl mp n lv tk Ds Vs F t R):=by
 have hds:=h.ds; have htk:=h.tb; have hs:=h.ok
 have hmag:=ho.mag
 have hfl:=zHc t.ng t.mag
 have hfl2:(zPp t.ng t.mag).2.length≤100000000:=by omega
 have hf:=zVd (H:=H) (n:=(t.ng,t.mag)) hW h.ok ⟨_,rfl,.vs t.n1 t.mag ho.n1⟩ (by simp only [mxE]; omega)
 have hm:zQa P Vs R t n [.int (zPp t.ng t.mag)] Vs.length n:=zQa.int h1
 have gb:=h.bl.go
 obtain⟨kd,b,ng,n1,mag,tx,n2,kids,hs',sm⟩:=t
 simp only at h1 hf; subst h1
 refine evI hS.t20 ?_
 try refine go ?_
 refine dpC hf ?_
 rintro d s1 ⟨⟨y,rfl,hy⟩,b1⟩
 have gb1:=b1.get h.ok gb (fun h=>h)
 have ok1:=b1.ok
 refine⟨rfl,by simp [lost,AOp.kind,lAs,zAf,fpOf,wtD,fpRd,fpRd.objs,fpRg,Opd.ev,Env.get,sOb,D.flat,D.isAgg,cEq,D.beqs,D.beq,Nat.beq_refl,Obj.beq_rfl,laR,soR,D.bsR,D.beq_rfl,gb,gb1], ?_⟩
 have hin:=int_ev (H:=H) (m:=zPp ng mag) hS b1.ok (h.st.nil h.ok b1) (by omega) (by simp only [mxE]; omega) hy
 have key:∀ {s2:St},StA s2 so o la ta pl mp P Sh (Ds++ [.ifc 102 (.agg [.bool (zPp ng mag).1,y])]) n lv (tk+1)→Beh (OfS so o la ta pl) s1 s2→zQh P Sh s so o la ta pl mp n lv tk Ds Vs F ⟨3,b,ng,n1,mag,tx,n2,kids,hs',sm⟩ R (.int .i64 (Ds.length:Nat)) s2:=fun {s2} q1 q2=>by
  have hnW:∀o' a l c,y= .sl o' a l c→ ¬ OfS so o la ta pl o' :=fun q a l c e hh=>by
   subst e
   rcases hy with _ | _ | ⟨_,_,_,_,hg,_⟩
   have st1:=h.st.nil h.ok b1
   rcases hh with e | e | e | e | e <;> rw [e]at hg
   ·rw [st1.go]at hg; cases hg
   ·rw [st1.sl.go]at hg; cases hg
   ·rw [st1.sl.gl]at hg; simp at hg
   ·rw [st1.sl.gt]at hg; simp at hg
   ·rw [st1.gp]at hg; cases hg
  have hy2:=hy.beh' b1.ok q2 hnW
  refine zQh.one h (G:=U32 s2) hm (by rw [Nat.sub_self]; exact q1) (by omega) ⟨y,rfl,hy2,fun q a l c e=> ?_,hfl2⟩ (fun _ h=> .inr h) ((b1.mono fun _ h=>h.elim).trans q2)
  subst e
  rcases hy2 with _ | _ | ⟨_,_,_,_,hg,_⟩
  exact⟨_,_,hg⟩
 rcases hy.sh with ⟨nl,z,l,rfl⟩ | ⟨o',l,c,rfl⟩
 all_goals
  try refine go ?_
  refine dpC hin ?_
  rintro d s2 ⟨rfl,q1,q2⟩
  refine⟨rfl,by rfl, ?_⟩
  try refine go ?_
  exact rtF (key q1 q2)
end
section
variable {T:Nat→Option AFn}{H:zAa}{P Sh:Nat}{s:St}{so o la ta pl mp n lv tk bo i:Nat}{Ds:List D}{Vs:List Val}{F:Nat→Nat→Prop}{tms:List Tm}{t:Tm}{R:List Nat}{x:D}
theorem mk_row (hS:TS T)(h:MkCx P Sh s so o la ta pl mp n lv tk bo Ds Vs F tms R x)(ho:t.Ok)(h1:t.kd=5∨t.kd=6):EvP T H 20 [.ptr bo 0,t.d] s (zQh P Sh s so o la ta pl mp n lv tk Ds Vs F t R):=by
 have hds:=h.ds; have htk:=h.tb; have hnn:=h.nb; have hll:=h.lb
 have hkl:=ho.kids
 have hs:=h.ok
 have hm:zQa P Vs R t n [.row (n+1) t.kd.toNat (List.replicate t.kids.length 0)] Vs.length (n+1):=zQa.row h1
 have hkt:((t.kd.toNat:Nat):Int)=t.kd:=by omega
 have gb:=h.bl.go
 have lb:=hs.lt gb
 have hlt:=fun j (hj:OfS so o la ta pl j∨j=mp)=>h.st.lt hs hj
 have key:∀ {s2:St} {ro:Nat},s.n≤ro→ro < s2.n→s2.get ro=some (.var 76 (.agg [.int .i64 (n+1:Nat),.sl (s.n+0) 0 (ints t.kids).length (ints t.kids).length,.int .i64 t.kd]))→s2.get (s.n+0)=some (.arr 1 3 (List.replicate (ints t.kids).length (.int .i64 0)) 0)→s.n+0 < s2.n→
   StA s2 so o la ta pl mp P Sh (Ds++ [.ifc 70 (.ptr ro 0)]) (n+1) (lv+1) (tk+1)→Beh (OfS so o la ta pl) s s2→zQh P Sh s so o la ta pl mp n lv tk Ds Vs F t R (.int .i64 (Ds.length:Nat)) s2:=fun {s2 ro} r1 r2 r3 r4 r5 q1 q2=>by
  refine zQh.one h (G:=fun j=>s.n≤j∧j < s2.n) hm (by rw [show n+1 - n=1 by omega]; exact q1) (by omega) ⟨ro,s.n+0,0,rfl, ?_, ?_,Nat.zero_le _,⟨r1,r2⟩,by omega,r5⟩ (fun _ h=> .inl h) q2
  ·rw [hkt,List.length_replicate,← zAp t.kids]; exact r3
  ·rw [zAp]at r4
   rw [r4,ints,List.map_replicate]
 obtain⟨kd,b,ng,n1,mag,tx,n2,kids,hs',sm⟩:=t
 have hil:=zAp kids
 simp only at h1 hkl key
 refine evI hS.t20 ?_
 rcases h1 with rfl | rfl
 all_goals
  try refine go ?_
  refine zDs (dl:= .int .i64 ((ints kids).length:Nat)) (dc:= .int .i64 ((ints kids).length:Nat)) zPz zPz (Nat.le_refl _) (by omega) (by simp only [mxE]; omega) ?_
  try refine go ?_
  have c3:Beh Nil s ((s.up 1).set0 (s.n+0) (.arr 1 3 (List.replicate (ints kids).length (.int .i64 0)) 0)):=Beh.set ((Beh.refl hs).up 1) _ (by rw [St.n_up]; omega) (fun hh=>by omega)
  have c1:=c3.ok
  refine dpC (row_ev hS c1 (h.st.nil hs c3) (by omega) (by omega) (by omega) (by simp only [mxE]; omega)) ?_
  rintro d s2 ⟨rfl,ro,r1,r2,r3,r4,r5⟩
  have e1:=c3.get hs gb (fun hj=>hj)
  have e2:=r5.get c1 e1 h.b0.1
  refine⟨rfl,by simp [lost,AOp.kind,lAs,zAf,fpOf,wtD,fpRd,fpRd.objs,fpRg,Opd.ev,Env.get,sOb,D.flat,D.isAgg,cEq,D.beqs,D.beq,Nat.beq_refl,Obj.beq_rfl,laR,soR,D.bsR,D.beq_rfl,e1,e2], ?_⟩
  try refine go ?_
  have z1:=r5.n
  simp only [St.nS0,St.n_up]at z1 r1
  have e3:=r5.get (o:=s.n+0) c1 St.gsE (fun hh=>by have:=hlt (s.n+0) (.inl hh); omega)
  exact rtF (key (by omega) r2 r3 e3 (by omega) r4 ((c3.mono fun _ h=>h.elim).trans r5))
theorem mk_tbl (hS:TS T)(hT:TT T)(hP:TP T)(hW:TW T)(hV:TV T)(h:MkCx P Sh s so o la ta pl mp n lv tk bo Ds Vs F tms R x)(htm:tms[R.length]? =some t)(hg:zFa tms R.length t)(h1:t.kd=7∨t.kd=8∨t.kd=9):EvP T H 20 [.ptr bo 0,t.d] s (zQh P Sh s so o la ta pl mp n lv tk Ds Vs F t R):=by
 have hds:=h.ds; have htk:=h.tb; have hnn:=h.nb; have hll:=h.lb
 have hbt:=yHh (H:=H) hS hT hP hW hV h.ok h.pb h.st (by omega) (by omega) (by omega) (by simp only [mxE]; omega) h.vs (fun i j hj=>(h.hF i j hj).1) h.bl h.rf rfl h.md htm h.tm hg h1 h.b0.1 (fun q a l c e=>(h.x0 q a l c e).1)
 have hres:∀ {s1:St},(∃dt E,StA s1 so o la ta pl mp P Sh (Ds++ [dt]) (n+1) (lv+1) (tk+1)∧ValAt P (fun j=>s.n≤j∧j < s1.n) s1 dt (.tbl (n+1) t.kd.toNat E)∧zGv Ds.length E∧Puts Vs P (pairs t R (zAo t).length) E∧Beh (OfS so o la ta pl) s s1)→zQh P Sh s so o la ta pl mp n lv tk Ds Vs F t R (.int .i64 (Ds.length:Nat)) s1:=by
  rintro s1 ⟨dt,E,q1,q2,q3,q4,q5⟩
  exact zQh.one h (zQa.tbl h1 E (by rw [← h.vs.ln]; exact q3) q4) (by rw [show n+1 - n=1 by omega]; exact q1) (by omega) q2 (fun _ h=> .inl h) q5
 obtain⟨kd,b,ng,n1,mag,tx,n2,kids,hs',sm⟩:=t
 simp only at h1 hbt hres
 refine evI hS.t20 ?_
 rcases h1 with rfl | rfl | rfl
 all_goals
  try refine go ?_
  refine clE hbt ?_
  rintro d s1 ⟨rfl,hq⟩
  try refine go ?_
  exact rtF (hres hq)
theorem mk_view (hS:TS T)(h:MkCx P Sh s so o la ta pl mp n lv tk bo Ds Vs F tms R x)(hg:zFa tms R.length t)(h1:t.kd=15∨t.kd=16∨t.kd=17):EvP T H 20 [.ptr bo 0,t.d] s (zQh P Sh s so o la ta pl mp n lv tk Ds Vs F t R):=by
 have hds:=h.ds; have htk:=h.tb; have hnn:=h.nb; have hll:=h.lb
 have hs:=h.ok
 have gb:=h.bl.go
 have hv1:=hg.view (by omega)
 have hk1:=hg.kids
 have hkt:((t.kd.toNat:Nat):Int)=t.kd:=by omega
 obtain⟨k,hk⟩:∃k,t.kids=[k]:=List.length_eq_one_iff.mp hv1
 obtain⟨k0,k2⟩:=hk1 k (by rw [hk]; simp)
 rw [if_neg (by omega)]at k2
 obtain⟨q,rfl⟩:∃q:Nat,k=q:=⟨k.toNat,by omega⟩
 have hq:R[q]? =some (R[q]'(by omega)):=List.getElem?_eq_getElem (by omega)
 have hm:=zQa.view (P:=P) (Vs:=Vs) (n:=n) h1 q hk (R[q]'(by omega)) (by rw [Int.toNat_natCast]; exact hq)
 obtain⟨ra,hxe,gra,gar,gl⟩:=h.rf.at' hq
 have hrl:=zBt R
 generalize R[q]'(by omega)=r at hm gar
 have hvw:=view_ev (H:=H) (kd:=t.kd) (v:=(r:Nat)) hS hs h.st (by omega) (by omega) (by omega) (by simp only [mxE]; omega)
 have hres:∀ {s1:St},(∃ro,s.n≤ro∧ro < s1.n∧s1.get ro=some (.var 96 (.agg [.int .i64 (n+1:Nat),.int .i64 (r:Nat),.int .i64 t.kd]))∧StA s1 so o la ta pl mp P Sh (Ds++ [.ifc 92 (.ptr ro 0)]) (n+1) (lv+1) (tk+1)∧Beh (OfS so o la ta pl) s s1)→zQh P Sh s so o la ta pl mp n lv tk Ds Vs F t R (.int .i64 (Ds.length:Nat)) s1:=by
  rintro s1 ⟨ro,q1,q2,q3,q4,q5⟩
  exact zQh.one h (G:=fun j=>s.n≤j∧j < s1.n) hm (by rw [show n+1 - n=1 by omega]; exact q4) (by omega) ⟨ro,rfl,by rw [hkt]; exact q3,q1,q2⟩ (fun _ h=> .inl h) q5
 obtain⟨kd,b,ng,n1,mag,tx,n2,kids,hs',sm⟩:=t
 simp only at h1 hvw hres hk
 subst hk
 rw [hxe]at gb
 have hki:(ints [(q:Int)])[0]? =some (.int .i64 (q:Nat)):=rfl
 refine evI hS.t20 ?_
 rcases h1 with rfl | rfl | rfl
 all_goals
  try refine go ?_
  refine dpC hvw ?_
  rintro d s1 ⟨rfl,hq⟩
  refine⟨rfl,by rfl, ?_⟩
  try refine go ?_
  exact rtF (hres hq)
end
end Go.Proofs.YtmcdajnpdekocaaGreatDoor.Tab
