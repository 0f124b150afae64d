/- Part. -/
import Derived.Test.YtmcdajnpdekocaaGreatDoorG48
set_option linter.unusedSectionVars false
set_option linter.unusedSimpArgs false
set_option linter.unusedVariables false
set_option maxRecDepth 100000
set_option maxHeartbeats 1000000
namespace Go.Proofs.YtmcdajnpdekocaaGreatDoor.Tab
open Go Go.Ab Go.Ab.Sm
theorem zIf (s:ByteArray)(i:Nat):1≤(Utf8.decode s i).2:=by
 unfold Utf8.decode
 simp only
 repeat' split
 all_goals simp
def zBp (l:List UInt8)(pos:Nat):Nat:=if h:pos < l.length then zBp l (pos+(Utf8.decode ⟨l.toArray⟩ pos).2)+1 else 0
 termination_by l.length - pos
 decreasing_by have:=zIf ⟨l.toArray⟩ pos; omega
theorem zIj {l:List UInt8}{pos:Nat}(h:pos < l.length):zBp l pos=zBp l (pos+(Utf8.decode ⟨l.toArray⟩ pos).2)+1:=by rw [zBp,dif_pos h]
theorem zFg {l:List UInt8}{pos:Nat}(h: ¬ pos < l.length):zBp l pos=0:=by rw [zBp,dif_neg h]
theorem zFf (l:List UInt8):∀(m pos:Nat),l.length - pos≤m→zBp l pos≤l.length - pos
 | 0,pos,h=>by rw [zFg (by omega)]; omega
 | m+1,pos,h=>by
  by_cases hp:pos < l.length
  ·have:=zIf ⟨l.toArray⟩ pos
   rw [zIj hp]
   have:=zFf l m (pos+(Utf8.decode ⟨l.toArray⟩ pos).2) (by omega)
   omega
  ·rw [zFg hp]; omega
theorem range_op {s:St}{e:Env}{x:Opd}{l:List UInt8}(hs:s.Ok)(hx:x.ev e=some (.str l)):opF zAq e s none (.range x)=some (.ptr s.n 0,s.push0 (.siter l 0)):=by
 simp only [opF,hx,hs.mkN]
theorem nexts_T {s:St}{e:Env}{x:Opd}{o pos:Nat}{l:List UInt8}(hs:s.Ok)(hx:x.ev e=some (.ptr o 0))(hg:s.get o=some (.siter l pos))(h:pos < l.length):opF zAq e s none (.nexts x)=some (.tup [.bool true,goI pos,.int .i32 (Utf8.decode ⟨l.toArray⟩ pos).1],s.set0 o (.siter l (pos+(Utf8.decode ⟨l.toArray⟩ pos).2))):=by
 have hb:Nat.blt pos l.length=true:=Nat.ble_eq_true_of_le h
 simp only [opF,hx,hg,hb,hs.set,ofS]
theorem nexts_F {s:St}{e:Env}{x:Opd}{o pos:Nat}{l:List UInt8}(hx:x.ev e=some (.ptr o 0))(hg:s.get o=some (.siter l pos))(h: ¬ pos < l.length):opF zAq e s none (.nexts x)=some (.tup [.bool false],s):=by
 have hb:Nat.blt pos l.length=false:=by
  cases hc:Nat.blt pos l.length with
  | false=>rfl
  | true=>exact absurd (Nat.le_of_ble_eq_true hc) h
 simp only [opF,hx,hg,hb]
section
variable {T:Nat→Option AFn}{H:zAa}{s:St}
def LenInv (s:St)(l:List UInt8)(m:Nat)(env:Env) (s' :St):Prop:=Beh Nil s s' ∧∃pos c,l.length - pos≤m∧s'.get s.n=some (.siter l pos)∧c+zBp l pos=zBp l 0∧c≤l.length∧env=[(3,.int .i64 ((c:Nat):Int)),(5,.ptr s.n 0)]
theorem Len_ev (hS:TS T)(hs:s.Ok){l:List UInt8}(hl:l.length≤1000000000):EvP T H 26 [.str l] s fun d s1=>d= .int .i64 (zBp l 0:Nat)∧Beh Nil s s1:=by
 have h0:=zFf l l.length 0 (by omega)
 refine evI hS.t26 ?_
 try refine go ?_
 refine zDp ?_ rfl (range_op hs rfl)
 try refine go ?_
 refine zAm (LenInv s l) l.length rfl ⟨Beh.push (Beh.refl hs) _,0,0,by omega,St.gpE,by omega,by omega,rfl⟩ ?_
 rintro m env s1 ⟨b1,pos,c,hm,hg,hc,hcl,rfl⟩
 have ok1:=b1.ok
 have ln:=ok1.lt hg
 by_cases hp:pos < l.length
 ·have hd:=zIf ⟨l.toArray⟩ pos
  have hr:=zIj hp
  have hle:=zFf l l.length pos (by omega)
  try refine go ?_
  refine zDp ?_ rfl (nexts_T ok1 rfl hg hp)
  try refine go ?_
  exact rtN (m - 1) (by omega) rfl ⟨Beh.set b1 _ ln (fun h=>by omega),_,c+1,by omega,St.gsE,by omega,by omega,rfl⟩
 ·have hr:=zFg hp
  try refine go ?_
  refine zDp ?_ rfl (nexts_F rfl hg hp)
  try refine go ?_
  exact rtF ⟨by rw [show zBp l 0=c by omega],b1⟩
end
theorem yIg (ng:Bool){V:List Nat}(hl:V.length≤100000)(hw:∀v∈V,v < 4294967296):(zRb ng V).length≤4000000:=by
 unfold zRb
 split
 ·simp
 ·have key:∀L:List Nat,(L.flatMap dig9).length=9 * L.length:=by
   intro L
   induction L with
   | nil=>rfl
   | cons a r ih=>rw [List.flatMap_cons,List.length_append,ih,List.length_cons]; simp only [dig9,List.length_map,List.length_cons,List.length_nil]; omega
  have h1:=(List.dropWhile_sublist (l:=zBq (zAd (valN V))) (· ==48)).length_le
  have h2:(zBq (zAd (valN V))).length=9 * (zAd (valN V)).length:=by rw [zBq,key,List.length_reverse]
  have h3:=zJz hw
  rw [List.length_append]
  split <;> simp only [List.length_cons,List.length_nil] <;> omega
section
variable {T:Nat→Option AFn}{H:zAa}{s:St}{so bo k:Nat}{x:D}{tms:List Tm}{t:Tm}
theorem yAa (hS:TS T)(hW:TW T)(hV:TV T)(hX:TX T)(hs:s.Ok)(hb:zQc s bo so tms x)(hk:tms[k]? =some t)(ho:t.Ok)(hwd:∀v∈t.mag,v < 4294967296)(hk2:k < 100):
  EvP T H 69 [.ptr bo 0,.int .i64 (k:Nat)] s fun d s1=>(∃l,d= .str l)∧Beh Nil s s1:=by
 have hg:=hb.go
 have ha:=zPx hk
 have q1:=ho.n1; have q2:=ho.mag; have q3:=ho.tx
 obtain⟨kd,b,ng,n1,mag,tx,n2,kids,hs',sm⟩:=t
 simp only at q1 q2 q3 hwd
 have hit:=itoa_ev (H:=H) (s:=s) hX hk2
 have htl:=yIg ng q2 hwd
 refine evI hS.t69 ?_
 by_cases h1:kd=1
 ·subst h1
  try refine go ?_
  exact rtF ⟨⟨_,rfl⟩,Beh.refl hs⟩
 by_cases h2:kd=2
 ·subst h2
  cases b
  ·try refine go ?_
   exact rtF ⟨⟨_,rfl⟩,Beh.refl hs⟩
  ·try refine go ?_
   exact rtF ⟨⟨_,rfl⟩,Beh.refl hs⟩
 by_cases h3:kd=3
 ·subst h3
  try refine go ?_
  refine clE (yHy hW hV hX hs (.vs n1 mag q1) q2 hwd) ?_
  rintro d s2 ⟨rfl,z1⟩
  try refine go ?_
  refine zMz (m:=[105]) (c:=zRb ng mag) ?_ (by rw [List.length_singleton]; omega)
  try refine go ?_
  exact rtF ⟨⟨_,rfl⟩,z1⟩
 by_cases h4:kd=4
 ·subst h4
  try refine go ?_
  refine zMz (m:=[115]) (c:=tx) ?_ (by rw [List.length_singleton]; omega)
  try refine go ?_
  exact rtF ⟨⟨_,rfl⟩,Beh.refl hs⟩
 ·try refine go ?_
  refine clE hit ?_
  rintro d s2 ⟨rfl,l,rfl,hl⟩
  try refine go ?_
  refine zMz (m:=[111]) (c:=l) ?_ (by rw [List.length_singleton]; omega)
  try refine go ?_
  exact rtF ⟨⟨_,rfl⟩,Beh.refl hs⟩
end
def zGc (es:List (Nat×D×D)):Prop:=∀x∈es,∃c l v,x=(c,D.str l,D.int .i64 v)
theorem zGc.find {es:List (Nat×D×D)}(h:zGc es)(l:List UInt8):∀i,findKey .str (.str l) es i=some none∨∃j v c,findKey .str (.str l) es i=some (some (i+j,.int .i64 v))∧es[j]? =some (c,.str l,.int .i64 v):=by
 induction es with
 | nil=>exact fun i=> .inl rfl
 | cons x r ih=>
  intro i
  obtain⟨c,l',v,rfl⟩:=h x (by simp)
  have ih:=ih (fun y hy=>h y (by simp [hy])) (i+1)
  by_cases he:l=l'
  ·subst he
   refine .inr ⟨0,v,c, ?_,rfl⟩
   simp [findKey,eqT,eqS]
  ·have hf:findKey .str (.str l) ((c,D.str l',D.int .i64 v)::r) i=findKey .str (.str l) r (i+1):=by
    have:(l==l')=false:=by simpa using he
    simp [findKey,eqT,eqS,this]
   rw [hf]
   rcases ih with h1 | ⟨j,v2,c2,h1,h2⟩
   ·exact .inl h1
   ·exact .inr ⟨j+1,v2,c2,by rw [h1,show i+1+j=i+(j+1) by omega],by simpa using h2⟩
theorem zGc.setAt {es:List (Nat×D×D)}(h:zGc es)(l:List UInt8)(v:Int):∀i,zGc (Ab.setAt es i fun x=>(x.1,.str l,.int .i64 v)):=by
 induction es with
 | nil=>intro i; cases i <;> exact h
 | cons x r ih=>
  have h2:zGc r:=fun y hy=>h y (by simp [hy])
  intro i y hy
  cases i with
  | zero=>
   simp only [Ab.setAt,List.mem_cons]at hy
   rcases hy with rfl | hy
   ·exact⟨_,_,_,rfl⟩
   ·exact h2 y hy
  | succ i=>
   simp only [Ab.setAt,List.mem_cons]at hy
   rcases hy with rfl | hy
   ·exact h _ (by simp)
   ·exact ih h2 i y hy
theorem zGc.snoc {es:List (Nat×D×D)}(h:zGc es)(l:List UInt8)(v:Int)(c:Nat):zGc (es++ [(c,.str l,.int .i64 v)]):=by
 intro y hy
 simp only [List.mem_append,List.mem_singleton]at hy
 rcases hy with hy | rfl
 ·exact h y hy
 ·exact⟨_,_,_,rfl⟩
section
variable {T:Nat→Option AFn}{H:zAa}{b:Nat}{k:List Kont}{l:List zPk}{s:St}{Q:QP}{t:Nat}{e:Env}{ds:List (D×List D)}{g:Option (Nat×Bool)}
theorem yAm {m y:Opd}{tx:List UInt8}{o c:Nat}{es:List (Nat×D×D)}(hm:zGc es)(hg:s.get o=some (.map es c))(h:∀v:Int,Ops T H b l k ⟨(t,.int .i64 v)::e,ds⟩ s Q)(hw:wtD e g=some true:=by rfl)(hx:m.ev e=some (.mp o):=by rfl)(hy:y.ev e=some (.str tx):=by rfl):Ops T H b (⟨some t,.lookup .str (.int .i64 0) false m y,g,none⟩::l) k ⟨e,ds⟩ s Q:=by
 rcases hm.find tx 0 with h1 | ⟨j,v,c',h1,h2⟩
 ·exact opA (h 0) hw (by simp only [opF,hx,hy,hg,h1,keyD,okD])
 ·exact opA (h v) hw (by simp only [opF,hx,hy,hg,h1,keyD,okD])
theorem yAl {m y z:Opd}{tx:List UInt8}{o c:Nat}{v:Int}{es:List (Nat×D×D)}(hs:s.Ok)(hm:zGc es)(hg:s.get o=some (.map es c))(h:∀es' c',zGc es' →Ops T H b l k ⟨e,ds⟩ (s.set0 o (.map es' c')) Q)(hw:wtD e g=some true:=by rfl)(hx:m.ev e=some (.mp o):=by rfl)(hy:y.ev e=some (.str tx):=by rfl)(hz:z.ev e=some (.int .i64 v):=by rfl):Ops T H b (⟨none,.mupd .str m y z,g,none⟩::l) k ⟨e,ds⟩ s Q:=by
 rcases hm.find tx 0 with h1 | ⟨j,v',c',h1,h2⟩
 ·exact opA (d:= .tup []) (h _ (c+1) (hm.snoc tx v c)) hw (by simp only [opF,hx,hy,hz,hg,h1,keyD,hs.set,ofS])
 ·rw [Nat.zero_add]at h1
  exact opA (d:= .tup []) (h _ c (hm.setAt tx v j)) hw (by simp only [opF,hx,hy,hz,hg,h1,h2,keyD,zZd,beq_self_eq_true,hs.set,ofS])
variable {so bo i:Nat}{x:D}{tms:List Tm}{tm:Tm}
theorem big_str (hS:TS T)(hs:s.Ok)(hb:zQc s bo so tms x)(hk:tms[i]? =some tm)(ho:tm.Ok)(h1:tm.kd=4):EvP T H 37 [.ptr bo 0,.int .i64 (i:Nat)] s fun d s1=>(∃b,d= .bool b)∧Beh Nil s s1:=by
 have hg:=hb.go
 have ha:=zPx hk
 have q3:=ho.tx
 obtain⟨kd,b,ng,n1,mag,tx,n2,kids,hs',sm⟩:=tm
 simp only at q3 h1; subst h1
 have hL:=Len_ev (H:=H) hS hs (l:=tx) (by omega)
 refine evI hS.t37 ?_
 try refine go ?_
 refine clE hL ?_
 rintro d s2 ⟨rfl,z1⟩
 try refine go ?_
 exact rtF ⟨⟨_,rfl⟩,z1⟩
theorem big_int (hS:TS T)(hW:TW T)(hs:s.Ok)(hb:zQc s bo so tms x)(hk:tms[i]? =some tm)(ho:tm.Ok)(h1:tm.kd=3):EvP T H 37 [.ptr bo 0,.int .i64 (i:Nat)] s fun d s1=>(∃b,d= .bool b)∧Beh Nil s s1:=by
 have hg:=hb.go
 have ha:=zPx hk
 have q1:=ho.n1; have q2:=ho.mag
 obtain⟨kd,b,ng,n1,mag,tx,n2,kids,hs',sm⟩:=tm
 simp only at q1 q2 h1; subst h1
 have hL:=zVd (H:=H) (n:=(ng,mag)) hW hs ⟨_,rfl,.vs n1 mag q1⟩ (by simp only [mxE]; omega)
 refine evI hS.t37 ?_
 try refine go ?_
 refine clE hL ?_
 rintro d s2 ⟨⟨y,rfl,hy⟩,z1⟩
 have hml:=mlen hy
 rcases hy.shape with ⟨o,n,cp,rfl⟩ | ⟨nl,z,L,rfl⟩
 ·try refine go ?_
  exact rtF ⟨⟨_,rfl⟩,z1⟩
 ·try refine go ?_
  exact rtF ⟨⟨_,rfl⟩,z1⟩
theorem yEm (hS:TS T)(hs:s.Ok)(hb:zQc s bo so tms x)(hk:tms[i]? =some tm)(h1:tm.kd=5∨tm.kd=6):EvP T H 37 [.ptr bo 0,.int .i64 (i:Nat)] s fun d s1=>(∃b,d= .bool b)∧Beh Nil s s1:=by
 have hg:=hb.go
 have ha:=zPx hk
 obtain⟨kd,b,ng,n1,mag,tx,n2,kids,hs',sm⟩:=tm
 simp only at h1
 refine evI hS.t37 ?_
 rcases h1 with rfl | rfl
 ·try refine go ?_
  exact rtF ⟨⟨_,rfl⟩,Beh.refl hs⟩
 ·try refine go ?_
  exact rtF ⟨⟨_,rfl⟩,Beh.refl hs⟩
theorem big_else {o la ta pl mp P Sh n lv tk:Nat}{Ds:List D}(hS:TS T)(hW:TW T)(hV:TV T)(hX:TX T)(hs:s.Ok)(hst:StA s so o la ta pl mp P Sh Ds n lv tk)(hb:zQc s bo so tms x)(hk:tms[i]? =some tm)(ho:tm.Ok)(hall:∀v∈zAo tm,∃k:Nat,v=(k:Int)∧k < 100∧∃t',tms[k]? =some t' ∧t'.Ok∧∀w∈t'.mag,w < 4294967296)(h1:tm.kd≠3∧tm.kd≠4∧tm.kd≠5∧tm.kd≠6):EvP T H 37 [.ptr bo 0,.int .i64 (i:Nat)] s fun d s1=>(∃b,d= .bool b)∧Beh Nil s s1:=by
 have hg:=hb.go
 have ha:=zPx hk
 obtain⟨h3,h4,h5,h6⟩:=h1
 have hK:=fun (s2:St) (h:s2.Ok)=>zTm (H:=H) hS h ho
 have hkl:=zIa tm
 have hkl2:=ho.kids
 generalize hko:zAo tm=L at hall hK hkl
 obtain⟨kd,b,ng,n1,mag,tx,n2,kids,hs',sm⟩:=tm
 simp only at h3 h4 h5 h6 hkl2 hkl
 refine evI hS.t37 ?_
 try refine go ?_
 refine clE (hK _ (oI)) ?_
 rintro d s2 ⟨z1,z2,z3⟩
 have b2:Beh Nil s s2:=(Beh.push (Beh.refl hs) _).trans z3
 have ok0:(s.push0 (.map [] 0)).Ok:=oI
 have gm:s2.get s.n=some (.map [] 0):=z3.get ok0 St.gpE (fun h=>h)
 have lb:=hs.lt hg
 have n2' :s.n+1≤s2.n:=by have:=z3.n; rwa [St.nP0]at this
 have hlen:L.length≤100000:=by omega
 have ok2:=b2.ok
 have gb2:=b2.get hs hg (fun h=>h)
 have gs2:=b2.get hs hst.go (fun h=>h)
 have ls:=hs.lt hst.go
 have fin:∀ {s3:St},Beh (fun j=>j=s.n) s2 s3→Beh Nil s s3:=fun h=>b2.trans' h (fun j hj h2=>by subst hj; exact absurd h2 (Nat.lt_irrefl _))
 let J:Nat→St→Prop:=fun j s' =>(∃es c,s'.get s.n=some (.map es c)∧zGc es)∧Beh (fun j=>j=s.n) s2 s'
 have J0:J 0 s2:=⟨⟨[],0,gm,fun _ h=>by cases h⟩,Beh.refl ok2⟩
 rcases z1 with ⟨nl,L,hn⟩ | _ | ⟨o',L,h7⟩
 ·have hil:(ints L).length=L.length:=List.length_map _
  try refine go ?_
  rw [hil]
  refine zAh L.length (fun j=> [(0,.ptr bo 0),(6,.mp s.n),(41,.vs nl 1 (ints L)),(42,.int .i64 (L.length:Nat)),(43,.int .i64 (j:Nat))]) J J0 ?_
  rintro j s' hj ⟨⟨es,c,q1,q2⟩,q3⟩
  have q4:=q3.ok
  have q5:=q3.get ok2 gb2 (by omega)
  have q6:=q3.get ok2 gs2 (by omega)
  rcases Nat.lt_or_ge j L.length with h8 | h8
  ·obtain⟨k',hk1,hk2,t',ht1,ht2,ht3⟩:=hall _ (List.getElem_mem h8)
   have he:=zDk (L:=L) (j:=j) (List.getElem?_eq_getElem h8)
   rw [hk1]at he
   try refine go ?_
   refine clE (yAa hS hW hV hX q4 ⟨q5⟩ ht1 ht2 ht3 hk2) ?_
   rintro d s3 ⟨⟨tx',rfl⟩,y1⟩
   have ok3:=y1.ok
   have gm3:=y1.get q4 q1 (fun h=>h)
   try refine go ?_
   refine yAm q2 gm3 fun v=> ?_
   try refine go ?_
   refine yAl ok3 q2 gm3 fun es' c' hm' => ?_
   try refine go ?_
   refine rtC h8 ⟨⟨es',c',St.gsE,hm'⟩,(q3.trans (y1.mono fun _ h=>h.elim)).trans (Beh.set (Beh.refl ok3) _ (ok3.lt gm3) (fun _=>rfl))⟩
  ·have:j=L.length:=by omega
   subst this
   try refine go ?_
   exact rtF ⟨⟨_,rfl⟩,fin q3⟩
 ·try refine go ?_
  refine zCr ?_
  try refine go ?_
  exact rtF ⟨⟨_,rfl⟩,b2⟩
 ·have ho2:o' ≠s.n:=by have:=z2 _ _ _ _ rfl; rw [St.nP0]at this; omega
  try refine go ?_
  refine zAh L.length (fun j=> [(0,.ptr bo 0),(6,.mp s.n),(41,.sl o' 0 L.length L.length),(42,.int .i64 (L.length:Nat)),(43,.int .i64 (j:Nat))]) J J0 ?_
  rintro j s' hj ⟨⟨es,c,q1,q2⟩,q3⟩
  have q4:=q3.ok
  have q5:=q3.get ok2 gb2 (by omega)
  have q6:=q3.get ok2 gs2 (by omega)
  have q7:=q3.get ok2 h7 ho2
  have hil:(ints L).length=L.length:=List.length_map _
  rcases Nat.lt_or_ge j L.length with h8 | h8
  ·obtain⟨k',hk1,hk2,t',ht1,ht2,ht3⟩:=hall _ (List.getElem_mem h8)
   have he:=zDk (L:=L) (j:=j) (List.getElem?_eq_getElem h8)
   rw [hk1,← Nat.zero_add j]at he
   try refine go ?_
   refine clE (yAa hS hW hV hX q4 ⟨q5⟩ ht1 ht2 ht3 hk2) ?_
   rintro d s3 ⟨⟨tx',rfl⟩,y1⟩
   have ok3:=y1.ok
   have gm3:=y1.get q4 q1 (fun h=>h)
   try refine go ?_
   refine yAm q2 gm3 fun v=> ?_
   try refine go ?_
   refine yAl ok3 q2 gm3 fun es' c' hm' => ?_
   try refine go ?_
   refine rtC h8 ⟨⟨es',c',St.gsE,hm'⟩,(q3.trans (y1.mono fun _ h=>h.elim)).trans (Beh.set (Beh.refl ok3) _ (ok3.lt gm3) (fun _=>rfl))⟩
  ·have:j=L.length:=by omega
   subst this
   try refine go ?_
   exact rtF ⟨⟨_,rfl⟩,fin q3⟩
theorem yEs {o la ta pl mp P Sh n lv tk:Nat}{Ds:List D}(hS:TS T)(hW:TW T)(hV:TV T)(hX:TX T)(hs:s.Ok)(hst:StA s so o la ta pl mp P Sh Ds n lv tk)(hb:zQc s bo so tms x)(hk:tms[i]? =some tm)(ho:tm.Ok)(hall:∀v∈zAo tm,∃k:Nat,v=(k:Int)∧k < 100∧∃t',tms[k]? =some t' ∧t'.Ok∧∀w∈t'.mag,w < 4294967296):EvP T H 37 [.ptr bo 0,.int .i64 (i:Nat)] s fun d s1=>(∃b,d= .bool b)∧Beh Nil s s1:=by
 by_cases h3:tm.kd=3
 ·exact big_int hS hW hs hb hk ho h3
 by_cases h4:tm.kd=4
 ·exact big_str hS hs hb hk ho h4
 by_cases h5:tm.kd=5
 ·exact yEm hS hs hb hk (.inl h5)
 by_cases h6:tm.kd=6
 ·exact yEm hS hs hb hk (.inr h6)
 exact big_else hS hW hV hX hs hst hb hk ho hall ⟨h3,h4,h5,h6⟩
end
theorem zFa.of {tms:List Tm}{i:Nat}{t:Tm}(h1:zGu t.kd)(h2:zLr tms i t):zFa tms i t:=by
 obtain⟨q1,q2,q3⟩:=h2
 unfold zGu at h1
 unfold zNf at q3
 refine⟨q1,fun k hk=> ?_,fun h=> ?_,h1,fun h=> ?_,fun h=> ?_⟩
 ·obtain⟨u,e1,e2⟩:=q2 k hk
  exact⟨u,e1,e2.tm⟩
 ·rw [if_neg (by omega),if_pos h]at q3; exact q3
 ·rw [if_neg (by omega),if_neg (by omega),if_neg (by omega)]at q3; exact q3
 ·rw [if_neg (by omega),if_neg (by omega),if_pos (by omega)]at q3
  obtain⟨k,u,e1,_,_⟩:=q3
  rw [e1]; rfl
section
variable {T:Nat→Option AFn}{H:zAa}{s:St}{so bo i:Nat}{x:D}{tms:List Tm}{t:Tm}{o la ta pl mp P Sh n lv tk:Nat}{Ds:List D}
theorem yBk (hS:TS T)(hU:TU T)(hs:s.Ok){l:List UInt8}(hl:l.length≤1000000000):EvP T H 36 [.str l] s fun d s1=>(∃b,d= .bool b)∧s1=s:=by
 refine evI hS.t36 ?_
 try refine go ?_
 refine clE (yId hU hs hl) ?_
 rintro d s1 ⟨⟨b,rfl⟩,rfl⟩
 try refine go ?_
 exact rtF ⟨⟨_,rfl⟩,rfl⟩
theorem yHz (hS:TS T)(hW:TW T)(hV:TV T)(hX:TX T)(hU:TU T)(hs:s.Ok)(hst:StA s so o la ta pl mp P Sh Ds n lv tk)(hb:zQc s bo so tms x)(hk:tms[i]? =some t)(hN:tms.length≤40)(hok:∀u∈tms,u.Ok∧∀w∈u.mag,w < 4294967296):
  EvP T H 19 [.ptr bo 0,.int .i64 (i:Nat)] s fun d s1=>(∃e:Int,d= .int .i64 e∧(e=0→zFa tms i t))∧Beh Nil s s1:=by
 have ho:=(hok t (List.mem_of_getElem? hk)).1
 have hi:i < tms.length:=(List.getElem?_eq_some_iff.mp hk).1
 have hg:=hb.go
 have ha:=zPx hk
 have htx:=ho.tx
 have hK:=fun (s2:St) (h:s2.Ok) (hg2:s2.get bo=some (.var 67 (.agg [.ptr so 0,.vs false 8 (tms.map Tm.d),x])))=>zYu (H:=H) hS h hg2 hk ho (by omega)
 have hB:=fun (s2:St) (h:s2.Ok) (hst2:StA s2 so o la ta pl mp P Sh Ds n lv tk) (hb2:zQc s2 bo so tms x) (h2:zLr tms i t)=>yEs (H:=H) hS hW hV hX h hst2 hb2 hk ho (fun v hv=>by
  obtain⟨u,e1,_⟩:=h2.2.1 v hv
  have hvk:v∈t.kids:=by
   unfold zAo at hv
   split at hv
   ·exact hv
   ·split at hv
    ·exact zKh hv
    ·cases hv
  have e2:=(h2.1 v hvk).1
  have e3:v.toNat < tms.length:=(List.getElem?_eq_some_iff.mp e1).1
  have e4:=hok u (List.mem_of_getElem? e1)
  exact⟨v.toNat,by omega,by omega,u,e1,e4.1,e4.2⟩)
 have hgd:=yBk (H:=H) (s:=s) hS hU hs (l:=t.tx) (by omega)
 refine evI hS.t19 ?_
 obtain⟨kd,b,ng,n1,mag,tx,n2,kids,hs',sm⟩:=t
 try refine go ?_
 refine clE (yGc hS) ?_
 rintro d s1 ⟨⟨c,rfl,hkd⟩,rfl⟩
 cases c
 ·try refine go ?_
  exact rtF ⟨⟨12,rfl,fun h=>by cases h⟩,Beh.refl hs⟩
 have hkd:=hkd.1 rfl
 try refine go ?_
 refine clE (hK _ hs hg) ?_
 rintro d s2 ⟨⟨c,rfl,hbk⟩,b2⟩
 have ok2:=b2.ok
 cases c
 ·have hbk:=hbk.1 rfl
  have hgd2:=zFa.of hkd hbk
  have hBig:=hB s2 ok2 (hst.beh hs b2 fun _ _ h=>h) ⟨b2.get hs hg id⟩ hbk
  by_cases h4:kd=4
  ·subst h4
   try refine go ?_
   refine clE (yBk hS hU ok2 (l:=tx) (Nat.le_trans htx (by decide))) ?_
   rintro d s3 ⟨⟨c,rfl⟩,rfl⟩
   cases c
   ·try refine go ?_
    exact rtF ⟨⟨1,rfl,fun h=>by cases h⟩,b2⟩
   ·try refine go ?_
    refine clE hBig ?_
    rintro d s4 ⟨⟨c,rfl⟩,b4⟩
    cases c
    ·try refine go ?_
     exact rtF ⟨⟨0,rfl,fun _=>hgd2⟩,b2.trans b4⟩
    ·try refine go ?_
     exact rtF ⟨⟨3,rfl,fun h=>by cases h⟩,b2.trans b4⟩
  ·have hne:(kd==4)=false:=by simpa using h4
   try refine go ?_
   try simp only [hne]
   try refine go ?_
   refine clE hBig ?_
   rintro d s4 ⟨⟨c,rfl⟩,b4⟩
   cases c
   ·try refine go ?_
    exact rtF ⟨⟨0,rfl,fun _=>hgd2⟩,b2.trans b4⟩
   ·try refine go ?_
    exact rtF ⟨⟨3,rfl,fun h=>by cases h⟩,b2.trans b4⟩
 ·try refine go ?_
  exact rtF ⟨⟨1,rfl,fun h=>by cases h⟩,b2⟩
end
section
variable {T:Nat→Option AFn}{H:zAa}{s:St}
theorem snew_ev (hS:TS T)(hs:s.Ok):EvP T H 16 [] s fun d s1=>d= .ptr s.n 0∧s1=s.push0 (.var 108 (.agg [.vs true 0 [],.vs true 0 [],.vs true 0 []])):=by
 refine evI hS.t16 ?_
 try refine go ?_
 exact rtF ⟨rfl,rfl⟩
theorem force_ev (hS:TS T)(hs:s.Ok):EvP T H 17 [.vs true 0 []] s fun d s1=>d= .ptr (s.n+1) 0∧s1=(s.push0 (.map [] 0)).push0 (.var 111 (.agg [.mp s.n,.int .i64 0])):=by
 refine evI hS.t17 ?_
 try refine go ?_
 refine zAh 0 (fun j=> [(3,.ptr (s.n+1) 0),(9,.vs true 0 []),(10,.int .i64 0),(11,.int .i64 0)]) (fun j s' =>s' =(s.push0 (.map [] 0)).push0 (.var 111 (.agg [.mp s.n,.int .i64 0]))) rfl ?_
 rintro j s' hj rfl
 try refine go ?_
 exact rtF ⟨rfl,rfl⟩
theorem add0_ev (hT:TS T){o ty:Nat}{x:D}(hs:s.Ok)(h:s.get o=some (.var 108 (.agg [.vs true 0 [],.vs true 0 [],.vs true 0 []]))):
  EvP T H 18 [.ptr o 0,.ifc ty x] s fun d s1=>zEo s1 o s.n (s.n+1) [.ifc ty x]∧Beh (fun j=>j=o) s s1∧s1.n=s.n+2:=by
 have l1:=hs.lt h
 refine evI hT.t18 ?_
 try refine go ?_
 refine rtF ⟨⟨?_, ?_, ?_,by omega,by omega,by omega⟩, ?_, ?_⟩
 ·exact gI
 ·exact gI
 ·exact gI
 ·exact bI
 ·rfl
@[reducible] def three:List D:=[.ifc 60 (.agg []),.ifc 62 (.agg [.bool false]),.ifc 62 (.agg [.bool true])]
def NewI (s:St)(P Sh:Nat)(j:Nat)(s1:St):Prop:=
 Beh Nil s s1∧s1.get s.n=some (.var 56 (.agg [.int .i64 0,.int .i64 P,.int .i64 Sh,.vs true 0 [],.vs true 0 [],.nilp,.ptr (s.n+1) 0,.int .i64 0,.int .i64 0,.int .i64 0,.ptr (s.n+3) 0,.bool false]))∧
 s1.get (s.n+3)=some (.var 111 (.agg [.mp (s.n+2),.int .i64 0]))∧s1.get (s.n+2)=some (.map [] 0)∧s1.get (s.n+4)=some (.arr 1 52 three 0)∧
 ((j=0∧s1.get (s.n+1)=some (.var 108 (.agg [.vs true 0 [],.vs true 0 [],.vs true 0 []]))∧s1.n=s.n+5)∨(j≠0∧zEo s1 (s.n+1) (s.n+5) (s.n+6) (three.take j)))
theorem new_ev (hS:TS T)(hs:s.Ok){P Sh:Nat}(hP:P≤65536)(hSh:Sh≤256):EvP T H 6 [.agg [.int .i64 0,.int .i64 (P:Nat),.int .i64 (Sh:Nat),.vs true 0 [],.vs true 0 []],.nilp] s fun d s1=>
  ∃so o la ta pl mp,d= .tup [.ptr so 0,.int .i64 0]∧StA s1 so o la ta pl mp P Sh three 0 0 0∧(∀j,OfS so o la ta pl j∨j=mp→s.n≤j)∧Beh Nil s s1:=by
 have e1:decide ((P:Int) < 0)=false:=decide_eq_false (by omega)
 have e2:decide ((P:Int) > 65536)=false:=decide_eq_false (by omega)
 have e3:decide ((Sh:Int) < 0)=false:=decide_eq_false (by omega)
 have e4:decide ((Sh:Int) > 256)=false:=decide_eq_false (by omega)
 refine evI hS.t6 ?_
 try refine go ?_
 refine dpC (snew_ev (s:=s.up 1) hS (hs.up _)) ?_
 rintro d s1 ⟨rfl,rfl⟩
 refine⟨rfl,by rfl, ?_⟩
 try refine go ?_
 refine dpC (force_ev hS ((hs.up _).push0 _)) ?_
 rintro d s1 ⟨rfl,rfl⟩
 refine⟨rfl,by rfl, ?_⟩
 try refine go ?_
 refine zAh 3 (fun j=> [(6,.ptr s.n 0),(51,.sl (s.n+4) 0 3 3),(52,.int .i64 3),(53,.int .i64 (j:Nat))]) (NewI s P Sh) ⟨?_, ?_, ?_, ?_, ?_,.inl ⟨rfl, ?_,rfl⟩⟩ ?_
 ·exact bI
 ·exact gI
 ·exact gI
 ·exact gI
 ·exact gI
 ·exact gI
 rintro j s1 hj ⟨b1,g0,g3,g2,g4,hc⟩
 have ok1:=b1.ok
 have lp:=ok1.lt g3
 rcases (show j=0∨j=1∨j=2∨j=3 by omega) with rfl | rfl | rfl | rfl
 ·rcases hc with ⟨_,gs,hn⟩ | ⟨h,_⟩
  ·try refine go ?_
   refine clE (add0_ev hS ok1 gs) ?_
   rintro d s2 ⟨k1,k2,k3⟩
   rw [hn]at k1
   try refine go ?_
   exact rtC (by omega) ⟨b1.trans' k2 fun j hj hlt=>by omega,k2.get ok1 g0 (by omega),k2.get ok1 g3 (by omega),k2.get ok1 g2 (by omega),k2.get ok1 g4 (by omega),.inr ⟨by decide,k1⟩⟩
  ·exact absurd rfl h
 ·rcases hc with ⟨h,_⟩ | ⟨_,hsl⟩
  ·exact absurd h (by decide)
  ·try refine go ?_
   refine clE (zGs hS ok1 hsl (by simp [mxE])) ?_
   rintro d s2 ⟨-,k1,k2⟩
   have w1: ¬ ((s.n:Nat)=s.n+1∨s.n=s.n+5∨s.n=s.n+6):=by omega
   try refine go ?_
   exact rtC (by omega) ⟨b1.trans' k2 fun j hj hlt=>by omega,k2.get ok1 g0 (by omega),k2.get ok1 g3 (by omega),k2.get ok1 g2 (by omega),k2.get ok1 g4 (by omega),.inr ⟨by decide,k1⟩⟩
 ·rcases hc with ⟨h,_⟩ | ⟨_,hsl⟩
  ·exact absurd h (by decide)
  ·try refine go ?_
   refine clE (zGs hS ok1 hsl (by simp [mxE])) ?_
   rintro d s2 ⟨-,k1,k2⟩
   have w1: ¬ ((s.n:Nat)=s.n+1∨s.n=s.n+5∨s.n=s.n+6):=by omega
   try refine go ?_
   exact rtC (by omega) ⟨b1.trans' k2 fun j hj hlt=>by omega,k2.get ok1 g0 (by omega),k2.get ok1 g3 (by omega),k2.get ok1 g2 (by omega),k2.get ok1 g4 (by omega),.inr ⟨by decide,k1⟩⟩
 ·rcases hc with ⟨h,_⟩ | ⟨_,hsl⟩
  ·exact absurd h (by decide)
  ·try refine go ?_
   refine rtF ⟨s.n,s.n+1,s.n+5,s.n+6,s.n+3,s.n+2,rfl,⟨g0,g3,g2,hsl,by simp only [List.nodup_cons,List.mem_cons,List.not_mem_nil,or_false,not_or,not_false_eq_true,List.nodup_nil,and_true]; omega⟩,fun j hj=> ?_,b1⟩
   simp only [OfS]at hj
   omega
end
def bldL (n:Nat):AC:=match n,code8.body with
 | 1,.seq _ (.seq _ (.seq _ (.seq (.seq _ (.block _ a)) _)))=>a
 | 2,.seq _ (.seq _ (.seq _ (.seq _ (.seq (.seq _ (.block _ a)) _))))=>a
 | 3,.seq _ (.seq _ (.seq _ (.seq _ (.seq _ (.seq (.seq _ (.block _ a)) _)))))=>a
 | _,_=> .skip
structure TmsOk (tms:List Tm):Prop where
 len:tms.length≤40
 ok:∀u∈tms,u.Ok∧∀w∈u.mag,w < 4294967296
section
variable {T:Nat→Option AFn}{H:zAa}{s:St}{so bo i:Nat}{x:D}{tms:List Tm}{t:Tm}{o la ta pl mp P Sh n lv tk:Nat}{Ds:List D}
theorem loop1_ev (hS:TS T)(hW:TW T)(hV:TV T)(hX:TX T)(hU:TU T)(hs:s.Ok)(hst:StA s so o la ta pl mp P Sh Ds n lv tk)(hb:zQc s bo so tms x)(hT:TmsOk tms){nl:Bool}{E:Env}{k:List Kont}{Q:QP}
  (hE:E.keep [0,1,6,24,25]=[(0,.ptr so 0),(1,.vs nl 8 (tms.map Tm.d)),(6,.ptr bo 0),(24,.int .i64 (tms.length:Nat)),(25,.int .i64 0)])
  (hnl:nl=true→tms=[])
  (hbad:∀(e:Int) (fr:Env) (s1:St),e≠0→Beh Nil s s1→Ret T H .ret k ⟨(5,.int .i64 e)::(4,.vs true 0 [])::fr,[]⟩ s1 Q)
  (hgood:∀(s1:St),(∀i t,tms[i]? =some t→zFa tms i t)→Beh Nil s s1→Ret T H .normal k ⟨[(26,.bool false),(0,.ptr so 0),(1,.vs nl 8 (tms.map Tm.d)),(6,.ptr bo 0),(24,.int .i64 (tms.length:Nat)),(25,.int .i64 (tms.length:Nat))],[]⟩ s1 Q):
  Run T H (bldL 1) (.block 0::k) ⟨E,[]⟩ s Q:=by
 have hlen:=hT.len
 show Run T H (.loop _ _) (.block 0::k) ⟨E,[]⟩ s Q
 refine zAh tms.length (fun j=> [(0,.ptr so 0),(1,.vs nl 8 (tms.map Tm.d)),(6,.ptr bo 0),(24,.int .i64 (tms.length:Nat)),(25,.int .i64 (j:Nat))]) (fun j s1=>(∀i t,i < j→tms[i]? =some t→zFa tms i t)∧Beh Nil s s1) ⟨fun i t h=>by omega,Beh.refl hs⟩ ?_ rfl hE
 rintro j s1 hj ⟨hg,b1⟩
 have ok1:=b1.ok
 by_cases hlt:j < tms.length
 ·obtain⟨t,ht⟩:∃t,tms[j]? =some t:=⟨_,List.getElem?_eq_getElem hlt⟩
  have hd:decide ((j:Int) < (tms.length:Nat))=true:=decide_eq_true (by omega)
  have w1:IntKind.wrap .i64 ((j:Int)+1)=((j+1:Nat):Int):=by rw [wrap_small (by omega) (by omega)]; omega
  try refine go ?_
  refine clE (yHz hS hW hV hX hU ok1 (hst.beh hs b1 fun _ _ h=>h) ⟨b1.get hs hb.go id⟩ ht hlen hT.ok) ?_
  rintro d s2 ⟨⟨e,rfl,he⟩,b2⟩
  by_cases he0:e=0
  ·subst he0
   try refine go ?_
   try rw [w1]
   refine rtC hlt ⟨fun i t' hi ht' => ?_,b1.trans b2⟩
   by_cases hij:i=j
   ·subst hij
    rw [ht]at ht'; cases ht'
    exact he rfl
   ·exact hg i t' (by omega) ht'
  ·have hne:(e !=0)=true:=by simpa using he0
   try refine go ?_
   try simp only [hne]
   try refine go ?_
   exact hbad _ _ _ he0 (b1.trans b2)
 ·have hjl:j=tms.length:=by omega
  subst hjl
  have hd:decide ((tms.length:Int) < (tms.length:Nat))=false:=decide_eq_false (by omega)
  try refine go ?_
  exact hgood s1 (fun i t ht=>hg i t (List.getElem?_eq_some_iff.mp ht).1 ht) b1
end
end Go.Proofs.YtmcdajnpdekocaaGreatDoor.Tab
