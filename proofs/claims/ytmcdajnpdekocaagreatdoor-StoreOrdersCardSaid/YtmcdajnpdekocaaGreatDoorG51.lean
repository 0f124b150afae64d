/- Part. -/
import Derived.Test.YtmcdajnpdekocaaGreatDoorG50
set_option linter.unusedSectionVars false
set_option linter.unusedSimpArgs false
set_option linter.unusedVariables false
set_option maxRecDepth 100000
set_option maxHeartbeats 1000000
namespace Go.Proofs.YtmcdajnpdekocaaGreatDoor.Tab
open Go Go.Ab Go.Ab.Sm
theorem ints_sz (L:List Int):allSz 1 (ints L)=true:=by
 induction L with
 | nil=>rfl
 | cons v V ih=>simp only [ints,List.map_cons,allSz]at ih ⊢; rw [ih]; rfl
def yHv:List Val:=[.none,.bool false,.bool true]
theorem vals3 {P:Nat}{s:St}:Vals P s (fun _ _=>False) three yHv:=by
 refine⟨rfl,fun i d v h1 h2=> ?_,fun _ _ _ h=>h.elim,fun _ _ h=>h.elim⟩
 match i with
 | 0=>cases h1; cases h2; rfl
 | 1=>cases h1; cases h2; rfl
 | 2=>cases h1; cases h2; rfl
 | i+3=>simp at h1
def zXf (P Sh:Nat)(s:St)(so o la ta pl mp:Nat)(tms:List Tm)(d:D)(s1:St):Prop:=
 s1.Ok∧s.n≤s1.n∧((∃e:Int,e≠0∧d= .tup [.vs true 0 [],.int .i64 e]∧StA s1 so o la ta pl mp P Sh three 0 0 0)∨
 (∃q st Ds Vs n tk F R,d= .tup [.sl q 0 R.length R.length,.int .i64 0]∧s1.get q=some (.arr 1 3 (ints (R.map Int.ofNat)) st)∧st≤R.length∧StA s1 so o la ta pl mp P Sh Ds n n tk∧n≤80∧Ds.length≤83∧tk≤80∧Vals P s1 F Ds (zDx R tms Vs tms.length)∧zGk P tms yHv 0 R Vs n∧R.length=tms.length∧Mk tms R (zDx R tms Vs tms.length)∧∀i t,tms[i]? =some t→zFa tms i t))
section
variable {T:Nat→Option AFn}{H:zAa}{s s1:St}{so bo i:Nat}{x:D}{tms:List Tm}{t:Tm}{o la ta pl mp P Sh n lv tk:Nat}{Ds:List D}{Vs:List Val}{F:Nat→Nat→Prop}{R:List Nat}
theorem zWr {b kk t r:Nat}{e:Env}{ds:List (D×List D)}{g:Option (Nat×Bool)}{q:List Nat}{acc:List Fp}{l:List (zPk×List Nat)}{k:List Kont}{Q:QP}{fp:Fp}{sz bytes ty z:Nat}{x y:Opd}{yd:D} {o off len cp st z' ty' :Nat}{es:List D}(hi:items s yd=some (z,[]))(h:DOps T H b kk l (acc++ [fp]) k ⟨(t,.sl o off len cp)::e,ds⟩ s Q)(hw:wtD e g=some true:=by rfl)(hx:x.ev e=some (.sl o off len cp):=by rfl)(hy:y.ev e=some yd:=by rfl)(hg:s.get o=some (.arr z' ty' es st):=by exact gI)(hb:Nat.ble bytes 4096=true:=by rfl)(hf:fpOf b e ⟨some t,.append sz bytes ty x y,g,some r⟩=fp:=by exact fI)(hc:ckA acc fp q=true:=by exact cI)(hv0:Env.isLvo e (some t)=false:=by rfl)(hk:Nat.beq (zPk.op ⟨some t,.append sz bytes ty x y,g,some r⟩).kind 5=false:=by rfl):
  DOps T H b kk ((⟨some t,.append sz bytes ty x y,g,some r⟩,q)::l) acc k ⟨e,ds⟩ s Q:=by
 subst hf
 refine zAl hc hv0 (zCp rfl) h hw ?_ hk
 have ha:allSz sz []=true:=rfl
 cases yd <;> simp only [items]at hi <;> first | (cases hi; done) | skip
 all_goals simp only [opF,hx,hy,items,hi,Bool.or_true,hb,ha,zAn,hg]
theorem build_ev (hS:TS T)(hTt:TT T)(hP:TP T)(hW:TW T)(hV:TV T)(hX:TX T)(hU:TU T)(hs:s.Ok)(hst:StA s so o la ta pl mp P Sh three 0 0 0)(hT:TmsOk tms)(pb:P≤1000)(sb:Sh≤256):
  EvP T H 8 [.ptr so 0,.vs false 8 (tms.map Tm.d)] s (zXf P Sh s so o la ta pl mp tms):=by
 have hlen:=hT.len
 have hml:(tms.map Tm.d).length=tms.length:=List.length_map _
 have lso:=hst.lt hs (j:=so) (.inl (.inl rfl))
 have nof:∀j,(OfS so o la ta pl j∨j=mp)→j < s.n:=fun j hj=>hst.lt hs hj
 have hkeep:tms=tms:=rfl
 obtain⟨sB,hsB⟩:∃sB,sB=s.push0 (.var 67 (.agg [.ptr so 0,.vs false 8 (tms.map Tm.d),.vs true 0 []])):=⟨_,rfl⟩
 have bB:Beh Nil s sB:=by rw [hsB]; exact (Beh.refl hs).push _
 have okB:=bB.ok
 have stB:=hst.beh hs bB fun _ _ h=>h
 have gB:sB.get s.n=some (.var 67 (.agg [.ptr so 0,.vs false 8 (tms.map Tm.d),.vs true 0 []])):=by rw [hsB]; exact St.gpE
 subst hsB
 refine evI hS.t8 ?_
 have hml2:(((tms.map Tm.d).length:Nat):Int)=(tms.length:Nat):=by rw [hml]
 try refine go ?_
 refine loop1_ev (nl:=false) hS hW hV hX hU okB stB ⟨gB⟩ hT ?_ (fun h=>by cases h) ?_ ?_
 ·simp only [← hml2]; rfl
 ·intro e fr s1 he b1
  try refine go ?_
  refine rtF ⟨b1.ok,Nat.le_trans bB.n b1.n,.inl ⟨e,he,rfl,stB.beh okB b1 fun _ _ h=>h⟩⟩
 intro s1 hg b1
 have ok1:=b1.ok
 have cx:MkCx P Sh s1 so o la ta pl mp 0 0 0 s.n three yHv (fun _ _=>False) tms [] (.vs true 0 []):=
  {ok:=ok1,pb:=pb,sb:=sb,st:=(stB.beh okB b1 fun _ _ h=>h),nb:=by omega,lb:=by omega,tb:=by omega,ds:=by decide,vs:=vals3,hF:=(fun _ _ h=>h.elim),bl:=⟨b1.get okB gB id⟩,rf:= .nil,md:=(fun k r t h=>by simp at h),b0:=⟨fun h=>Nat.lt_irrefl _ (nof _ (.inl h)),fun h=>Nat.lt_irrefl _ (nof _ (.inr h))⟩,x0:=(fun _ _ _ _ e=>by cases e),tm:=(fun u hu=>(hT.ok u hu).1)}
 try refine go ?_
 refine loop2_ev (nl:=false) hS hTt hP hW hV cx hg hlen (fun h=>by cases h) ⟨rfl,rfl,rfl⟩ (by omega) (by omega) (by omega) (by decide) ?_ ?_
 ·simp only [F2,← hml2]; rfl
 rintro s2 ⟨Ds,Vs,n,lv,tk,F,R,x,c1,c2,c3,c4,c5,c6,c7⟩
 try refine go ?_
 refine loop3_ev (nl:=false) hS c1 hlen c2 (fun t ht k hk=> ?_) ?_ ?_
 ·obtain⟨i,hi⟩:=List.getElem?_of_mem ht
  have h1:=(hg i t hi).kids k hk
  have h2:=(List.getElem?_eq_some_iff.mp hi).1
  refine⟨h1.1, ?_⟩
  have h3:=h1.2
  split at h3 <;> omega
 ·simp only [F3,← hml2]; rfl
 intro s3 d1 d2
 have ok3:=d1.ok
 have gb3:=d1.bl.go
 have lb3:=ok3.lt gb3
 have hrf:=d1.rf
 have n1:=bB.n; have n2:=b1.n; have n3:=c7.n
 have fin:∀ {s4:St} {q st:Nat},Beh Nil s3 s4→s4.get q=some (.arr 1 3 (ints (R.map Int.ofNat)) st)→st≤R.length→zXf P Sh s so o la ta pl mp tms (.tup [.sl q 0 R.length R.length,.int .i64 0]) s4:=by
  intro s4 q st b4 g4 h4
  have d3:=d1.nil b4
  have n4:=b4.n
  have e1:lv=n:=by omega
  subst e1
  have hds:Ds.length≤83:=by have:=c5.2.2.2.2; simp only [List.length_cons,List.length_nil]at this; omega
  exact⟨b4.ok,by omega,.inr ⟨q,st,Ds,Vs,lv,tk,F,R,rfl,g4,h4,d3.st,by omega,hds,by omega,d3.vs,c3,c2,d3.md,hg⟩⟩
 rcases hrf with _ | ⟨hgr,hne⟩
 ·try refine go ?_
  have h0:s3.get (s3.n+0)=none:=ok3.fresh _ (Nat.le_refl _)
  refine zDs (dl:= .int .i64 ((0:Nat):Int)) (dc:= .int .i64 ((0:Nat):Int)) zPz zPz (Nat.le_refl _) (by omega) (by simp only [mxE]; omega) ?_
  try refine go ?_
  refine zWr (yd:= .vs true 0 []) rfl ?_
  try refine go ?_
  refine rtF (fin (st:=0) ?_ (gI) (Nat.le_refl _))
  exact bI
 ·have hrl:=zBt R
  have hlen2:R.length≤40:=by omega
  have lgr:=ok3.lt hgr
  rename_i qo
  have hsz:=ints_sz (R.map Int.ofNat)
  try refine go ?_
  refine zDs (dl:= .int .i64 ((0:Nat):Int)) (dc:= .int .i64 (R.length:Int)) zPz zPz (Nat.zero_le _) (by omega) (by simp only [mxE]; omega) ?_
  try refine go ?_
  have hne2:ints (R.map Int.ofNat)≠ []:=by intro h; rw [h]at hrl; exact hne (List.length_eq_zero_iff.mp hrl.symm)
  refine zUl (m:=ints (R.map Int.ofNat)) (es:=[]) (st:=0) (o2:=qo) (off2:=0) (len2:=R.length) (es2:=ints (R.map Int.ofNat)) hsz hne2 (by rw [List.drop_zero,← hrl,List.take_length]) ?_ (he:=rfl) (hm:=by rw [hrl]; simp only [mxE]; omega)
  try refine go ?_
  rw [hrl,Nat.zero_add]
  refine rtF (fin (st:=0) ?_ (gI) (Nat.zero_le _))
  exact bI
end
def Lens (B:Nat)(t:Tm):Prop:=t.kids.length≤B∧t.tx.length≤B∧t.mag.length≤B
section
variable {T:Nat→Option AFn}{H:zAa}{s:St}{tms:List Tm}
def LargeI (nl:Bool)(s:St)(tms:List Tm)(m:Nat)(env:Env) (s' :St):Prop:=
 s' =s∧∃i n:Nat,m=tms.length - i∧i≤tms.length∧n≤4000000000000000000∧(∀j t,j < i→tms[j]? =some t→Lens n t)∧env=[(0,.vs nl 8 (tms.map Tm.d)),(3,.int .i64 (n:Nat)),(4,.int .i64 (i:Nat))]
theorem large_ev (hS:TS T)(hs:s.Ok){nl:Bool}(hN:tms.length≤1000000000000000000)(hB:∀t∈tms,Lens 1000000000000000000 t):EvP T H 4 [.vs nl 8 (tms.map Tm.d)] s fun d s1=>s1=s∧∃b,d= .bool b∧(b=false→tms.length≤120∧∀t∈tms,Lens 3000 t):=by
 have hml:(tms.map Tm.d).length=tms.length:=List.length_map _
 have hml2:(((tms.map Tm.d).length:Nat):Int)=(tms.length:Nat):=by rw [hml]
 refine evI hS.t4 ?_
 by_cases h120:120 < tms.length
 ·have hd:decide (((tms.map Tm.d).length:Int) > 120)=true:=decide_eq_true (by omega)
  try refine go ?_
  exact rtF ⟨rfl,true,rfl,fun h=>by cases h⟩
 ·have hd:decide (((tms.map Tm.d).length:Int) > 120)=false:=decide_eq_false (by omega)
  try refine go ?_
  refine zAm (LargeI nl s tms) tms.length rfl ⟨rfl,0,0,rfl,Nat.zero_le _,by omega,(fun _ _ h=>by omega),rfl⟩ ?_
  rintro m env s' ⟨rfl,i,n,rfl,hi,hn,hl,rfl⟩
  by_cases hlt:i < tms.length
  ·have hd1:decide ((i:Int) < ((tms.map Tm.d).length:Nat))=true:=decide_eq_true (by omega)
   by_cases h3:n≤3000
   ·have hd2:decide ((n:Int)≤3000)=true:=decide_eq_true (by omega)
    obtain⟨t,ht⟩:∃t,tms[i]? =some t:=⟨_,List.getElem?_eq_getElem hlt⟩
    have ha:=zPx ht
    obtain⟨b1,b2,b3⟩:=hB t (List.mem_of_getElem? ht)
    have w1:IntKind.wrap .i64 ((n:Int)+(t.kids.length:Nat))=((n+t.kids.length:Nat):Int):=by rw [wrap_small (by omega) (by omega)]; omega
    have w2:IntKind.wrap .i64 (((n+t.kids.length:Nat):Int)+(t.tx.length:Nat))=((n+t.kids.length+t.tx.length:Nat):Int):=by rw [wrap_small (by omega) (by omega)]; omega
    have w3:IntKind.wrap .i64 (((n+t.kids.length+t.tx.length:Nat):Int)+(t.mag.length:Nat))=((n+t.kids.length+t.tx.length+t.mag.length:Nat):Int):=by rw [wrap_small (by omega) (by omega)]; omega
    have w4:IntKind.wrap .i64 ((i:Int)+1)=((i+1:Nat):Int):=by rw [wrap_small (by omega) (by omega)]; omega
    have e1:=zAp t.kids
    have e2:(u32s t.mag).length=t.mag.length:=List.length_map _
    try refine go ?_
    rw [e1,e2,w1,w2,w3]
    refine rtN (tms.length - (i+1)) (by omega) rfl ⟨rfl,i+1,n+t.kids.length+t.tx.length+t.mag.length,rfl,by omega,by omega,fun j u hj hu=> ?_,rfl⟩
    by_cases hji:j=i
    ·subst hji
     rw [ht]at hu; cases hu
     exact⟨by omega,by omega,by omega⟩
    ·obtain⟨x1,x2,x3⟩:=hl j u (by omega) hu
     exact⟨by omega,by omega,by omega⟩
   ·have hd2:decide ((n:Int)≤3000)=false:=decide_eq_false (by omega)
    have hd3:decide ((n:Int) > 3000)=true:=decide_eq_true (by omega)
    try refine go ?_
    exact rtF ⟨rfl,true,rfl,fun h=>by cases h⟩
  ·have hd1:decide ((i:Int) < ((tms.map Tm.d).length:Nat))=false:=decide_eq_false (by omega)
   by_cases h3:n≤3000
   ·have hd3:decide ((n:Int) > 3000)=false:=decide_eq_false (by omega)
    try refine go ?_
    refine rtF ⟨rfl,false,rfl,fun _=>⟨by omega,fun t ht=> ?_⟩⟩
    obtain⟨j,hj⟩:=List.getElem?_of_mem ht
    have hjl:=(List.getElem?_eq_some_iff.mp hj).1
    obtain⟨x1,x2,x3⟩:=hl j t (by omega) hj
    exact⟨by omega,by omega,by omega⟩
   ·have hd3:decide ((n:Int) > 3000)=true:=decide_eq_true (by omega)
    try refine go ?_
    exact rtF ⟨rfl,true,rfl,fun h=>by cases h⟩
end
inductive KeyD where
 | none
 | whole (a:Bool×List Nat)
 | text (l:List UInt8)
 | own (i:Nat)
def keyD (i:Nat):Val→KeyD
 | .none=> .none
 | .bool b=> .whole (zPp (if b then (false,[1]) else (false,[])).1 (if b then (false,[1]) else ((false,[]):Bool×List Nat)).2)
 | .int n=> .whole (zPp n.1 n.2)
 | .str t=> .text t
 | _=> .own i
def zCx (v:Val):Prop:=v.kind=1→v= .none
theorem OfTm.plain {t:Tm}{v:Val}(h:OfTm t v):zCx v:=by
 intro hk
 unfold OfTm at h
 rcases h with ⟨_,rfl⟩ | ⟨_,rfl⟩ | ⟨_,rfl⟩ | ⟨_,rfl⟩ | ⟨h1,_,_,_,rfl,h2,_⟩ | ⟨h1,_,_,_,rfl,h2⟩ | ⟨_,_,_,rfl⟩ | ⟨h1,_,_,_,rfl,h2⟩
 all_goals simp only [Val.kind]at hk
 ·rfl
 all_goals omega
theorem zFm {i j:Nat}{v w:Val}(h:i=j→v=w)(hv:zCx v)(hw:zCx w):zPs i v j w=true↔keyD i v=keyD j w:=by
 by_cases hij:i=j
 ·subst hij
  cases h rfl
  simp [zPs]
 ·have e1:∀ {v:Val},zCx v→v≠ .none→(v.kind==1)=false:=fun {v} h1 h2=>by
   rw [beq_eq_false_iff_ne]; exact fun e=>h2 (h1 e)
  cases v <;> cases w <;> simp [zPs,keyD,Val.whole,Val.text,hij]
  all_goals first
   | (simp [Val.kind]; done)
   | (intro _ h1; refine absurd (hw (by simpa using h1)) ?_; intro h; cases h; done)
   | (intro h1; refine absurd (hv (by simpa using h1)) ?_; intro h; cases h; done)
theorem yFw {i j:Nat}{v w:Val}(h:i=j→v=w)(hv:zCx v)(hw:zCx w):zPs i v j w=zPs j w i v:=by
 have h1:=zFm h hv hw
 have h2:=zFm (fun e=>(h e.symm).symm) hw hv
 cases e1:zPs i v j w <;> cases e2:zPs j w i v
 ·rfl
 ·rw [h1.2 (h2.1 e2).symm]at e1; cases e1
 ·rw [h2.2 (h1.1 e1).symm]at e2; cases e2
 ·rfl
theorem zYe {i j k:Nat}{v w u:Val}(h:i=j→v=w) (h' :j=k→w=u) (h'' :i=k→v=u)(hv:zCx v)(hw:zCx w)(hu:zCx u)(e1:zPs i v j w=true)(e2:zPs j w k u=true):zPs i v k u=true:=
 (zFm h'' hv hu).2 (((zFm h hv hw).1 e1).trans ((zFm h' hw hu).1 e2))
theorem zRp {i:Nat}{v:Val}:zPs i v i v=true:=by simp [zPs]
theorem zVx {i:Nat}{v:Val}(h:0 < v.num):keyD i v= .own i:=by
 cases v <;> first | rfl | (simp [Val.num]at h; done)
theorem like_num {i j:Nat}{v w:Val}(h:i=j→v=w)(hv:zCx v)(hw:zCx w)(hn:0 < v.num∨0 < w.num):zPs i v j w=decide (i=j):=by
 have h1:=zFm h hv hw
 by_cases hij:i=j
 ·rw [decide_eq_true hij]
  subst hij; cases h rfl
  exact zRp
 ·rw [decide_eq_false hij]
  cases e:zPs i v j w
  ·rfl
  ·exfalso
   have h2:=h1.1 e
   have key:∀(i j:Nat) (w:Val),i≠j→ ¬ (KeyD.own i=keyD j w):=by
    intro i j w hij h
    cases w <;> first | (cases h; done) | (simp only [keyD,KeyD.own.injEq]at h; exact hij h)
   rcases hn with hn | hn
   ·rw [zVx hn]at h2; exact key i j w hij h2
   ·rw [zVx hn]at h2; exact key j i v (Ne.symm hij) h2.symm
def zJr (c c' num:Nat)(kd:Int):Prop:=(num=0∧c' =c)∨(num=c+1∧c' =c+1)∨(num=c+2∧c' =c+2∧kd=14)
theorem zQa.num {P:Nat}{Vs:List Val}{R:List Nat}{t:Tm}{n:Nat}{Vn:List Val} {r n' :Nat}(h:zQa P Vs R t n Vn r n')(hb:zQv Vs):∃w,(Vs++Vn)[r]? =some w∧zJr n n' w.num t.kd:=by
 unfold zJr
 cases h with
 | none h=>exact ⟨_,getA hb.1,.inl ⟨rfl,rfl⟩⟩
 | bool h=>
  refine⟨.bool t.b, ?_,.inl ⟨rfl,rfl⟩⟩
  cases t.b
  ·exact getA hb.2.1
  ·exact getA hb.2.2
 | int h=>exact ⟨_,zQs,.inl ⟨rfl,rfl⟩⟩
 | str h=>exact ⟨_,zQs,.inl ⟨rfl,rfl⟩⟩
 | row h=>exact ⟨_,zQs,.inr (.inl ⟨rfl,rfl⟩)⟩
 | tbl h E=>exact ⟨_,zQs,.inr (.inl ⟨rfl,rfl⟩)⟩
 | inst h=>exact ⟨.inst (n+2) Vs.length,by rw [List.getElem?_append_right (by omega),show Vs.length+1 - Vs.length=1 by omega]; rfl,.inr (.inr ⟨rfl,rfl,h⟩)⟩
 | view h=>exact ⟨_,zQs,.inr (.inl ⟨rfl,rfl⟩)⟩
theorem zGk.base {P:Nat}{tms:List Tm}{Vs0:List Val}{n0:Nat}{R:List Nat}{Vs:List Val}{n:Nat}(h:zGk P tms Vs0 n0 R Vs n)(hb:zQv Vs0):zQv Vs:=by
 induction h with
 | nil=>exact hb
 | snoc h ht hm ih=>exact ih.app _
theorem zGk.nums {P:Nat}{tms:List Tm}{Vs0:List Val}{n0:Nat}{R:List Nat}{Vs:List Val}{n:Nat}(h:zGk P tms Vs0 n0 R Vs n)(hb:zQv Vs0):
  ∃c:Nat→Nat,c 0=n0∧c R.length=n∧∀i r t,R[i]? =some r→tms[i]? =some t→∃v,Vs[r]? =some v∧zJr (c i) (c (i+1)) v.num t.kd:=by
 induction h with
 | nil=>exact ⟨fun _=>n0,rfl,rfl,fun i r t h=>by simp at h⟩
 | @snoc R Vs n h t ht Vn r n' hm ih=>
  obtain⟨c,h1,h2,h3⟩:=ih
  refine⟨fun i=>if i≤R.length then c i else n',by simp [h1],by simp only [List.length_append,List.length_singleton]; exact if_neg (by omega),fun i q u hi hu=> ?_⟩
  have hl:=(List.getElem?_eq_some_iff.mp hi).1
  rw [List.length_append,List.length_singleton]at hl
  by_cases hlt:i < R.length
  ·rw [List.getElem?_append_left hlt]at hi
   obtain⟨v,e1,e2⟩:=h3 i q u hi hu
   refine⟨v,getA e1, ?_⟩
   simp only [if_pos (show i≤R.length by omega),if_pos (show i+1≤R.length by omega)]
   exact e2
  ·obtain rfl:i=R.length:=by omega
   rw [zQs]at hi
   rw [ht]at hu
   cases hi; cases hu
   obtain⟨w,e1,e2⟩:=hm.num (h.base hb)
   refine⟨w,e1, ?_⟩
   simp only [Nat.le_refl,if_true,if_neg (show ¬ R.length+1≤R.length by omega),h2]
   exact e2
theorem zUh {R:List Nat}{t:Tm}{r q:Nat}{Vs:List Val}{v:Val}(h:Vs[q]? =some v):∃w,(zDv R t r Vs)[q]? =some w∧w.num=v.num:=by
 unfold zDv
 split
 ·rename_i num kd L hr
  by_cases hq:q=r
  ·subst hq
   rw [hr]at h; cases h
   exact⟨_,List.getElem?_set_self (List.getElem?_eq_some_iff.mp hr).1,rfl⟩
  ·exact⟨v,by rw [List.getElem?_set_ne (fun e=>hq e.symm)]; exact h,rfl⟩
 ·exact⟨v,h,rfl⟩
theorem zMo {R:List Nat}{tms:List Tm}{Vs:List Val}{q:Nat}{v:Val}(h:Vs[q]? =some v):∀j,∃w,(zDx R tms Vs j)[q]? =some w∧w.num=v.num
 | 0=>⟨v,h,rfl⟩
 | j+1=>by
  obtain⟨w,e1,e2⟩:=zMo (R:=R) (tms:=tms) h j
  unfold zDx
  split
  ·obtain⟨w',e3,e4⟩:=zUh e1
   exact⟨w',e3,by omega⟩
  ·exact⟨w,e1,e2⟩
structure zSv (P Sh:Nat)(s:St)(so o la ta pl mp n tk q st:Nat)(Ds:List D)(tms:List Tm)(R:List Nat)(V:Nat→Val)(c:Nat→Nat):Prop where
 ok:s.Ok
 sa:StA s so o la ta pl mp P Sh Ds n n tk
 gq:s.get q=some (.arr 1 3 (ints (R.map Int.ofNat)) st)
 sl:st≤R.length
 ln:R.length=tms.length
 l40:tms.length≤40
 vals:∀(i r:Nat),R[i]? =some r→zCx (V r)∧∃d F,Ds[r]? =some d∧ValAt P F s d (V r)
 c0:c 0=0
 cn:c R.length=n
 num:∀(i r:Nat) (t:Tm),R[i]? =some r→tms[i]? =some t→zJr (c i) (c (i+1)) (V r).num t.kd
theorem zSv.elt {P Sh:Nat}{s:St}{so o la ta pl mp n tk q st:Nat}{Ds:List D}{tms:List Tm}{R:List Nat}{V:Nat→Val}{c:Nat→Nat}(h:zSv P Sh s so o la ta pl mp n tk q st Ds tms R V c){i:Nat}(hi:i < tms.length):
  ∃r t,R[i]? =some r∧tms[i]? =some t∧(ints (R.map Int.ofNat))[0+i]? =some (.int .i64 (r:Nat)):=by
 obtain⟨r,hr⟩:∃r,R[i]? =some r:=⟨_,List.getElem?_eq_getElem (by rw [h.ln]; exact hi)⟩
 refine⟨r,tms[i],hr,List.getElem?_eq_getElem hi, ?_⟩
 simp only [ints,Nat.zero_add,List.getElem?_map,hr,Option.map_some]; rfl
def lawL (n:Nat):AC:=match code3.body with
 | .seq _ (.seq _ (.seq _ (.seq _ (.seq _ (.seq _ (.seq _ (.seq (.seq _ (.block _ a)) _)))))))=>match n with
  | 1=>a
  | n=>match a with
   | .loop _ (.seq _ (.seq (.block _ (.seq _ (.seq _ (.seq _ (.block _ b))))) _))=>match n with
    | 2=>b
    | _=>match b with
     | .loop _ (.seq _ (.seq (.block _ (.seq _ (.seq _ (.seq _ (.seq _ (.block _ c)))))) _))=>c
     | _=> .skip
   | _=> .skip
 | _=> .skip
section
variable {T:Nat→Option AFn}{H:zAa}{P Sh:Nat}{s:St}{so o la ta pl mp n tk q st:Nat}{Ds:List D}{tms:List Tm}{R:List Nat}{V:Nat→Val}{c:Nat→Nat}{nl:Bool}
def FI (nl:Bool)(so q:Nat)(tms:List Tm)(N last i num j:Nat)(a:Bool)(k:Nat):Env:=[(0,.vs nl 8 (tms.map Tm.d)),(3,.ptr so 0),(5,.sl q 0 N N),(6,.int .i64 (last:Nat)),(7,.int .i64 (i:Nat)),(8,.int .i64 (num:Nat)),(9,.int .i64 (j:Nat)),(10,.bool a),(12,.int .i64 (k:Nat))]
theorem lawI (hS:TS T)(hW:TW T)(hV:TV T)(h:zSv P Sh s so o la ta pl mp n tk q st Ds tms R V c){last i num j ri rj:Nat}{a:Bool}(hi:R[i]? =some ri)(hj:R[j]? =some rj)(ha:a=zPs ri (V ri) rj (V rj)){k:List Kont}{Q:QP}{E:Env}
  (hE:E.keep [0,3,5,6,7,8,9,10,12]=FI nl so q tms R.length last i num j a 0)
  (hd:∀d1 d2 d3 d4 d5 d6 d7 d8:D,Ret T H .normal k ⟨(189,d1)::(188,d2)::(187,d3)::(186,d4)::(185,d5)::(184,d6)::(183,d7)::[(0,.vs nl 8 (tms.map Tm.d)),(3,.ptr so 0),(5,.sl q 0 R.length R.length),(6,.int .i64 (last:Nat)),(7,.int .i64 (i:Nat)),(8,.int .i64 (num:Nat)),(9,.int .i64 (j:Nat)),(10,.bool a),(12,d8)],[]⟩ s Q):
  Run T H (lawL 3) (.block 4::k) ⟨E,[]⟩ s Q:=by
 have hs:=h.ok
 have l40:=h.l40
 have hln:=h.ln
 have hrl:=zBt R
 have gq:=h.gq
 have hsl:=h.sl
 show Run T H (.loop _ _) (.block 4::k) ⟨E,[]⟩ s Q
 refine zAh tms.length (FI nl so q tms R.length last i num j a) (fun _ s1=>s1=s) rfl ?_ rfl hE
 rintro m s1 hm rfl
 show Run T H _ _ ⟨[(0,.vs nl 8 (tms.map Tm.d)),(3,.ptr so 0),(5,.sl q 0 R.length R.length),(6,.int .i64 (last:Nat)),(7,.int .i64 (i:Nat)),(8,.int .i64 (num:Nat)),(9,.int .i64 (j:Nat)),(10,.bool a),(12,.int .i64 (m:Nat))],[]⟩ _ _
 by_cases hlt:m < tms.length
 ·have hdd:decide ((m:Int) < (R.length:Nat))=true:=decide_eq_true (by omega)
  cases a
  ·try refine go ?_
   exact hd _ _ _ _ _ _ _ _
  ·obtain⟨rm,t,hrm,htm,he⟩:=h.elt hlt
   have w1:IntKind.wrap .i64 ((m:Int)+1)=((m+1:Nat):Int):=by rw [wrap_small (by omega) (by omega)]; omega
   have hej:(ints (R.map Int.ofNat))[0+j]? =some (.int .i64 (rj:Nat)):=by simp only [ints,Nat.zero_add,List.getElem?_map,hj,Option.map_some]; rfl
   have hei:(ints (R.map Int.ofNat))[0+i]? =some (.int .i64 (ri:Nat)):=by simp only [ints,Nat.zero_add,List.getElem?_map,hi,Option.map_some]; rfl
   have hil:=(List.getElem?_eq_some_iff.mp hi).1
   have hjl:=(List.getElem?_eq_some_iff.mp hj).1
   obtain⟨p1,d1,F1,x1,y1⟩:=h.vals i ri hi
   obtain⟨p2,d2,F2,x2,y2⟩:=h.vals j rj hj
   obtain⟨p3,d3,F3,x3,y3⟩:=h.vals m rm hrm
   try refine go ?_
   refine dpC (zFs hS hW hV hs h.sa x2 y2 x3 y3) ?_
   rintro d s2 ⟨rfl,rfl⟩
   refine⟨rfl,by rfl, ?_⟩
   have hsym:=fun e=>zYe (fun e=>congrArg V e) (fun e=>congrArg V e) (fun e=>congrArg V e) p1 p2 p3 ha.symm e
   generalize zPs rj (V rj) rm (V rm)=b1 at hsym
   cases b1
   ·try refine go ?_
    refine zBg ?_ (by rfl)
    try refine go ?_
    exact rtC hlt rfl
   ·have e3:=hsym rfl
    try refine go ?_
    refine dpC (zFs hS hW hV hs h.sa x1 y1 x3 y3) ?_
    rintro d s3 ⟨rfl,rfl⟩
    refine⟨rfl,by rfl, ?_⟩
    rw [e3]
    try refine go ?_
    exact rtC hlt rfl
 ·have hdd:decide ((m:Int) < (R.length:Nat))=false:=decide_eq_false (by omega)
  try refine go ?_
  exact hd _ _ _ _ _ _ _ _
end
def lawS2:AC:= .reg [o 93 (.mv (.t 9)),o 94 (.bin .add (.t 93) (.c (.int .i64 1))),o 9 (.mv (.t 94))]
section
variable {T:Nat→Option AFn}{H:zAa}{P Sh:Nat}{s:St}{so o la ta pl mp n tk q st:Nat}{Ds:List D}{tms:List Tm}{R:List Nat}{V:Nat→Val}{c:Nat→Nat}{nl:Bool}
def FM (nl:Bool)(so q:Nat)(tms:List Tm)(N last i num j:Nat):Env:=[(0,.vs nl 8 (tms.map Tm.d)),(3,.ptr so 0),(5,.sl q 0 N N),(6,.int .i64 (last:Nat)),(7,.int .i64 (i:Nat)),(8,.int .i64 (num:Nat)),(9,.int .i64 (j:Nat))]
def lawB2:AC:=match lawL 2 with
 | .loop _ a=>a
 | _=> .skip
theorem roundM (hS:TS T)(hW:TW T)(hV:TV T)(h:zSv P Sh s so o la ta pl mp n tk q st Ds tms R V c){last i j ri rj:Nat}{a b:Bool}(hi:R[i]? =some ri)(hj:R[j]? =some rj)(ha:zPs ri (V ri) rj (V rj)=a)(hb:(decide ((V ri).kind=(V rj).kind) && zPs ri (V ri) rj (V rj))=b){k:List Kont}{Q:QP}
  (hd:∀E:Env,E.keep [0,3,5,6,7,8,9,10,12]=FI nl so q tms R.length last i (V ri).num j a 0→Run T H (lawL 3) (.block 4:: .block 3:: .seq lawS2::k) ⟨E,[]⟩ s Q):
  Run T H lawB2 k ⟨FM nl so q tms R.length last i (V ri).num j,[]⟩ s Q:=by
 have hs:=h.ok
 have l40:=h.l40
 have hln:=h.ln
 have hrl:=zBt R
 have gq:=h.gq
 have hsl:=h.sl
 have hej:(ints (R.map Int.ofNat))[0+j]? =some (.int .i64 (rj:Nat)):=by simp only [ints,Nat.zero_add,List.getElem?_map,hj,Option.map_some]; rfl
 have hei:(ints (R.map Int.ofNat))[0+i]? =some (.int .i64 (ri:Nat)):=by simp only [ints,Nat.zero_add,List.getElem?_map,hi,Option.map_some]; rfl
 have hil:=(List.getElem?_eq_some_iff.mp hi).1
 have hjl:=(List.getElem?_eq_some_iff.mp hj).1
 obtain⟨p1,d1,F1,x1,y1⟩:=h.vals i ri hi
 obtain⟨p2,d2,F2,x2,y2⟩:=h.vals j rj hj
 have ea:=zFs (H:=H) hS hW hV hs h.sa x1 y1 x2 y2
 have eb:=is_ev (H:=H) hS hW hV hs h.sa x1 y1 x2 y2
 have ea' :=zFs (H:=H) hS hW hV hs h.sa x2 y2 x1 y1
 have eb' :=is_ev (H:=H) hS hW hV hs h.sa x2 y2 x1 y1
 have en:=zZo (H:=H) hS h.sa x2 y2
 rw [← yFw (fun e=>congrArg V e) p1 p2]at ea' eb'
 have hk:decide ((V rj).kind=(V ri).kind)=decide ((V ri).kind=(V rj).kind):=by simp [eq_comm]
 rw [hk]at eb'
 rw [hb]at eb eb'
 rw [ha]at ea ea'
 have hdd:decide ((j:Int) < (R.length:Nat))=true:=decide_eq_true (by omega)
 show Run T H _ _ ⟨[(0,.vs nl 8 (tms.map Tm.d)),(3,.ptr so 0),(5,.sl q 0 R.length R.length),(6,.int .i64 (last:Nat)),(7,.int .i64 (i:Nat)),(8,.int .i64 ((V ri).num:Nat)),(9,.int .i64 (j:Nat))],[]⟩ _ _
 try refine go ?_
 refine dpC ea ?_
 rintro d s2 ⟨rfl,rfl⟩
 refine⟨rfl,by rfl, ?_⟩
 try refine go ?_
 refine dpC eb ?_
 rintro d s2 ⟨rfl,rfl⟩
 refine⟨rfl,by rfl, ?_⟩
 have hba:b=true→a=true:=by
  intro e; rw [← hb,ha]at e
  cases a
  ·rw [Bool.and_false]at e; cases e
  ·rfl
 have hnum:(0 < (V ri).num∨0 < (V rj).num)→((ri:Int)==(rj:Int))=a:=by
  intro hn
  rw [← ha,like_num (fun e=>congrArg V e) p1 p2 hn,Bool.eq_iff_iff]
  simp only [beq_iff_eq,decide_eq_true_eq]
  omega
 cases b
 ·have hij:((i:Int)==(j:Int))=false:=by
   rw [beq_eq_false_iff_ne]
   intro e
   have e:i=j:=by omega
   subst e
   rw [hi]at hj; cases hj
   rw [zRp]at hb
   simp at hb
  cases a
  ·try refine go ?_
   refine dpC ea' ?_
   rintro d s2 ⟨rfl,rfl⟩
   refine⟨rfl,by rfl, ?_⟩
   try refine go ?_
   refine dpC eb' ?_
   rintro d s2 ⟨rfl,rfl⟩
   refine⟨rfl,by rfl, ?_⟩
   try refine go ?_
   try simp only [hij]
   try refine go ?_
   by_cases hn:0 < (V ri).num
   ·have her:=hnum (.inl hn)
    have hgt:decide (((V ri).num:Int) > 0)=true:=decide_eq_true (by omega)
    try simp only [hgt]
    try refine go ?_
    refine zBg ?_ (by rfl)
    try refine go ?_
    try simp only [her]
    try refine go ?_
    refine hd _ ?_
    rfl
   ·have hgt:decide (((V ri).num:Int) > 0)=false:=decide_eq_false (by omega)
    try simp only [hgt]
    try refine go ?_
    refine dpC en ?_
    rintro d s2 ⟨rfl,rfl⟩
    refine⟨rfl,by rfl, ?_⟩
    by_cases hm:0 < (V rj).num
    ·have her:=hnum (.inr hm)
     have hgm:decide (((V rj).num:Int) > 0)=true:=decide_eq_true (by omega)
     try refine go ?_
     try simp only [hgm]
     try refine go ?_
     try simp only [her]
     try refine go ?_
     refine hd _ ?_
     rfl
    ·have hgm:decide (((V rj).num:Int) > 0)=false:=decide_eq_false (by omega)
     try refine go ?_
     try simp only [hgm]
     try refine go ?_
     refine hd _ ?_
     rfl
  ·try refine go ?_
   refine dpC ea' ?_
   rintro d s2 ⟨rfl,rfl⟩
   refine⟨rfl,by rfl, ?_⟩
   try refine go ?_
   refine dpC eb' ?_
   rintro d s2 ⟨rfl,rfl⟩
   refine⟨rfl,by rfl, ?_⟩
   try refine go ?_
   try simp only [hij]
   try refine go ?_
   by_cases hn:0 < (V ri).num
   ·have her:=hnum (.inl hn)
    have hgt:decide (((V ri).num:Int) > 0)=true:=decide_eq_true (by omega)
    try simp only [hgt]
    try refine go ?_
    refine zBg ?_ (by rfl)
    try refine go ?_
    try simp only [her]
    try refine go ?_
    refine hd _ ?_
    rfl
   ·have hgt:decide (((V ri).num:Int) > 0)=false:=decide_eq_false (by omega)
    try simp only [hgt]
    try refine go ?_
    refine dpC en ?_
    rintro d s2 ⟨rfl,rfl⟩
    refine⟨rfl,by rfl, ?_⟩
    by_cases hm:0 < (V rj).num
    ·have her:=hnum (.inr hm)
     have hgm:decide (((V rj).num:Int) > 0)=true:=decide_eq_true (by omega)
     try refine go ?_
     try simp only [hgm]
     try refine go ?_
     try simp only [her]
     try refine go ?_
     refine hd _ ?_
     rfl
    ·have hgm:decide (((V rj).num:Int) > 0)=false:=decide_eq_false (by omega)
     try refine go ?_
     try simp only [hgm]
     try refine go ?_
     refine hd _ ?_
     rfl
 ·cases hba rfl
  try refine go ?_
  refine dpC ea' ?_
  rintro d s2 ⟨rfl,rfl⟩
  refine⟨rfl,by rfl, ?_⟩
  try refine go ?_
  refine dpC eb' ?_
  rintro d s2 ⟨rfl,rfl⟩
  refine⟨rfl,by rfl, ?_⟩
  try refine go ?_
  generalize hij:((i:Int)==(j:Int))=e
  cases e
  ·try refine go ?_
   by_cases hn:0 < (V ri).num
   ·have her:=hnum (.inl hn)
    have hgt:decide (((V ri).num:Int) > 0)=true:=decide_eq_true (by omega)
    try simp only [hgt]
    try refine go ?_
    refine zBg ?_ (by rfl)
    try refine go ?_
    try simp only [her]
    try refine go ?_
    refine hd _ ?_
    rfl
   ·have hgt:decide (((V ri).num:Int) > 0)=false:=decide_eq_false (by omega)
    try simp only [hgt]
    try refine go ?_
    refine dpC en ?_
    rintro d s2 ⟨rfl,rfl⟩
    refine⟨rfl,by rfl, ?_⟩
    by_cases hm:0 < (V rj).num
    ·have her:=hnum (.inr hm)
     have hgm:decide (((V rj).num:Int) > 0)=true:=decide_eq_true (by omega)
     try refine go ?_
     try simp only [hgm]
     try refine go ?_
     try simp only [her]
     try refine go ?_
     refine hd _ ?_
     rfl
    ·have hgm:decide (((V rj).num:Int) > 0)=false:=decide_eq_false (by omega)
     try refine go ?_
     try simp only [hgm]
     try refine go ?_
     refine hd _ ?_
     rfl
  ·try refine go ?_
   by_cases hn:0 < (V ri).num
   ·have her:=hnum (.inl hn)
    have hgt:decide (((V ri).num:Int) > 0)=true:=decide_eq_true (by omega)
    try simp only [hgt]
    try refine go ?_
    refine zBg ?_ (by rfl)
    try refine go ?_
    try simp only [her]
    try refine go ?_
    refine hd _ ?_
    rfl
   ·have hgt:decide (((V ri).num:Int) > 0)=false:=decide_eq_false (by omega)
    try simp only [hgt]
    try refine go ?_
    refine dpC en ?_
    rintro d s2 ⟨rfl,rfl⟩
    refine⟨rfl,by rfl, ?_⟩
    by_cases hm:0 < (V rj).num
    ·have her:=hnum (.inr hm)
     have hgm:decide (((V rj).num:Int) > 0)=true:=decide_eq_true (by omega)
     try refine go ?_
     try simp only [hgm]
     try refine go ?_
     try simp only [her]
     try refine go ?_
     refine hd _ ?_
     rfl
    ·have hgm:decide (((V rj).num:Int) > 0)=false:=decide_eq_false (by omega)
     try refine go ?_
     try simp only [hgm]
     try refine go ?_
     refine hd _ ?_
     rfl
end
end Go.Proofs.YtmcdajnpdekocaaGreatDoor.Tab
