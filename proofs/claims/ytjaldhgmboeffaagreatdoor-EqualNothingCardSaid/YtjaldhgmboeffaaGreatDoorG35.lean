/- Part. -/
import Derived.Test.YtjaldhgmboeffaaGreatDoorG34
set_option linter.unusedSimpArgs false
set_option linter.unusedVariables false
set_option linter.unusedSectionVars false
set_option maxRecDepth 100000
set_option maxHeartbeats 1000000
namespace Go.Proofs.Tab
open Go Go.Ab Go.Ab.Sm
abbrev SM:=List (Nat×List UInt8×Int)
def Bj (L:SM):List (Nat×D×D):=L.map fun x=>(x.1,D.str x.2.1,D.int .i64 x.2.2)
def zp (L:SM):List (List UInt8):=L.map fun x=>x.2.1
theorem RH (L:SM):(Bj L).length=L.length:=aJ _
theorem Dz (L:SM)(l:List UInt8):∀i,(findKey .str (.str l) (Bj L) i=some none/\l ∉ zp L)\/∃j v c,findKey .str (.str l) (Bj L) i=some (some (i+j,.int .i64 v))/\L[j]? =some (c,l,v):=by
 induction L with
 | nil=>exact fun i=> .inl ⟨rfl,by simp [zp]⟩
 | cons x r ih=>
  intro i;obtain⟨c,l',v⟩:=x;have ih:=ih (i+1);by_cases he:l=l'
  ·subst he;refine .inr ⟨0,v,c, ?_,rfl⟩;simp [Bj,findKey,th,X7]
  ·have hf:findKey .str (.str l) (Bj ((c,l',v)::r)) i=findKey .str (.str l) (Bj r) (i+1):=by
    have:(l==l')=false:=by simpa using he
    simp [Bj,findKey,th,X7,this]
   rw [hf];rcases ih with ⟨h1,h0⟩ | ⟨j,v2,c2,h1,h2⟩
   ·exact .inl ⟨h1,by simpa [zp,he] using h0⟩
   ·exact .inr ⟨j+1,v2,c2,by rw [h1,show i+1+j=i+(j+1) by omega],by simpa using h2⟩
theorem Sk {L:SM}{l:List UInt8}{v v0:Int}{c:Nat}:∀ {i:Nat},L[i]? =some (c,l,v0)->∃L' :SM,Ab.setAt (Bj L) i (fun x=>(x.1,.str l,.int .i64 v))=Bj L' /\zp L' =zp L:=by
 induction L with
 | nil=>intro i h; simp at h
 | cons x r ih=>
  intro i h;cases i with
  | zero=>
   simp only [aR,aa]at h; subst h;exact⟨(c,l,v)::r,rfl,rfl⟩
  | succ i=>
   obtain⟨L',h1,h2⟩:=ih (i:=i) (by simpa using h);exact⟨x::L',by simp only [Bj,bG,Ab.setAt]at h1 ⊢; rw [h1],by simp only [zp,bG]at h2 ⊢; rw [h2]⟩
theorem ye {α:Type} [DecidableEq α]:∀(A B:List α),A.Nodup->(∀a∈A,a∈B)->A.length<=B.length
 | [],B,_,_=>aS _
 | a::A,B,h,hs=>by
  rw [fq]at h;have h1:=ye A (B.erase a) h.2 (fun b hb=>(List.mem_erase_of_ne (fun e=>h.1 (by subst e; exact hb))).2 (hs b (by simp [hb])));have h2:=List.length_erase_of_mem (hs a (by simp));have h3:=List.length_pos_of_mem (hs a (by simp));rw [aV]; omega
section
variable {T:Nat->Option dU}{H:ay}{b:Nat}{k:List iT}{l:List bg}{s:St}{Q:QP}{t:Nat}{e:Env}{ds:List (D×List D)}{g:Option (Nat×Bool)}
theorem IM {m y:bP}{tx:List UInt8}{o c:Nat}{L:SM}(hg:s.get o=some (.map (Bj L) c))(h:∀v:Int,gG T H b l k ⟨(t,.int .i64 v)::e,ds⟩ s Q)(hw:aI e g=some true:=by rfl)(hx:m.ev e=some (.mp o):=by rfl)(hy:y.ev e=some (.str tx):=by rfl):gG T H b (⟨some t,.lookup .str (.int .i64 0) false m y,g,none⟩::l) k ⟨e,ds⟩ s Q:=by
 rcases Dz L tx 0 with ⟨h1,_⟩ | ⟨j,v,c',h1,h2⟩
 ·exact du (h 0) hw (by simp only [cC,hx,hy,hg,h1,oQ,Fa])
 ·exact du (h v) hw (by simp only [cC,hx,hy,hg,h1,oQ,Fa])
theorem Ho {m y z:bP}{tx:List UInt8}{o c:Nat}{v:Int}{L:SM}(hs:s.Ok)(hg:s.get o=some (.map (Bj L) c))(h:∀(L' :SM) c',(zp L' =zp L\/tx ∉ zp L/\zp L' =zp L++ [tx])->gG T H b l k ⟨e,ds⟩ (s.bF o (.map (Bj L') c')) Q)(hw:aI e g=some true:=by rfl)(hx:m.ev e=some (.mp o):=by rfl)(hy:y.ev e=some (.str tx):=by rfl)(hz:z.ev e=some (.int .i64 v):=by rfl):gG T H b (⟨none,.zC .str m y z,g,none⟩::l) k ⟨e,ds⟩ s Q:=by
 rcases Dz L tx 0 with ⟨h1,h0⟩ | ⟨j,v',c',h1,h2⟩
 ·have e1:Bj L++ [(c,D.str tx,D.int .i64 v)]=Bj (L++ [(c,tx,v)]):=by simp [Bj]
  exact du (d:= .gK []) (h (L++ [(c,tx,v)]) (c+1) (.inr ⟨h0,by simp [zp]⟩)) hw (by simp only [cC,hx,hy,hz,hg,h1,oQ,hs.set,oK,e1])
 ·rw [aN]at h1;obtain⟨L',e1,e2⟩:=Sk (v:=v) h2;have h3:(Bj L)[j]? =some (c',.str tx,.int .i64 v'):=by simp only [Bj,aC,h2,da]
  exact du (d:= .gK []) (h L' c (.inl e2)) hw (by simp only [cC,hx,hy,hz,hg,h1,h3,oQ,Dt,beq_self_eq_true,hs.set,oK,e1])
def mu (t:Tm):Bool:=decide (t.kd=3) && decide (256 < (bU t.mag).length)
theorem vY (ng:Bool)(V:List Nat):(eh ng V).2=bU V:=by
 unfold eh;split <;> rename_i h <;> simp [h]
variable {so bo i:Nat}{x:D}{tms:List Tm}{tm:Tm}
theorem PY (hS:TS T)(hs:s.Ok)(hb:lS s bo so tms x)(hk:tms[i]? =some tm)(ho:tm.Ok)(h1:tm.kd=4):cu T H 75 [.ptr bo 0,.int .i64 (i:Nat)] s fun d s1=>d= .bool (mu tm)/\aF Nil s s1:=by
 have hg:=hb.go;have ha:=ej hk;have q3:=ho.tx;obtain⟨kd,b,ng,n1,mag,tx,n2,kids,gW,sm⟩:=tm;simp only at q3 h1; subst h1;have hL:=XJ (H:=H) hS hs (l:=tx) (by omega);have ur:=oe tx tx.length 0 (by omega);have hd:=cN (((runesFrom tx 0:Nat):Int) > 65536);refine ax hS.t75 ?_;try refine go ?_
 refine ak hL ?_;rintro d s2 ⟨rfl,z1⟩;try refine go ?_
 exact ai ⟨rfl,z1⟩
theorem PR (hS:TS T)(hW:TW T)(hs:s.Ok)(hb:lS s bo so tms x)(hk:tms[i]? =some tm)(ho:tm.Ok)(h1:tm.kd=3):cu T H 75 [.ptr bo 0,.int .i64 (i:Nat)] s fun d s1=>d= .bool (mu tm)/\aF Nil s s1:=by
 have hg:=hb.go;have ha:=ej hk;have q1:=ho.n1; have q2:=ho.mag;obtain⟨kd,b,ng,n1,mag,tx,n2,kids,gW,sm⟩:=tm;simp only at q1 q2 h1; subst h1;have hL:=DI (H:=H) (n:=(ng,mag)) hW hs ⟨_,rfl,.vs n1 mag q1⟩ (by simp only [aL]; omega);refine ax hS.t75 ?_;try refine go ?_
 refine ak hL ?_;rintro d s2 ⟨⟨y,rfl,hy⟩,z1⟩;have vf:=aba hy;have pY:=vY ng mag;have Lr:∀m:Nat,m=(bU mag).length->D.bool (decide ((m:Int) > 256))= .bool (mu ⟨3,b,ng,n1,mag,tx,n2,kids,gW,sm⟩):=by
  rintro m rfl;simp only [mu,decide_true,fM,D.bool.injEq,decide_eq_decide];omega
 rcases hy.shape with ⟨o,n,cp,rfl⟩ | ⟨nl,z,L,rfl⟩
 ·have e1:=Lr n (by rw [← pY]; exact hy.pS);try refine go ?_
  exact ai ⟨e1,z1⟩
 ·have e1:=Lr L.length (by rw [← pY,hy.qa,cQ]);try refine go ?_
  exact ai ⟨e1,z1⟩
theorem H8 (hS:TS T)(hs:s.Ok)(hb:lS s bo so tms x)(hk:tms[i]? =some tm)(ho:tm.Ok)(h1:tm.kd=5\/tm.kd=6):cu T H 75 [.ptr bo 0,.int .i64 (i:Nat)] s fun d s1=>d= .bool (mu tm)/\aF Nil s s1:=by
 have hg:=hb.go;have ha:=ej hk;have j9:=ho.kids;obtain⟨kd,b,ng,n1,mag,tx,n2,kids,gW,sm⟩:=tm;simp only at h1 j9;have ja:(ints kids).length=kids.length:=aJ _;have hd:=cN (((ints kids).length:Int) > 65536);refine ax hS.t75 ?_;rcases h1 with rfl | rfl
 ·try refine go ?_
  exact ai ⟨rfl,aF.refl hs⟩
 ·try refine go ?_
  exact ai ⟨rfl,aF.refl hs⟩
theorem MU {o la ta pl mp P Sh n lv tk:Nat}{Ds:List D}(hS:TS T)(hW:TW T)(hV:TV T)(hX:TX T)(hs:s.Ok)(dN:bc s so o la ta pl mp P Sh Ds n lv tk)(hb:lS s bo so tms x)(hk:tms[i]? =some tm)(ho:tm.Ok)(dQ:∀v∈fi tm,∃k:Nat,v=(k:Int)/\k < 100/\∃t',tms[k]? =some t' /\t'.Ok/\∀w∈t'.mag,w < 4294967296)(Ud:tms.length<=P)(h1:tm.kd≠3/\tm.kd≠4/\tm.kd≠5/\tm.kd≠6):cu T H 75 [.ptr bo 0,.int .i64 (i:Nat)] s fun d s1=>d= .bool (mu tm)/\aF Nil s s1:=by
 have hg:=hb.go;have ha:=ej hk;obtain⟨h3,h4,h5,h6⟩:=h1;have hK:=fun (s2:St) (h:s2.Ok)=>Cp (H:=H) hS h ho;have j9:=tB tm;have DF:=ho.kids;generalize rW:fi tm=L at dQ hK j9;obtain⟨kd,b,ng,n1,mag,tx,n2,kids,gW,sm⟩:=tm;simp only at h3 h4 h5 h6 DF j9;refine ax hS.t75 ?_;try refine go ?_
 refine ak (hK _ (oI)) ?_;rintro d s2 ⟨z1,z2,z3⟩;have b2:aF Nil s s2:=(aF.push (aF.refl hs) _).trans z3;have ok0:(s.bz (.map [] 0)).Ok:=oI;have gm:s2.get s.n=some (.map [] 0):=z3.get ok0 St.bu (fun h=>h);have lb:=hs.lt hg;have Vb :s.n+1<=s2.n:=by have:=z3.n; rwa [St.dV]at this
 have hlen:L.length<=100000:=by omega
 have ok2:=b2.ok;have gb2:=b2.get hs hg (fun h=>h);have Yc:=b2.get hs dN.go (fun h=>h);have ls:=hs.lt dN.go;have fin:∀ {s3:St},aF (fun j=>j=s.n) s2 s3->aF Nil s s3:=fun h=>b2.trans' h (fun j hj h2=>by subst hj; exact absurd h2 (gR _));let K:SM->Prop:=fun M=>(zp M).Nodup/\∀x∈zp M,x∈(List.range tms.length).filterMap fun k=>(tms[k]?).map fun u=>AA u k
 have hKl:∀M,K M->decide (((Bj M).length:Int) > (P:Nat))=false:=fun M hM=>by
  have q1:=ye _ _ hM.1 hM.2;have q2:=List.length_filterMap_le (fun k=>(tms[k]?).map fun u=>AA u k) (List.range tms.length);rw [List.length_range]at q2;rw [zp,aJ]at q1;exact bk (by rw [RH]; omega)
 have hKs:∀ {M M' :SM} {k:Nat} {u:Tm},K M->tms[k]? =some u->(zp M' =zp M\/AA u k ∉ zp M/\zp M' =zp M++ [AA u k])->K M' :=by
  rintro M M' k u ⟨q1,q2⟩ hu (q3 | ⟨q3,q4⟩)
  ·exact⟨q3 ▸ q1,q3 ▸ q2⟩
  ·refine⟨?_, ?_⟩
   ·rw [q4,List.nodup_append];exact⟨q1,by simp,fun a ha b hb=>by rw [cH]at hb; subst hb; exact fun e=>q3 (e ▸ ha)⟩
   ·intro x hx;rw [q4,bK,cH]at hx;rcases hx with hx | rfl
    ·exact q2 x hx
    ·rw [jP];exact⟨k,by rw [mi]; exact (aj.mp hu).1,by rw [hu]; rfl⟩
 have ya:D.bool false= .bool (mu ⟨kd,b,ng,n1,mag,tx,n2,kids,gW,sm⟩):=by simp [mu,h3]
 let J:Nat->St->Prop:=fun j s' =>(∃M c,s'.get s.n=some (.map (Bj M) c)/\K M)/\aF (fun j=>j=s.n) s2 s'
 have K0:K []:=⟨by simp [zp],by simp [zp]⟩;have J0:J 0 s2:=⟨⟨[],0,gm,K0⟩,aF.refl ok2⟩;rcases z1 with ⟨nl,L,hn⟩ | _ | ⟨o',L,h7⟩
 ·have ja:(ints L).length=L.length:=aJ _;try refine go ?_
  rw [ja];refine ee L.length (fun j=> [(0,.ptr bo 0),(6,.mp s.n),(41,.vs nl 1 (ints L)),(42,.int .i64 (L.length:Nat)),(43,.int .i64 (j:Nat))]) J J0 ?_;rintro j s' hj ⟨⟨M,c,q1,q2⟩,q3⟩;have q4:=q3.ok;have q5:=q3.get ok2 gb2 (by omega);have q6:=q3.get ok2 Yc (by omega);rcases aH j L.length with h8 | h8
  ·obtain⟨k',CC,ym,t',tP,sH,O3⟩:=dQ _ (bH h8);have he:=ints_at (L:=L) (j:=j) (ab h8);rw [CC]at he;try refine go ?_
   refine ak (HM hS hW hV hX q4 ⟨q5⟩ tP sH O3 ym) ?_;rintro d s3 ⟨rfl,y1⟩;have ok3:=y1.ok;have La:=y1.get q4 q1 (fun h=>h);try refine go ?_
   refine IM La fun v=> ?_;try refine go ?_
   refine Ho ok3 La fun M' c' zj => ?_;try refine go ?_
   refine dw h8 ⟨⟨M',c',St.aO,hKs q2 tP zj⟩,(q3.trans (y1.mono fun _ h=>h.elim)).trans (aF.set (aF.refl ok3) _ (ok3.lt La) (fun _=>rfl))⟩
  ·have:j=L.length:=by omega
   subst this;have hd:=hKl M q2;try refine go ?_
   try simp only [hd]
   exact ai ⟨ya,fin q3⟩
 ·try refine go ?_
  refine lU ?_;have hd:decide ((([]:List (Nat×D×D)).length:Int) > (P:Nat))=false:=hKl [] K0;try refine go ?_
  try simp only [hd]
  exact ai ⟨ya,b2⟩
 ·have ho2:o' ≠s.n:=by have:=z2 _ _ _ _ rfl; rw [St.dV]at this; omega
  try refine go ?_
  refine ee L.length (fun j=> [(0,.ptr bo 0),(6,.mp s.n),(41,.sl o' 0 L.length L.length),(42,.int .i64 (L.length:Nat)),(43,.int .i64 (j:Nat))]) J J0 ?_;rintro j s' hj ⟨⟨M,c,q1,q2⟩,q3⟩;have q4:=q3.ok;have q5:=q3.get ok2 gb2 (by omega);have q6:=q3.get ok2 Yc (by omega);have q7:=q3.get ok2 h7 ho2;have ja:(ints L).length=L.length:=aJ _;rcases aH j L.length with h8 | h8
  ·obtain⟨k',CC,ym,t',tP,sH,O3⟩:=dQ _ (bH h8);have he:=ints_at (L:=L) (j:=j) (ab h8);rw [CC,← Nat.zero_add j]at he;try refine go ?_
   refine ak (HM hS hW hV hX q4 ⟨q5⟩ tP sH O3 ym) ?_;rintro d s3 ⟨rfl,y1⟩;have ok3:=y1.ok;have La:=y1.get q4 q1 (fun h=>h);try refine go ?_
   refine IM La fun v=> ?_;try refine go ?_
   refine Ho ok3 La fun M' c' zj => ?_;try refine go ?_
   refine dw h8 ⟨⟨M',c',St.aO,hKs q2 tP zj⟩,(q3.trans (y1.mono fun _ h=>h.elim)).trans (aF.set (aF.refl ok3) _ (ok3.lt La) (fun _=>rfl))⟩
  ·have:j=L.length:=by omega
   subst this;have hd:=hKl M q2;try refine go ?_
   try simp only [hd]
   exact ai ⟨ya,fin q3⟩
theorem Ju {o la ta pl mp P Sh n lv tk:Nat}{Ds:List D}(hS:TS T)(hW:TW T)(hV:TV T)(hX:TX T)(hs:s.Ok)(dN:bc s so o la ta pl mp P Sh Ds n lv tk)(hb:lS s bo so tms x)(hk:tms[i]? =some tm)(ho:tm.Ok)(dQ:∀v∈fi tm,∃k:Nat,v=(k:Int)/\k < 100/\∃t',tms[k]? =some t' /\t'.Ok/\∀w∈t'.mag,w < 4294967296)(Ud:tms.length<=P):cu T H 75 [.ptr bo 0,.int .i64 (i:Nat)] s fun d s1=>d= .bool (mu tm)/\aF Nil s s1:=by
 by_cases h3:tm.kd=3
 ·exact PR hS hW hs hb hk ho h3
 by_cases h4:tm.kd=4
 ·exact PY hS hs hb hk ho h4
 by_cases h5:tm.kd=5
 ·exact H8 hS hs hb hk ho (.inl h5)
 by_cases h6:tm.kd=6
 ·exact H8 hS hs hb hk ho (.inr h6)
 exact MU hS hW hV hX hs dN hb hk ho dQ Ud ⟨h3,h4,h5,h6⟩
end
theorem ka.of {tms:List Tm}{i:Nat}{t:Tm}(h1:dX t.kd)(h2:mS tms i t):ka tms i t:=by
 obtain⟨q1,q2,q3⟩:=h2;unfold dX at h1;unfold uV at q3;refine⟨q1,fun k hk=> ?_,fun h=> ?_,h1,fun h=> ?_,fun h=> ?_⟩
 ·obtain⟨u,e1,e2⟩:=q2 k hk;exact⟨u,e1,e2.tm⟩
 ·rw [aK (by omega),bT h]at q3; exact q3
 ·rw [aK (by omega),aK (by omega),aK (by omega)]at q3; exact q3
 ·rw [aK (by omega),aK (by omega),bT (by omega)]at q3;obtain⟨k,u,e1,_,_⟩:=q3;rw [e1]; rfl
noncomputable def bM (tms:List Tm)(i:Nat)(t:Tm):Int:=open Classical in if ¬ dX t.kd then 12 else if ¬ mS tms i t then 1 else if t.kd=4/\Lib.validD t.tx=false then 1 else if mu t=true then 3 else 0
theorem ry {tms:List Tm}{i:Nat}{t:Tm}(h:bM tms i t=0):ka tms i t:=by
 unfold bM at h;by_cases h1:dX t.kd
 ·rw [aK (fun hn=>hn h1)]at h;by_cases h2:mS tms i t
  ·exact ka.of h1 h2
  ·rw [bT h2]at h; cases h
 ·rw [bT h1]at h; cases h
def qQ (tms:List Tm)(e:Int):Prop:=(e=0/\∀i t,tms[i]? =some t->bM tms i t=0)\/(e≠0/\∃j t,tms[j]? =some t/\bM tms j t=e/\∀i u,i < j->tms[i]? =some u->bM tms i u=0)
theorem qQ.one {tms:List Tm} {e e' :Int}(h:qQ tms e) (h' :qQ tms e'):e=e' :=by
 rcases h with ⟨h1,h2⟩ | ⟨h1,j,t,h2,h3,h4⟩ <;> rcases h' with ⟨FZ,xr⟩ | ⟨FZ,j',t',xr,h3',h4'⟩
 ·omega
 ·exact absurd (h3'.symm.trans (h2 _ _ xr)) FZ
 ·exact absurd (h3.symm.trans (xr _ _ h2)) h1
 ·rcases gZ j j' with h | h | h
  ·exact absurd (h3.symm.trans (h4' _ _ h h2)) h1
  ·subst h; rw [h2]at xr; cases xr; omega
  ·exact absurd (h3'.symm.trans (h4 _ _ h xr)) FZ
section
variable {T:Nat->Option dU}{H:ay}{s:St}{so bo i:Nat}{x:D}{tms:List Tm}{t:Tm}{o la ta pl mp P Sh n lv tk:Nat}{Ds:List D}
theorem H0 (hS:TS T)(hU:TU T H)(hs:s.Ok){l:List UInt8}(hl:l.length<=1000000000):cu T H 74 [.str l] s fun d s1=>d= .bool (Lib.validD l)/\s1=s:=by
 refine ax hS.t74 ?_;try refine go ?_
 refine ak (hU s l hl) ?_;rintro d s1 ⟨rfl,rfl⟩;try refine go ?_
 exact ai ⟨rfl,rfl⟩
theorem Nb (hS:TS T)(hW:TW T)(hV:TV T)(hX:TX T)(hU:TU T H)(hs:s.Ok)(dN:bc s so o la ta pl mp P Sh Ds n lv tk)(hb:lS s bo so tms x)(hk:tms[i]? =some t)(hN:tms.length<=100)(Ud:tms.length<=P)(fK:∀u∈tms,u.Ok/\∀w∈u.mag,w < 4294967296):
  cu T H 41 [.ptr bo 0,.int .i64 (i:Nat)] s fun d s1=>d= .int .i64 (bM tms i t)/\aF Nil s s1:=by
 have ho:=(fK t (aM hk)).1;have hi:i < tms.length:=(aj.mp hk).1;have hg:=hb.go;have ha:=ej hk;have Eb:=ho.tx;have hK:=fun (s2:St) (h:s2.Ok) (Fc:s2.get bo=some (.var 116 (.agg [.ptr so 0,.vs false 8 (tms.map Tm.d),x])))=>Gt (H:=H) hS h Fc hk ho (by omega)
 have hB:=fun (s2:St) (h:s2.Ok) (pB:bc s2 so o la ta pl mp P Sh Ds n lv tk) (jK:lS s2 bo so tms x) (h2:mS tms i t)=>Ju (H:=H) hS hW hV hX h pB jK hk ho (fun v hv=>by
  obtain⟨u,e1,_⟩:=h2.2.1 v hv;have hvk:v∈t.kids:=by
   unfold fi at hv;split at hv
   ·exact hv
   ·split at hv
    ·exact vp hv
    ·cases hv
  have e2:=(h2.1 v hvk).1;have e3:v.toNat < tms.length:=(aj.mp e1).1;have e4:=fK u (aM e1);exact⟨v.toNat,by omega,by omega,u,e1,e4.1,e4.2⟩) Ud
 have OY:=H0 (H:=H) (s:=s) hS hU hs (l:=t.tx) (by omega);refine ax hS.t41 ?_;unfold bM;obtain⟨kd,b,ng,n1,mag,tx,n2,kids,gW,sm⟩:=t;try refine go ?_
 refine ak (Km hS) ?_;rintro d s1 ⟨⟨c,rfl,gV⟩,rfl⟩;cases c
 ·have NP: ¬ dX kd:=fun h=>by have:=gV.2 h; cases this
  rw [bT NP];try refine go ?_
  exact ai ⟨rfl,aF.refl hs⟩
 have gV:=gV.1 rfl;rw [aK (fun hn=>hn gV)];try refine go ?_
 refine ak (hK _ hs hg) ?_;rintro d s2 ⟨⟨c,rfl,GM⟩,b2⟩;have ok2:=b2.ok;cases c
 ·have GM:=GM.1 rfl;rw [aK (fun hn=>hn GM)];have VU:=hB s2 ok2 (dN.dK hs b2 fun _ _ h=>h) ⟨b2.get hs hg id⟩ GM;by_cases h4:kd=4
  ·subst h4;have hnb:mu ⟨4,b,ng,n1,mag,tx,n2,kids,gW,sm⟩=false:=rfl;try refine go ?_
   refine ak (H0 hS hU ok2 (l:=tx) (cU Eb (by decide))) ?_;rintro d s3 ⟨rfl,rfl⟩;cases hvd:Lib.validD tx
   ·rw [bT ⟨rfl,rfl⟩];try refine go ?_
    exact ai ⟨rfl,b2⟩
   ·rw [aK (fun hn=>by cases hn.2),hnb];rw [hnb]at VU;try refine go ?_
    refine ak VU ?_;rintro d s4 ⟨rfl,b4⟩;try refine go ?_
    exact ai ⟨rfl,b2.trans b4⟩
  ·have cE:(kd==4)=false:=by simpa using h4
   rw [aK (fun hn=>h4 hn.1)];try refine go ?_
   try simp only [cE]
   try refine go ?_
   refine ak VU ?_;rintro d s4 ⟨rfl,b4⟩;cases Lr:mu ⟨kd,b,ng,n1,mag,tx,n2,kids,gW,sm⟩
   ·try refine go ?_
    exact ai ⟨rfl,b2.trans b4⟩
   ·try refine go ?_
    exact ai ⟨rfl,b2.trans b4⟩
 ·have NP: ¬ mS tms i ⟨kd,b,ng,n1,mag,tx,n2,kids,gW,sm⟩:=fun h=>by have:=GM.2 h; cases this
  rw [bT NP];try refine go ?_
  exact ai ⟨rfl,b2⟩
end
section
variable {T:Nat->Option dU}{H:ay}{s:St}
theorem Ra (hS:TS T)(hs:s.Ok):cu T H 38 [] s fun d s1=>d= .ptr s.n 0/\s1=s.bz (.var 164 (.agg [.vs true 0 [],.vs true 0 [],.vs true 0 []])):=by
 refine ax hS.t38 ?_;try refine go ?_
 exact ai ⟨rfl,rfl⟩
theorem L9 (hS:TS T)(hs:s.Ok):cu T H 39 [.vs true 0 []] s fun d s1=>d= .ptr (s.n+1) 0/\s1=(s.bz (.map [] 0)).bz (.var 167 (.agg [.mp s.n,.int .i64 0])):=by
 refine ax hS.t39 ?_;try refine go ?_
 refine ee 0 (fun j=> [(3,.ptr (s.n+1) 0),(9,.vs true 0 []),(10,.int .i64 0),(11,.int .i64 0)]) (fun j s' =>s' =(s.bz (.map [] 0)).bz (.var 167 (.agg [.mp s.n,.int .i64 0]))) rfl ?_;rintro j s' hj rfl;try refine go ?_
 exact ai ⟨rfl,rfl⟩
theorem R7 (hT:TS T){o ty:Nat}{x:D}(hs:s.Ok)(h:s.get o=some (.var 164 (.agg [.vs true 0 [],.vs true 0 [],.vs true 0 []]))):
  cu T H 40 [.ptr o 0,.ia ty x] s fun d s1=>me s1 o s.n (s.n+1) [.ia ty x]/\aF (fun j=>j=o) s s1/\s1.n=s.n+2:=by
 have l1:=hs.lt h;refine ax hT.t40 ?_;try refine go ?_
 refine ai ⟨⟨?_, ?_, ?_,by omega,by omega,by omega⟩, ?_, ?_⟩
 ·exact gI
 ·exact gI
 ·exact gI
 ·exact bI
 ·rfl
@[reducible] def three:List D:=[.ia 109 (.agg []),.ia 111 (.agg [.bool false]),.ia 111 (.agg [.bool true])]
def abm (s:St)(P Sh:Nat)(j:Nat)(s1:St):Prop:=
 aF Nil s s1/\s1.get s.n=some (.var 105 (.agg [.int .i64 0,.int .i64 P,.int .i64 Sh,.vs true 0 [],.vs true 0 [],.cz,.ptr (s.n+1) 0,.int .i64 0,.int .i64 0,.int .i64 0,.ptr (s.n+3) 0,.bool false]))/\
 s1.get (s.n+3)=some (.var 167 (.agg [.mp (s.n+2),.int .i64 0]))/\s1.get (s.n+2)=some (.map [] 0)/\s1.get (s.n+4)=some (.arr 1 101 three 0)/\
 ((j=0/\s1.get (s.n+1)=some (.var 164 (.agg [.vs true 0 [],.vs true 0 [],.vs true 0 []]))/\s1.n=s.n+5)\/(j≠0/\me s1 (s.n+1) (s.n+5) (s.n+6) (three.take j)))
theorem Xy (hS:TS T)(hs:s.Ok){P Sh:Nat}(hP:P<=65536)(K7:Sh<=256):cu T H 14 [.agg [.int .i64 0,.int .i64 (P:Nat),.int .i64 (Sh:Nat),.vs true 0 [],.vs true 0 []],.cz] s fun d s1=>
  ∃so o la ta pl mp,d= .gK [.ptr so 0,.int .i64 0]/\bc s1 so o la ta pl mp P Sh three 0 0 0/\(∀j,bA so o la ta pl j\/j=mp->s.n<=j)/\aF Nil s s1:=by
 have e1:=cN ((P:Int) < 0);have e2:=cN ((P:Int) > 65536);have e3:=cN ((Sh:Int) < 0);have e4:=cN ((Sh:Int) > 256);refine ax hS.t14 ?_;try refine go ?_
 refine aX (Ra (s:=s.up 1) hS (hs.up _)) ?_;rintro d s1 ⟨rfl,rfl⟩;refine⟨rfl,by rfl, ?_⟩;try refine go ?_
 refine aX (L9 hS ((hs.up _).bz _)) ?_;rintro d s1 ⟨rfl,rfl⟩;refine⟨rfl,by rfl, ?_⟩;try refine go ?_
 refine ee 3 (fun j=> [(6,.ptr s.n 0),(51,.sl (s.n+4) 0 3 3),(52,.int .i64 3),(53,.int .i64 (j:Nat))]) (abm s P Sh) ⟨?_, ?_, ?_, ?_, ?_,.inl ⟨rfl, ?_,rfl⟩⟩ ?_
 ·exact bI
 ·exact gI
 ·exact gI
 ·exact gI
 ·exact gI
 ·exact gI
 rintro j s1 hj ⟨b1,g0,g3,g2,g4,hc⟩;have ok1:=b1.ok;have lp:=ok1.lt g3;rcases (show j=0\/j=1\/j=2\/j=3 by omega) with rfl | rfl | rfl | rfl
 ·rcases hc with ⟨_,gs,hn⟩ | ⟨h,_⟩
  ·try refine go ?_
   refine ak (R7 hS ok1 gs) ?_;rintro d s2 ⟨k1,k2,k3⟩;rw [hn]at k1;try refine go ?_
   exact dw (by omega) ⟨b1.trans' k2 fun j hj dM=>by omega,k2.get ok1 g0 (by omega),k2.get ok1 g3 (by omega),k2.get ok1 g2 (by omega),k2.get ok1 g4 (by omega),.inr ⟨by decide,k1⟩⟩
  ·exact absurd rfl h
 ·rcases hc with ⟨h,_⟩ | ⟨_,sO⟩
  ·exact absurd h (by decide)
  ·try refine go ?_
   refine ak (qM hS ok1 sO (by simp [aL])) ?_;rintro d s2 ⟨-,k1,k2⟩;have w1: ¬ ((s.n:Nat)=s.n+1\/s.n=s.n+5\/s.n=s.n+6):=by omega
   try refine go ?_
   exact dw (by omega) ⟨b1.trans' k2 fun j hj dM=>by omega,k2.get ok1 g0 (by omega),k2.get ok1 g3 (by omega),k2.get ok1 g2 (by omega),k2.get ok1 g4 (by omega),.inr ⟨by decide,k1⟩⟩
 ·rcases hc with ⟨h,_⟩ | ⟨_,sO⟩
  ·exact absurd h (by decide)
  ·try refine go ?_
   refine ak (qM hS ok1 sO (by simp [aL])) ?_;rintro d s2 ⟨-,k1,k2⟩;have w1: ¬ ((s.n:Nat)=s.n+1\/s.n=s.n+5\/s.n=s.n+6):=by omega
   try refine go ?_
   exact dw (by omega) ⟨b1.trans' k2 fun j hj dM=>by omega,k2.get ok1 g0 (by omega),k2.get ok1 g3 (by omega),k2.get ok1 g2 (by omega),k2.get ok1 g4 (by omega),.inr ⟨by decide,k1⟩⟩
 ·rcases hc with ⟨h,_⟩ | ⟨_,sO⟩
  ·exact absurd h (by decide)
  ·try refine go ?_
   refine ai ⟨s.n,s.n+1,s.n+5,s.n+6,s.n+3,s.n+2,rfl,⟨g0,g3,g2,sO,by simp only [fq,bR,fa,kL,kK,dC,fN,iq]; omega⟩,fun j hj=> ?_,b1⟩;simp only [bA]at hj;omega
end
noncomputable def Jp (n:Nat):AC:=match n,VP.1.body with
 | 1,.seq _ (.seq _ (.seq _ (.seq (.seq _ (.block _ a)) _)))=>a
 | 2,.seq _ (.seq _ (.seq _ (.seq _ (.seq (.seq _ (.block _ a)) _))))=>a
 | 3,.seq _ (.seq _ (.seq _ (.seq _ (.seq _ (.seq (.seq _ (.block _ a)) _)))))=>a
 | _,_=> .skip
structure Av (tms:List Tm):Prop where
 len:tms.length<=100
 ok:∀u∈tms,u.Ok/\∀w∈u.mag,w < 4294967296
section
variable {T:Nat->Option dU}{H:ay}{s:St}{so bo i:Nat}{x:D}{tms:List Tm}{t:Tm}{o la ta pl mp P Sh n lv tk:Nat}{Ds:List D}
theorem MV (hS:TS T)(hW:TW T)(hV:TV T)(hX:TX T)(hU:TU T H)(Ud:tms.length<=P)(hs:s.Ok)(dN:bc s so o la ta pl mp P Sh Ds n lv tk)(hb:lS s bo so tms x)(hT:Av tms){nl:Bool}{E:Env}{k:List iT}{Q:QP}
  (hE:E.bV [0,1,6,24,25]=[(0,.ptr so 0),(1,.vs nl 8 (tms.map Tm.d)),(6,.ptr bo 0),(24,.int .i64 (tms.length:Nat)),(25,.int .i64 0)])
  (qU:nl=true->tms=[])
  (gE:∀(e:Int) (fr:Env) (s1:St),e≠0->qQ tms e->aF Nil s s1->lg T H .ret k ⟨(5,.int .i64 e)::(4,.vs true 0 [])::fr,[]⟩ s1 Q)
  (ZC:∀(s1:St),qQ tms 0->aF Nil s s1->lg T H .normal k ⟨[(26,.bool false),(0,.ptr so 0),(1,.vs nl 8 (tms.map Tm.d)),(6,.ptr bo 0),(24,.int .i64 (tms.length:Nat)),(25,.int .i64 (tms.length:Nat))],[]⟩ s1 Q):
  eH T H (Jp 1) (.block 0::k) ⟨E,[]⟩ s Q:=by
 have hlen:=hT.len;show eH T H (.loop _ _) (.block 0::k) ⟨E,[]⟩ s Q;refine ee tms.length (fun j=> [(0,.ptr so 0),(1,.vs nl 8 (tms.map Tm.d)),(6,.ptr bo 0),(24,.int .i64 (tms.length:Nat)),(25,.int .i64 (j:Nat))]) (fun j s1=>(∀i t,i < j->tms[i]? =some t->bM tms i t=0)/\aF Nil s s1) ⟨fun i t h=>by omega,aF.refl hs⟩ ?_ rfl hE;rintro j s1 hj ⟨hg,b1⟩;have ok1:=b1.ok;by_cases dM:j < tms.length
 ·obtain⟨t,ht⟩:∃t,tms[j]? =some t:=⟨_,ab dM⟩;have hd:=eJ ((j:Int) < (tms.length:Nat));have w1:IntKind.wrap .i64 ((j:Int)+1)=((j+1:Nat):Int):=by rw [wrap_small (by omega) (by omega)]; omega
  try refine go ?_
  refine ak (Nb hS hW hV hX hU ok1 (dN.dK hs b1 fun _ _ h=>h) ⟨b1.get hs hb.go id⟩ ht hlen Ud hT.ok) ?_;rintro d s2 ⟨rfl,b2⟩;generalize he:bM tms j t=e;by_cases he0:e=0
  ·subst he0;try refine go ?_
   try rw [w1]
   refine dw dM ⟨fun i t' hi Rc => ?_,b1.trans b2⟩;by_cases nO:i=j
   ·subst nO;rw [ht]at Rc; cases Rc;exact he
   ·exact hg i t' (by omega) Rc
  ·have cE:(e !=0)=true:=by simpa using he0
   try refine go ?_
   try simp only [cE]
   try refine go ?_
   exact gE _ _ _ he0 (.inr ⟨he0,j,t,ht,he,hg⟩) (b1.trans b2)
 ·have Cy:j=tms.length:=by omega
  subst Cy;have hd:=cN ((tms.length:Int) < (tms.length:Nat));try refine go ?_
  exact ZC s1 (.inl ⟨rfl,fun i t ht=>hg i t (aj.mp ht).1 ht⟩) b1
end
inductive tX (P:Nat)(tms:List Tm)(K3:List gP)(n0:Nat):List Nat->List gP->Nat->Prop
 | nil:tX P tms K3 n0 [] K3 n0
 | snoc {R:List Nat} {Vs:List gP} {n:Nat} (h:tX P tms K3 n0 R Vs n) {t:Tm} (ht:tms[R.length]? =some t) {Vn:List gP} {r n' :Nat} (hm:iO P Vs R t n Vn r n'):tX P tms K3 n0 (R++ [r]) (Vs++Vn) n'
def uR (Vs:List gP):Prop:=Vs[0]? =some .none/\Vs[1]? =some (.bool false)/\Vs[2]? =some (.bool true)
theorem GQ {α:Type}{L M:List α}{i:Nat}{v:α}(h:L[i]? =some v):(L++M)[i]? =some v:=by
 rw [aP (aj.mp h).1]; exact h
theorem uR.app {Vs:List gP}(h:uR Vs)(Vn:List gP):uR (Vs++Vn):=⟨GQ h.1,GQ h.2.1,GQ h.2.2⟩
theorem AK {α:Type}{L:List α}{v:α}:(L++ [v])[L.length]? =some v:=by rw [aT (aq _),eG]; rfl
theorem iO.of {P:Nat}{Vs:List gP}{R:List Nat}{t:Tm}{n:Nat}{Vn:List gP} {r n' :Nat}(h:iO P Vs R t n Vn r n')(hb:uR Vs):∃w,(Vs++Vn)[r]? =some w/\zr t w:=by
 unfold zr;cases h with
 | none h=>exact ⟨_,GQ hb.1,.inl ⟨h,rfl⟩⟩
 | bool h=>
  refine⟨.bool t.b, ?_,.inr (.inl ⟨h,rfl⟩)⟩;cases t.b
  ·exact GQ hb.2.1
  ·exact GQ hb.2.2
 | int h=>exact ⟨_,AK,.inr (.inr (.inl ⟨h,rfl⟩))⟩
 | str h=>exact ⟨_,AK,.inr (.inr (.inr (.inl ⟨h,rfl⟩)))⟩
 | row h=>exact ⟨_,AK,.inr (.inr (.inr (.inr (.inl ⟨h,_,_,_,rfl,by omega,iS ..⟩))))⟩
 | sU h E=>exact ⟨_,AK,.inr (.inr (.inr (.inr (.inr (.inl ⟨h,_,_,_,rfl,by omega⟩)))))⟩
 | inst h=>exact ⟨.inst (n+2) Vs.length,by rw [aT (by omega),show Vs.length+1 - Vs.length=1 by omega]; rfl,.inr (.inr (.inr (.inr (.inr (.inr (.inl ⟨h,_,_,rfl⟩))))))⟩
 | view h=>exact ⟨_,AK,.inr (.inr (.inr (.inr (.inr (.inr (.inr ⟨h,_,_,_,rfl,by omega⟩))))))⟩
theorem Mk.step {P:Nat}{tms:List Tm}{Vs:List gP}{R:List Nat}{t:Tm}{n:Nat}{Vn:List gP} {r n' :Nat}(h:Mk tms R Vs)(hm:iO P Vs R t n Vn r n')(hb:uR Vs)(ht:tms[R.length]? =some t):Mk tms (R++ [r]) (Vs++Vn):=by
 intro k q u h1 h2;by_cases hk:k < R.length
 ·rw [aP hk]at h1;obtain⟨w,e1,e2⟩:=h k q u h1 h2;exact⟨w,GQ e1,e2⟩
 ·have hl:=(aj.mp h1).1;rw [aG,aZ]at hl;have:k=R.length:=by omega
  subst this;rw [AK]at h1;rw [ht]at h2;cases h1; cases h2;exact hm.of hb
theorem ma.nil {P Sh:Nat}{s s1:St}{so o la ta pl mp n lv tk bo:Nat}{Ds:List D}{Vs:List gP}{F:Nat->Nat->Prop}{tms:List Tm}{R:List Nat}{x:D}(h:ma P Sh s so o la ta pl mp n lv tk bo Ds Vs F tms R x)(hb:aF Nil s s1):ma P Sh s1 so o la ta pl mp n lv tk bo Ds Vs F tms R x:=
 {h with ok:=hb.ok,st:=h.st.dK h.ok hb (fun _ _ h=>h),vs:=h.vs.dK h.ok hb (fun _ _ _ h=>h),bl:=⟨hb.get h.ok h.bl.go id⟩,rf:=h.rf.dK h.ok hb (fun _ _ _ _ _ h=>h)}
def Nt (P Sh:Nat)(s:St)(so o la ta pl mp n lv tk bo:Nat)(Ds:List D)(Vs:List gP)(F:Nat->Nat->Prop)(tms:List Tm)(t:Tm)(R:List Nat)(x:D)(s1:St):Prop:=
 ∃Dn Vn r n' tk' F' x1,iO P Vs R t n Vn r n' /\ma P Sh s1 so o la ta pl mp n' (lv+(n' - n)) tk' bo (Ds++Dn) (Vs++Vn) F' tms (R++ [r]) x1/\tk' <=tk+2/\(∀q a l c,x1= .sl q a l c->(∃a l c,x= .sl q a l c)\/s.n<=q)/\aF (fun q=>bA so o la ta pl q\/q=bo\/∃a l c,x= .sl q a l c) s s1/\(∀i j,F' i j->F i j\/s.n<=j\/E7 s1 j)
section
variable {T:Nat->Option dU}{H:ay}{s:St}{so bo i:Nat}{x:D}{tms:List Tm}{t:Tm}{o la ta pl mp P Sh n lv tk:Nat}{Ds:List D}{Vs:List gP}{F:Nat->Nat->Prop}{R:List Nat}
noncomputable def aak:AC:=match Jp 2 with
 | .loop _ a=>a
 | _=> .skip
def F2 (nl:Bool)(so bo:Nat)(tms:List Tm)(j:Nat):Env:=[(0,.ptr so 0),(1,.vs nl 8 (tms.map Tm.d)),(6,.ptr bo 0),(35,.vs nl 8 (tms.map Tm.d)),(36,.int .i64 (tms.length:Nat)),(37,.int .i64 (j:Nat))]
theorem iO.le {P:Nat}{Vs:List gP}{R:List Nat}{t:Tm}{n:Nat}{Vn:List gP} {r n' :Nat}(h:iO P Vs R t n Vn r n'):n<=n' /\n' <=n+2/\Vn.length<=2:=by
 cases h <;> simp
theorem bc.u32 {s1:St} {tk' :Nat}{j:Nat}(h:bc s1 so o la ta pl mp P Sh Ds n lv tk')(hu:E7 s1 j): ¬ bA so o la ta pl j:=by
 obtain⟨es,st,hg⟩:=hu;rintro (rfl | rfl | rfl | rfl | rfl)
 ·rw [h.go]at hg; cases hg
 ·rw [h.sl.go]at hg; cases hg
 ·rw [h.sl.gl]at hg; cases hg
 ·rw [h.sl.gt]at hg; cases hg
 ·rw [h.gp]at hg; cases hg
theorem wu (h:ma P Sh s so o la ta pl mp n lv tk bo Ds Vs F tms R x)(wh:tms[R.length]? =some t)(wX:uR Vs)(q1:n+2 < 1000000000)(q2:lv+2 < 1000000000)(q3:tk+2 < 1000000000)(q4:Ds.length+2 < 1000000000)
  {s1 s2:St}{Dn:List D}{Vn:List gP}{r n' tk' q:Nat} {F' :Nat->Nat->Prop}(z1:iO P Vs R t n Vn r n')(z2:bc s1 so o la ta pl mp P Sh (Ds++Dn) n' (lv+(n' - n)) tk')(z3:tk' <=tk+2)(z4:eV P s1 F' (Ds++Dn) (Vs++Vn))(z5:∀(i j:Nat),F' i j->F i j\/(s.up 1).n<=j\/E7 s1 j)(z6:aF (bA so o la ta pl) (s.up 1) s1)
  (hq:q=s.n\/∃a l c,x= .sl q a l c)(PK:∀es st,s1.get q≠some (.arr 1 194 es st))(kO:∀es st,s1.get bo≠some (.arr 1 194 es st))
  (g1:s2.get q=some (.arr 1 3 (ints ((R++ [r]).map Int.ofNat)) 0))(g2:s2.get bo=some (.var 116 (.agg [.ptr so 0,.vs false 8 (tms.map Tm.d),.sl q 0 (R.length+1) (R.length+1)])))(hb:aF (fun j=>j=q\/j=bo) s1 s2):
  Nt P Sh s so o la ta pl mp n lv tk bo Ds Vs F tms t R x s2:=by
 have hs:=h.ok;have ok1:=z6.ok;have lb:=hs.lt h.bl.go;have n1:s.n+1<=s1.n:=z6.n;obtain⟨m1,m2,m3⟩:=z1.le;have hl:=z4.ln;have zF:=h.vs.ln;rw [aG,aG]at hl;have nof:∀j,s.n<=j-> ¬ bA so o la ta pl j/\j≠mp:=fun j hj=>⟨fun hh=>by have:=h.st.lt hs (.inl hh); omega,fun hh=>by have:=h.st.lt hs (.inr hh); omega⟩;have X6: ¬ bA so o la ta pl q/\q≠mp/\q≠bo/\∀i, ¬ F i q:=by
  rcases hq with rfl | ⟨a,l,c,e⟩
  ·exact⟨(nof _ (aq _)).1,(nof _ (aq _)).2,by omega,fun i hi=>by have:=(h.vs.lt i _ hi).1; omega⟩
  ·obtain⟨y1,y2,y3⟩:=h.x0 _ _ _ _ e;exact⟨y1,y2,y3,fun i hi=>(h.hF i _ hi).2.2 _ _ _ _ e rfl⟩
 have lq:q < s.n+1:=by
  rcases hq with rfl | ⟨a,l,c,e⟩
  ·omega
  ·have hr:=h.rf;rw [e]at hr;cases hr with
   | sl hg _=>have:=hs.lt hg; omega
 have sep:∀i j,F' i j-> ¬ bA so o la ta pl j/\j≠bo/\j≠q:=by
  intro i j hj;rcases z5 i j hj with h1 | h1 | h1
  ·have h2:=h.hF i j h1;exact⟨h2.1,h2.2.1,fun e=>X6.2.2.2 i (e ▸ h1)⟩
  ·have h1:s.n+1<=j:=h1;exact⟨(nof j (by omega)).1,by omega,by omega⟩
  ·refine⟨z2.u32 h1, ?_, ?_⟩
   ·rintro rfl; obtain ⟨es,st,e⟩:=h1; exact kO _ _ e
   ·rintro rfl; obtain ⟨es,st,e⟩:=h1; exact PK _ _ e
 refine⟨Dn,Vn,r,n',tk',F',.sl q 0 (R.length+1) (R.length+1),z1, ?_,z3, ?_, ?_, ?_⟩
 ·refine { ok:=hb.ok,pb:=h.pb,sb:=h.sb,st:=z2.dK ok1 hb ?_,nb:=by omega,lb:=by omega,tb:=by omega,ds:=by rw [aG]; omega,vs:=z4.dK ok1 hb fun i j hj=> ?_,hF:=fun i j hj=> ?_,bl:=⟨g2⟩,rf:= ?_,md:=h.md.step z1 wX wh,b0:=h.b0,x0:=fun q' a l c e=> ?_,tm:=h.tm}
  ·rintro j hj (rfl | rfl)
   ·rcases hj with hj | hj
    ·exact X6.1 hj
    ·exact X6.2.1 hj
   ·rcases hj with hj | hj
    ·exact h.b0.1 hj
    ·exact h.b0.2 hj
  ·have:=sep i j hj;rintro (e | e)
   ·exact this.2.2 e
   ·exact this.2.1 e
  ·have:=sep i j hj;refine⟨this.1,this.2.1,fun q' a l c e=> ?_⟩;simp only [D.sl.injEq]at e;rw [← e.1]; exact this.2.2
  ·have:=Refs.sl (s:=s2) (o:=q) (R:=R++ [r]) g1 (by simp);rw [aG,aZ]at this;exact this
  ·simp only [D.sl.injEq]at e;rw [← e.1]; exact ⟨X6.1,X6.2.1,X6.2.2.1⟩
 ·intro q' a l c e;simp only [D.sl.injEq]at e;rw [← e.1];rcases hq with rfl | hq
  ·exact .inr (aq _)
  ·exact .inl hq
 ·have b1:aF (fun j=>bA so o la ta pl j\/j=bo\/∃a l c,x= .sl j a l c) s s1:=((aF.refl hs).up 1).trans (z6.mono fun j hj=> .inl hj);refine b1.trans' hb ?_;rintro j (rfl | rfl) dM
  ·rcases hq with rfl | hq
   ·omega
   ·exact .inr (.inr hq)
  ·exact .inr (.inl rfl)
 ·intro i j hj;rcases z5 i j hj with h1 | h1 | h1
  ·exact .inl h1
  ·have h1:s.n+1<=j:=h1;exact .inr (.inl (by omega))
  ·refine .inr (.inr (h1.dK ok1 hb ?_));obtain⟨es,st,e⟩:=h1;rintro (rfl | rfl)
   ·exact PK _ _ e
   ·exact kO _ _ e
theorem Xv (hS:TS T)(hT:TT T)(hP:TP T)(hW:TW T)(hV:TV T)(h:ma P Sh s so o la ta pl mp n lv tk bo Ds Vs F tms R x)(wh:tms[R.length]? =some t)(hg:ka tms R.length t)(hN:tms.length<=100){I:Nat->St->Prop}{k:List iT}{Q:QP}{nl:Bool}(qU:nl=true->tms=[])(wX:uR Vs)(q1:n+2 < 1000000000)(q2:lv+2 < 1000000000)(q3:tk+2 < 1000000000)(q4:Ds.length+2 < 1000000000)
  (hk:∀s1,Nt P Sh s so o la ta pl mp n lv tk bo Ds Vs F tms t R x s1->I (R.length+1) s1):
  eH T H aak (.loop (OM tms.length (F2 nl so bo tms) I) [0,1,6,35,36,37] (tms.length - R.length)::k) ⟨F2 nl so bo tms R.length,[]⟩ s Q:=by
 have hj:R.length < tms.length:=(aj.mp wh).1;have hd:=eJ ((R.length:Int) < (tms.length:Nat))
 obtain rfl:nl=false:=by
  cases nl
  ·rfl
  ·rw [qU rfl]at hj; cases hj
 have ha:=ej wh;have gb:=h.bl.go;have hs:=h.ok;have AO:=NT (H:=H) hS hT hP hW hV (h.nil ((aF.refl hs).up 1)) wh hg;have w1:IntKind.wrap .i64 ((R.length:Int)+1)=((R.length+1:Nat):Int):=by rw [wrap_small (by omega) (by omega)]; omega
 show eH T H (.seq _ _) _ ⟨[(0,.ptr so 0),(1,.vs false 8 (tms.map Tm.d)),(6,.ptr bo 0),(35,.vs false 8 (tms.map Tm.d)),(36,.int .i64 (tms.length:Nat)),(37,.int .i64 (R.length:Nat))],[]⟩ s Q;rcases h.rf with _ | ⟨hgr,cE⟩
 ·try refine go ?_
  refine aX AO ?_;rintro d s1 ⟨Dn,Vn,r,n',tk',F',z1,rfl,z2,z3,z4,z5,z6⟩;have gb0:(s.up 1).get bo=_:=gb;have G8:=z6.get (hs.up 1) gb0 h.b0.1;have ok1:=z6.ok;have n1:s.n+1<=s1.n:=z6.n;have RJ: ¬ bA so o la ta pl s.n:=fun hh=>gR _ (h.st.lt hs (.inl hh));have Ig:s1.get (s.n+0)=none:=(z6.same s.n (mX _) RJ).trans (hs.fresh _ (aq _));have lb:=hs.lt gb;refine⟨rfl,by simp [lost,eQ.kind,cK,dE,cF,aI,bC,bC.cW,gk,bP.ev,Env.get,cS,D.flat,D.isAgg,cP,D.fw,D.beq,aA,Obj.aW,bE,br,D.bW,D.aW,gb0,G8], ?_⟩;try refine go ?_
  refine dw hj (hk _ (wu (q:=s.n) h wh wX q1 q2 q3 q4 z1 z2 z3 z4 z5 z6 (.inl rfl) (fun es st e=>by rw [fP]at Ig; rw [Ig]at e; cases e) (fun es st e=>by rw [G8]at e; cases e) ?_ ?_ ?_))
  ·exact gI
  ·exact gI
  ·exact bI
 ·try refine go ?_
  refine aX AO ?_;rintro d s1 ⟨Dn,Vn,r,n',tk',F',z1,rfl,z2,z3,z4,z5,z6⟩;have gb0:(s.up 1).get bo=_:=gb;have G8:=z6.get (hs.up 1) gb0 h.b0.1;have ok1:=z6.ok;have n1:s.n+1<=s1.n:=z6.n;have lb:=hs.lt gb;obtain⟨y1,y2,y3⟩:=h.x0 _ _ _ _ rfl;have gr1:=z6.get (hs.up 1) hgr y1;have lr:=hs.lt hgr;have ur:=gT R;refine⟨rfl,by simp [lost,eQ.kind,cK,dE,cF,aI,bC,bC.cW,gk,bP.ev,Env.get,cS,D.flat,D.isAgg,cP,D.fw,D.beq,aA,Obj.aW,bE,br,D.bW,D.aW,gb0,G8], ?_⟩;try refine go ?_
  refine dw hj (hk _ (wu h wh wX q1 q2 q3 q4 z1 z2 z3 z4 z5 z6 (.inr ⟨_,_,_,rfl⟩) (fun es st e=>by rw [gr1]at e; cases e) (fun es st e=>by rw [G8]at e; cases e) ?_ ?_ ?_))
  ·rw [show ints ((R++ [r]).map Int.ofNat)=ints (R.map Int.ofNat)++ [.int .i64 (r:Nat)] by simp [ints]];exact gI
  ·exact gI
  ·exact bI
end
section
variable {T:Nat->Option dU}{H:ay}{s:St}{so bo i:Nat}{tms:List Tm}{o la ta pl mp P Sh n0 WE Xo:Nat}{Xz:List D}{K3:List gP}{F0:Nat->Nat->Prop}
def Sv (P Sh:Nat)(s:St)(so o la ta pl mp n0 WE Xo bo:Nat)(Xz:List D)(K3:List gP)(F0:Nat->Nat->Prop)(tms:List Tm)(j:Nat)(s1:St):Prop:=
 ∃Ds Vs n lv tk F R x,ma P Sh s1 so o la ta pl mp n lv tk bo Ds Vs F tms R x/\R.length=j/\tX P tms K3 n0 R Vs n/\uR Vs/\(n0<=n/\n<=n0+2 * j/\lv=WE+(n - n0)/\tk<=Xo+2 * j/\Ds.length<=Xz.length+2 * j)/\(∀q a l c,x= .sl q a l c->s.n<=q)/\aF (fun q=>bA so o la ta pl q\/q=bo) s s1/\(∀i j,F i j->F0 i j\/s.n<=j\/E7 s1 j)
theorem NH (hS:TS T)(hT:TT T)(hP:TP T)(hW:TW T)(hV:TV T)(h:ma P Sh s so o la ta pl mp n0 WE Xo bo Xz K3 F0 tms [] (.vs true 0 []))(hg:∀i t,tms[i]? =some t->ka tms i t)(hN:tms.length<=100){k:List iT}{Q:QP}{nl:Bool}(qU:nl=true->tms=[])(wX:uR K3)(b1:n0<=1000000)(b2:WE<=1000000)(b3:Xo<=1000000)(b4:Xz.length<=1000000){E:Env}
  (hE:E.bV [0,1,6,35,36,37]=F2 nl so bo tms 0)
  (hd:∀s1,Sv P Sh s so o la ta pl mp n0 WE Xo bo Xz K3 F0 tms tms.length s1->lg T H .normal k ⟨[(38,.bool false),(0,.ptr so 0),(1,.vs nl 8 (tms.map Tm.d)),(6,.ptr bo 0),(35,.vs nl 8 (tms.map Tm.d)),(36,.int .i64 (tms.length:Nat)),(37,.int .i64 (tms.length:Nat))],[]⟩ s1 Q):
  eH T H (Jp 2) (.block 2::k) ⟨E,[]⟩ s Q:=by
 show eH T H (.loop _ _) (.block 2::k) ⟨E,[]⟩ s Q;refine ee tms.length (F2 nl so bo tms) (Sv P Sh s so o la ta pl mp n0 WE Xo bo Xz K3 F0 tms) ⟨Xz,K3,n0,WE,Xo,F0,[],_,h,rfl,.nil,wX,by omega,(fun _ _ _ _ e=>by cases e),aF.refl h.ok,fun _ _ hj=> .inl hj⟩ ?_ rfl hE;rintro j s1 hj hI;by_cases dM:j < tms.length
 ·obtain⟨t,ht⟩:∃t,tms[j]? =some t:=⟨_,ab dM⟩;obtain⟨Ds,Vs,n,lv,tk,F,R,x,c1,rfl,c3,c4,c5,c6,c7,c8⟩:=hI;refine Xv hS hT hP hW hV c1 ht (hg _ _ ht) hN qU c4 (by omega) (by omega) (by omega) (by omega) ?_;rintro s2 ⟨Dn,Vn,r,n',tk',F',x1,d1,d2,d3,d4,d5,d6⟩;obtain⟨m1,m2,m3⟩:=d1.le;have l1:=d2.vs.ln;have l2:=c1.vs.ln;have n1:=c7.n;refine⟨_,_,_,_,_,_,_,_,d2,by rw [aG,aZ],c3.snoc ht d1,c4.app _, ?_, ?_, ?_, ?_⟩
  ·rw [aG,aG]at l1;rw [aG];omega
  ·intro q a l c e;rcases d4 q a l c e with ⟨a',l',c',e'⟩ | h1
   ·exact c6 _ _ _ _ e'
   ·omega
  ·refine c7.trans' d5 ?_;rintro q (hq | hq | ⟨a,l,c,hq⟩) hl
   ·exact .inl hq
   ·exact .inr hq
   ·have:=c6 _ _ _ _ hq; omega
  ·intro i j hj;rcases d6 i j hj with h1 | h1 | h1
   ·rcases c8 i j h1 with h2 | h2 | h2
    ·exact .inl h2
    ·exact .inr (.inl h2)
    ·refine .inr (.inr (h2.dK c1.ok d5 ?_));have h3:=h2;obtain⟨es,st,e⟩:=h3;rintro (hq | rfl | ⟨a,l,c,rfl⟩)
     ·exact c1.st.u32 h2 hq
     ·rw [c1.bl.go]at e; cases e
     ·have IU:=c1.rf;cases IU with
      | sl hg hn=>rw [hg]at e; simp at e
   ·exact .inr (.inl (by omega))
   ·exact .inr (.inr h1)
 ·have Cy:j=tms.length:=by omega
  subst Cy;have Y9:=cN ((tms.length:Int) < (tms.length:Nat));show eH T H _ _ ⟨[(0,.ptr so 0),(1,.vs nl 8 (tms.map Tm.d)),(6,.ptr bo 0),(35,.vs nl 8 (tms.map Tm.d)),(36,.int .i64 (tms.length:Nat)),(37,.int .i64 (tms.length:Nat))],[]⟩ s1 Q;try refine go ?_
  exact hd s1 hI
end
end Go.Proofs.Tab
