/- Part. -/
import Derived.Test.YthaiegafejbmoaaGreatDoorG36
set_option linter.unusedSectionVars false
set_option maxRecDepth 100000
set_option maxHeartbeats 1000000
set_option linter.unusedSimpArgs false
set_option linter.unusedVariables false
namespace Go.Proofs.Tab
open Go Go.Ab Go.Ab.Sm
abbrev SM:=List (Nat×List UInt8×Int)
def BR (L:SM):List (Nat×D×D):=L.map fun x=>(x.1,D.str x.2.1,D.int .i64 x.2.2)
def Ar (L:SM):List (List UInt8):=L.map fun x=>x.2.1
theorem TJ (L:SM):(BR L).length=L.length:=aY _
theorem Fh (L:SM)(l:List UInt8):∀i,(findKey .str (.str l) (BR L) i=some none/\l ∉ Ar L)\/∃j v c,findKey .str (.str l) (BR L) i=some (some (i+j,.int .i64 v))/\L[j]? =some (c,l,v):=by
 induction L with
 | nil=>exact fun i=> .inl ⟨rfl,by simp [Ar]⟩
 | cons x r ih=>
  intro i;obtain⟨c,l',v⟩:=x;have ih:=ih (i+1);by_cases he:l=l'
  ·subst he;refine .inr ⟨0,v,c, ?_,rfl⟩;simp [BR,findKey,sC,Yq]
  ·have hf:findKey .str (.str l) (BR ((c,l',v)::r)) i=findKey .str (.str l) (BR r) (i+1):=by
    have:(l==l')=false:=by simpa using he
    simp [BR,findKey,sC,Yq,this]
   rw [hf];rcases ih with ⟨h1,h0⟩ | ⟨j,v2,c2,h1,h2⟩
   ·exact .inl ⟨h1,by simpa [Ar,he] using h0⟩
   ·exact .inr ⟨j+1,v2,c2,by rw [h1,show i+1+j=i+(j+1) by omega],by simpa using h2⟩
theorem TK {L:SM}{l:List UInt8}{v v0:Int}{c:Nat}:∀ {i:Nat},L[i]? =some (c,l,v0)->∃L' :SM,Ab.setAt (BR L) i (fun x=>(x.1,.str l,.int .i64 v))=BR L' /\Ar L' =Ar L:=by
 induction L with
 | nil=>intro i h; simp at h
 | cons x r ih=>
  intro i h;cases i with
  | zero=>
   simp only [aS,aa]at h; subst h;exact⟨(c,l,v)::r,rfl,rfl⟩
  | succ i=>
   obtain⟨L',h1,h2⟩:=ih (i:=i) (by simpa using h);exact⟨x::L',by simp only [BR,bT,Ab.setAt]at h1 ⊢; rw [h1],by simp only [Ar,bT]at h2 ⊢; rw [h2]⟩
theorem Ez {α:Type} [DecidableEq α]:∀(A B:List α),A.Nodup->(∀a∈A,a∈B)->A.length<=B.length
 | [],B,_,_=>cH _
 | a::A,B,h,hs=>by
  rw [dZ]at h;have h1:=Ez A (B.erase a) h.2 (fun b hb=>(List.mem_erase_of_ne (fun e=>h.1 (by subst e; exact hb))).2 (hs b (by simp [hb])));have h2:=List.length_erase_of_mem (hs a (by simp));have h3:=List.length_pos_of_mem (hs a (by simp));rw [aT]; omega
section
variable {T:Nat->Option dJ}{H:au}{b:Nat}{k:List iI}{l:List bz}{s:St}{Q:QP}{t:Nat}{e:Env}{ds:List (D×List D)}{g:Option (Nat×Bool)}
theorem II {m y:bO}{tx:List UInt8}{o c:Nat}{L:SM}(hg:s.get o=some (.map (BR L) c))(h:∀v:Int,iN T H b l k ⟨(t,.int .i64 v)::e,ds⟩ s Q)(hw:aJ e g=some true:=by rfl)(hx:m.ev e=some (.mp o):=by rfl)(hy:y.ev e=some (.str tx):=by rfl):iN T H b (⟨some t,.lookup .str (.int .i64 0) false m y,g,none⟩::l) k ⟨e,ds⟩ s Q:=by
 rcases Fh L tx 0 with ⟨h1,_⟩ | ⟨j,v,c',h1,h2⟩
 ·exact dM (h 0) hw (by simp only [cg,hx,hy,hg,h1,oT,EC])
 ·exact dM (h v) hw (by simp only [cg,hx,hy,hg,h1,oT,EC])
theorem IJ {m y z:bO}{tx:List UInt8}{o c:Nat}{v:Int}{L:SM}(hs:s.Ok)(hg:s.get o=some (.map (BR L) c))(h:∀(L' :SM) c',(Ar L' =Ar L\/tx ∉ Ar L/\Ar L' =Ar L++ [tx])->iN T H b l k ⟨e,ds⟩ (s.bn o (.map (BR L') c')) Q)(hw:aJ e g=some true:=by rfl)(hx:m.ev e=some (.mp o):=by rfl)(hy:y.ev e=some (.str tx):=by rfl)(hz:z.ev e=some (.int .i64 v):=by rfl):iN T H b (⟨none,.AF .str m y z,g,none⟩::l) k ⟨e,ds⟩ s Q:=by
 rcases Fh L tx 0 with ⟨h1,h0⟩ | ⟨j,v',c',h1,h2⟩
 ·have e1:BR L++ [(c,D.str tx,D.int .i64 v)]=BR (L++ [(c,tx,v)]):=by simp [BR]
  exact dM (d:= .gW []) (h (L++ [(c,tx,v)]) (c+1) (.inr ⟨h0,by simp [Ar]⟩)) hw (by simp only [cg,hx,hy,hz,hg,h1,oT,hs.set,nY,e1])
 ·rw [aU]at h1;obtain⟨L',e1,e2⟩:=TK (v:=v) h2;have h3:(BR L)[j]? =some (c',.str tx,.int .i64 v'):=by simp only [BR,aO,h2,dh]
  exact dM (d:= .gW []) (h L' c (.inl e2)) hw (by simp only [cg,hx,hy,hz,hg,h1,h3,oT,Fc,beq_self_eq_true,hs.set,nY,e1])
def vw (t:Tm):Bool:=decide (t.kd=3) && decide (256 < (bV t.ft).length)
theorem wW (ng:Bool)(V:List Nat):(db ng V).2=bV V:=by
 unfold db;split <;> rename_i h <;> simp [h]
variable {so bo i:Nat}{x:D}{tms:List Tm}{tm:Tm}
theorem RH (hS:TS T)(hs:s.Ok)(hb:kZ s bo so tms x)(hk:tms[i]? =some tm)(ho:tm.Ok)(h1:tm.kd=4):bY T H 47 [.ptr bo 0,.int .i64 (i:Nat)] s fun d s1=>d= .bool (vw tm)/\aH Nil s s1:=by
 have hg:=hb.go;have ha:=kD hk;have q3:=ho.tx;obtain⟨kd,b,ng,n1,ft,tx,n2,kids,gy,sm⟩:=tm;simp only at q3 h1; subst h1;have hL:=Vv (H:=H) hS hs (l:=tx) (by omega);have vQ:=nP tx tx.length 0 (by omega);have hd:=qV (((runesFrom tx 0:Nat):Int) > 65536);refine aD hS.t47 ?_;try refine go ?_
 refine af hL ?_;rintro d s2 ⟨rfl,z1⟩;try refine go ?_
 exact ai ⟨rfl,z1⟩
theorem RG (hS:TS T)(hW:TW T)(hs:s.Ok)(hb:kZ s bo so tms x)(hk:tms[i]? =some tm)(ho:tm.Ok)(h1:tm.kd=3):bY T H 47 [.ptr bo 0,.int .i64 (i:Nat)] s fun d s1=>d= .bool (vw tm)/\aH Nil s s1:=by
 have hg:=hb.go;have ha:=kD hk;have q1:=ho.n1; have q2:=ho.ft;obtain⟨kd,b,ng,n1,ft,tx,n2,kids,gy,sm⟩:=tm;simp only at q1 q2 h1; subst h1;have hL:=Fe (H:=H) (n:=(ng,ft)) hW hs ⟨_,rfl,.vs n1 ft q1⟩ (by simp only [aM]; omega);refine aD hS.t47 ?_;try refine go ?_
 refine af hL ?_;rintro d s2 ⟨⟨y,rfl,hy⟩,z1⟩;have H9:=ab9 hy;have hf2:=wW ng ft;have Yy:∀m:Nat,m=(bV ft).length->D.bool (decide ((m:Int) > 256))= .bool (vw ⟨3,b,ng,n1,ft,tx,n2,kids,gy,sm⟩):=by
  rintro m rfl;simp only [vw,decide_true,fO,D.bool.injEq,decide_eq_decide];omega
 rcases hy.shape with ⟨o,n,cp,rfl⟩ | ⟨nl,z,L,rfl⟩
 ·have e1:=Yy n (by rw [← hf2]; exact hy.pK);try refine go ?_
  exact ai ⟨e1,z1⟩
 ·have e1:=Yy L.length (by rw [← hf2,hy.pL,dD]);try refine go ?_
  exact ai ⟨e1,z1⟩
theorem HI (hS:TS T)(hs:s.Ok)(hb:kZ s bo so tms x)(hk:tms[i]? =some tm)(ho:tm.Ok)(h1:tm.kd=5\/tm.kd=6):bY T H 47 [.ptr bo 0,.int .i64 (i:Nat)] s fun d s1=>d= .bool (vw tm)/\aH Nil s s1:=by
 have hg:=hb.go;have ha:=kD hk;have sD:=ho.kids;obtain⟨kd,b,ng,n1,ft,tx,n2,kids,gy,sm⟩:=tm;simp only at h1 sD;have s9:(ints kids).length=kids.length:=aY _;have hd:=qV (((ints kids).length:Int) > 65536);refine aD hS.t47 ?_;rcases h1 with rfl | rfl
 ·try refine go ?_
  exact ai ⟨rfl,aH.refl hs⟩
 ·try refine go ?_
  exact ai ⟨rfl,aH.refl hs⟩
theorem Md {o la ta pl mp P Sh n lv tk:Nat}{Ds:List D}(hS:TS T)(hW:TW T)(hV:TV T)(hX:TX T)(hU:TU T H)(hs:s.Ok)(cG:aX s so o la ta pl mp P Sh Ds n lv tk)(hb:kZ s bo so tms x)(hk:tms[i]? =some tm)(ho:tm.Ok)(fN:∀v∈er tm,∃k:Nat,v=(k:Int)/\k < 1000/\∃t',tms[k]? =some t' /\t'.Ok/\∀w∈t'.ft,w < 4294967296)(Uw:tms.length<=P)(h1:tm.kd≠3/\tm.kd≠4/\tm.kd≠5/\tm.kd≠6):bY T H 47 [.ptr bo 0,.int .i64 (i:Nat)] s fun d s1=>d= .bool (vw tm)/\aH Nil s s1:=by
 have hg:=hb.go;have ha:=kD hk;obtain⟨h3,h4,h5,h6⟩:=h1;have hK:=fun (s2:St) (h:s2.Ok)=>Cs (H:=H) hS h ho;have sD:=qB tm;have Xl:=ho.kids;generalize GH:er tm=L at fN hK sD;obtain⟨kd,b,ng,n1,ft,tx,n2,kids,gy,sm⟩:=tm;simp only at h3 h4 h5 h6 Xl sD;refine aD hS.t47 ?_;try refine go ?_
 refine af (hK _ (oI)) ?_;rintro d s2 ⟨z1,z2,z3⟩;have b2:aH Nil s s2:=(aH.push (aH.refl hs) _).trans z3;have ok0:(s.aZ (.map [] 0)).Ok:=oI;have gm:s2.get s.n=some (.map [] 0):=z3.get ok0 St.bq (fun h=>h);have lb:=hs.lt hg;have n2' :s.n+1<=s2.n:=by have:=z3.n; rwa [St.ck]at this
 have hlen:L.length<=100000:=by omega
 have ok2:=b2.ok;have gb2:=b2.get hs hg (fun h=>h);have ZK:=b2.get hs cG.go (fun h=>h);have ls:=hs.lt cG.go;have fin:∀ {s3:St},aH (fun j=>j=s.n) s2 s3->aH Nil s s3:=fun h=>b2.trans' h (fun j hj h2=>by subst hj; exact absurd h2 (fP _));let K:SM->Prop:=fun M=>(Ar M).Nodup/\∀x∈Ar M,x∈(List.range tms.length).filterMap fun k=>(tms[k]?).map fun u=>BQ u k
 have H5:∀M,K M->decide (((BR M).length:Int) > (P:Nat))=false:=fun M hM=>by
  have q1:=Ez _ _ hM.1 hM.2;have q2:=List.length_filterMap_le (fun k=>(tms[k]?).map fun u=>BQ u k) (List.range tms.length);rw [lH]at q2;rw [Ar,aY]at q1;exact cP (by rw [TJ]; omega)
 have hKs:∀ {M M' :SM} {k:Nat} {u:Tm},K M->tms[k]? =some u->(Ar M' =Ar M\/BQ u k ∉ Ar M/\Ar M' =Ar M++ [BQ u k])->K M' :=by
  rintro M M' k u ⟨q1,q2⟩ hu (q3 | ⟨q3,q4⟩)
  ·exact⟨q3 ▸ q1,q3 ▸ q2⟩
  ·refine⟨?_, ?_⟩
   ·rw [q4,List.nodup_append];exact⟨q1,by simp,fun a ha b hb=>by rw [eI]at hb; subst hb; exact fun e=>q3 (e ▸ ha)⟩
   ·intro x hx;rw [q4,cN,eI]at hx;rcases hx with hx | rfl
    ·exact q2 x hx
    ·rw [jC];exact⟨k,by rw [oy]; exact (aj.mp hu).1,by rw [hu]; rfl⟩
 have yO:D.bool false= .bool (vw ⟨kd,b,ng,n1,ft,tx,n2,kids,gy,sm⟩):=by simp [vw,h3]
 let J:Nat->St->Prop:=fun j s' =>(∃M c,s'.get s.n=some (.map (BR M) c)/\K M)/\aH (fun j=>j=s.n) s2 s'
 have K0:K []:=⟨by simp [Ar],by simp [Ar]⟩;have J0:J 0 s2:=⟨⟨[],0,gm,K0⟩,aH.refl ok2⟩;rcases z1 with ⟨nl,L,hn⟩ | _ | ⟨o',L,h7⟩
 ·have s9:(ints L).length=L.length:=aY _;try refine go ?_
  rw [s9];refine fw L.length (fun j=> [(0,.ptr bo 0),(6,.mp s.n),(41,.vs nl 1 (ints L)),(42,.int .i64 (L.length:Nat)),(43,.int .i64 (j:Nat))]) J J0 ?_;rintro j s' hj ⟨⟨M,c,q1,q2⟩,q3⟩;have q4:=q3.ok;have q5:=q3.get ok2 gb2 (by omega);have q6:=q3.get ok2 ZK (by omega);rcases aP j L.length with h8 | h8
  ·obtain⟨k',Am,pQ,t',FU,Ic,Ri⟩:=fN _ (cA h8);have he:=ints_at (L:=L) (j:=j) (ak h8);rw [Am]at he;try refine go ?_
   refine af (IZ hS hW hV hX hU q4 ⟨q5⟩ FU Ic Ri pQ) ?_;rintro d s3 ⟨rfl,y1⟩;have ok3:=y1.ok;have CZ:=y1.get q4 q1 (fun h=>h);try refine go ?_
   refine II CZ fun v=> ?_;try refine go ?_
   refine IJ ok3 CZ fun M' c' An => ?_;try refine go ?_
   refine dI h8 ⟨⟨M',c',St.aG,hKs q2 FU An⟩,(q3.trans (y1.mono fun _ h=>h.elim)).trans (aH.set (aH.refl ok3) _ (ok3.lt CZ) (fun _=>rfl))⟩
  ·have:j=L.length:=by omega
   subst this;have hd:=H5 M q2;try refine go ?_
   try simp only [hd]
   exact ai ⟨yO,fin q3⟩
 ·try refine go ?_
  refine jw ?_;have hd:decide ((([]:List (Nat×D×D)).length:Int) > (P:Nat))=false:=H5 [] K0;try refine go ?_
  try simp only [hd]
  exact ai ⟨yO,b2⟩
 ·have ho2:o' ≠s.n:=by have:=z2 _ _ _ _ rfl; rw [St.ck]at this; omega
  try refine go ?_
  refine fw L.length (fun j=> [(0,.ptr bo 0),(6,.mp s.n),(41,.sl o' 0 L.length L.length),(42,.int .i64 (L.length:Nat)),(43,.int .i64 (j:Nat))]) J J0 ?_;rintro j s' hj ⟨⟨M,c,q1,q2⟩,q3⟩;have q4:=q3.ok;have q5:=q3.get ok2 gb2 (by omega);have q6:=q3.get ok2 ZK (by omega);have q7:=q3.get ok2 h7 ho2;have s9:(ints L).length=L.length:=aY _;rcases aP j L.length with h8 | h8
  ·obtain⟨k',Am,pQ,t',FU,Ic,Ri⟩:=fN _ (cA h8);have he:=ints_at (L:=L) (j:=j) (ak h8);rw [Am,← Nat.zero_add j]at he;try refine go ?_
   refine af (IZ hS hW hV hX hU q4 ⟨q5⟩ FU Ic Ri pQ) ?_;rintro d s3 ⟨rfl,y1⟩;have ok3:=y1.ok;have CZ:=y1.get q4 q1 (fun h=>h);try refine go ?_
   refine II CZ fun v=> ?_;try refine go ?_
   refine IJ ok3 CZ fun M' c' An => ?_;try refine go ?_
   refine dI h8 ⟨⟨M',c',St.aG,hKs q2 FU An⟩,(q3.trans (y1.mono fun _ h=>h.elim)).trans (aH.set (aH.refl ok3) _ (ok3.lt CZ) (fun _=>rfl))⟩
  ·have:j=L.length:=by omega
   subst this;have hd:=H5 M q2;try refine go ?_
   try simp only [hd]
   exact ai ⟨yO,fin q3⟩
theorem K1 {o la ta pl mp P Sh n lv tk:Nat}{Ds:List D}(hS:TS T)(hW:TW T)(hV:TV T)(hX:TX T)(hU:TU T H)(hs:s.Ok)(cG:aX s so o la ta pl mp P Sh Ds n lv tk)(hb:kZ s bo so tms x)(hk:tms[i]? =some tm)(ho:tm.Ok)(fN:∀v∈er tm,∃k:Nat,v=(k:Int)/\k < 1000/\∃t',tms[k]? =some t' /\t'.Ok/\∀w∈t'.ft,w < 4294967296)(Uw:tms.length<=P):bY T H 47 [.ptr bo 0,.int .i64 (i:Nat)] s fun d s1=>d= .bool (vw tm)/\aH Nil s s1:=by
 by_cases h3:tm.kd=3
 ·exact RG hS hW hs hb hk ho h3
 by_cases h4:tm.kd=4
 ·exact RH hS hs hb hk ho h4
 by_cases h5:tm.kd=5
 ·exact HI hS hs hb hk ho (.inl h5)
 by_cases h6:tm.kd=6
 ·exact HI hS hs hb hk ho (.inr h6)
 exact Md hS hW hV hX hU hs cG hb hk ho fN Uw ⟨h3,h4,h5,h6⟩
end
theorem mV.of {tms:List Tm}{i:Nat}{t:Tm}(h1:mc t.kd)(h2:ox tms i t):mV tms i t:=by
 obtain⟨q1,q2,q3⟩:=h2;unfold mc at h1;unfold ud at q3;refine⟨q1,fun k hk=> ?_,fun h=> ?_,h1,fun h=> ?_,fun h=> ?_⟩
 ·obtain⟨u,e1,e2⟩:=q2 k hk;exact⟨u,e1,e2.tm⟩
 ·rw [aI (by omega),bQ h]at q3; exact q3
 ·rw [aI (by omega),aI (by omega),aI (by omega)]at q3; exact q3
 ·rw [aI (by omega),aI (by omega),bQ (by omega)]at q3;obtain⟨k,u,e1,_,_⟩:=q3;rw [e1]; rfl
noncomputable def ni (tms:List Tm)(i:Nat)(t:Tm):Int:=open Classical in if ¬ mc t.kd then 12 else if ¬ ox tms i t then 1 else if t.kd=4/\Lib.validD t.tx=false then 1 else if vw t=true then 3 else 0
theorem FI {tms:List Tm}{i:Nat}{t:Tm}(h:ni tms i t=0):mV tms i t:=by
 unfold ni at h;by_cases h1:mc t.kd
 ·rw [aI (fun hn=>hn h1)]at h;by_cases h2:ox tms i t
  ·exact mV.of h1 h2
  ·rw [bQ h2]at h; cases h
 ·rw [bQ h1]at h; cases h
def wE (tms:List Tm)(e:Int):Prop:=(e=0/\∀i t,tms[i]? =some t->ni tms i t=0)\/(e≠0/\∃j t,tms[j]? =some t/\ni tms j t=e/\∀i u,i < j->tms[i]? =some u->ni tms i u=0)
theorem wE.one {tms:List Tm} {e e' :Int}(h:wE tms e) (h' :wE tms e'):e=e' :=by
 rcases h with ⟨h1,h2⟩ | ⟨h1,j,t,h2,h3,h4⟩ <;> rcases h' with ⟨D7,Bh⟩ | ⟨D7,j',t',Bh,h3',h4'⟩
 ·omega
 ·exact absurd (h3'.symm.trans (h2 _ _ Bh)) D7
 ·exact absurd (h3.symm.trans (Bh _ _ h2)) h1
 ·rcases gJ j j' with h | h | h
  ·exact absurd (h3.symm.trans (h4' _ _ h h2)) h1
  ·subst h; rw [h2]at Bh; cases Bh; omega
  ·exact absurd (h3'.symm.trans (h4 _ _ h Bh)) D7
section
variable {T:Nat->Option dJ}{H:au}{s:St}{so bo i:Nat}{x:D}{tms:List Tm}{t:Tm}{o la ta pl mp P Sh n lv tk:Nat}{Ds:List D}
theorem H3 (hS:TS T)(hU:TU T H)(hs:s.Ok){l:List UInt8}(hl:l.length<=1000000000):bY T H 46 [.str l] s fun d s1=>d= .bool (Lib.validD l)/\s1=s:=by
 refine aD hS.t46 ?_;try refine go ?_
 refine af (hU.v s l hl) ?_;rintro d s1 ⟨rfl,rfl⟩;try refine go ?_
 exact ai ⟨rfl,rfl⟩
theorem QU (hS:TS T)(hW:TW T)(hV:TV T)(hX:TX T)(hU:TU T H)(hs:s.Ok)(cG:aX s so o la ta pl mp P Sh Ds n lv tk)(hb:kZ s bo so tms x)(hk:tms[i]? =some t)(hN:tms.length<=200)(Uw:tms.length<=P)(lE:∀u∈tms,u.Ok/\∀w∈u.ft,w < 4294967296):
  bY T H 28 [.ptr bo 0,.int .i64 (i:Nat)] s fun d s1=>d= .int .i64 (ni tms i t)/\aH Nil s s1:=by
 have ho:=(lE t (bG hk)).1;have hi:i < tms.length:=(aj.mp hk).1;have hg:=hb.go;have ha:=kD hk;have Ie:=ho.tx;have hK:=fun (s2:St) (h:s2.Ok) (C8:s2.get bo=some (.var 105 (.agg [.ptr so 0,.vs false 8 (tms.map Tm.d),x])))=>Gg (H:=H) hS h C8 hk ho (by omega)
 have hB:=fun (s2:St) (h:s2.Ok) (yX:aX s2 so o la ta pl mp P Sh Ds n lv tk) (jb:kZ s2 bo so tms x) (h2:ox tms i t)=>K1 (H:=H) hS hW hV hX hU h yX jb hk ho (fun v hv=>by
  obtain⟨u,e1,_⟩:=h2.2.1 v hv;have hvk:v∈t.kids:=by
   unfold er at hv;split at hv
   ·exact hv
   ·split at hv
    ·exact vG hv
    ·cases hv
  have e2:=(h2.1 v hvk).1;have e3:v.toNat < tms.length:=(aj.mp e1).1;have e4:=lE u (bG e1);exact⟨v.toNat,by omega,by omega,u,e1,e4.1,e4.2⟩) Uw
 have Xg:=H3 (H:=H) (s:=s) hS hU hs (l:=t.tx) (by omega);refine aD hS.t28 ?_;unfold ni;obtain⟨kd,b,ng,n1,ft,tx,n2,kids,gy,sm⟩:=t;try refine go ?_
 refine af (J8 hS) ?_;rintro d s1 ⟨⟨c,rfl,kM⟩,rfl⟩;cases c
 ·have FP: ¬ mc kd:=fun h=>by have:=kM.2 h; cases this
  rw [bQ FP];try refine go ?_
  exact ai ⟨rfl,aH.refl hs⟩
 have kM:=kM.1 rfl;rw [aI (fun hn=>hn kM)];try refine go ?_
 refine af (hK _ hs hg) ?_;rintro d s2 ⟨⟨c,rfl,Ef⟩,b2⟩;have ok2:=b2.ok;cases c
 ·have Ef:=Ef.1 rfl;rw [aI (fun hn=>hn Ef)];have WV:=hB s2 ok2 (cG.dT hs b2 fun _ _ h=>h) ⟨b2.get hs hg id⟩ Ef;by_cases h4:kd=4
  ·subst h4;have hnb:vw ⟨4,b,ng,n1,ft,tx,n2,kids,gy,sm⟩=false:=rfl;try refine go ?_
   refine af (H3 hS hU ok2 (l:=tx) (bW Ie (by decide))) ?_;rintro d s3 ⟨rfl,rfl⟩;cases hvd:Lib.validD tx
   ·rw [bQ ⟨rfl,rfl⟩];try refine go ?_
    exact ai ⟨rfl,b2⟩
   ·rw [aI (fun hn=>by cases hn.2),hnb];rw [hnb]at WV;try refine go ?_
    refine af WV ?_;rintro d s4 ⟨rfl,b4⟩;try refine go ?_
    exact ai ⟨rfl,b2.trans b4⟩
  ·have dn:(kd==4)=false:=by simpa using h4
   rw [aI (fun hn=>h4 hn.1)];try refine go ?_
   try simp only [dn]
   try refine go ?_
   refine af WV ?_;rintro d s4 ⟨rfl,b4⟩;cases Yy:vw ⟨kd,b,ng,n1,ft,tx,n2,kids,gy,sm⟩
   ·try refine go ?_
    exact ai ⟨rfl,b2.trans b4⟩
   ·try refine go ?_
    exact ai ⟨rfl,b2.trans b4⟩
 ·have FP: ¬ ox tms i ⟨kd,b,ng,n1,ft,tx,n2,kids,gy,sm⟩:=fun h=>by have:=Ef.2 h; cases this
  rw [bQ FP];try refine go ?_
  exact ai ⟨rfl,b2⟩
end
section
variable {T:Nat->Option dJ}{H:au}{s:St}
theorem TL (hS:TS T)(hs:s.Ok):bY T H 25 [] s fun d s1=>d= .ptr s.n 0/\s1=s.aZ (.var 124 (.agg [.vs true 0 [],.vs true 0 [],.vs true 0 []])):=by
 refine aD hS.t25 ?_;try refine go ?_
 exact ai ⟨rfl,rfl⟩
theorem Oa (hS:TS T)(hs:s.Ok):bY T H 26 [.vs true 0 []] s fun d s1=>d= .ptr (s.n+1) 0/\s1=(s.aZ (.map [] 0)).aZ (.var 127 (.agg [.mp s.n,.int .i64 0])):=by
 refine aD hS.t26 ?_;try refine go ?_
 refine fw 0 (fun j=> [(3,.ptr (s.n+1) 0),(9,.vs true 0 []),(10,.int .i64 0),(11,.int .i64 0)]) (fun j s' =>s' =(s.aZ (.map [] 0)).aZ (.var 127 (.agg [.mp s.n,.int .i64 0]))) rfl ?_;rintro j s' hj rfl;try refine go ?_
 exact ai ⟨rfl,rfl⟩
theorem Rx (hT:TS T){o ty:Nat}{x:D}(hs:s.Ok)(h:s.get o=some (.var 124 (.agg [.vs true 0 [],.vs true 0 [],.vs true 0 []]))):
  bY T H 27 [.ptr o 0,.eM ty x] s fun d s1=>lK s1 o s.n (s.n+1) [.eM ty x]/\aH (fun j=>j=o) s s1/\s1.n=s.n+2:=by
 have l1:=hs.lt h;refine aD hT.t27 ?_;try refine go ?_
 refine ai ⟨⟨?_, ?_, ?_,by omega,by omega,by omega⟩, ?_, ?_⟩
 ·exact gI
 ·exact gI
 ·exact gI
 ·exact bI
 ·rfl
@[reducible] def three:List D:=[.eM 98 (.agg []),.eM 100 (.agg [.bool false]),.eM 100 (.agg [.bool true])]
def aa1 (s:St)(P Sh:Nat)(j:Nat)(s1:St):Prop:=
 aH Nil s s1/\s1.get s.n=some (.var 94 (.agg [.int .i64 0,.int .i64 P,.int .i64 Sh,.vs true 0 [],.vs true 0 [],.dU,.ptr (s.n+1) 0,.int .i64 0,.int .i64 0,.int .i64 0,.ptr (s.n+3) 0,.bool false]))/\
 s1.get (s.n+3)=some (.var 127 (.agg [.mp (s.n+2),.int .i64 0]))/\s1.get (s.n+2)=some (.map [] 0)/\s1.get (s.n+4)=some (.arr 1 90 three 0)/\
 ((j=0/\s1.get (s.n+1)=some (.var 124 (.agg [.vs true 0 [],.vs true 0 [],.vs true 0 []]))/\s1.n=s.n+5)\/(j≠0/\lK s1 (s.n+1) (s.n+5) (s.n+6) (three.take j)))
theorem XO (hS:TS T)(hs:s.Ok){P Sh:Nat}(hP:P<=65536)(hSh:Sh<=256):bY T H 10 [.agg [.int .i64 0,.int .i64 (P:Nat),.int .i64 (Sh:Nat),.vs true 0 [],.vs true 0 []],.dU] s fun d s1=>
  ∃so o la ta pl mp,d= .gW [.ptr so 0,.int .i64 0]/\aX s1 so o la ta pl mp P Sh three 0 0 0/\(∀j,br so o la ta pl j\/j=mp->s.n<=j)/\aH Nil s s1:=by
 have e1:=qV ((P:Int) < 0);have e2:=qV ((P:Int) > 65536);have e3:=qV ((Sh:Int) < 0);have e4:=qV ((Sh:Int) > 256);refine aD hS.t10 ?_;try refine go ?_
 refine aV (TL (s:=s.up 1) hS (hs.up _)) ?_;rintro d s1 ⟨rfl,rfl⟩;refine⟨rfl,by rfl, ?_⟩;try refine go ?_
 refine aV (Oa hS ((hs.up _).aZ _)) ?_;rintro d s1 ⟨rfl,rfl⟩;refine⟨rfl,by rfl, ?_⟩;try refine go ?_
 refine fw 3 (fun j=> [(6,.ptr s.n 0),(51,.sl (s.n+4) 0 3 3),(52,.int .i64 3),(53,.int .i64 (j:Nat))]) (aa1 s P Sh) ⟨?_, ?_, ?_, ?_, ?_,.inl ⟨rfl, ?_,rfl⟩⟩ ?_
 ·exact bI
 ·exact gI
 ·exact gI
 ·exact gI
 ·exact gI
 ·exact gI
 rintro j s1 hj ⟨b1,g0,g3,g2,g4,hc⟩;have ok1:=b1.ok;have lp:=ok1.lt g3;rcases (show j=0\/j=1\/j=2\/j=3 by omega) with rfl | rfl | rfl | rfl
 ·rcases hc with ⟨_,gs,hn⟩ | ⟨h,_⟩
  ·try refine go ?_
   refine af (Rx hS ok1 gs) ?_;rintro d s2 ⟨k1,k2,k3⟩;rw [hn]at k1;try refine go ?_
   exact dI (by omega) ⟨b1.trans' k2 fun j hj eW=>by omega,k2.get ok1 g0 (by omega),k2.get ok1 g3 (by omega),k2.get ok1 g2 (by omega),k2.get ok1 g4 (by omega),.inr ⟨by decide,k1⟩⟩
  ·exact absurd rfl h
 ·rcases hc with ⟨h,_⟩ | ⟨_,td⟩
  ·exact absurd h (by decide)
  ·try refine go ?_
   refine af (qs hS ok1 td (by simp [aM])) ?_;rintro d s2 ⟨-,k1,k2⟩;have w1: ¬ ((s.n:Nat)=s.n+1\/s.n=s.n+5\/s.n=s.n+6):=by omega
   try refine go ?_
   exact dI (by omega) ⟨b1.trans' k2 fun j hj eW=>by omega,k2.get ok1 g0 (by omega),k2.get ok1 g3 (by omega),k2.get ok1 g2 (by omega),k2.get ok1 g4 (by omega),.inr ⟨by decide,k1⟩⟩
 ·rcases hc with ⟨h,_⟩ | ⟨_,td⟩
  ·exact absurd h (by decide)
  ·try refine go ?_
   refine af (qs hS ok1 td (by simp [aM])) ?_;rintro d s2 ⟨-,k1,k2⟩;have w1: ¬ ((s.n:Nat)=s.n+1\/s.n=s.n+5\/s.n=s.n+6):=by omega
   try refine go ?_
   exact dI (by omega) ⟨b1.trans' k2 fun j hj eW=>by omega,k2.get ok1 g0 (by omega),k2.get ok1 g3 (by omega),k2.get ok1 g2 (by omega),k2.get ok1 g4 (by omega),.inr ⟨by decide,k1⟩⟩
 ·rcases hc with ⟨h,_⟩ | ⟨_,td⟩
  ·exact absurd h (by decide)
  ·try refine go ?_
   refine ai ⟨s.n,s.n+1,s.n+5,s.n+6,s.n+3,s.n+2,rfl,⟨g0,g3,g2,td,by simp only [dZ,aN,eZ,cJ,jr,cT,fj,ix]; omega⟩,fun j hj=> ?_,b1⟩;simp only [br]at hj;omega
end
noncomputable def Jk (n:Nat):AC:=match n,RR.1.body with
 | 1,.seq _ (.seq _ (.seq _ (.seq (.seq _ (.block _ a)) _)))=>a
 | 2,.seq _ (.seq _ (.seq _ (.seq _ (.seq (.seq _ (.block _ a)) _))))=>a
 | 3,.seq _ (.seq _ (.seq _ (.seq _ (.seq _ (.seq (.seq _ (.block _ a)) _)))))=>a
 | _,_=> .skip
structure LJ (tms:List Tm):Prop where
 len:tms.length<=200
 ok:∀u∈tms,u.Ok/\∀w∈u.ft,w < 4294967296
section
variable {T:Nat->Option dJ}{H:au}{s:St}{so bo i:Nat}{x:D}{tms:List Tm}{t:Tm}{o la ta pl mp P Sh n lv tk:Nat}{Ds:List D}
theorem Pl (hS:TS T)(hW:TW T)(hV:TV T)(hX:TX T)(hU:TU T H)(Uw:tms.length<=P)(hs:s.Ok)(cG:aX s so o la ta pl mp P Sh Ds n lv tk)(hb:kZ s bo so tms x)(hT:LJ tms){nl:Bool}{E:Env}{k:List iI}{Q:QP}
  (hE:E.bM [0,1,6,24,25]=[(0,.ptr so 0),(1,.vs nl 8 (tms.map Tm.d)),(6,.ptr bo 0),(24,.int .i64 (tms.length:Nat)),(25,.int .i64 0)])
  (qS:nl=true->tms=[])
  (abj:∀(e:Int) (fr:Env) (s1:St),e≠0->wE tms e->aH Nil s s1->lB T H .ret k ⟨(5,.int .i64 e)::(4,.vs true 0 [])::fr,[]⟩ s1 Q)
  (aad:∀(s1:St),wE tms 0->aH Nil s s1->lB T H .normal k ⟨[(26,.bool false),(0,.ptr so 0),(1,.vs nl 8 (tms.map Tm.d)),(6,.ptr bo 0),(24,.int .i64 (tms.length:Nat)),(25,.int .i64 (tms.length:Nat))],[]⟩ s1 Q):
  dR T H (Jk 1) (.block 0::k) ⟨E,[]⟩ s Q:=by
 have hlen:=hT.len;show dR T H (.loop _ _) (.block 0::k) ⟨E,[]⟩ s Q;refine fw tms.length (fun j=> [(0,.ptr so 0),(1,.vs nl 8 (tms.map Tm.d)),(6,.ptr bo 0),(24,.int .i64 (tms.length:Nat)),(25,.int .i64 (j:Nat))]) (fun j s1=>(∀i t,i < j->tms[i]? =some t->ni tms i t=0)/\aH Nil s s1) ⟨fun i t h=>by omega,aH.refl hs⟩ ?_ rfl hE;rintro j s1 hj ⟨hg,b1⟩;have ok1:=b1.ok;by_cases eW:j < tms.length
 ·obtain⟨t,ht⟩:∃t,tms[j]? =some t:=⟨_,ak eW⟩;have hd:=ur ((j:Int) < (tms.length:Nat));have w1:IntKind.wrap .i64 ((j:Int)+1)=((j+1:Nat):Int):=by rw [wrap_small (by omega) (by omega)]; omega
  try refine go ?_
  refine af (QU hS hW hV hX hU ok1 (cG.dT hs b1 fun _ _ h=>h) ⟨b1.get hs hb.go id⟩ ht hlen Uw hT.ok) ?_;rintro d s2 ⟨rfl,b2⟩;generalize he:ni tms j t=e;by_cases Z7:e=0
  ·subst Z7;try refine go ?_
   try rw [w1]
   refine dI eW ⟨fun i t' hi SH => ?_,b1.trans b2⟩;by_cases uz:i=j
   ·subst uz;rw [ht]at SH; cases SH;exact he
   ·exact hg i t' (by omega) SH
  ·have dn:(e !=0)=true:=by simpa using Z7
   try refine go ?_
   try simp only [dn]
   try refine go ?_
   exact abj _ _ _ Z7 (.inr ⟨Z7,j,t,ht,he,hg⟩) (b1.trans b2)
 ·have OD:j=tms.length:=by omega
  subst OD;have hd:=qV ((tms.length:Int) < (tms.length:Nat));try refine go ?_
  exact aad s1 (.inl ⟨rfl,fun i t ht=>hg i t (aj.mp ht).1 ht⟩) b1
end
inductive qn (P:Nat)(tms:List Tm)(K6:List fE)(n0:Nat):List Nat->List fE->Nat->Prop
 | nil:qn P tms K6 n0 [] K6 n0
 | snoc {R:List Nat} {Vs:List fE} {n:Nat} (h:qn P tms K6 n0 R Vs n) {t:Tm} (ht:tms[R.length]? =some t) {Vn:List fE} {r n' :Nat} (hm:iv P tms Vs R t n Vn r n'):qn P tms K6 n0 (R++ [r]) (Vs++Vn) n'
def rj (Vs:List fE):Prop:=Vs[0]? =some .none/\Vs[1]? =some (.bool false)/\Vs[2]? =some (.bool true)
theorem mX {α:Type}{L M:List α}{i:Nat}{v:α}(h:L[i]? =some v):(L++M)[i]? =some v:=by
 rw [aK (aj.mp h).1]; exact h
theorem rj.app {Vs:List fE}(h:rj Vs)(Vn:List fE):rj (Vs++Vn):=⟨mX h.1,mX h.2.1,mX h.2.2⟩
theorem uI {α:Type}{L:List α}{v:α}:(L++ [v])[L.length]? =some v:=by rw [aF (aq _),ef]; rfl
theorem iv.of {P:Nat}{tms:List Tm}{Vs:List fE}{R:List Nat}{t:Tm}{n:Nat}{Vn:List fE} {r n' :Nat}(h:iv P tms Vs R t n Vn r n')(hb:rj Vs):∃w,(Vs++Vn)[r]? =some w/\F7 t w:=by
 unfold F7;cases h with
 | none h=>exact ⟨_,mX hb.1,.inl ⟨h,rfl⟩⟩
 | bool h=>
  refine⟨.bool t.b, ?_,.inr (.inl ⟨h,rfl⟩)⟩;cases t.b
  ·exact mX hb.2.1
  ·exact mX hb.2.2
 | int h=>exact ⟨_,uI,.inr (.inr (.inl ⟨h,rfl⟩))⟩
 | str h=>exact ⟨_,uI,.inr (.inr (.inr (.inl ⟨h,rfl⟩)))⟩
 | row h=>exact ⟨_,uI,.inr (.inr (.inr (.inr (.inl ⟨h,_,_,_,rfl,by omega,cM ..⟩))))⟩
 | pC h E=>exact ⟨_,uI,.inr (.inr (.inr (.inr (.inr (.inl ⟨h,_,_,_,rfl,by omega⟩)))))⟩
 | inst h=>exact ⟨.inst (n+2) Vs.length,by rw [aF (by omega),show Vs.length+1 - Vs.length=1 by omega]; rfl,.inr (.inr (.inr (.inr (.inr (.inr (.inl ⟨h,_,_,rfl⟩))))))⟩
 | view h=>exact ⟨_,uI,.inr (.inr (.inr (.inr (.inr (.inr (.inr ⟨h,_,_,_,rfl,by omega⟩))))))⟩
theorem Mk.step {P:Nat}{tms:List Tm}{Vs:List fE}{R:List Nat}{t:Tm}{n:Nat}{Vn:List fE} {r n' :Nat}(h:Mk tms R Vs)(hm:iv P tms Vs R t n Vn r n')(hb:rj Vs)(ht:tms[R.length]? =some t):Mk tms (R++ [r]) (Vs++Vn):=by
 intro k q u h1 h2;by_cases hk:k < R.length
 ·rw [aK hk]at h1;obtain⟨w,e1,e2⟩:=h k q u h1 h2;exact⟨w,mX e1,e2⟩
 ·have hl:=(aj.mp h1).1;rw [an,aC]at hl;have:k=R.length:=by omega
  subst this;rw [uI]at h1;rw [ht]at h2;cases h1; cases h2;exact hm.of hb
theorem lJ.nil {P Sh:Nat}{s s1:St}{so o la ta pl mp n lv tk bo:Nat}{Ds:List D}{Vs:List fE}{F:Nat->Nat->Prop}{tms:List Tm}{R:List Nat}{x:D}(h:lJ P Sh s so o la ta pl mp n lv tk bo Ds Vs F tms R x)(hb:aH Nil s s1):lJ P Sh s1 so o la ta pl mp n lv tk bo Ds Vs F tms R x:=
 {h with ok:=hb.ok,st:=h.st.dT h.ok hb (fun _ _ h=>h),vs:=h.vs.dT h.ok hb (fun _ _ _ h=>h),bl:=⟨hb.get h.ok h.bl.go id⟩,rf:=h.rf.dT h.ok hb (fun _ _ _ _ _ h=>h)}
def LH (P Sh:Nat)(s:St)(so o la ta pl mp n lv tk bo:Nat)(Ds:List D)(Vs:List fE)(F:Nat->Nat->Prop)(tms:List Tm)(t:Tm)(R:List Nat)(x:D)(s1:St):Prop:=
 ∃Dn Vn r n' tk' F' x1,iv P tms Vs R t n Vn r n' /\lJ P Sh s1 so o la ta pl mp n' (lv+(n' - n)) tk' bo (Ds++Dn) (Vs++Vn) F' tms (R++ [r]) x1/\tk' <=tk+2/\(∀q a l c,x1= .sl q a l c->(∃a l c,x= .sl q a l c)\/s.n<=q)/\aH (fun q=>br so o la ta pl q\/q=bo\/∃a l c,x= .sl q a l c) s s1/\(∀i j,F' i j->F i j\/s.n<=j\/Dj s1 j)
section
variable {T:Nat->Option dJ}{H:au}{s:St}{so bo i:Nat}{x:D}{tms:List Tm}{t:Tm}{o la ta pl mp P Sh n lv tk:Nat}{Ds:List D}{Vs:List fE}{F:Nat->Nat->Prop}{R:List Nat}
noncomputable def YZ:AC:=match Jk 2 with
 | .loop _ a=>a
 | _=> .skip
def F2 (nl:Bool)(so bo:Nat)(tms:List Tm)(j:Nat):Env:=[(0,.ptr so 0),(1,.vs nl 8 (tms.map Tm.d)),(6,.ptr bo 0),(35,.vs nl 8 (tms.map Tm.d)),(36,.int .i64 (tms.length:Nat)),(37,.int .i64 (j:Nat))]
theorem iv.le {P:Nat}{tms:List Tm}{Vs:List fE}{R:List Nat}{t:Tm}{n:Nat}{Vn:List fE} {r n' :Nat}(h:iv P tms Vs R t n Vn r n'):n<=n' /\n' <=n+2/\Vn.length<=2:=by
 cases h <;> simp
theorem aX.u32 {s1:St} {tk' :Nat}{j:Nat}(h:aX s1 so o la ta pl mp P Sh Ds n lv tk')(hu:Dj s1 j): ¬ br so o la ta pl j:=by
 obtain⟨es,st,hg⟩:=hu;rintro (rfl | rfl | rfl | rfl | rfl)
 ·rw [h.go]at hg; cases hg
 ·rw [h.sl.go]at hg; cases hg
 ·rw [h.sl.gl]at hg; cases hg
 ·rw [h.sl.gt]at hg; cases hg
 ·rw [h.gp]at hg; cases hg
theorem xe (h:lJ P Sh s so o la ta pl mp n lv tk bo Ds Vs F tms R x)(vR:tms[R.length]? =some t)(yP:rj Vs)(q1:n+2 < 1000000000)(q2:lv+2 < 1000000000)(q3:tk+2 < 1000000000)(q4:Ds.length+2 < 1000000000)
  {s1 s2:St}{Dn:List D}{Vn:List fE}{r n' tk' q:Nat} {F' :Nat->Nat->Prop}(z1:iv P tms Vs R t n Vn r n')(z2:aX s1 so o la ta pl mp P Sh (Ds++Dn) n' (lv+(n' - n)) tk')(z3:tk' <=tk+2)(z4:eh P s1 F' (Ds++Dn) (Vs++Vn))(z5:∀(i j:Nat),F' i j->F i j\/(s.up 1).n<=j\/Dj s1 j)(z6:aH (br so o la ta pl) (s.up 1) s1)
  (hq:q=s.n\/∃a l c,x= .sl q a l c)(Re:∀es st,s1.get q≠some (.arr 1 26 es st))(kv:∀es st,s1.get bo≠some (.arr 1 26 es st))
  (g1:s2.get q=some (.arr 1 3 (ints ((R++ [r]).map Int.ofNat)) 0))(g2:s2.get bo=some (.var 105 (.agg [.ptr so 0,.vs false 8 (tms.map Tm.d),.sl q 0 (R.length+1) (R.length+1)])))(hb:aH (fun j=>j=q\/j=bo) s1 s2):
  LH P Sh s so o la ta pl mp n lv tk bo Ds Vs F tms t R x s2:=by
 have hs:=h.ok;have ok1:=z6.ok;have lb:=hs.lt h.bl.go;have n1:s.n+1<=s1.n:=z6.n;obtain⟨m1,m2,m3⟩:=z1.le;have hl:=z4.ln;have AA:=h.vs.ln;rw [an,an]at hl;have nof:∀j,s.n<=j-> ¬ br so o la ta pl j/\j≠mp:=fun j hj=>⟨fun hh=>by have:=h.st.lt hs (.inl hh); omega,fun hh=>by have:=h.st.lt hs (.inr hh); omega⟩;have YJ: ¬ br so o la ta pl q/\q≠mp/\q≠bo/\∀i, ¬ F i q:=by
  rcases hq with rfl | ⟨a,l,c,e⟩
  ·exact⟨(nof _ (aq _)).1,(nof _ (aq _)).2,by omega,fun i hi=>by have:=(h.vs.lt i _ hi).1; omega⟩
  ·obtain⟨y1,y2,y3⟩:=h.x0 _ _ _ _ e;exact⟨y1,y2,y3,fun i hi=>(h.hF i _ hi).2.2 _ _ _ _ e rfl⟩
 have lq:q < s.n+1:=by
  rcases hq with rfl | ⟨a,l,c,e⟩
  ·omega
  ·have hr:=h.rf;rw [e]at hr;cases hr with
   | sl hg _=>have:=hs.lt hg; omega
 have sep:∀i j,F' i j-> ¬ br so o la ta pl j/\j≠bo/\j≠q:=by
  intro i j hj;rcases z5 i j hj with h1 | h1 | h1
  ·have h2:=h.hF i j h1;exact⟨h2.1,h2.2.1,fun e=>YJ.2.2.2 i (e ▸ h1)⟩
  ·have h1:s.n+1<=j:=h1;exact⟨(nof j (by omega)).1,by omega,by omega⟩
  ·refine⟨z2.u32 h1, ?_, ?_⟩
   ·rintro rfl; obtain ⟨es,st,e⟩:=h1; exact kv _ _ e
   ·rintro rfl; obtain ⟨es,st,e⟩:=h1; exact Re _ _ e
 refine⟨Dn,Vn,r,n',tk',F',.sl q 0 (R.length+1) (R.length+1),z1, ?_,z3, ?_, ?_, ?_⟩
 ·refine { ok:=hb.ok,pb:=h.pb,sb:=h.sb,st:=z2.dT ok1 hb ?_,nb:=by omega,lb:=by omega,tb:=by omega,ds:=by rw [an]; omega,vs:=z4.dT ok1 hb fun i j hj=> ?_,hF:=fun i j hj=> ?_,bl:=⟨g2⟩,rf:= ?_,md:=h.md.step z1 yP vR,b0:=h.b0,x0:=fun q' a l c e=> ?_,tm:=h.tm}
  ·rintro j hj (rfl | rfl)
   ·rcases hj with hj | hj
    ·exact YJ.1 hj
    ·exact YJ.2.1 hj
   ·rcases hj with hj | hj
    ·exact h.b0.1 hj
    ·exact h.b0.2 hj
  ·have:=sep i j hj;rintro (e | e)
   ·exact this.2.2 e
   ·exact this.2.1 e
  ·have:=sep i j hj;refine⟨this.1,this.2.1,fun q' a l c e=> ?_⟩;simp only [D.sl.injEq]at e;rw [← e.1]; exact this.2.2
  ·have:=Refs.sl (s:=s2) (o:=q) (R:=R++ [r]) g1 (by simp);rw [an,aC]at this;exact this
  ·simp only [D.sl.injEq]at e;rw [← e.1]; exact ⟨YJ.1,YJ.2.1,YJ.2.2.1⟩
 ·intro q' a l c e;simp only [D.sl.injEq]at e;rw [← e.1];rcases hq with rfl | hq
  ·exact .inr (aq _)
  ·exact .inl hq
 ·have b1:aH (fun j=>br so o la ta pl j\/j=bo\/∃a l c,x= .sl j a l c) s s1:=((aH.refl hs).up 1).trans (z6.mono fun j hj=> .inl hj);refine b1.trans' hb ?_;rintro j (rfl | rfl) eW
  ·rcases hq with rfl | hq
   ·omega
   ·exact .inr (.inr hq)
  ·exact .inr (.inl rfl)
 ·intro i j hj;rcases z5 i j hj with h1 | h1 | h1
  ·exact .inl h1
  ·have h1:s.n+1<=j:=h1;exact .inr (.inl (by omega))
  ·refine .inr (.inr (h1.dT ok1 hb ?_));obtain⟨es,st,e⟩:=h1;rintro (rfl | rfl)
   ·exact Re _ _ e
   ·exact kv _ _ e
theorem X6 (hS:TS T)(hT:TT T)(hP:TP T)(hW:TW T)(hV:TV T)(h:lJ P Sh s so o la ta pl mp n lv tk bo Ds Vs F tms R x)(vR:tms[R.length]? =some t)(hg:mV tms R.length t)(hN:tms.length<=200){I:Nat->St->Prop}{k:List iI}{Q:QP}{nl:Bool}(qS:nl=true->tms=[])(yP:rj Vs)(q1:n+2 < 1000000000)(q2:lv+2 < 1000000000)(q3:tk+2 < 1000000000)(q4:Ds.length+2 < 1000000000)
  (hk:∀s1,LH P Sh s so o la ta pl mp n lv tk bo Ds Vs F tms t R x s1->I (R.length+1) s1):
  dR T H YZ (.loop (NJ tms.length (F2 nl so bo tms) I) [0,1,6,35,36,37] (tms.length - R.length)::k) ⟨F2 nl so bo tms R.length,[]⟩ s Q:=by
 have hj:R.length < tms.length:=(aj.mp vR).1;have hd:=ur ((R.length:Int) < (tms.length:Nat))
 obtain rfl:nl=false:=by
  cases nl
  ·rfl
  ·rw [qS rfl]at hj; cases hj
 have ha:=kD vR;have gb:=h.bl.go;have hs:=h.ok;have Xn:=Ps (H:=H) hS hT hP hW hV (h.nil ((aH.refl hs).up 1)) vR hg;have w1:IntKind.wrap .i64 ((R.length:Int)+1)=((R.length+1:Nat):Int):=by rw [wrap_small (by omega) (by omega)]; omega
 show dR T H (.seq _ _) _ ⟨[(0,.ptr so 0),(1,.vs false 8 (tms.map Tm.d)),(6,.ptr bo 0),(35,.vs false 8 (tms.map Tm.d)),(36,.int .i64 (tms.length:Nat)),(37,.int .i64 (R.length:Nat))],[]⟩ s Q;rcases h.rf with _ | ⟨hgr,dn⟩
 ·try refine go ?_
  refine aV Xn ?_;rintro d s1 ⟨Dn,Vn,r,n',tk',F',z1,rfl,z2,z3,z4,z5,z6⟩;have ZF:(s.up 1).get bo=_:=gb;have Gx:=z6.get (hs.up 1) ZF h.b0.1;have ok1:=z6.ok;have n1:s.n+1<=s1.n:=z6.n;have SA: ¬ br so o la ta pl s.n:=fun hh=>fP _ (h.st.lt hs (.inl hh));have H6:s1.get (s.n+0)=none:=(z6.same s.n (mf _) SA).trans (hs.fresh _ (aq _));have lb:=hs.lt gb;refine⟨rfl,by simp [lost,eE.kind,cF,dG,cl,aJ,bD,bD.cL,gF,bO.ev,Env.get,cQ,D.flat,D.isAgg,cK,D.fC,D.beq,aA,Obj.a8,bH,bC,D.bU,D.a8,ZF,Gx], ?_⟩;try refine go ?_
  refine dI hj (hk _ (xe (q:=s.n) h vR yP q1 q2 q3 q4 z1 z2 z3 z4 z5 z6 (.inl rfl) (fun es st e=>by rw [fu]at H6; rw [H6]at e; cases e) (fun es st e=>by rw [Gx]at e; cases e) ?_ ?_ ?_))
  ·exact gI
  ·exact gI
  ·exact bI
 ·try refine go ?_
  refine aV Xn ?_;rintro d s1 ⟨Dn,Vn,r,n',tk',F',z1,rfl,z2,z3,z4,z5,z6⟩;have ZF:(s.up 1).get bo=_:=gb;have Gx:=z6.get (hs.up 1) ZF h.b0.1;have ok1:=z6.ok;have n1:s.n+1<=s1.n:=z6.n;have lb:=hs.lt gb;obtain⟨y1,y2,y3⟩:=h.x0 _ _ _ _ rfl;have gr1:=z6.get (hs.up 1) hgr y1;have lr:=hs.lt hgr;have vQ:=jv R;refine⟨rfl,by simp [lost,eE.kind,cF,dG,cl,aJ,bD,bD.cL,gF,bO.ev,Env.get,cQ,D.flat,D.isAgg,cK,D.fC,D.beq,aA,Obj.a8,bH,bC,D.bU,D.a8,ZF,Gx], ?_⟩;try refine go ?_
  refine dI hj (hk _ (xe h vR yP q1 q2 q3 q4 z1 z2 z3 z4 z5 z6 (.inr ⟨_,_,_,rfl⟩) (fun es st e=>by rw [gr1]at e; cases e) (fun es st e=>by rw [Gx]at e; cases e) ?_ ?_ ?_))
  ·rw [show ints ((R++ [r]).map Int.ofNat)=ints (R.map Int.ofNat)++ [.int .i64 (r:Nat)] by simp [ints]];exact gI
  ·exact gI
  ·exact bI
end
end Go.Proofs.Tab
