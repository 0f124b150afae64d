/- Part. -/
import Derived.Test.YtjaldhgmboeffaaGreatDoorG19
import Derived.OpenShut
import Derived.LaidLaws
set_option linter.unusedSimpArgs false
set_option linter.unusedVariables false
set_option linter.unusedSectionVars false
namespace Go.Ab
open Go
mutual
def qi:Sh->List D->Prop
 | .bool,ds=>∃b,ds=[.bool b]
 | .int k,ds=>∃n,ds=[.int k n]/\(Lit.int k n).wf=true
 | .str,ds=>∃s,ds=[.str s]/\s.length<=reachBytes
 | .slice sz one e,ds=>∃nl L,ds=[.vs nl sz L]/\(nl=true->L=[])/\L.length<=reachBytes/\∀d,d∈L->∃l,d=Rf one l/\qi e l
 | .st fs,ds=>BD fs ds
def BD:List Sh->List D->Prop
 | [],ds=>ds=[]
 | s::r,ds=>∃a b,ds=a++b/\qi s a/\BD r b
end
mutual
def qb (P:Program):Sh->TypeId->Prop
 | .bool,t=>P.underlying t=some .bool
 | .int k,t=>P.underlying t=some (.int k)
 | .str,t=>P.underlying t=some .string
 | .slice sz one e,t=>∃u,P.underlying t=some (.slice u)/\P.cellsOf u=sz/\0 < sz/\(one=true->sz=1)/\0 < P.bytesOf u/\qb P e u
 | .st fs,t=>∃fl,P.underlying t=some (.struct fl)/\qC P fs fl.toList 0 (P.cellsOf t)
def qC (P:Program):List Sh->List Field->Nat->Nat->Prop
 | [],[],off,n=>off=n
 | s::r,f::fl,off,n=>f.offset=off/\qb P s f.type/\qC P r fl (off+P.cellsOf f.type) n
 | _,_,_,_=>False
end
section
variable {H:Type}{P:Program}
theorem rn {e:TypeId}{d:DataW H}{b:Nat}:∀ {l:List (DataW H)},d∈l->b∈d.weights P e->b∈DataW.weightsAll P e l
 | [],h,_=>by cases h
 | x::r,h,hb=>by
  unfold DataW.weightsAll;rw [bK];rcases bR.1 h with rfl | h
  ·exact .inl hb
  ·exact .inr (rn h hb)
theorem nQ {t:TypeId}{d:DataW H}{b:Nat}:∀ {i:Nat} {ts:List TypeId} {l:List (DataW H)},ts[i]? =some t->l[i]? =some d->b∈d.weights P t->b∈DataW.weightsEach P ts l
 | _,[],_,h,_,_=>by simp at h
 | _,_::_,[],_,h,_=>by simp at h
 | 0,t' ::ts,x::r,h1,h2,hb=>by
  simp only [aR,aa]at h1 h2;subst h1; subst h2;unfold DataW.weightsEach;exact bK.2 (.inl hb)
 | i+1,t' ::ts,x::r,h1,h2,hb=>by
  unfold DataW.weightsEach;exact bK.2 (.inr (nQ (by simpa using h1) (by simpa using h2) hb))
end
variable [eV]
variable {H:Type}{enc:TypeId×Value->H}{P:Program}{w:World}
mutual
theorem vA:∀(s:Sh) (n:Nat) (t:TypeId) (cs:List Value) (x:DataW H×List MemPlace),qb P s t->DataW.trod enc P w 0 (fun _=>true) true n t cs=some x->(∀b∈x.1.weights P t,b<=reachBytes)->∃ds,bw vM w ds cs/\qi s ds/\ds.all D.sc=true
 | .bool,n,t,cs,x,hs,h,_=>by
  simp only [qb]at hs;obtain⟨b,rfl,_⟩:=DataW.trod_bool hs h;exact⟨[.bool b],bw.lit (by simp [aU]),⟨b,rfl⟩,rfl⟩
 | .int k,n,t,cs,x,hs,h,_=>by
  simp only [qb]at hs;obtain⟨m,rfl,_,hw⟩:=DataW.trod_int hs h;exact⟨[.int k m],bw.lit (by simp [aU]),⟨m,rfl,hw⟩,rfl⟩
 | .str,n,t,cs,x,hs,h,hw=>by
  simp only [qb]at hs;obtain⟨b,rfl,rfl,hl⟩:=DataW.trod_string hs h;exact⟨[.str b.data.toList],bw.lit (by simp [aU]),⟨_,rfl,hw _ (by simp [DataW.weights])⟩,rfl⟩
 | .slice sz one e,n,t,cs,x,hs,h,hw=>by
  simp only [qb]at hs;obtain⟨u,hu,hc,h0,nL,Lr,he⟩:=hs;rcases Deep.open_slice hu h with ⟨rfl,rfl⟩ | ⟨a,len,cap,m,n',Df,Pl,rfl,hb,hl,hm,hmm,rfl,hx⟩
  ·exact⟨[.vs true sz []],bw.lit (by simp [aU]),⟨true,[],rfl,fun _=>rfl,by simp,fun d hd=>by cases hd⟩,rfl⟩
  ·have hmc:m=cap:=by rw [hmm]; rfl
   subst hmc;have x8:DataW.weights P t (.slice ((List.range len).map Df) ((List.range (m - len)).map fun j=>Df (len+j)))=(((List.range len).map Df).length+((List.range (m - len)).map fun j=>Df (len+j)).length) * P.bytesOf u::(DataW.weightsAll P u ((List.range len).map Df)++DataW.weightsAll P u ((List.range (m - len)).map fun j=>Df (len+j))):=by
    simp only [DataW.weights,hu]
   simp only [x8,bR,bK]at hw;have hlr:len<=reachBytes:=by
    have h1:=hw _ (.inl rfl);rw [aJ,List.length_range]at h1;have h2:len<=(len+((List.range (m - len)).map fun j=>Df (len+j)).length) * P.bytesOf u:=cU (Nat.le_add_right _ _) (Nat.le_mul_of_pos_right _ Lr);omega
   have key:∀i,i < len->∃d l v,d=Rf one l/\qi e l/\aU vM w d v/\v.cells.size=sz/\d.st=true/\∀j,j < sz->w.cell? ((a.add (i * sz)).add j)=v.cells[j]? :=by
    intro i hi;obtain⟨cs',h1,h2⟩:=hx i (by omega);rw [hc]at h1;obtain⟨_,hlen,lD⟩:=World.cells?_some h1;obtain⟨l,g1,g2,g3⟩:=vA e n' u cs' _ he h2 (fun b jl =>hw b (.inr (.inl (rn (jO.2 ⟨i,mi.2 hi,rfl⟩) jl))));have tN:=g1.len;cases one with
    | false=>
     refine⟨.agg l,l,.agg cs'.toArray,rfl,g2, ?_,by simp [Value.cells,hlen],by simp [D.st,g3],fun j hj=> ?_⟩
     ·simp only [aU]; exact ⟨_,rfl,by simpa using g1,g3⟩
     ·rw [lD j hj]; simp [Value.cells]
    | true=>
     have h1:=nL rfl;subst h1
     match l,tN with
     | [d],tN=>
      obtain⟨v,rfl,hv⟩:=g1.inv1;simp only [gQ,List.all_nil,lJ]at g3;obtain⟨_,hvc⟩:=hv.sc g3;refine⟨d,[d],v,rfl,g2,hv,by rw [hvc]; rfl,D.Na g3,fun j hj=> ?_⟩;rw [lD j hj,hvc]; simp
     | [],tN=>simp [hlen]at tN
     | _::_::_,tN=>simp [hlen]at tN
   have build:∀k,k<=len->∃L:List D,L.length=k/\(∀d,d∈L->∃l,d=Rf one l/\qi e l)/\
     ∀i d,L[i]? =some d->∃v,aU vM w d v/\v.cells.size=sz/\d.st=true/\∀j,j < sz->w.cell? ((a.add (i * sz)).add j)=v.cells[j]? :=by
    intro k;induction k with
    | zero=>intro _; exact ⟨[],rfl,fun d hd=>(by cases hd),fun i d hd=>by simp at hd⟩
    | succ k ih=>
     intro hk;obtain⟨L,l1,l2,l3⟩:=ih (by omega);obtain⟨d,l,v,k1,k2,k3,k4,k5,k6⟩:=key k (by omega);refine⟨L++ [d],by simp [l1],fun q hq=> ?_,fun i q hq=> ?_⟩
     ·rcases bK.1 hq with hq | hq
      ·exact l2 q hq
      ·simp only [cH]at hq; subst hq; exact ⟨l,k1,k2⟩
     ·rcases aH i L.length with hi | hi
      ·rw [aP hi]at hq; exact l3 i q hq
      ·rw [aT hi]at hq;have:i - L.length=0:=by
        rcases ec (i - L.length) with h | h
        ·exact h
        ·rw [eN (by simp; omega)]at hq; cases hq
       rw [this]at hq;simp only [aR,aa]at hq; subst hq;have:i=k:=by omega
       subst this;exact⟨v,k3,k4,k5,k6⟩
   obtain⟨L,l1,l2,l3⟩:=build len (aq _);refine⟨[.vs false sz L],bw.lit ?_,⟨false,L,rfl,fun h=>(by cases h),by omega,l2⟩,rfl⟩;simp only [aU];refine .inr ⟨trivial,a,m,by rw [l1],by omega, ?_⟩;by_cases hL:L=[]
   ·exact .inl hL
   ·right
    have KU:0 < len:=by
     rcases ec len with h | h
     ·exact absurd (ep (l1.trans h)) hL
     ·exact h
    have Nf:a.spot=none:=by
     obtain⟨d,l,v,k1,k2,k3,k4,k5,k6⟩:=key 0 (by omega);have:=k6 0 h0;simp only [oB,Addr.add,eu]at this;rw [cA (by omega)]at this;unfold World.cell? at this;split at this
     ·split at this
      ·cases this
      ·rename_i hh; simpa using hh
     ·cases this
    refine⟨a.block,a.off,by cases a; simp only [Addr.mk.injEq,true_and]; exact Nf,rfl, ?_⟩
    have aaZ:∀q j,((a.add q).add j)=⟨a.block,a.off+q+j,none⟩:=fun q j=>by
     cases a;simp only at Nf;subst Nf;rw [Addr.add_mid,Addr.add_mid]
    refine gy.of h0 _ _ fun i d hd=> ?_;obtain⟨v,v1,v2,v3,v4⟩:=l3 i d hd;refine⟨v,v1,v2,fun j hj=> ?_,v3⟩;rw [v2]at hj;have:=v4 j hj;rw [aaZ]at this;exact this
 | .st fs,n,t,cs,x,hs,h,hw=>by
  simp only [qb]at hs;obtain⟨fl,hu,hf⟩:=hs;obtain⟨xs,n',rfl,rfl,hlen,hxs,hg⟩:=DataW.trod_struct hu h
  have V5 :∀(i:Nat) (f:Field),fl.toList[i]? =some f->∃y,DataW.trod enc P w 0 (fun _=>true) true n' f.type ((cs.drop f.offset).take (P.cellsOf f.type))=some y/\∀b∈y.1.weights P f.type,b<=reachBytes:=fun i f hi=>by
   have hi' :fl[i]? =some f:=by simpa using hi
   rw [hg i f hi'];have:i < fl.size:=by
    rcases aH i fl.size with h | h
    ·exact h
    ·rw [cL h]at hi'; cases hi'
   have yQ :xs[i]? =some (xs[i]'(by omega)):=ab (by omega);refine⟨_,yQ,fun b hb=>hw b ?_⟩;show b∈DataW.weights P t (.agg (xs.map (·.1)));unfold DataW.weights;rw [hu];exact nQ (i:=i) (by rw [aC,hi]; rfl) (by rw [aC,yQ]; rfl) hb
  obtain⟨ds,g1,g2,g3⟩:=xC fs fl.toList 0 (P.cellsOf t) n' cs hf hlen (fun i f hi=>V5 i f hi);exact⟨ds,by simpa using g1,g2,g3⟩
theorem xC:∀(fs:List Sh) (fl:List Field) (off N n:Nat) (cs:List Value),qC P fs fl off N->cs.length=N->(∀(i:Nat) (f:Field),fl[i]? =some f->∃y:DataW H×List MemPlace,DataW.trod enc P w 0 (fun _=>true) true n f.type ((cs.drop f.offset).take (P.cellsOf f.type))=some y/\∀b∈y.1.weights P f.type,b<=reachBytes)->
  ∃ds,bw vM w ds (cs.drop off)/\BD fs ds/\ds.all D.sc=true
 | [],fl,off,N,n,cs,hs,hl,_=>by
  cases fl with
  | nil=>
   simp only [qC]at hs;refine⟨[], ?_,rfl,rfl⟩;rw [dI (by omega)];simp [bw]
  | cons _ _=>simp [qC]at hs
 | s::r,fl,off,N,n,cs,hs,hl,hg=>by
  cases fl with
  | nil=>simp [qC]at hs
  | cons f fl=>
   simp only [qC]at hs;obtain⟨h1,h2,h3⟩:=hs;obtain⟨y,hy,hyw⟩:=hg 0 f rfl;obtain⟨a,a1,a2,a3⟩:=vA s n f.type _ y h2 hy hyw;obtain⟨b,b1,b2,b3⟩:=xC r fl (off+P.cellsOf f.type) N n cs h3 hl (fun i g hi=>hg (i+1) g (by simpa using hi));refine⟨a++b, ?_,⟨a,b,rfl,a2,b2⟩,by simp [a3,b3]⟩;have:=bw.app a1 b1;rw [h1]at this;rwa [show List.take (P.cellsOf f.type) (List.drop off cs)++List.drop (off+P.cellsOf f.type) cs=List.drop off cs by rw [← List.drop_drop]; exact gJ _ _]at this
end
theorem GU {t u:TypeId}{sz:Nat}{one:Bool}{e:Sh}{v:Value}{d:DataW H}{ps:List MemPlace}{base:Nat}(hs:qb P (.slice sz one e) t)(hu:P.underlying t=some (.slice u))(hv:Value.okWide P w .any base t v)
  (h:DataW.Trod enc P w 0 (fun _=>true) true t v d ps)(hw:∀b∈d.weights P t,b<=reachBytes):∃nl L,aU vM w (.vs nl sz L) v/\qi (.slice sz one e) [.vs nl sz L]:=by
 obtain⟨n,h⟩:=h;have hc:∃a k c,v= .slice a k c:=by
  simp only [Value.okWide,hu,Cell.okWide]at hv;unfold Cell.ok at hv;rw [hu]at hv
  split at hv <;> first
   | (rename_i h1 _; simp at h1; done)
   | exact ⟨_,_,_,rfl⟩
   | (simp_all; done)
   | exact hv.elim
 obtain⟨a,k,c,rfl⟩:=hc;obtain⟨ds,g1,g2,g3⟩:=vA _ n t _ _ hs h hw;have qG:(Value.slice a k c).cells.toList=[.slice a k c]:=rfl;rw [qG]at g1;simp only [qi]at g2;obtain⟨nl,L,rfl,q0,q1,q2⟩:=g2;obtain⟨v',Ct,g1⟩:=g1.inv1;simp only [eC,iq]at Ct;subst Ct;exact⟨nl,L,g1,by simp only [qi]; exact ⟨nl,L,rfl,q0,q1,q2⟩⟩
end Go.Ab
namespace Go.Ab
open Go
section
variable {H:Type}{enc:TypeId×Value->H}{P:Program}{w:World}{base:Nat}{spare:Nat->Bool}{held:Bool}{fuel t e n:Nat}{cs:List Value}{k:IntKind}{p:List MemPlace}
theorem NC (ht:P.underlying t=some (.array n e))(he:P.underlying e=some (.int k))(hc:P.cellsOf e=1)(L5:P.cellsOf t=n){Z:List Int}
  (h:DataW.trod enc P w base spare held fuel t cs=some (.agg (Z.map fun z=> .lit (.int k z)),p)):cs=Z.map (Value.int k):=by
 obtain⟨xs,m,rfl,hx,hl,hn,hg⟩:=DataW.trod_array ht h;simp only [ae,DataW.agg.injEq]at hx;have hzx:Z.length=xs.length:=by have:=congrArg List.length hx.1; simpa using this
 refine kr fun i=> ?_;by_cases hi:i < n
 ·have h1:=hg i hi;have yQ :xs[i]? =some (xs[i]'(by omega)):=ab (by omega);have Lx :Z[i]? =some (Z[i]'(by omega)):=ab (by omega);rw [hc,lX,yQ]at h1;obtain⟨v,e1,e2,_⟩:=DataW.trod_int he h1;have e3:=congrArg (fun l=>l[i]?) hx.1;simp only [aC,yQ,Lx,da,e2,aa,DataW.lit.injEq,Lit.int.injEq,true_and]at e3;rw [aC,Lx,da,e3];have e4:(cs.drop i)[0]? =some (.int k v):=by
   have:=congrArg (fun l=>l[0]?) e1;simpa using this
  rw [cX]at e4;simpa using e4
 ·rw [eN (by omega),eN (by rw [aJ]; omega)]
def IJ (k:IntKind)(Z:List (Int×Int)):List Value:=Z.flatMap fun z=> [.int k z.1,.int k z.2]
theorem DO:∀(Z:List (Int×Int)) (cs:List Value),cs.length=2 * Z.length->(∀i z,Z[i]? =some z->(cs.drop (i * 2)).take 2=[.int k z.1,.int k z.2])->cs=IJ k Z
 | [],cs,hl,_=>by
  have:cs=[]:=ep (by simpa using hl);subst this; rfl
 | z::Z,cs,hl,h=>by
  have h0:=h 0 z rfl;rw [oB,gz]at h0
  have hr:=DO Z (cs.drop 2) (by rw [dY,hl,aV]; omega) fun i z' hz=>by
   have:=h (i+1) z' (by simpa using hz);rw [List.drop_drop,show 2+i * 2=(i+1) * 2 by omega];exact this
  have:cs=cs.take 2++cs.drop 2:=(gJ 2 cs).symm;rw [this,h0,hr]; rfl
theorem Jd {f0 f1:Field}(ht:P.underlying t=some (.array n e))(he:P.underlying e=some (.struct #[f0,f1]))(o0:f0.offset=0)(o1:f1.offset=1)(c0:P.cellsOf f0.type=1)(c1:P.cellsOf f1.type=1)(k0:P.underlying f0.type=some (.int k))(k1:P.underlying f1.type=some (.int k))(hc:P.cellsOf e=2)(L5:P.cellsOf t=2 * n){Z:List (Int×Int)}
  (h:DataW.trod enc P w base spare held fuel t cs=some (.agg (Z.map fun z=> .agg [.lit (.int k z.1),.lit (.int k z.2)]),p)):cs=IJ k Z:=by
 obtain⟨xs,m,rfl,hx,hl,hn,hg⟩:=DataW.trod_array ht h;simp only [ae,DataW.agg.injEq]at hx;have hzx:Z.length=xs.length:=by have:=congrArg List.length hx.1; simpa using this
 refine DO Z cs (by omega) fun i z hz=> ?_;have hi:i < n:=by have:=(aj.mp hz).1; omega
 have h1:=hg i hi;have yQ :xs[i]? =some (xs[i]'(by omega)):=ab (by omega);rw [hc,yQ]at h1;obtain⟨ys,m',rfl,hy,hly,hny,hgy⟩:=DataW.trod_struct he h1;have e3:=congrArg (fun l=>l[i]?) hx.1;simp only [aC,yQ,hz,da,hy,aa,DataW.agg.injEq]at e3;have M7:ys.length=2:=hny
 obtain⟨y0,y1,rfl⟩:∃a b,ys=[a,b]:=by
  match ys,M7 with
  | [a,b],_=>exact ⟨a,b,rfl⟩
 simp only [bG,ef,eC,iq]at e3;have g0:=hgy 0 f0 rfl;have g1:=hgy 1 f1 rfl;rw [o0,c0]at g0;rw [o1,c1]at g1;obtain⟨v0,a1,a2,_⟩:=DataW.trod_int k0 g0;obtain⟨v1,b1,b2,_⟩:=DataW.trod_int k1 g1;rw [a2,b2]at e3;simp only [DataW.lit.injEq,Lit.int.injEq,true_and]at e3;rw [hc]at hly
 obtain⟨u0,u1,hu⟩:∃a b,(cs.drop (i * 2)).take 2=[a,b]:=by
  match (cs.drop (i * 2)).take 2,hly with
  | [a,b],_=>exact ⟨a,b,rfl⟩
 rw [hu]at a1 b1 ⊢;simp only [gz,gD,pk,nY,eC,iq]at a1 b1;rw [a1,b1,e3.1,e3.2]
end
section
variable [eV]
theorem A1 {ρ:Gh}{w:World}{k:IntKind}:∀Z:List Int,bw ρ w (Z.map (D.int k)) (Z.map (Value.int k))
 | []=>by simp [bw]
 | z::Z=>by
  simp only [bG,bw];exact⟨_,_,rfl,by simp [aU],A1 Z⟩
theorem Ef {w:World}{g:Nat}{k:IntKind}{Z:List Int}{cs:Array Value}{ty:TypeId}{fz:Nat×Nat}(hh:w.heap[g]? =some (.cells cs ty fz))(hc:cs.toList=Z.map (Value.int k))(hz:Z≠ []):aU vM w (.jD (.agg (Z.map (D.int k))) 0) (.pointer (some ⟨g,0,none⟩)):=by
 simp only [aU];have hs:cs.size=Z.length:=by rw [← Array.length_toList,hc,aJ]
 have dQ:(Z.map (D.int k)).all D.sc=true:=by
  rw [dg]; intro d hd; obtain ⟨z,_,rfl⟩:=jO.1 hd; rfl
 refine⟨g,0,.agg cs,rfl,⟨cs,rfl,by rw [hc]; exact A1 Z,dQ⟩,fun j hj=> ?_,⟨?_, ?_⟩,rfl⟩
 ·simp only [World.cell?,hh,Value.cells,aN,Option.isSome_none,dF,jg]
 ·simp only [Value.cells,hs];exact dT.2 hz
 ·simp only [D.st]; exact dQ
theorem RR {P:Program}{C:ay}{G:Gl}(hC:dR .none P G C){f:Nat}{l:List D}{w:World}{vs:List Value}(hg:∀g d,G g=some d->aU vM w (.jD d 0) (.pointer (some ⟨g,0,none⟩)))(h:isTrue (C f l st0)=true)(hr:bw vM w l vs):
  Calls P f vs.toArray w fun e w' =>e= .returned (.bool true)/\(w'.os=w.os/\w'.tape=w.tape/\w'.output=w.output/\w.heap.size<=w'.heap.size/\∀b,b < w.heap.size->w'.heap[b]? =w.heap[b]?):=by
 unfold isTrue at h;split at h
 ·rename_i s' h1;have Az:ck vM st0 w:=by
   refine⟨fun o x hx=> ?_,fun o x hx=> ?_,fun o _=>rfl,fun b o hb=>(by cases hb),fun b hb=>rfl⟩
   ·simp [st0,St.get,T.get]at hx
   ·simp [st0,St.get,T.get]at hx
  refine (hC.calls f l st0 _ _ vM w vs h1 Az ⟨hg,trivial⟩ hr).mono fun e w' he=> ?_;cases e with
  | returned v=>
   obtain⟨ρ',k1,k2,k3⟩:=he;simp only [aU]at k3;exact⟨by rw [k3],k1.os,k1.tape,k1.output,k1.size,fun b hb=>(k1.kept b hb (fun o h=>by cases h)).1⟩
  | panicked _=>exact he.elim
  | outgrown=>exact he.elim
 ·cases h
end
variable {T:Nat->Option dU}
noncomputable def OT (H:Nat->ay):ay:=fun f l s=>open Classical in if h:∃r m,H m f l s=some r then some h.choose else none
def pf (H:Nat->ay):Prop:=∀m m',m<=m' ->zD (H m) (H m')
theorem Jg {H:Nat->ay}{f:Nat}{l:List D}{s:St}{r:D×St}(h:OT H f l s=some r):∃m,H m f l s=some r:=by
 unfold OT at h;split at h
 ·rename_i hx;simp only [aa]at h;rw [← h]; exact hx.choose_spec
 ·cases h
theorem IB {H:Nat->ay}(hc:pf H)(m:Nat):zD (H m) (OT H):=by
 intro f l s r h;unfold OT;have hx:∃r m,H m f l s=some r:=⟨r,m,h⟩;rw [dif_pos hx];obtain⟨m',h'⟩:=hx.choose_spec;have h1:=hc m (max m m') (dh _ _) _ _ _ _ h;have h2:=hc m' (max m m') (dG _ _) _ _ _ _ h';rw [h1]at h2;simp only [aa]at h2;rw [h2]
def rS (C:ay)(F:Nat->ay):Prop:=∀f l s r,C f l s=some r->∃m,F m f l s=some r
def Qg (L:h9)(F:Nat->h9):Prop:=∀k a fr s r,L k a fr s=some r->∃m,F m k a fr s=some r
def BE (F:Nat->h9):Prop:=∀m m',m<=m' ->XN (F m) (F m')
section
variable {C:ay}{FC:Nat->ay}{L:h9}{FL:Nat->h9}
theorem N9 (h:rS C FC){e:Env}{s:St}{al:Option Nat}{p:eQ}{r:D×St}(hr:cC C e s al p=some r):∃m,cC (FC m) e s al p=some r:=by
 cases p
 case call ro f args=>
  simp only [cC]at hr ⊢;split at hr
  ·rename_i l hl;cases ro with
   | false=>simp only at hr ⊢; exact h _ _ _ _ hr
   | true=>
    simp only at hr ⊢;split at hr
    ·rename_i d s1 h1;obtain⟨m,hm⟩:=h _ _ _ _ h1;exact⟨m,by rw [hm]; exact hr⟩
    ·cases hr
  ·cases hr
 case oU f args=>
  simp only [cC]at hr ⊢;split at hr
  ·exact h _ _ _ _ hr
  ·exact h _ _ _ _ hr
  ·cases hr
 case invoke sU x args=>
  simp only [cC]at hr ⊢;split at hr
  ·rename_i t v l hx hl;split at hr
   ·rename_i f r0 hf;split at hr
    ·rename_i u hu;obtain⟨m,hm⟩:=h _ _ _ _ hr
     exact⟨m,by try simp only [hu]
                exact hm⟩
    ·cases hr
   ·cases hr
  ·cases hr
 all_goals exact ⟨0,hr⟩
theorem Ap (h:rS C FC){b:Nat}{o:bg}{fr:Fr}{s:St}{r:Fr×St}(hr:oper C b o fr s=some r):∃m,oper (FC m) b o fr s=some r:=by
 unfold oper at hr ⊢;split at hr
 ·rename_i hw;split at hr
  ·exact⟨0,by simpa [hw] using hr⟩
  ·exact⟨0,by simpa [hw] using hr⟩
  ·exact⟨0,by simpa [hw] using hr⟩
  ·rename_i op h1 h2 h3;split at hr
   ·rename_i d s1 oq;obtain⟨m,hm⟩:=N9 h oq;exact⟨m,by rw [hm]; exact hr⟩
   ·cases hr
 ·exact⟨0,hr⟩
 ·cases hr
theorem pf.cut (hc:pf FC)(b k:Nat):pf fun m=>lY b k (FC m):=fun m n Yp=>vX (hc m n Yp)
theorem rS.cut (h:rS C FC)(b k:Nat):rS (lY b k C) fun m=>lY b k (FC m):=by
 cases k with
 | zero=>exact h
 | succ k=>
  intro f l s r hr;simp only [lY]at hr ⊢;split at hr
  ·rename_i wM;exact h _ _ _ _ hr
  ·rename_i wM;split at hr
   ·rename_i h1;obtain⟨m,hm⟩:=h _ _ _ _ h1;exact⟨m,by rw [hm]; exact hr⟩
   ·cases hr
variable (hc:pf FC)(S7:BE FL)(h:rS C FC)(hL:Qg L FL)
include hc h
theorem yi {b:Nat}:∀ {l:List bg} {fr:Fr} {s:St} {r:Fr×St},opers C b l fr s=some r->∃m,opers (FC m) b l fr s=some r
 | [],_,_,_,hr=>⟨0,hr⟩
 | o::l,fr,s,r,hr=>by
  simp only [opers]at hr ⊢;split at hr
  ·rename_i h1;obtain⟨m,hm⟩:=Ap h h1;obtain⟨m',zj⟩:=yi hr;refine⟨max m m', ?_⟩;rw [oD (hc _ _ (dh m m')) hm];exact qL (hc _ _ (dG m m')) zj
  ·cases hr
theorem wk {b:Nat}:∀ {l:List (bg×List Nat)} {acc:List Fp} {fr:Fr} {s:St} {r:Fr×St},iz C b l acc fr s=some r->∃m,iz (FC m) b l acc fr s=some r
 | [],_,_,_,_,hr=>⟨0,hr⟩
 | (o,q)::l,acc,fr,s,r,hr=>by
  simp only [iz]at hr ⊢;split at hr
  ·rename_i h0;split at hr
   ·rename_i h1;split at hr
    ·rename_i h2;obtain⟨m,hm⟩:=Ap h h1;obtain⟨m',zj⟩:=wk hr;refine⟨max m m', ?_⟩;rw [oD (hc _ _ (dh m m')) hm];simp only [h2];exact pM (hc _ _ (dG m m')) zj
    ·cases hr
   ·cases hr
  ·cases hr
include S7 hL
theorem gL:∀ {a:AC} {fr:Fr} {s:St} {r:Ex×Fr×St},bX C L a fr s=some r->∃m,bX (FC m) (FL m) a fr s=some r
 | .skip,_,_,_,hr=>⟨0,hr⟩
 | .sn ops,fr,s,r,hr=>by
  simp only [bX]at hr ⊢;split at hr
  ·rename_i h1;obtain⟨m,hm⟩:=yi hc h h1;exact⟨m,by rw [hm]; exact hr⟩
  ·cases hr
 | .wY k ops,fr,s,r,hr=>by
  simp only [bX]at hr ⊢;split at hr
  ·cases hr
  ·rename_i h0;split at hr
   ·rename_i h1;obtain⟨m,hm⟩:=wk (FC:=fun m=>lY s.n k (FC m)) (hc.cut s.n k) (rS.cut h s.n k) h1;exact⟨m,by rw [hm]; exact hr⟩
   ·cases hr
 | .seq a b,fr,s,r,hr=>by
  simp only [bX]at hr ⊢;split at hr
  ·rename_i h1;obtain⟨m,hm⟩:=gL h1;obtain⟨m',zj⟩:=gL hr;refine⟨max m m', ?_⟩;rw [cT (hc _ _ (dh m m')) (S7 _ _ (dh m m')) hm];exact cT (hc _ _ (dG m m')) (S7 _ _ (dG m m')) zj
  ·rename_i hn;obtain⟨m,hm⟩:=gL hr;refine⟨m, ?_⟩;rw [hm];split
   ·rename_i h2;simp only [aa]at h2; subst h2;exact absurd hr (hn _ _)
   ·rfl
 | .cond c a b,fr,s,r,hr=>by
  simp only [bX]at hr ⊢;split at hr
  ·exact gL hr
  ·exact gL hr
  ·cases hr
 | .block id a,fr,s,r,hr=>by
  simp only [bX]at hr ⊢;split at hr
  ·rename_i h1;obtain⟨m,hm⟩:=gL h1;exact⟨m,by rw [hm]; exact hr⟩
  ·rename_i hn;obtain⟨m,hm⟩:=gL hr;refine⟨m, ?_⟩;rw [hm];split
   ·rename_i h2;simp only [aa]at h2; subst h2;exact absurd hr (hn _ _ _)
   ·rfl
 | .loop bV a,fr,s,r,hr=>by
  simp only [bX]at hr ⊢;exact hL _ _ _ _ _ hr
 | .iK bV g ps x y,fr,s,r,hr=>by
  simp only [bX]at hr ⊢;exact hL _ _ _ _ _ hr
 | .exit id,_,_,_,hr=>⟨0,hr⟩
 | .ret,_,_,_,hr=>⟨0,hr⟩
 | .bad,_,_,_,hr=>by simp [bX]at hr
end
theorem tA {C:ay}{FC:Nat->ay}(hc:pf FC)(h:rS C FC):∀ {l:List (D×List D)} {s s' :St},leave C l s=some s' ->∃m,leave (FC m) l s=some s'
 | [],_,_,hr=>⟨0,hr⟩
 | (f,l)::q,s,s',hr=>by
  unfold leave at hr;split at hr
  ·rename_i hh; cases hh
  ·rename_i hh;simp only [eC,ae]at hh;obtain⟨⟨rfl,rfl⟩,rfl⟩:=hh;split at hr
   ·rename_i h1;obtain⟨m,hm⟩:=h _ _ _ _ h1;obtain⟨m',zj⟩:=tA hc h hr;refine⟨max m m', ?_⟩;rw [leave,hc _ _ (dh m m') _ _ _ _ hm];exact mI (hc _ _ (dG m m')) zj
   ·cases hr
  ·rename_i hh;simp only [eC,ae]at hh;obtain⟨⟨rfl,rfl⟩,rfl⟩:=hh;obtain⟨m',zj⟩:=tA hc h hr;exact⟨m',by rw [leave]; exact zj⟩
  ·cases hr
theorem F9 {C CD:ay}{FC FD:Nat->ay}{L:h9}{FL:Nat->h9}(hc:pf FC)(hd:pf FD)(S7:BE FL)(h:rS C FC)(hD:rS CD FD)(hL:Qg L FL){fn:dU}{args:List D}{s:St}{r:D×St}(hr:nV C CD L fn args s=some r):∃m,nV (FC m) (FD m) (FL m) fn args s=some r:=by
 unfold nV at hr;split at hr
 ·cases hr
 ·rename_i e fr s1 cE h1;obtain⟨m,hm⟩:=gL hc S7 h hL h1;split at hr
  ·rename_i s2 h2;obtain⟨m',zj⟩:=tA hd hD h2;refine⟨max m m', ?_⟩;unfold nV;rw [cT (hc _ _ (dh m m')) (S7 _ _ (dh m m')) hm];have h3:=mI (hd _ _ (dG m m')) zj;cases e with
   | exit i=>exact absurd rfl (cE i)
   | normal=>simp only [h3]; exact hr
   | ret=>simp only [h3]; exact hr
  ·cases hr
 ·cases hr
theorem Gq {C:ay}{FC:Nat->ay}{L:h9}{FL:Nat->h9}(hc:pf FC)(S7:BE FL)(h:rS C FC)(hL:Qg L FL):rS (oZ T C L) (fun m=>oZ T (FC m) (FL m)):=by
 intro f l s r hr;unfold oZ at hr ⊢;split at hr
 ·rename_i fn hf;unfold vt at hr ⊢;split at hr
  ·cases hr
  ·rename_i e fr s1 cE h1;obtain⟨m,hm⟩:=gL hc S7 h hL h1;refine⟨m, ?_⟩
   dsimp only
   rw [hf]; dsimp only;rw [hm];cases e with
   | exit i=>exact absurd rfl (cE i)
   | normal=>exact hr
   | ret=>exact hr
  ·cases hr
 ·cases hr
theorem GN {k:Nat}{ps:List Nat}{e:Env}{x y:Fr->St->Option (Ex×Fr×St)}{H:ay}{FX FY:Nat->Fr->St->Option (Ex×Fr×St)}{FH:Nat->ay}
  (hx:∀fr s r,x fr s=some r->∃m,FX m fr s=some r)(hy:∀fr s r,y fr s=some r->∃m,FY m fr s=some r)(hH:rS H FH)(cx:∀m m',m<=m' ->LeE (FX m) (FX m'))(cy:∀m m',m<=m' ->LeE (FY m) (FY m')):
  rS (jZ k ps e x y H) (fun m=>jZ k ps e (FX m) (FY m) (FH m)):=by
 intro f l s r hr;unfold jZ at hr;split at hr
 ·rename_i k' xs;split at hr
  ·rename_i hk;split at hr
   ·rename_i e1 h1 h2;unfold B4 at hr;split at hr
    ·rename_i fr1 s1 h3;obtain⟨m,hm⟩:=hx _ _ _ h3;split at hr
     ·rename_i h4;split at hr
      ·rename_i s2 h5;unfold Kx at hr;split at hr
       ·rename_i e2 vB s3 h6;obtain⟨m',zj⟩:=hy _ _ _ h6;refine⟨max m m', ?_⟩;simp only [jZ,hk,h1,h2,B4,cx _ _ (dh m m') _ _ _ hm,h4,h5,Kx,cy _ _ (dG m m') _ _ _ zj];exact hr
       ·cases hr
      ·cases hr
     ·cases hr
    ·cases hr
   ·cases hr
  ·rename_i hk;obtain⟨m,hm⟩:=hH _ _ _ _ hr;refine⟨m, ?_⟩;simp only [jZ,hk]; exact hm
 ·rename_i h0;obtain⟨m,hm⟩:=hH _ _ _ _ hr;refine⟨m, ?_⟩;show jZ k ps e (FX m) (FY m) (FH m) _ _ s=some r;unfold jZ;split
  ·exact absurd rfl (h0 _ _ rfl)
  ·exact hm
theorem Dc {FH:Nat->ay}(hc:pf FH)(n:Nat):pf (fun m=>dJ T (FH m) n)/\BE (fun m=>fe T (FH m) n):=
 ⟨fun m m' h=>(mU n (hc m m' h)).1,fun m m' h=>(mU n (hc m m' h)).2⟩
theorem tn:∀n {H:ay} {FH:Nat->ay},pf FH->rS H FH->rS (dJ T H n) (fun m=>dJ T (FH m) n)/\Qg (fe T H n) (fun m=>fe T (FH m) n)
 | 0,H,FH,hc,hH=>⟨fun f l s r hr=>by simp [dJ]at hr,fun k a fr s r hr=>by simp [fe]at hr⟩
 | n+1,H,FH,hc,hH=>by
  obtain⟨i1,i2⟩:=tn n hc hH;obtain⟨c1,c2⟩:=Dc (T:=T) hc n;have cD:pf (fun m=>oZ T (dJ T (FH m) n) (fe T (FH m) n)):=fun m m' h=>tp (c1 m m' h) (c2 m m' h);refine⟨fun f l s r hr=> ?_,fun k a fr s r hr=> ?_⟩
  ·rw [dJ]at hr;split at hr
   ·rename_i hy;obtain⟨m,hm⟩:=hH _ _ _ _ hr;exact⟨m,by show dJ T (FH m) (n+1) f l s=_; rw [dJ,hy]; exact hm⟩
   ·rename_i hy;split at hr
    ·rename_i fn hf;obtain⟨m,hm⟩:=F9 c1 cD c2 i1 (Gq c1 c2 i1 i2) i2 hr;exact⟨m,by show dJ T (FH m) (n+1) f l s=_; rw [dJ,hy,hf]; exact hm⟩
    ·rename_i hf;obtain⟨m,hm⟩:=hH _ _ _ _ hr;exact⟨m,by show dJ T (FH m) (n+1) f l s=_; rw [dJ,hy,hf]; exact hm⟩
  ·cases hb:a.ig with
   | true=>
    cases a <;> first | (cases hb; done) | skip
    rename_i kp g ps x y;rw [jG]at hr;unfold nM at hr;split at hr
    ·rename_i gf caps h1 h2;split at hr
     ·rename_i h3;unfold Ad at hr;split at hr
      ·rename_i d s1 h4
       have RT:rS (jZ s.n ps (fr.env.bV kp) (bX (dJ T H n) (fe T H n) x) (bX (dJ T H n) (fe T H n) y) H)
         (fun m=>jZ s.n ps (fr.env.bV kp) (bX (dJ T (FH m) n) (fe T (FH m) n) x) (bX (dJ T (FH m) n) (fe T (FH m) n) y) (FH m)):=
        GN (FX:=fun m=>bX (dJ T (FH m) n) (fe T (FH m) n) x) (FY:=fun m=>bX (dJ T (FH m) n) (fe T (FH m) n) y) (fun _ _ _ h=>gL c1 c2 i1 i2 h) (fun _ _ _ h=>gL c1 c2 i1 i2 h) hH (fun m m' h _ _ _ hh=>cT (c1 m m' h) (c2 m m' h) hh) (fun m m' h _ _ _ hh=>cT (c1 m m' h) (c2 m m' h) hh)
       have hch:pf (fun m=>jZ s.n ps (fr.env.bV kp) (bX (dJ T (FH m) n) (fe T (FH m) n) x) (bX (dJ T (FH m) n) (fe T (FH m) n) y) (FH m)):=fun m m' h=>
        qx (fun _ _ _ hh=>cT (c1 m m' h) (c2 m m' h) hh) (fun _ _ _ hh=>cT (c1 m m' h) (c2 m m' h) hh) (hc m m' h)
       obtain⟨m,hm⟩:=(tn n hch RT).1 _ _ _ _ h4;refine⟨m, ?_⟩;show fe T (FH m) (n+1) k _ fr s=_;rw [jG];unfold nM;rw [h1,h2];simp only [h3];unfold Ad;simp only at hm;rw [hm];exact hr
      ·cases hr
     ·cases hr
    ·cases hr
   | false=>
    rw [iB _ _ _ _ hb]at hr;split at hr
    ·rename_i h1;obtain⟨m,hm⟩:=gL c1 c2 i1 i2 h1;obtain⟨m',zj⟩:=i2 _ _ _ _ _ hr;refine⟨max m m', ?_⟩;show fe T (FH (max m m')) (n+1) k a fr s=_;rw [iB _ _ _ _ hb,cT (c1 _ _ (dh m m')) (c2 _ _ (dh m m')) hm];exact c2 _ _ (dG m m') _ _ _ _ _ zj
    ·rename_i hn;obtain⟨m,hm⟩:=gL c1 c2 i1 i2 hr;refine⟨m, ?_⟩;show fe T (FH m) (n+1) k a fr s=_;rw [iB _ _ _ _ hb,hm];split
     ·rename_i h2;simp only [aa]at h2; subst h2;exact absurd hr (hn _ _)
     ·rfl
theorem Ev.yield {H:ay}{y:D}{l:List D}{s:St}{r:D×St}(h:H 0 (.lv y::l) s=some r):Ev T H 0 (.lv y::l) s r:=⟨1,by rw [dJ]; exact h⟩
def m9 (T:Nat->Option dU)(H:ay)(k:Nat)(ps:List Nat)(env:Env)(a b:AC)(Y:ay):Prop:=
 (∀f l s r,yS l=false->H f l s=some r->Y f l s=some r)/\
 ∀(xs:List D) (s:St) (e:Env) (Q:Bool->St->Prop),pU ps xs env=some e->s.nN (k+1) k .ready=true->
  Wp T H a ⟨e,[]⟩ s (fun x f1 s1=>x= .normal/\s1.nN (k+1) k .ready=true/\∃s2,s1.set (k+1) (.loop k .busy)=some s2/\
   Wp T H b f1 s2 fun x f2 s3=>f2.defers=[]/\s3.nN (k+1) k .busy=true/\∃s4,s3.set (k+1) (.loop k (PS x))=some s4/\Q (qn x) s4)->
  ∃c s',Y 0 (.lv (.yl k)::xs) s=some (.bool c,s')/\Q c s'
theorem KN {H:ay}{bV:List Nat}{g:bP}{ps:List Nat}{a b:AC}{fr:Fr}{s:St}{Q:Ex->Fr->St->Prop}{gf:Nat}{caps:List D}(hg:g.ev fr.env=some (.fn (.func gf) [] caps))(wM:s.ro=false)(hp:(fr.env.bV bV).plain=true)
  (h:∀Y,m9 T H s.n ps (fr.env.bV bV) a b Y->∃d s2,Ev T Y gf (.yl s.n::caps) ((s.bz .dead).bz (.loop s.n .ready)) (d,s2)/\
   ∃st x s3,s2.get (s.n+1)=some (.loop s.n st)/\BW st=some x/\s2.set (s.n+1) .dead=some s3/\Q x { fr with defers:=(.mw,[])::fr.defers} s3):
  Wp T H (.iK bV g ps a b) fr s Q:=by
 let F:Nat->ay:=fun m=>jZ s.n ps (fr.env.bV bV) (bX (dJ T H m) (fe T H m) a) (bX (dJ T H m) (fe T H m) b) H
 have hF:pf F:=fun m m' h=>qx (fun _ _ _ hh=>cT (gU h).1 (gU h).2 hh) (fun _ _ _ hh=>cT (gU h).1 (gU h).2 hh) (fun _ _ _ _ h=>h);have hY:m9 T H s.n ps (fr.env.bV bV) a b (OT F):=by
  refine⟨fun f l s1 r hy hr=>IB hF 0 _ _ _ _ ?_,fun xs s0 e Q1 hb hl hw=> ?_⟩
  ·show jZ _ _ _ _ _ H f l s1=some r;unfold jZ;split
   ·cases hy
   ·exact hr
  ·obtain⟨x1,f1,s1,⟨n1,zA⟩,rfl,h2,s2,h3,x2,f2,s3,⟨n2,qV⟩,h4,h5,s4,h6,h7⟩:=hw;refine⟨qn x2,s4,IB hF (max n1 n2) _ _ _ _ ?_,h7⟩;have e1:=cT (gU (T:=T) (H:=H) (dh n1 n2)).1 (gU (dh n1 n2)).2 zA;have e2:=cT (gU (T:=T) (H:=H) (dG n1 n2)).1 (gU (dG n1 n2)).2 qV;show jZ _ _ _ _ _ H 0 (.lv (.yl s.n)::xs) s0=_;simp only [jZ,aA,hl,hb,B4,e1,h2,h3,Kx,e2,h4,h5,h6,oK]
 obtain⟨d,s2,⟨n,hn⟩,st,x,s3,h1,h2,h3,h4⟩:=h _ hY;obtain⟨m,hm⟩:=(tn n hF (fun _ _ _ _ h=>Jg h)).1 _ _ _ _ hn;refine⟨x,_,s3,⟨max m n+1, ?_⟩,h4⟩
 have hm2:dJ T (F (max m n)) (max m n) gf (.yl s.n::caps) ((s.bz .dead).bz (.loop s.n .ready))=some (d,s2):=
  (gU (dG m n)).1 _ _ _ _ ((mU n (hF _ _ (dh m n))).1 _ _ _ _ hm)
 rw [bX,jG];unfold nM;rw [hg,wM];simp only [hp];unfold Ad;rw [hm2];simp only [h1,aA,h2,h3]
end Go.Ab
namespace Go.Ab
open Go
theorem St.Qm (s:St)(o j:Nat)(x:Obj):(s.bF o x).get j=if j=o then some x else s.get j:=T.pN _ _ _ _
theorem St.Qc (s:St)(j:Nat)(x:Obj):(s.bz x).get j=if j=s.n then some x else s.get j:=T.pN _ _ _ _
theorem St.fE (s:St)(o:Nat)(x:Obj):(s.bF o x).n=s.n:=rfl
theorem St.dV (s:St)(x:Obj):(s.bz x).n=s.n+1:=rfl
structure St.Ok (s:St):Prop where
 ro:s.ro=false
 lk:s.lk=[]
 fresh:∀o,s.n<=o->s.get o=none
theorem St.Ok.lt {s:St}(h:s.Ok){o:Nat}{x:Obj}(hx:s.get o=some x):o < s.n:=by
 rcases aH o s.n with h1 | h1
 ·exact h1
 ·rw [h.fresh o h1]at hx; cases hx
theorem St.Ok.set {s:St}(h:s.Ok)(o:Nat)(x:Obj):s.set o x=some (s.bF o x):=by
 simp only [St.set,h.ro,h.lk,p8]
theorem St.Ok.We {s:St}(h:s.Ok)(x:Obj):s.mk' none x=some (s.n,s.bz x):=by
 simp only [St.mk',h.ro]
theorem St.Ok.bF {s:St}(h:s.Ok){o:Nat}(x:Obj)(ho:o < s.n):(s.bF o x).Ok:=by
 refine⟨h.ro,h.lk,fun j hj=> ?_⟩;rw [St.Qm];have:j≠o:=by
  have:s.n<=j:=hj;omega
 rw [aK this];exact h.fresh j hj
theorem St.Ok.bz {s:St}(h:s.Ok)(x:Obj):(s.bz x).Ok:=by
 refine⟨h.ro,h.lk,fun j hj=> ?_⟩;have hj:s.n+1<=j:=hj;rw [St.Qc,aK (by omega)];exact h.fresh j (by omega)
structure aF (W:Nat->Prop)(s s1:St):Prop where
 n:s.n<=s1.n
 ok:s1.Ok
 same:∀o,o < s.n-> ¬ W o->s1.get o=s.get o
def Nil:Nat->Prop:=fun _=>False
theorem aF.refl {W:Nat->Prop}{s:St}(h:s.Ok):aF W s s:=⟨aq _,h,fun _ _ _=>rfl⟩
theorem aF.trans {W:Nat->Prop}{s s1 s2:St}(h:aF W s s1)(g:aF W s1 s2):aF W s s2:=
 ⟨cU h.n g.n,g.ok,fun o ho hw=>(g.same o (eK ho h.n) hw).trans (h.same o ho hw)⟩
theorem aF.trans' {W W' :Nat->Prop}{s s1 s2:St}(h:aF W s s1)(g:aF W' s1 s2)(hw:∀o,W' o->o < s.n->W o):aF W s s2:=
 ⟨cU h.n g.n,g.ok,fun o ho hn=>(g.same o (eK ho h.n) (fun h' =>hn (hw o h' ho))).trans (h.same o ho hn)⟩
theorem aF.mono {W W' :Nat->Prop}{s s1:St}(h:aF W s s1)(hw:∀o,W o->W' o):aF W' s s1:=⟨h.n,h.ok,fun o ho hn=>h.same o ho (fun h' =>hn (hw o h'))⟩
theorem aF.get {W:Nat->Prop}{s s1:St}(h:aF W s s1)(hs:s.Ok){o:Nat}{x:Obj}(hx:s.get o=some x)(hw: ¬ W o):s1.get o=some x:=by
 rw [h.same o (hs.lt hx) hw,hx]
theorem aF.set {W:Nat->Prop}{s s1:St}(h:aF W s s1){o:Nat}(x:Obj)(ho:o < s1.n)(hw:o < s.n->W o):aF W s (s1.bF o x):=by
 refine⟨h.n,h.ok.bF x ho,fun j hj hn=> ?_⟩;rw [St.Qm];have:j≠o:=fun e=>hn (e ▸ hw (e ▸ hj));rw [aK this,h.same j hj hn]
theorem aF.push {W:Nat->Prop}{s s1:St}(h:aF W s s1)(x:Obj):aF W s (s1.bz x):=by
 refine⟨Nat.le_succ_of_le h.n,h.ok.bz x,fun j hj hn=> ?_⟩;have:=h.n;rw [St.Qc,aK (by omega),h.same j hj hn]
def St.up (s:St)(k:Nat):St:= { s with n:=s.n+k}
theorem St.jx (s:St)(k:Nat):(s.up k).n=s.n+k:=rfl
theorem St.Cn {s:St}{k o:Nat}{y:Option Obj}(h:s.get o=y):(s.up k).get o=y:=h
theorem St.Ok.up {s:St}(h:s.Ok)(k:Nat):(s.up k).Ok:=⟨h.ro,h.lk,fun o ho=>h.fresh o (cU (Nat.le_add_right _ _) ho)⟩
theorem aF.up {W:Nat->Prop}{s s1:St}(h:aF W s s1)(k:Nat):aF W s (s1.up k):=⟨cU h.n (Nat.le_add_right _ _),h.ok.up k,h.same⟩
def fpC (fp:Fp)(s s1:St):Fp:=(fp.1,T.diff s.h s1.h++fp.2.1,fp.2.2)
theorem T.uD:∀ {t:T Obj} {k:Nat},t.get k=none->k ∉ T.keys t
 | .nil,k,_=>by simp [T.keys]
 | .node o l r,k,h=>by
  simp only [T.keys,bK,jO,kK,not_exists,not_and];refine⟨fun h1=> ?_,fun j hj e=> ?_,fun j hj e=> ?_⟩
  ·cases o with
   | none=>simp at h1
   | some x=>
    simp only [cH]at h1; subst h1;rw [T.ju]at h; cases h
  ·subst e;rw [T.iY _ _ _ (by omega) (by omega),show (2 * j+1) / 2=j by omega]at h;exact T.uD h hj
  ·subst e;rw [T.iZ _ _ _ (by omega) (by omega),show (2 * j+2) / 2 - 1=j by omega]at h;exact T.uD h hj
theorem T.yu:∀ {t u:T Obj} {k:Nat},u.get k=t.get k->k ∉ T.diff t u
 | .nil,u,k,h=>T.uD h
 | .node o l r,.nil,k,h=>T.uD h.symm
 | .node o l r,.node o' l' r',k,h=>by
  simp only [T.diff,bK,jO,kK,not_exists,not_and];refine⟨fun h1=> ?_,fun j hj e=> ?_,fun j hj e=> ?_⟩
  ·have hk:k=0:=by
    cases o <;> cases o' <;> first
     | (simp at h1; done)
     | simpa using h1
     | (simp only at h1; split at h1 <;> simp at h1; exact h1)
   subst hk;rw [T.ju,T.ju]at h;subst h;cases o' with
   | none=>simp at h1
   | some x=>simp [Obj.aW]at h1
  ·subst e;rw [T.iY _ _ _ (by omega) (by omega),T.iY _ _ _ (by omega) (by omega),show (2 * j+1) / 2=j by omega]at h;exact T.yu h hj
  ·subst e;rw [T.iZ _ _ _ (by omega) (by omega),T.iZ _ _ _ (by omega) (by omega),show (2 * j+2) / 2 - 1=j by omega]at h;exact T.yu h hj
theorem CM:∀(a:List Nat),rU a []=true
 | []=>rfl
 | x::r=>by simp only [rU,p8]; exact CM r
theorem zX {o:Nat}:∀ {l:List Nat},p8 o l=true->o∈l
 | [],h=>by simp [p8]at h
 | x::r,h=>by
  simp only [p8]at h;split at h
  ·rename_i e; rw [aD e]; simp
  ·exact eF _ (zX h)
theorem HY {b:List Nat}:∀ {a:List Nat},(∀x∈a,x ∉ b)->rU a b=true
 | [],_=>rfl
 | x::r,h=>by
  simp only [rU];split
  ·rename_i e; exact absurd (zX e) (h x (by simp))
  ·exact HY fun y hy=>h y (by simp [hy])
theorem ve {s s1:St}{rd:List Nat}{rg:List (Nat×Nat×Nat)}(h:∀q∈rd,s1.get q=s.get q):lz (fpC ([],[],[]) s s1) (rd,[],rg)=true:=by
 simp only [lz,fpC,dZ,CM,fM,rU,lJ];exact HY fun x hx hr=>T.yu (h x hr) hx
variable {T:Nat->Option dU}{H:ay}
def WQ (T:Nat->Option dU)(H:ay)(b kk:Nat)(l:List (bg×List Nat))(acc:List Fp)(fr:Fr)(s:St)(Q:Fr->St->Prop):Prop:=∃n fr' s',iz (lY b kk (dJ T H n)) b l acc fr s=some (fr',s')/\Q fr' s'
theorem R8 {b kk:Nat}{acc:List Fp}{fr:Fr}{s:St}{Q:Fr->St->Prop}(h:Q fr s):WQ T H b kk [] acc fr s Q:=⟨0,fr,s,rfl,h⟩
theorem yR {b kk:Nat}{o:bg}{q:List Nat}{l:List (bg×List Nat)}{acc:List Fp}{fr fr1:Fr}{s s1:St}{Q:Fr->St->Prop}(h0:fh acc (cF b fr.env o) q=true)(h1:fr.env.cY o.dst=false)
  (h2:oper fF b o fr s=some (fr1,s1))(h3:fr1.env.cY o.dst=false)(h4:Nat.beq o.op.kind 5=false)(h:WQ T H b kk l (acc++ [cF b fr.env o]) fr1 s1 Q):WQ T H b kk ((o,q)::l) acc fr s Q:=by
 obtain⟨n,f2,s2,h5,h6⟩:=h;refine⟨n,f2,s2, ?_,h6⟩;simp only [iz,h0,h1,pq,fm,oD (C:=fF) (C' :=lY b kk (dJ T H n)) (fun f l s r h=>by simp [fF]at h) h2,h3,lost,h4,Bool.or_self,Jo];exact h5
theorem tZ {b kk:Nat}{o:bg}{q:List Nat}{l:List (bg×List Nat)}{acc:List Fp}{fr fr1:Fr}{s s1:St}{f:Nat}{x:List D}{r:D×St}{Q:Fr->St->Prop}(h0:fh acc (cF b fr.env o) q=true)(h1:fr.env.cY o.dst=false)
  (hq:∃s0,Ev T H f x s0 r/\∀C:ay,C f x s0=some r->oper (lY b kk C) b o fr s=some (fr1,s1))(h3:fr1.env.cY o.dst=false)(h4:lost acc s s1 o q=false)(h:WQ T H b kk l (acc++ [Jo s s1 b fr.env o]) fr1 s1 Q):WQ T H b kk ((o,q)::l) acc fr s Q:=by
 obtain⟨n,f2,s2,h5,h6⟩:=h;obtain⟨s0,⟨m,hm⟩,h2⟩:=hq;refine⟨max m n,f2,s2, ?_,h6⟩;have e1:=h2 _ ((gU (T:=T) (H:=H) (dh m n)).1 _ _ _ _ hm);simp only [iz,h0,h1,pq,fm,e1,h3,h4,Bool.or_self];exact pM (vX (gU (dG m n)).1) h5
theorem Pe {C:ay}{f:Nat}{l:List D}{s:St}{b k:Nat}{r:Option (D×St)}(hr:s.ro=false)(h:C f l s=r):lY b k C f l s=r:=by
 cases k with
 | zero=>exact h
 | succ k=>simp only [lY,hr]; exact h
theorem D0 {k:Nat}{l:List (bg×List Nat)}{fr:Fr}{s:St}{Q:Ex->Fr->St->Prop}(wM:(s.ro && Nat.blt 0 k)=false)(h:WQ T H s.n k l [] fr { s with n:=s.n+k} (Q .normal)):Wp T H (.wY k l) fr s Q:=by
 obtain⟨n,f1,s1,h1,h2⟩:=h;refine⟨_,f1,s1,⟨n, ?_⟩,h2⟩;simp only [bX,wM,h1]
end Go.Ab
