/- Part. -/
import Derived.Test.YthaiegafejbmoaaGreatDoorG18
import Derived.Orders
set_option linter.unusedSectionVars false
set_option linter.unusedSimpArgs false
set_option linter.unusedVariables false
namespace Go.Ab
open Go
variable [eh]
theorem yp {y:bz}{ah:List Nat}:∀ {xs:List bz} {i0:Nat} {l:List Nat},DC y ah i0 xs=some l->∀i x,xs[i]? =some x->
  i0+i∈ah\/(mA x y=true/\(qT x.op y.op=0\/(qT x.op y.op=1/\i0+i∈l)))
 | [],i0,l,h,i,x,hx=>by simp at hx
 | z::r,i0,l,h,i,x,hx=>by
  simp only [DC]at h;split at h
  ·cases h
  ·rename_i l1 h1;cases i with
   | zero=>
    simp only [aS,aa]at hx;subst hx;split at h
    ·rename_i hm; exact .inl (oU.1 hm)
    ·split at h
     ·cases h
     ·rename_i hs;refine .inr ⟨hs, ?_⟩;split at h
      ·rename_i hk; exact .inl hk
      ·rename_i hk;simp only [aa]at h; subst h;exact .inr ⟨hk,by simp⟩
      ·cases h
   | succ i=>
    simp only [bP]at hx;have hl:∀q,q∈l1->q∈l:=by
     intro q hq;split at h
     ·simp only [aa]at h; subst h; exact hq
     ·split at h
      ·cases h
      ·split at h
       ·simp only [aa]at h; subst h; exact hq
       ·simp only [aa]at h; subst h; exact cW _ hq
       ·cases h
    rcases yp h1 i x hx with g | ⟨g1,g2 | ⟨g2,g3⟩⟩
    ·exact .inl (by rw [show i0+(i+1)=i0+1+i by omega]; exact g)
    ·exact .inr ⟨g1,.inl g2⟩
    ·exact .inr ⟨g1,.inr ⟨g2,by rw [show i0+(i+1)=i0+1+i by omega]; exact hl _ g3⟩⟩
theorem AX {ahs:List (List Nat)}:∀ {os bef:List bz} {ys:List (bz×List Nat)},NF ahs bef os=some ys->ys.map (·.1)=os/\
  ∀j o l,ys[j]? =some (o,l)->lQ o=true/\DC o (ahs.getD (bef.length+j) []) 0 (bef++os.take j)=some l
 | [],bef,ys,h=>by
  simp only [NF,aa]at h; subst h;exact⟨rfl,fun j o l h=>by simp at h⟩
 | o::r,bef,ys,h=>by
  simp only [NF]at h;split at h
  ·rename_i l x h1 h2 h3;simp only [aa]at h; subst h;obtain⟨g1,g2⟩:=AX h3;refine⟨by simp [g1],fun j o' l' hj=> ?_⟩;cases j with
   | zero=>
    simp only [aS,aa,ab]at hj;obtain⟨rfl,rfl⟩:=hj;exact⟨h1,by simpa using h2⟩
   | succ j=>
    simp only [bP]at hj;obtain⟨k1,k2⟩:=g2 j o' l' hj;refine⟨k1, ?_⟩;rw [fZ];simpa [ia,Nat.add_comm 1 j] using k2
  ·cases h
theorem sU {ds:List (List Nat)}{L:Nat->Prop}(UE:∀j d,ds[j]? =some d->L j->∀i∈d,L i):∀(rest pre acc:List (List Nat)),ds=pre++rest->acc.length=pre.length->
  (∀j d,ds[j]? =some d->(∀i∈d,L i)->∀i∈acc.getD j [],L i)->∀j d,ds[j]? =some d->(∀i∈d,L i)->∀i∈(uf acc rest).getD j [],L i
 | [],pre,acc,_,_,h=>h
 | d0::r,pre,acc,hd,hl,h=>by
  simp only [uf];refine sU UE r (pre++ [d0]) _ (by simp [hd]) (by simp [hl]) fun j d hj Q5 i hi=> ?_;rcases gJ j acc.length with eW | heq | H7
  ·rw [bZ,aK eW,← List.getD_eq_getElem?_getD]at hi;exact h j d hj Q5 i hi
  ·subst heq;have:d=d0:=by
    rw [hd,hl]at hj;simpa using hj.symm
   subst this;rw [bZ,aF (aq _)]at hi;simp only [ef,aS,eB,List.mem_eraseDups,cN,List.mem_flatMap]at hi;rcases hi with hi | ⟨q,hq,hi⟩
   ·exact Q5 i hi
   ·have hLq:=Q5 q hq;rcases hdq:ds[q]? with _ | dq
    ·have h1:ds.length<=q:=by simpa using hdq
     have:acc.getD q []=[]:=by
      rw [bZ,dK (by rw [hd]at h1; simp at h1; omega)]; rfl
     rw [this]at hi; cases hi
    ·exact h q dq hdq (UE q dq hdq hLq) i hi
  ·rw [bZ,dK (by simp; omega)]at hi;simp at hi
theorem Bs:∀ {ds:List (List Nat)} {j0:Nat},S0 j0 ds=true->∀j d,ds[j]? =some d->∀i∈d,i < j0+j
 | [],_,_,j,d,h=>by simp at h
 | d0::r,j0,h,j,d,hj=>by
  simp only [S0,aB,c9]at h;cases j with
  | zero=>
   simp only [aS,aa]at hj; subst hj;intro i hi;exact az (h.1 i hi)
  | succ j=>
   simp only [bP]at hj;intro i hi;have:=Bs h.2 j d hj i hi;omega
theorem nT:∀ {a b:List Nat},ry a b=true->∀x,x∈a->x∈b->False
 | [],_,_,x,h,_=>by cases h
 | y::r,b,h,x,hx,hb=>by
  simp only [ry]at h;split at h
  ·cases h
  ·rename_i hm;rcases aN.1 hx with rfl | hx
   ·rw [oU.2 hb]at hm; cases hm
   ·exact nT h x hx hb
section
variable {C:au}{b hi:Nat}
theorem JL {e:Env}{p:eE}{x:Nat}(h:x∈bD e p):p.kind=1\/p.kind=2\/p.kind=9:=by
 cases p <;> simp [bD]at h <;> simp [eE.kind]
theorem vJ {e:Env}{p:eE}{x:Nat}(h:x∈mK e p):p.kind=2\/p.kind=9:=by
 cases p <;> simp [mK]at h <;> simp [eE.kind]
theorem rF {e:Env}{o:bz}{x:Nat}(h:x∈(cl b e o).1):o.op.kind=1\/o.op.kind=2\/o.op.kind=9:=by
 unfold cl at h;split at h
 ·exact JL h
 ·cases h
theorem jl {e:Env}{o:bz}{x:Nat}(lE:lQ o=true)(h:x∈(cl b e o).2.1):o.op.kind=2\/o.op.kind=3\/o.op.kind=9:=by
 unfold cl at h;split at h
 ·simp only at h;split at h
  ·rename_i r hr;simp only [lQ,hr,Ea,aB,Option.isSome_some]at lE;have:=lE.2;simp at this;rcases this with h | h
   ·exact .inr (.inl h)
   ·exact .inr (.inr h)
  ·rcases vJ h with h | h
   ·exact .inl h
   ·exact .inr (.inr h)
 ·cases h
theorem fp3 {e:Env}{o:bz}{x:Nat}(hk:o.op.kind=3)(h:x∈(cl b e o).2.1):∃r,o.al=some r/\x=b+r:=by
 unfold cl at h;split at h
 ·simp only at h;split at h
  ·rename_i r hr;rcases aN.1 h with rfl | h
   ·exact⟨r,hr,rfl⟩
   ·have:=vJ h; omega
  ·have:=vJ h; omega
 ·cases h
theorem uS {p:eE}{t:Nat}(h:p.own=some t):p.kind=6\/p.kind=7:=by
 cases p <;> simp [eE.own]at h <;> simp [eE.kind]
theorem BD {p:eE}{t:Nat}(h:p.wg=some t):p.kind=7:=by
 cases p <;> simp [eE.wg]at h <;> simp [eE.kind]
theorem mu {d:Option Nat}{l:List Nat}{t:Nat}(hd:d=some t)(h:tH d l=false):t ∉ l:=by
 subst hd;intro ht;simp only [tH,oU.2 ht]at h;cases h
theorem JO {x y:bz}{fx fy:Fr} {sx sx' sy sy' :St}(hx:lQ x=true)(hy:lQ y=true)(hs:mA x y=true)(hp:th x.op.kind y.op.kind=0\/(th x.op.kind y.op.kind=1/\kF (cl b fx.env x) (cl b fy.env y)=true))(hax:∀r,x.al=some r->b+r < hi)(hay:∀r,y.al=some r->b+r < hi)(hkp:y.op.kind=5->th x.op.kind y.op.kind=1->∀q∈(cl b fx.env x).1,jT (sy'.get q)=jT (sy.get q)/\∀c,SL (cl b fx.env x).2.2 q c->ja (sy'.get q) c=ja (sy.get q) c)(Sv:x.op.kind=5->th x.op.kind y.op.kind=1->∀q∈(cl b fy.env y).1,sx'.get q=sx.get q)(k:Key):
  ¬(kE b x fx sx sx' k/\tY b hi y fy k)/\ ¬(tY b hi x fx k/\kE b y fy sy sy' k)/\ ¬(kE b x fx sx sx' k/\kE b y fy sy sy' k):=by
 simp only [mA,aB,eR]at hs;obtain⟨s1,s2,s3⟩:=hs;have SB:∀(q:Nat) (K:Prop),(x.op.kind=5->th x.op.kind y.op.kind=1->q∈(cl b fy.env y).1->K->False)->(x.op.kind=5/\K)\/q∈(cl b fx.env x).2.1->(y.op.kind=4/\(q < b\/hi<=q))\/y.op.kind=5\/q∈(cl b fy.env y).1\/q∈(cl b fy.env y).2.1->False:=by
  intro q K hK hq hr;by_cases Yr:x.op.kind=5/\y.op.kind=1
  ·rcases hq with hq | hq
   ·rcases hr with h | h | h | h
    ·omega
    ·omega
    ·exact hK Yr.1 (by rw [Yr.1,Yr.2]; decide) h hq.2
    ·have:=jl hy h; omega
   ·have:=jl hx hq; omega
  by_cases Sk:x.op.kind=3/\y.op.kind=4
  ·rcases hq with h | h
   ·omega
   ·obtain⟨r,Lk,FT⟩:=fp3 Sk.1 h;have:=hax r Lk;rcases hr with h | h | h | h
    ·omega
    ·omega
    ·have:=rF h; omega
    ·have:=jl hy h; omega
  have kx:x.op.kind=2\/x.op.kind=3\/x.op.kind=5\/x.op.kind=9:=hq.elim (fun h=>by omega) (fun h=>by have:=jl hx h; omega);have ky:y.op.kind=1\/y.op.kind=2\/y.op.kind=3\/y.op.kind=4\/y.op.kind=5\/y.op.kind=9:=by
   rcases hr with h | h | h | h
   ·omega
   ·omega
   ·have:=rF h; omega
   ·have:=jl hy h; omega
  rcases hp with hp | ⟨hp,ha⟩
  ·clear hr hq Yr;rcases kx with kx | kx | kx | kx <;> rcases ky with ky | ky | ky | ky | ky | ky <;> rw [kx,ky]at hp <;> rw [kx,ky]at Sk <;> revert hp Sk <;> decide
  ·have: ¬ x.op.kind=5/\ ¬ y.op.kind=4/\ ¬ y.op.kind=5:=by
    have nope: ¬ (x.op.kind=5/\y.op.kind=1):=Yr;clear hr hq Sk Yr;rcases kx with kx | kx | kx | kx <;> rcases ky with ky | ky | ky | ky | ky | ky <;> rw [kx,ky]at hp ⊢ <;> rw [kx,ky]at nope <;> revert hp nope <;> decide
   have hq:=hq.resolve_left (fun h=>this.1 h.1);have hr:=(hr.resolve_left (fun h=>this.2.1 h.1)).resolve_left this.2.2;simp only [kF,aB]at ha;rcases hr with h | h
   ·exact nT ha.2.1 q hq h
   ·exact nT ha.1 q hq h
 have YG:∀(q:Nat) (K:Prop),(y.op.kind=5->th x.op.kind y.op.kind=1->q∈(cl b fx.env x).1->K->False)->(y.op.kind=5/\K)\/q∈(cl b fy.env y).2.1->(x.op.kind=4/\(q < b\/hi<=q))\/x.op.kind=5\/q∈(cl b fx.env x).1\/q∈(cl b fx.env x).2.1->False:=by
  intro q K hK hq hr;by_cases ZM:x.op.kind=1/\y.op.kind=5
  ·have hnf:q ∉ (cl b fy.env y).2.1:=fun h=>by have:=jl hy h; omega
   rcases hq with hq | hq
   ·rcases hr with h | h | h | h
    ·omega
    ·omega
    ·exact hK ZM.2 (by rw [ZM.1,ZM.2]; decide) h hq.2
    ·have:=jl hx h; omega
   ·exact hnf hq
  by_cases Sk:y.op.kind=3/\x.op.kind=4
  ·rcases hq with h | h
   ·omega
   ·obtain⟨r,Lk,FT⟩:=fp3 Sk.1 h;have:=hay r Lk;rcases hr with h | h | h | h
    ·omega
    ·omega
    ·have:=rF h; omega
    ·have:=jl hx h; omega
  have kx:y.op.kind=2\/y.op.kind=3\/y.op.kind=5\/y.op.kind=9:=hq.elim (fun h=>by omega) (fun h=>by have:=jl hy h; omega);have ky:x.op.kind=1\/x.op.kind=2\/x.op.kind=3\/x.op.kind=4\/x.op.kind=5\/x.op.kind=9:=by
   rcases hr with h | h | h | h
   ·omega
   ·omega
   ·have:=rF h; omega
   ·have:=jl hx h; omega
  rcases hp with hp | ⟨hp,ha⟩
  ·clear hr hq;rcases kx with kx | kx | kx | kx <;> rcases ky with ky | ky | ky | ky | ky | ky <;> rw [kx,ky]at hp <;> rw [kx,ky]at Sk <;> revert hp Sk <;> decide
  ·have: ¬ y.op.kind=5/\ ¬ x.op.kind=4/\ ¬ x.op.kind=5:=by
    have nope: ¬ (x.op.kind=1/\y.op.kind=5):=ZM;clear ZM Sk hr hq;rcases kx with kx | kx | kx | kx <;> rcases ky with ky | ky | ky | ky | ky | ky <;> rw [kx,ky]at hp ⊢ <;> rw [kx,ky]at nope <;> revert hp nope <;> decide
   have hq:=hq.resolve_left (fun h=>this.1 h.1);have hr:=(hr.resolve_left (fun h=>this.2.1 h.1)).resolve_left this.2.2;simp only [kF,aB]at ha;rcases hr with h | h
   ·exact nT ha.2.2 q h hq
   ·exact nT ha.1 q h hq
 have UJ:∀kx ky,x.op.kind=kx->y.op.kind=ky->th kx ky=2->False:=by
  intro kx ky h1 h2 h3;rw [h1,h2,h3]at hp;rcases hp with hp | ⟨hp,_⟩ <;> cases hp
 have c1:∀t,x.op.wg=some t->y.op.own=some t->False:=by
  intro t h1 h2;rcases uS h2 with h2 | h2 <;> exact UJ _ _ (BD h1) h2 (by decide)
 have c2:∀t,x.op.own=some t->y.op.wg=some t->False:=by
  intro t h1 h2;rcases uS h1 with h1 | h1 <;> exact UJ _ _ h1 (BD h2) (by decide)
 cases k with
 | g t=>
  simp only [kE,tY];refine⟨fun ⟨h1,h2⟩=>mu h1 s1 h2,fun ⟨h1,h2⟩=>mu h2 s2 h1,fun ⟨h1,h2⟩=>mu h1 s3 (by simp [h2])⟩
 | c t=>
  refine⟨fun ⟨h1,h2⟩=>c1 t h1 h2,fun ⟨h1,h2⟩=>c2 t h1 h2,fun ⟨h1,h2⟩=>c1 t h1 (I6 (b:=b) (hi:=hi) (fr:=fy) (k:= .c t) h2 (by intro u e; cases e))⟩
 | h q=>
  have hw:kE b y fy sy sy' (.h q)->tY b hi y fy (.h q):=fun h=>I6 h (by intro u e; cases e);simp only [kE,tY]at hw ⊢;have k2:=YG q (jT (sy'.get q)≠jT (sy.get q)) (fun h5 h1 hm dn=>dn (hkp h5 h1 q hm).1);have k1:=SB q (jT (sx'.get q)≠jT (sx.get q)) (fun h5 h1 hm dn=>dn (by rw [Sv h5 h1 q hm]));exact⟨fun ⟨h1,h2⟩=>k1 h1 h2,fun ⟨h1,h2⟩=>k2 h2 h1,fun ⟨h1,h2⟩=>k1 h1 (hw h2)⟩
 | hc q c=>
  have hw:kE b y fy sy sy' (.hc q c)->tY b hi y fy (.hc q c):=fun h=>I6 h (by intro u e; cases e);simp only [kE,tY]at hw ⊢;have k1:=SB q (ja (sx'.get q) c≠ja (sx.get q) c) (fun h5 h1 hm dn=>dn (by rw [Sv h5 h1 q hm]));refine⟨fun ⟨h1,h2⟩=>k1 h1 (h2.imp id (Or.imp id (Or.imp og id))),fun ⟨h1,h2⟩=> ?_,fun ⟨h1,h2⟩=>k1 h1 ((hw h2).imp id (Or.imp id (Or.imp og id)))⟩;rcases h1 with h | h | ⟨h,hr⟩ | h
  ·exact YG q (ja (sy'.get q) c≠ja (sy.get q) c) (fun h5 h1 _ _=>by rw [h.1,h5]at h1; revert h1; decide) h2 (.inl h)
  ·exact YG q (ja (sy'.get q) c≠ja (sy.get q) c) (fun h5 h1 _ _=>by rw [h,h5]at h1; revert h1; decide) h2 (.inr (.inl h))
  ·exact YG q (ja (sy'.get q) c≠ja (sy.get q) c) (fun h5 h1 hm dn=>dn ((hkp h5 h1 q hm).2 c hr)) h2 (.inr (.inr (.inl h)))
  ·exact YG q (ja (sy'.get q) c≠ja (sy.get q) c) (fun h5 h1 hm _=>by
    have h7:=jl hx h;have h8:=rF hm;rcases h7 with h7 | h7 | h7 <;> rw [h7,h5]at h1 <;> revert h1 <;> decide) h2 (.inr (.inr (.inr h)))
 | n=>
  simp only [kE,tY];refine⟨fun ⟨h1,h2⟩=> ?_,fun ⟨h1,h2⟩=> ?_,fun ⟨h1,h2⟩=>UJ _ _ h1 h2 (by decide)⟩
  ·rcases h2 with h2 | h2 | h2 | h2 <;> exact UJ _ _ h1 h2 (by decide)
  ·rcases h1 with h1 | h1 | h1 | h1 <;> exact UJ _ _ h1 h2 (by decide)
 | d=>
  simp only [kE,tY];exact⟨fun ⟨h1,h2⟩=>UJ _ _ h1 h2 (by decide),fun ⟨h1,h2⟩=>UJ _ _ h1 h2 (by decide),fun ⟨h1,h2⟩=>UJ _ _ h1 h2 (by decide)⟩
theorem G7 {x y:eE}:qT x y=th x.kind y.kind\/∃a b,x.own=some a/\y.own=some b/\a≠b:=by
 unfold qT;split
 ·rename_i a b ha hb;cases h:Nat.beq a b with
  | true=>exact .inl rfl
  | false=>exact .inr ⟨a,b,ha,hb,fun e=>by rw [e,aA]at h; cases h⟩
 ·exact .inl rfl
theorem uR {p:eE}{t:Nat}(h:p.wg=some t):p.own=some t:=by
 cases p <;> simp [eE.wg]at h <;> simp [eE.own,h]
theorem Sd {x y:bz}{fx fy:Fr} {sx sx' sy sy' :St}(hx:lQ x=true)(hy:lQ y=true)(hs:mA x y=true)(hp:qT x.op y.op=0\/(qT x.op y.op=1/\kF (cl b fx.env x) (cl b fy.env y)=true))(hax:∀r,x.al=some r->b+r < hi)(hay:∀r,y.al=some r->b+r < hi)(hkp:y.op.kind=5->qT x.op y.op=1->∀q∈(cl b fx.env x).1,jT (sy'.get q)=jT (sy.get q)/\∀c,SL (cl b fx.env x).2.2 q c->ja (sy'.get q) c=ja (sy.get q) c)(Sv:x.op.kind=5->qT x.op y.op=1->∀q∈(cl b fy.env y).1,sx'.get q=sx.get q)(k:Key):
  ¬(kE b x fx sx sx' k/\tY b hi y fy k)/\ ¬(tY b hi x fx k/\kE b y fy sy sy' k)/\ ¬(kE b x fx sx sx' k/\kE b y fy sy sy' k):=by
 rcases G7 (x:=x.op) (y:=y.op) with h | ⟨u,v,hu,hv,huv⟩
 ·rw [h]at hp; exact JO hx hy hs hp hax hay (fun h5 h1=>hkp h5 (h ▸ h1)) (fun h5 h1=>Sv h5 (h ▸ h1)) k
 simp only [mA,aB,eR]at hs;obtain⟨s1,s2,s3⟩:=hs;have kx:=uS hu;have ky:=uS hv
 have nx:∀(q:Nat) (K:Prop),(x.op.kind=5/\K)\/q∈(cl b fx.env x).2.1->False:=fun q K hq=>by
  rcases hq with h | h
  ·omega
  ·have:=jl hx h; omega
 have ny:∀(q:Nat) (K:Prop),(y.op.kind=5/\K)\/q∈(cl b fy.env y).2.1->False:=fun q K hq=>by
  rcases hq with h | h
  ·omega
  ·have:=jl hy h; omega
 cases k with
 | g t=>
  simp only [kE,tY];refine⟨fun ⟨h1,h2⟩=>mu h1 s1 h2,fun ⟨h1,h2⟩=>mu h2 s2 h1,fun ⟨h1,h2⟩=>mu h1 s3 (by simp [h2])⟩
 | c t=>
  simp only [kE,tY];refine⟨fun ⟨h1,h2⟩=> ?_,fun ⟨h1,h2⟩=> ?_,fun ⟨h1,h2⟩=> ?_⟩
  ·rw [uR h1]at hu; rw [h2]at hv; simp only [aa]at hu hv; omega
  ·rw [h1]at hu; rw [uR h2]at hv; simp only [aa]at hu hv; omega
  ·rw [uR h1]at hu; rw [uR h2]at hv; simp only [aa]at hu hv; omega
 | h q=>exact ⟨fun ⟨h1,_⟩=>nx q _ h1,fun ⟨_,h2⟩=>ny q _ h2,fun ⟨h1,_⟩=>nx q _ h1⟩
 | hc q c=>exact ⟨fun ⟨h1,_⟩=>nx q _ h1,fun ⟨_,h2⟩=>ny q _ h2,fun ⟨h1,_⟩=>nx q _ h1⟩
 | n=>
  simp only [kE];exact⟨fun ⟨h1,_⟩=>by omega,fun ⟨_,h2⟩=>by omega,fun ⟨h1,_⟩=>by omega⟩
 | d=>
  simp only [kE];exact⟨fun ⟨h1,_⟩=>by omega,fun ⟨_,h2⟩=>by omega,fun ⟨h1,_⟩=>by omega⟩
end
end Go.Ab
