/- Part. -/
import Derived.Test.YthaiegafejbmoaaGreatDoorG19
set_option linter.unusedSectionVars false
set_option linter.unusedSimpArgs false
set_option linter.unusedVariables false
namespace Go.Ab
open Go
variable [eh]
variable {ρ ρ' ρ0:Gh}{w w' w0:World}{P:Program}{pn:gY}{G:Gl}{X:ig}{A:mT} {s s' :St}{a:Act}{C:au} {fr fr' :Fr}{b hi:Nat}
theorem wM {acc:List Fp}{y:Fp}:∀ {l:List Nat},eQ acc y l=true->∀i∈l,∃x,acc[i]? =some x/\kF x y=true
 | [],_,i,h=>by cases h
 | j::r,h,i,hi=>by
  simp only [eQ]at h;split at h
  ·rename_i x hx;split at h
   ·rename_i ha;rcases aN.1 hi with rfl | hi
    ·exact⟨x,hx,ha⟩
    ·exact wM h i hi
   ·cases h
  ·cases h
theorem um {l m:List D}:∀ {rg:List (Nat×Nat×Nat)},cK l m rg=true->∀r∈rg,∀c,r.2.1<=c->c < r.2.1+r.2.2->l[c]? =m[c]?
 | [],_,r,h=>by cases h
 | (x,c0,n)::rg,h,r,hr=>by
  simp only [cK,aB]at h;rcases aN.1 hr with rfl | hr
  ·intro c h1 h2;simp only at h1 h2;have:=congrArg (fun q=>q[c - c0]?) (D.pd _ _ h.1);simp only [da,cS]at this;rw [bQ (by omega),bQ (by omega),show c0+(c - c0)=c by omega]at this;exact this
  ·exact um h.2 r hr
theorem Qu {u v:D}(h1:u.flat.length=v.flat.length)(h2:u.isAgg=v.isAgg):qU u=qU v:=by
 cases u <;> cases v <;> simp_all [qU,D.flat,D.isAgg]
def Df (rg:List (Nat×Nat×Nat))(q:Nat)(a b:Option Obj):Prop:=jT b=jT a/\∀c,SL rg q c->ja b c=ja a c
theorem CO {rg:List (Nat×Nat×Nat)}{q:Nat}{a b:Obj}(h:cQ rg a b=true):Df rg q (some a) (some b):=by
 unfold cQ at h;split at h
 ·rename_i r rs t v t' v';simp only [aB,iw,gA]at h;obtain⟨rfl,h1,h2,h3⟩:=h;refine⟨by simp only [jT,aa,Obj.var.injEq,true_and]; exact (Qu h1 h2).symm,fun c hc=> ?_⟩;rcases hc with hc | ⟨x,hx,_,xr,oN⟩
  ·cases hc
  ·simp only [ja]; exact (um h3 x hx c xr oN).symm
 ·have:=Obj.beq_eq _ _ h;subst this;exact⟨rfl,fun _ _=>rfl⟩
theorem rS {rg:List (Nat×Nat×Nat)} {s s' :St}:∀ {l:List Nat},dG rg s s' l=false->∀q∈l,Df rg q (s.get q) (s'.get q)
 | [],_,q,hq=>by cases hq
 | o::r,h,q,hq=>by
  simp only [dG]at h;split at h
  ·rename_i x y hx hy;split at h
   ·rename_i hb;rcases aN.1 hq with rfl | hq
    ·rw [hx,hy]; exact CO hb
    ·exact rS h q hq
   ·cases h
  ·rename_i hx hy;rcases aN.1 hq with rfl | hq
   ·rw [hx,hy]; exact ⟨rfl,fun _ _=>rfl⟩
   ·exact rS h q hq
  ·cases h
theorem uL {acc:List Fp} {s s' :St}:∀ {l:List Nat},cF acc s s' l=false->∀i∈l,∃x,acc[i]? =some x/\∀q∈x.1,Df x.2.2 q (s.get q) (s'.get q)
 | [],_,i,h=>by cases h
 | j::r,h,i,hi=>by
  simp only [cF]at h;split at h
  ·rename_i x hx;split at h
   ·cases h
   ·rename_i ha;rcases aN.1 hi with rfl | hi
    ·exact⟨x,hx,rS ha⟩
    ·exact uL h i hi
  ·cases h
theorem T.sF:∀ {t:T Obj} {k:Nat},k ∉ T.keys t->t.get k=none
 | .nil,k,_=>rfl
 | .node o l r,k,h=>by
  simp only [T.keys,cN,lI,jr,not_exists,not_and]at h;obtain⟨h1,h2,h3⟩:=h;by_cases hk:k=0
  ·subst hk;rw [T.jm];cases o with
   | none=>rfl
   | some x=>simp at h1
  ·by_cases ho:k % 2=1
   ·rw [T.iO _ _ _ hk ho];exact T.sF fun hm=>h2 _ hm (by omega)
   ·rw [T.iP _ _ _ hk ho];exact T.sF fun hm=>h3 _ hm (by omega)
theorem T.vD:∀ {t u:T Obj} {k:Nat},k ∉ T.diff t u->u.get k=t.get k
 | .nil,u,k,h=>by
  simp only [T.diff]at h;rw [T.sF h]; rfl
 | .node o l r,.nil,k,h=>by
  simp only [T.diff]at h;rw [T.sF h]; rfl
 | .node o l r,.node o' l' r',k,h=>by
  simp only [T.diff,cN,lI,jr,not_exists,not_and]at h;obtain⟨h1,h2,h3⟩:=h;by_cases hk:k=0
  ·subst hk;rw [T.jm,T.jm];cases o with
   | none=>
    cases o' with
    | none=>rfl
    | some y=>simp at h1
   | some x=>
    cases o' with
    | none=>simp at h1
    | some y=>
     simp only at h1;split at h1
     ·rename_i e; rw [Obj.beq_eq _ _ e]
     ·simp at h1
  ·by_cases ho:k % 2=1
   ·rw [T.iO _ _ _ hk ho,T.iO _ _ _ hk ho];exact T.vD fun hm=>h2 _ hm (by omega)
   ·rw [T.iP _ _ _ hk ho,T.iP _ _ _ hk ho];exact T.vD fun hm=>h3 _ hm (by omega)
theorem ZB {s s' :St}{b:Nat}{e:Env}{o:bz}:(JM s s' b e o).1=(cl b e o).1:=by unfold JM; split <;> rfl
theorem ZC {s s' :St}{b:Nat}{e:Env}{o:bz}:(JM s s' b e o).2.2=(cl b e o).2.2:=by unfold JM; split <;> rfl
theorem yw {a b c:List Nat}(h:ry (a++b) c=true):ry a c=true/\ry b c=true:=by
 induction a with
 | nil=>exact ⟨rfl,h⟩
 | cons x r ih=>
  simp only [gz,ry]at h;cases hx:pM x c with
  | true=>simp only [hx]at h; cases h
  | false=>
   simp only [hx]at h;exact⟨by simp only [ry,hx]; exact (ih h).1,(ih h).2⟩
theorem AO {s s' :St}{b:Nat}{e:Env}{o:bz}{y:Fp}(h:kF (JM s s' b e o) y=true):kF (cl b e o) y=true/\(o.op.kind=5->∀q∈y.1,s'.get q=s.get q):=by
 unfold JM at h;split at h
 ·simp only [kF,aB]at h ⊢;obtain⟨h1,h2,h3⟩:=h;exact⟨⟨(yw h1).2,(yw h2).2,h3⟩,fun _ q hq=>T.vD fun hm=>nT (yw h2).1 q hm hq⟩
 ·rename_i h5;exact⟨h,fun e=>by rw [e]at h5; simp at h5⟩
structure Tr (C:au)(b:Nat)(ys:List (bz×List Nat))(acc:List Fp)(σ:Nat->Fr×St):Prop where
 step:∀j o l,ys[j]? =some (o,l)->oper C b o (σ j).1 (σ j).2=some (σ (j+1))
 lv:∀j o l,ys[j]? =some (o,l)->(σ j).1.env.cE o.dst=false/\(σ (j+1)).1.env.cE o.dst=false
 chk:∀j o l,ys[j]? =some (o,l)->∀i∈l,(∃x,acc[i]? =some x/\kF x (cl b (σ j).1.env o)=true)\/
  ∃i' o' l',i=acc.length+i' /\i' < j/\ys[i']? =some (o',l')/\kF (JM (σ i').2 (σ (i' +1)).2 b (σ i').1.env o') (cl b (σ j).1.env o)=true
 kept:∀j o l,ys[j]? =some (o,l)->o.op.kind=5->∀i∈l,(∃x,acc[i]? =some x/\∀q∈x.1,Df x.2.2 q ((σ j).2.get q) ((σ (j+1)).2.get q))\/
  ∃i' o' l',i=acc.length+i' /\i' < j/\ys[i']? =some (o',l')/\∀q∈(cl b (σ i').1.env o').1,Df (cl b (σ i').1.env o').2.2 q ((σ j).2.get q) ((σ (j+1)).2.get q)
theorem wO:∀ {ys:List (bz×List Nat)} {acc:List Fp} {fr:Fr} {s:St},gZ C b ys acc fr s=some (fr',s')->∃σ,σ 0=(fr,s)/\σ ys.length=(fr',s')/\Tr C b ys acc σ
 | [],acc,fr,s,h=>by
  simp only [gZ,aa,ab]at h;obtain⟨rfl,rfl⟩:=h;exact⟨fun _=>(fr,s),rfl,rfl,⟨fun j o l h=>by simp at h,fun j o l h=>by simp at h,fun j o l h=>by simp at h,fun j o l h=>by simp at h⟩⟩
 | (o,l)::r,acc,fr,s,h=>by
  simp only [gZ]at h;split at h
  ·rename_i hc;split at h
   ·rename_i fr1 s1 h1;split at h
    ·rename_i Sx;simp only [Bool.or_eq_false_iff]at Sx;obtain⟨Sx,UM⟩:=Sx;obtain⟨σ,t0,t1,t2⟩:=wO h;simp only [aB,eR]at hc;refine⟨fun j=>match j with | 0=>(fr,s) | j+1=>σ j,rfl,t1,⟨fun j o' l' hj=> ?_,fun j o' l' hj=> ?_,fun j o' l' hj=> ?_,fun j o' l' hj h5=> ?_⟩⟩
     ·cases j with
      | zero=>
       simp only [aS,aa,ab]at hj;obtain⟨rfl,rfl⟩:=hj;simp only [t0]; exact h1
      | succ j=>simp only [bP]at hj; exact t2.step j o' l' hj
     ·cases j with
      | zero=>
       simp only [aS,aa,ab]at hj;obtain⟨rfl,rfl⟩:=hj;simp only [t0]; exact ⟨hc.2,Sx⟩
      | succ j=>simp only [bP]at hj; exact t2.lv j o' l' hj
     ·cases j with
      | zero=>
       simp only [aS,aa,ab]at hj;obtain⟨rfl,rfl⟩:=hj;exact fun i hi=> .inl (wM hc.1 i hi)
      | succ j=>
       simp only [bP]at hj;intro i hi;rcases t2.chk j o' l' hj i hi with ⟨x,hx,ha⟩ | ⟨i',o2,l2,e1,e2,e3,e4⟩
       ·rcases aP i acc.length with eW | vO
        ·rw [aK eW]at hx;exact .inl ⟨x,hx,ha⟩
        ·rw [aF vO]at hx;have hi0:i - acc.length=0:=by
          rcases eV (i - acc.length) with h | h
          ·exact h
          ·rw [dK (by simp; omega)]at hx; cases hx
         rw [hi0]at hx;simp only [aS,aa]at hx;subst hx;exact .inr ⟨0,o,l,by omega,by omega,by simp,by simpa only [t0] using ha⟩
       ·refine .inr ⟨i' +1,o2,l2, ?_,by omega,by simpa using e3,e4⟩;simp only [an,aT,b9]at e1; omega
     ·cases j with
      | zero=>
       simp only [aS,aa,ab]at hj;obtain⟨rfl,rfl⟩:=hj;simp only [lost,h5,aA]at UM
       exact fun i hi=> .inl (by
        obtain⟨x,hx,hq⟩:=uL UM i hi;exact⟨x,hx,fun q hm=>by simpa only [t0] using hq q hm⟩)
      | succ j=>
       simp only [bP]at hj;intro i hi;rcases t2.kept j o' l' hj h5 i hi with ⟨x,hx,ha⟩ | ⟨i',o2,l2,e1,e2,e3,e4⟩
       ·rcases aP i acc.length with eW | vO
        ·rw [aK eW]at hx;exact .inl ⟨x,hx,ha⟩
        ·rw [aF vO]at hx;have hi0:i - acc.length=0:=by
          rcases eV (i - acc.length) with h | h
          ·exact h
          ·rw [dK (by simp; omega)]at hx; cases hx
         rw [hi0]at hx;simp only [aS,aa]at hx;subst hx;exact .inr ⟨0,o,l,by omega,by omega,by simp,by rw [ZB,ZC]at ha; exact ha⟩
       ·refine .inr ⟨i' +1,o2,l2, ?_,by omega,by simpa using e3,e4⟩;simp only [an,aT,b9]at e1; omega
    ·cases h
   ·cases h
  ·cases h
structure Dr (C:au)(b hi:Nat)(ops:Array Oper)(ao:Nat->bz)(σ:Nat->Fr×St)(ahd:Nat->List Nat):Prop where
 step:∀j,j < ops.size->oper C b (ao j) (σ j).1 (σ j).2=some (σ (j+1))
 one:∀j,j < ops.size->lQ (ao j)=true
 cut:De C b hi
 lv:∀j,j < ops.size->(σ j).1.env.cE (ao j).dst=false/\(σ (j+1)).1.env.cE (ao j).dst=false
 low:∀j,(h:j < ops.size)->∀i∈direct ops[j],i < j
 ahead:∀(L:Nat->Prop),(∀j,(h:j < ops.size)->L j->∀i∈direct ops[j],L i)->∀j,(h:j < ops.size)->(∀i∈direct ops[j],L i)->∀i∈ahd j,L i
 free:∀i j,i < j->j < ops.size->i ∉ ahd j->∀k, ¬(kE b (ao i) (σ i).1 (σ i).2 (σ (i+1)).2 k/\tY b hi (ao j) (σ j).1 k)/\ ¬(tY b hi (ao i) (σ i).1 k/\kE b (ao j) (σ j).1 (σ j).2 (σ (j+1)).2 k)/\ ¬(kE b (ao i) (σ i).1 (σ i).2 (σ (i+1)).2 k/\kE b (ao j) (σ j).1 (σ j).2 (σ (j+1)).2 k)
theorem Dr.frame {ops:Array Oper}{ao:Nat->bz}{σ:Nat->Fr×St}{ahd:Nat->List Nat}(D:Dr C b hi ops ao σ ahd){j:Nat}(hj:j < ops.size){k:Key}(hk: ¬ kE b (ao j) (σ j).1 (σ j).2 (σ (j+1)).2 k):val (σ (j+1)).1 (σ (j+1)).2 k=val (σ j).1 (σ j).2 k:=
 G5 (fr:=(σ j).1) (s:=(σ j).2) (fr' :=(σ (j+1)).1) (s' :=(σ (j+1)).2) (D.step j hj) (D.one j hj) (D.lv j hj).1 (D.lv j hj).2 D.cut hk
theorem uD {fr fr1:Fr}{s s1:St}{t:Nat}(h:val fr s (.g t)=val fr1 s1 (.g t)):fr.env.ke t=fr1.env.ke t:=by
 rw [qA,qA,O5 (Hw h)]
theorem Dr.ke {ops:Array Oper}{ao:Nat->bz}{σ:Nat->Fr×St}{ahd:Nat->List Nat}(D:Dr C b hi ops ao σ ahd)(t:Nat):∀j,j<=ops.size->(σ j).1.env.ke t=(σ 0).1.env.ke t
 | 0,_=>rfl
 | j+1,hj=>by
  rw [← D.ke t j (by omega)];by_cases hk:kE b (ao j) (σ j).1 (σ j).2 (σ (j+1)).2 (.g t)
  ·have:=D.lv j (by omega);simp only [kE]at hk;simp only [hk,Env.cE]at this;rw [this.1,this.2]
  ·exact uD (D.frame (by omega) hk)
theorem Dr.B6 {ops:Array Oper}{ao:Nat->bz}{σ:Nat->Fr×St}{ahd:Nat->List Nat}(D:Dr C b hi ops ao σ ahd){k:Key}{i:Nat}:∀ {c:Nat},i<=c->c<=ops.size->(∀q,i<=q->q < c-> ¬ kE b (ao q) (σ q).1 (σ q).2 (σ (q+1)).2 k)->val (σ c).1 (σ c).2 k=val (σ i).1 (σ i).2 k
 | 0,h,_,_=>by obtain rfl:i=0:=by omega
               rfl
 | c+1,h,hc,hw=>by
  by_cases e:i=c+1
  ·subst e; rfl
  ·rw [D.frame (by omega) (hw c (by omega) (by omega))];exact D.B6 (by omega) (by omega) (fun q h1 h2=>hw q h1 (by omega))
abbrev nC (listed:Array Bool)(j:Nat):Prop:=listed.getD j false=true
structure QX (C:au)(b:Nat)(ops:Array Oper)(ao:Nat->bz)(σ:Nat->Fr×St)(listed:Array Bool)(fr:Fr)(s:St):Prop where
 size:listed.size=ops.size
 down:∀j,(h:j < ops.size)->nC listed j->∀i∈direct ops[j],nC listed i
 lv:∀t,fr.env.ke t=(σ 0).1.env.ke t
 cut:∀k c,c<=ops.size->(∀i,i < c->kE b (ao i) (σ i).1 (σ i).2 (σ (i+1)).2 k->nC listed i)->(∀i,c<=i->i < ops.size->nC listed i-> ¬ kE b (ao i) (σ i).1 (σ i).2 (σ (i+1)).2 k)->val fr s k=val (σ c).1 (σ c).2 k
theorem B2 {listed:Array Bool}{j i:Nat}(hj:j < listed.size):nC (listed.setIfInBounds j true) i↔i=j\/nC listed i:=by
 unfold nC;rw [bR,dE,bR];by_cases h:j=i
 ·subst h; simp [hj]
 ·have: ¬ i=j:=fun e=>h e.symm;simp [h,this]
theorem QX.step {ops:Array Oper}{ao:Nat->bz}{σ:Nat->Fr×St}{ahd:Nat->List Nat}{listed:Array Bool}(D:Dr C b hi ops ao σ ahd)(M:QX C b ops ao σ listed fr s){j:Nat}(hj:j < ops.size)(hn: ¬ nC listed j)(hd:∀i∈direct ops[j],nC listed i):
  ∃s1 vK s2,(∀k,val fr s1 k=val fr s k)/\oper C b (ao j) fr s1=some (vK,s2)/\QX C b ops ao σ (listed.setIfInBounds j true) vK s2/\
   (∀k,kE b (ao j) (σ j).1 (σ j).2 (σ (j+1)).2 k->val vK s2 k=val (σ (j+1)).1 (σ (j+1)).2 k)/\(∀k, ¬ kE b (ao j) (σ j).1 (σ j).2 (σ (j+1)).2 k->val vK s2 k=val fr s k):=by
 have abf:∀i∈ahd j,nC listed i:=D.ahead (nC listed) M.down j hj hd;have hL:∀i,nC (listed.setIfInBounds j true) i↔i=j\/nC listed i:=fun i=>B2 (by rw [M.size]; exact hj);have fr1:∀i,i < j-> ¬ nC listed i->∀k, ¬(kE b (ao i) (σ i).1 (σ i).2 (σ (i+1)).2 k/\tY b hi (ao j) (σ j).1 k):=fun i hi hl k=>(D.free i j hi hj (fun h=>hl (abf i h)) k).1;have nah:∀i,i < ops.size->nC listed i->j ∉ ahd i:=fun i hi hl h=>hn (D.ahead (nC listed) M.down i hi (M.down i hi hl) j h);have vK:∀i,j < i->i < ops.size->nC listed i->∀k, ¬(tY b hi (ao j) (σ j).1 k/\kE b (ao i) (σ i).1 (σ i).2 (σ (i+1)).2 k)/\ ¬(kE b (ao j) (σ j).1 (σ j).2 (σ (j+1)).2 k/\kE b (ao i) (σ i).1 (σ i).2 (σ (i+1)).2 k):=fun i hi hs hl k=>(D.free j i hi hs (nah i hs hl) k).2
 have lU:∀k,tY b hi (ao j) (σ j).1 k->val fr s k=val (σ j).1 (σ j).2 k:=fun k hk=>by
  refine M.cut k j (by omega) (fun i hi hw=> ?_) (fun i hi hs hl hw=> ?_)
  ·rcases Decidable.em (nC listed i) with h | h
   ·exact h
   ·exact absurd ⟨hw,hk⟩ (fr1 i hi h k)
  ·rcases Nat.lt_or_eq_of_le hi with h | h
   ·exact (vK i h hs hl k).1 ⟨hk,hw⟩
   ·subst h; exact hn hl
 obtain⟨s1,f2,s2,⟨g1,_⟩,g2,g3,g4⟩:=EL (fr:=(σ j).1) (s:=(σ j).2) (fr' :=(σ (j+1)).1) (s' :=(σ (j+1)).2) (fr1:=fr) (s1:=s) (D.step j hj) (D.one j hj) (D.lv j hj).1 (D.lv j hj).2 lU (fun t=>by rw [M.lv,D.ke t j (by omega)]) D.cut;refine⟨s1,f2,s2,g1,g2, ?_,g3,g4⟩;refine⟨by simp [M.size],fun i hi hl=> ?_,fun t=> ?_,fun k c hc h1 h2=> ?_⟩
 ·rcases (hL i).1 hl with rfl | hl
  ·exact fun q hq=>(hL q).2 (.inr (hd q hq))
  ·exact fun q hq=>(hL q).2 (.inr (M.down i hi hl q hq))
 ·by_cases hk:kE b (ao j) (σ j).1 (σ j).2 (σ (j+1)).2 (.g t)
  ·rw [uD (g3 _ hk),D.ke t (j+1) (by omega)]
  ·rw [uD (g4 _ hk),M.lv]
 ·by_cases hk:kE b (ao j) (σ j).1 (σ j).2 (σ (j+1)).2 k
  ·have hcj:j < c:=by
    rcases aP j c with h | h
    ·exact h
    ·exact absurd hk (h2 j h hj ((hL j).2 (.inl rfl)))
   rw [g3 k hk];refine (D.B6 (by omega) hc (fun q Re J3 hw=> ?_)).symm;have hq:=(hL q).1 (h1 q J3 hw);rcases hq with rfl | hq
   ·omega
   ·exact (vK q (by omega) (by omega) hq k).2 ⟨hk,hw⟩
  ·rw [g4 k hk];refine M.cut k c hc (fun i hi hw=> ?_) (fun i hi hs hl=>h2 i hi hs ((hL i).2 (.inr hl)));rcases (hL i).1 (h1 i hi hw) with rfl | h
   ·exact absurd hw hk
   ·exact h
theorem mem_ready {ops:Array Oper}{listed:Array Bool}{i:Nat}(hs:listed.size=ops.size):i∈Region.ready .any ops listed↔∃h:i < ops.size, ¬ nC listed i/\∀q∈direct ops[i],nC listed q:=by
 unfold Region.ready;simp only [List.mem_filter,oy];constructor
 ·rintro⟨h1,h2⟩;refine⟨h1, ?_⟩;have Q9:i < listed.size:=by omega
  simp only [bR,cw h1,cw Q9,eB,dh,aB,eR]at h2;refine⟨fun h=> ?_,fun q hq=> ?_⟩
  ·simp only [nC,bR,cw Q9,eB]at h;rw [h]at h2; cases h2.1
  ·simp only [direct,jC,Array.mem_toList_iff]at hq;obtain⟨e,he,hq⟩:=hq;split at hq
   ·rename_i hb;simp only [aa]at hq; subst hq;have:=h2.2;rw [Array.all_eq_true']at this;have:=this e he;rw [hb]at this;simp only [Bool.not_true,mE]at this;simp only [nC,bR];exact this
   ·cases hq
 ·rintro⟨h1,h2,h3⟩;have Q9:i < listed.size:=by omega
  refine⟨h1, ?_⟩;simp only [bR,cw h1,cw Q9,eB,dh,aB,eR];refine⟨?_, ?_⟩
  ·simp only [nC,bR,cw Q9,eB]at h2;simpa using h2
  ·rw [Array.all_eq_true'];intro e he;by_cases hb:Region.binds .any e=true
   ·have:=h3 e.on (by simp only [direct,jC,Array.mem_toList_iff]; exact ⟨e,he,by simp [hb]⟩);simp only [nC,bR]at this;simp only [hb,this,Bool.not_true,mE]
   ·simp [hb]
def left (listed:Array Bool)(n:Nat):Nat:=(List.range n).countP fun i=> !listed.getD i false
theorem Er {listed:Array Bool}{n j:Nat}(hs:listed.size=n)(hj:j < n)(hn: ¬ nC listed j):left listed n=left (listed.setIfInBounds j true) n+1:=by
 unfold left
 have jn:∀i,(listed.setIfInBounds j true).getD i false=if i=j then true else listed.getD i false:=fun i=>by
  rw [bR,dE,bR];by_cases h:j=i
  ·subst h; simp [hs,hj]
  ·have: ¬ i=j:=fun e=>h e.symm;simp [h,this]
 have key:∀m,m<=n->(List.range m).countP (fun i=> !listed.getD i false)=(List.range m).countP (fun i=> !(listed.setIfInBounds j true).getD i false)+(if j < m then 1 else 0):=by
  intro m;induction m with
  | zero=>intro _; simp
  | succ m ih=>
   intro hm;rw [kO,List.countP_append,List.countP_append,ih (by omega)];simp only [me,List.countP_nil,jn m];by_cases h1:m=j
   ·subst h1;have:listed.getD m false=false:=by simpa [nC] using hn
    simp [this]
   ·have h2:(j < m+1)=(j < m):=by
     apply propext; omega
    simp only [aI h1,h2];split <;> split <;> omega
 have:=key n (aq _);rw [this,bQ hj]
theorem Gq {rd:Option Nat}(hC:cm pn P G C)(hX:∀f k,X f=some k->lZ P f k)(hg:gn pn G ρ0 w0){ops:Array Oper}{ao:Nat->bz}{σ:Nat->Fr×St}{ahd:Nat->List Nat}(D:Dr C b hi ops ao σ ahd)
  (FM:∀j,(h:j < ops.size)->(ao j).op=(fB P G X A ops ops[j]).op/\(ao j).dst=(fB P G X A ops ops[j]).dst/\(ao j).guard=(fB P G X A ops ops[j]).guard)(lU:∀j,j < ops.size->rd=none\/(ao j).op.nd=true){Q:Exit->Act->World->Prop}
  (hQ:∀a' w',Inv ρ0 w0 A.nt (σ ops.size).1 (σ ops.size).2 a' w' ->Q .normal a' w'):∀(n:Nat) (listed:Array Bool) (fr:Fr) (s:St) (a:Act) (w:World),left listed ops.size=n->QX C b ops ao σ listed fr s->Inv ρ0 w0 A.nt fr s a w->wpAnyIn (Rd rd) 0 P .any ops Q n listed a w:=by
 have kU:∀(listed:Array Bool) (fr:Fr) (s:St) (a:Act) (w:World),QX C b ops ao σ listed fr s->Inv ρ0 w0 A.nt fr s a w->(∀j,j < ops.size->nC listed j)->Q .normal a w:=fun listed fr s a w M hI fN=>
  hQ a w (Inv.vX (fun k=>M.cut k ops.size (aq _) (fun i hi _=>fN i hi) (fun i h1 h2=>by omega)) hI)
 intro n;induction n with
 | zero=>
  intro listed fr s a w hn M hI
  have fN:∀j,j < ops.size->nC listed j:=fun j hj=>by
   simp only [left,List.countP_eq_zero]at hn;have:=hn j (by simpa using hj);simp only [eR,Bool.not_eq_false]at this;exact this
  refine⟨List.eq_nil_iff_forall_not_mem.2 fun i hi=> ?_,kU listed fr s a w M hI fN⟩;obtain⟨h1,h2,_⟩:=(mem_ready M.size).1 hi;exact h2 (fN i h1)
 | succ n ih=>
  intro listed fr s a w hn M hI;refine⟨fun h0=>kU listed fr s a w M hI fun j hj=> ?_,fun i hi=> ?_⟩
  ·
   have:∀j,j < ops.size->nC listed j:=by
    intro j;induction j using Nat.strongRecOn with
    | ind j ihj=>
     intro hj;rcases Decidable.em (nC listed j) with h | h
     ·exact h
     ·have:j∈Region.ready .any ops listed:=(mem_ready M.size).2 ⟨hj,h,fun q hq=>ihj q (D.low j hj q hq) (by have:=D.low j hj q hq; omega)⟩;rw [h0]at this; cases this
   exact this j hj
  ·obtain⟨h1,h2,h3⟩:=(mem_ready M.size).1 hi;obtain⟨s1,vK,s2,k1,k2,k3,_,_⟩:=M.step D h1 h2 h3;have hI1:Inv ρ0 w0 A.nt fr s1 a w:=hI.vX (fun k=>(k1 k).symm)
   have:=oa (Q:=Q) (K:=wpAnyIn (Rd rd) 0 P .any ops Q n (listed.setIfInBounds i true)) hC hX hg (ops:=ops) (FM i h1) (lU i h1) k2 hI1 (fun a' w' rG =>
    ih _ vK s2 a' w' (by have:=Er M.size h1 h2; omega) k3 rG)
   unfold wpOpIn;simp only [cw h1];split
   ·rename_i hw;rw [bQ hw]at this;exact this
   ·rename_i hw;rw [aI hw]at this;exact⟨fun _ _=>trivial,this⟩
theorem tU:∀(l:List bz) (k i:Nat),((mb l k).1[i]?).map (fun o=>(o.op,o.dst,o.guard))=(l[i]?).map (fun o=>(o.op,o.dst,o.guard))
 | [],k,i=>by simp [mb]
 | o::r,k,i=>by
  simp only [mb];split
  ·cases i with
   | zero=>rfl
   | succ i=>simpa using tU r (k+1) i
  ·cases i with
   | zero=>rfl
   | succ i=>simpa using tU r k i
theorem BH:∀(l:List bz) (k:Nat),(mb l k).1.length=l.length
 | [],k=>rfl
 | o::r,k=>by
  simp only [mb];split <;> simp [BH]
theorem Inv.drew {nt:Nat}(h:Inv ρ0 w0 nt fr s a w):Inv ρ0 w0 nt fr s a { w with drawn:=w.drawn+1}:=by
 obtain⟨ρ,h1,h2,h3⟩:=h;have hK:Kp ρ w ρ { w with drawn:=w.drawn+1}:=⟨rfl,rfl,rfl,aq _,fun _ _ _=>⟨rfl,rfl⟩,fun _ h=>⟨h,rfl⟩,fun _ _ h=> .inr ⟨h,fun _ hb=>⟨hb,rfl,aq _,rfl⟩⟩⟩;exact⟨ρ,h1.trans hK,h2.mono hK,h3.bM hK.r (fun _ _=>kN) rfl (fun b o hb=>⟨rfl,rfl,rfl,rfl⟩) (fun b hb=>h3.size b hb)⟩
theorem QX.start {ops:Array Oper}{ao:Nat->bz}{σ:Nat->Fr×St}(h:∀k,val fr s k=val (σ 0).1 (σ 0).2 k){ahd:Nat->List Nat}(D:Dr C b hi ops ao σ ahd):QX C b ops ao σ (Array.replicate ops.size false) fr s:=by
 have FQ:∀i, ¬ nC (Array.replicate ops.size false) i:=fun i hi=>by
  simp only [nC,bR,kH]at hi;split at hi <;> cases hi
 refine⟨by simp,fun j _ hl=>absurd hl (FQ j),fun t=>uD (h _),fun k c hc h1 h2=> ?_⟩;rw [h];exact (D.B6 (cH _) hc (fun q _ hq hw=>FQ q (h1 q hq hw))).symm
theorem zL:∀(l:List bz) (k:Nat),k<=(mb l k).2
 | [],k=>aq _
 | o::r,k=>by
  simp only [mb];split
  ·exact bW (Nat.le_succ k) (zL r (k+1))
  ·exact zL r k
theorem zK {r:Nat}{o:bz}(ho:lQ o=true)(hr:o.al=some r):∀(l:List bz) (k i:Nat),(mb l k).1[i]? =some o->r < (mb l k).2
 | [],k,i,h=>by simp [mb]at h
 | x::q,k,i,h=>by
  simp only [mb]at h ⊢;split at h
  ·rename_i hx;rw [bQ hx];cases i with
   | zero=>
    simp only [aS,aa]at h;subst h;simp only [aa]at hr;subst hr;exact zL q (k+1)
   | succ i=>exact zK ho hr q (k+1) i (by simpa using h)
  ·rename_i hx;rw [aI hx];cases i with
   | zero=>
    simp only [aS,aa]at h;subst h;simp only [lQ,hr,Option.isSome_some,aB]at ho;simp [hx]at ho
   | succ i=>exact zK ho hr q k i (by simpa using h)
theorem HS (hC:cm pn P G C)(b k:Nat):cm pn P G (lA b k C):=
 ⟨fun f l s r h hy args w=>by obtain ⟨d,s'⟩:=r; exact hC.enter f l s _ (yq hC.Ls h) hy args w,fun f l s d s' ρ w vs h=>hC.calls f l s d s' ρ w vs (yq hC.Ls h),RW hC.ro b k,fun y l s d s' ρ w u vs h=>hC.sf y l s d s' ρ w u vs (yq hC.Ls h),NL hC.Ls b k⟩
theorem DQ {ops0 ops:Array Oper}{k:Nat}{ys:List (bz×List Nat)}(hC:cm pn P G C)(hr:HV (ops.toList.map (fB P G X A ops0)) (ops.toList.map direct)=some (k,ys))(h:gZ (lA s.n k C) s.n ys [] fr { s with n:=s.n+k}=some (fr',s')):
  ∃(ao:Nat->bz) (σ:Nat->Fr×St) (ahd:Nat->List Nat),Dr (lA s.n k C) s.n (s.n+k) ops ao σ ahd/\σ 0=(fr,{ s with n:=s.n+k})/\σ ops.size=(fr',s')/\(∀j,(h:j < ops.size)->(ao j).op=(fB P G X A ops0 ops[j]).op/\(ao j).dst=(fB P G X A ops0 ops[j]).dst/\(ao j).guard=(fB P G X A ops0 ops[j]).guard)/\∀j,j < ops.size->∃l,(ao j,l)∈ys:=by
 unfold HV at hr;simp only at hr;split at hr
 ·rename_i ys abz O3;simp only [aa,ab]at hr;obtain⟨rfl,rfl⟩:=hr;obtain⟨GI,FN⟩:=AX O3;obtain⟨σ,t0,t1,t2⟩:=wO h;have hlen:ys.length=ops.size:=by
   have:=congrArg List.length GI;simpa [BH] using this
  let ao:Nat->bz:=fun j=>match ys[j]? with
   | some (o,_)=>o
   | none=>⟨none,.bad,none,none⟩
  have O3:∀j,j < ops.size->∃l,ys[j]? =some (ao j,l):=fun j hj=>by
   have YA :j < ys.length:=by omega
   refine⟨ys[j].2, ?_⟩;simp only [ao,ak YA]
  have pk:∀j,(hj:j < ops.size)->(ops.toList.map direct)[j]? =some (direct ops[j]):=fun j hj=>by simp [hj]
  have D:Dr (lA s.n (mb (ops.toList.map (fB P G X A ops0)) 0).2 C) s.n (s.n+(mb (ops.toList.map (fB P G X A ops0)) 0).2) ops ao σ (fun j=>(LN (ops.toList.map direct)).getD j []):=by
   refine⟨fun j hj=> ?_,fun j hj=> ?_,NK hC.Ls _ _,fun j hj=> ?_,fun j hj i hi=> ?_,fun L hL j hj hd=> ?_,fun i j uz hj hna q=> ?_⟩
   ·obtain⟨l,hl⟩:=O3 j hj;exact t2.step j _ l hl
   ·obtain⟨l,hl⟩:=O3 j hj;exact (FN j _ l hl).1
   ·obtain⟨l,hl⟩:=O3 j hj;exact t2.lv j _ l hl
   ·have:=Bs abz j _ (pk j hj) i hi;omega
   ·refine sU (ds:=ops.toList.map direct) (L:=L) (fun j d hd hLj=> ?_) _ [] [] rfl rfl (fun j d _ _ i hi=>by simp at hi) j _ (pk j hj) hd;rcases aP j ops.size with h | h
    ·rw [pk j h]at hd;simp only [aa]at hd; subst hd;exact hL j h hLj
    ·rw [dK (by simpa using h)]at hd; cases hd
   ·obtain⟨lj,hlj⟩:=O3 j hj;obtain⟨li,YE⟩:=O3 i (by omega);obtain⟨oj,cj⟩:=FN j _ lj hlj;obtain⟨oi,_⟩:=FN i _ li YE;have hi:([]++(mb (ops.toList.map (fB P G X A ops0)) 0).1.take j)[i]? =some (ao i):=by
     rw [dF,da,bQ uz,← GI,aO,YE]; rfl
    rcases yp cj i _ hi with g | ⟨g1,g2⟩
    ·simp only [aU,b9]at g;exact absurd g hna
    ·have WZ:qT (ao i).op (ao j).op=0\/(qT (ao i).op (ao j).op=1/\kF (cl s.n (σ i).1.env (ao i)) (cl s.n (σ j).1.env (ao j))=true):=by
      refine g2.imp (fun h=>h) fun ⟨a2,g3⟩=>⟨a2, ?_⟩;rcases t2.chk j _ lj hlj _ g3 with ⟨x,hx,_⟩ | ⟨i',o',l',e1,e2,e3,e4⟩
      ·simp at hx
      ·simp only [b9,aU]at e1;subst e1;rw [YE]at e3;simp only [aa,ab]at e3;rw [← e3.1]at e4;exact (AO e4).1
     have abg:(ao i).op.kind=5->qT (ao i).op (ao j).op=1->∀q∈(cl s.n (σ j).1.env (ao j)).1,(σ (i+1)).2.get q=(σ i).2.get q:=by
      intro h5 h1;have g3:=(g2.resolve_left (by rw [h1]; decide)).2;rcases t2.chk j _ lj hlj _ g3 with ⟨x,hx,_⟩ | ⟨i',o',l',e1,e2,e3,e4⟩
      ·simp at hx
      ·simp only [b9,aU]at e1;subst e1;rw [YE]at e3;simp only [aa,ab]at e3;rw [← e3.1]at e4;exact (AO e4).2 h5
     have C3:∀q lq,ys[q]? =some (ao q,lq)->lQ (ao q)=true->∀r,(ao q).al=some r->s.n+r < s.n+(mb (ops.toList.map (fB P G X A ops0)) 0).2:=fun q lq hq ho r hr=>Nat.add_lt_add_left (zK ho hr _ 0 q (by rw [← GI,aO,hq]; rfl)) _;refine Sd oi oj g1 WZ (C3 i _ YE oi) (C3 j _ hlj oj) (fun h5 h1=> ?_) abg q;have g3:=(g2.resolve_left (by rw [h1]; decide)).2;rcases t2.kept j _ lj hlj h5 _ g3 with ⟨x,hx,_⟩ | ⟨i',o',l',e1,e2,e3,e4⟩
     ·simp at hx
     ·simp only [b9,aU]at e1;subst e1;rw [YE]at e3;simp only [aa,ab]at e3;rw [← e3.1]at e4;exact e4
  have FM:∀j,(h:j < ops.size)->(ao j).op=(fB P G X A ops0 ops[j]).op/\(ao j).dst=(fB P G X A ops0 ops[j]).dst/\(ao j).guard=(fB P G X A ops0 ops[j]).guard:=fun j hj=>by
   obtain⟨l,hl⟩:=O3 j hj;have h1:=tU (ops.toList.map (fB P G X A ops0)) 0 j;rw [← GI,aO,hl,aO,jR,cw hj]at h1;simp only [dh,aa,ab]at h1;exact h1
  refine⟨ao,σ,_,D,t0,by rw [← hlen]; exact t1,FM,fun j hj=> ?_⟩;obtain⟨l,hl⟩:=O3 j hj;exact⟨l,bG hl⟩
 ·cases hr
structure FL (av:Nat)(z:D)(fr fL:Fr):Prop where
 a:fL.env.get av=some (.lv z)
 o:∀t,t≠av->fL.env.get t=fr.env.get t
 d:fL.defers=fr.defers
theorem FL.lv {av:Nat}{z:D}{fL:Fr}(h:FL av z fr fL)(r:Nat)(hr:fr.env.ke r=true):fL.env.ke r=true:=by
 by_cases e:r=av
 ·subst e; unfold Env.ke; rw [h.a]
 ·unfold Env.ke at hr ⊢; rw [h.o r e]; exact hr
theorem xJ {e:Env}{dst:Option Nat}{d:D}{t:Nat}:(iq e dst d).get t=if dst=some t then some d else e.get t:=by
 cases dst with
 | none=>simp [iq]
 | some u=>simp only [iq,cY,aa]
theorem FL.put {av:Nat}{z d:D}{fL:Fr}{dst:Option Nat}(h:FL av z fr fL)(hd:dst≠some av):FL av z { fr with env:=iq fr.env dst d} { fL with env:=iq fL.env dst d}:=
 ⟨by simp only [xJ,aI hd]; exact h.a,fun t ht=>by simp only [xJ]; split; rfl; exact h.o t ht,h.d⟩
theorem KK {o:bz}{av:Nat}{z:D}{fL:Fr}(hF:FL av z fr fL)(h1:av ∉ o.sl)(h2:o.dst≠some av)(lE:lQ o=true)(h:oper C b o fr s=some (fr',s')):∃fL',oper C b o fL s=some (fL',s')/\FL av z fr' fL' :=by
 have hg:∀t∈o.sl,fL.env.get t=fr.env.get t:=fun t ht=>hF.o t (by rintro rfl; exact h1 ht);have Ay:∀t∈o.op.sl,fL.env.get t=fr.env.get t:=fun t ht=>hg t (by unfold bz.sl; split; exact cW _ ht; exact ht);have hw:aJ fL.env o.guard=aJ fr.env o.guard:=by
  cases Xg:o.guard with
  | none=>rfl
  | some q=>
   obtain⟨t,c⟩:=q;have:=hg t (by unfold bz.sl; rw [Xg]; exact List.mem_cons_self);simp only [aJ,this]
 unfold oper at h ⊢;rw [hw];split at h
 ·rename_i UT;split at h
  ·rename_i f args nK;have e1:f.ev fL.env=f.ev fr.env:=fi fun t ht=> .inl (Ay t (by rw [nK]; simp [eE.sl,ht]));have e2:tF fL.env args=tF fr.env args:=kL fun t ht=> .inl (Ay t (by rw [nK]; simp [eE.sl,ht]));simp only [nK,e1,e2];split at h
   ·rename_i h3 h4;simp only [aa,ab]at h;obtain⟨rfl,rfl⟩:=h;refine⟨_,rfl, ?_⟩;have:=hF.put (d:= .gW []) h2;exact⟨this.a,this.o,by simp only [hF.d]⟩
   ·cases h
  ·rename_i x nK;simp [lQ,nK]at lE
  ·rename_i r sz x v nK;have e1:x.A9 fL.env=x.A9 fr.env:=kK fun t ht=> .inl (Ay t (by rw [nK]; simp [eE.sl,ht]));have e2:v.ev fL.env=v.ev fr.env:=fi fun t ht=> .inl (Ay t (by rw [nK]; simp [eE.sl,ht]));have e3:fL.env.get r=fr.env.get r:=Ay r (by rw [nK]; simp [eE.sl]);have dn:r≠av:=by rintro rfl; exact h1 (by unfold bz.sl; rw [nK]; split <;> simp [eE.sl])
   simp only [nK,e1,e2,e3];split at h
   ·split at h
    ·split at h
     ·simp only [aa,ab]at h;obtain⟨rfl,rfl⟩:=h;refine⟨_,rfl, ?_⟩;refine FL.put (fr:= { fr with env:=_}) (fL:= { fL with env:=_}) ⟨?_,fun t ht=> ?_,hF.d⟩ h2
      ·simp only [cY,aI dn]; exact hF.a
      ·simp only [cY]; split; rfl; exact hF.o t ht
     ·cases h
    ·cases h
   ·cases h
  ·rename_i n1 n2 n3;split at h
   ·rename_i d s0 hF0;simp only [aa,ab]at h;obtain⟨rfl,rfl⟩:=h;have:=PX (e' :=fL.env) (fun t ht=> .inl (Ay t ht).symm) hF.lv (fun a sz x hp=>(Ay a (by rw [hp]; simp [eE.sl])).symm) hF0;refine⟨{ fL with env:=iq fL.env o.dst d}, ?_,hF.put h2⟩;generalize o.op=p at *
    cases p <;> first
     | (exact absurd rfl (n1 _ _))
     | (exact absurd rfl (n2 _))
     | (exact absurd rfl (n3 _ _ _ _))
     | (simp only [this])
   ·cases h
 ·rename_i UT;simp only [aa,ab]at h;obtain⟨rfl,rfl⟩:=h;exact⟨_,rfl,hF.put h2⟩
 ·cases h
theorem Cm {av:Nat}:∀ {e:Env},e.vn av=true->∀t k c,e.get t=some (.iE k c)->k≠av
 | [],_,t,k,c,h=>by cases h
 | (u,d)::r,hn,t,k,c,h=>by
  have hr:Env.vn av r=true/\∀k c,d= .iE k c->k≠av:=by
   unfold Env.vn at hn;split at hn
   ·rename_i k' c';split at hn
    ·cases hn
    ·rename_i hb;refine⟨hn,fun k c e=> ?_⟩;cases e;rintro rfl;simp at hb
   ·rename_i dn;exact⟨hn,fun k c e=>absurd e (dn k c)⟩
  rw [cY]at h;split at h
  ·simp only [aa]at h; exact hr.2 k c h
  ·exact Cm hr.1 t k c h
def isL (av:Nat):D->Bool
 | .iE k _=>Nat.beq av k
 | _=>false
def Env.cut (av:Nat)(e:Env):Env:=e.filter fun p=> !(isL av p.2)
theorem Is {av:Nat}:∀ {e:Env},Env.vn av e=e.all fun p=> !(isL av p.2)
 | []=>rfl
 | (t,d)::r=>by
  have ih:=Is (av:=av) (e:=r);simp only [h9,← ih];cases d <;> simp only [Env.vn,isL,om,fO];rename_i k c;cases Nat.beq av k <;> rfl
theorem RX {av:Nat}{e:Env}:(Env.cut av e).vn av=true:=by
 rw [Is,Env.cut,List.all_filter];simp
theorem uq {av:Nat}:∀ {e:Env} {t:Nat},(∀c,e.get t≠some (.iE av c))->(Env.cut av e).get t=e.get t
 | [],t,_=>rfl
 | (u,d)::r,t,h=>by
  have ih:u≠t->(Env.cut av r).get t=Env.get r t:=fun dn=>uq fun c hc=>h c (by rw [cY,aI dn]; exact hc);rw [cY]at h;unfold Env.cut at ih ⊢;rw [cY,List.filter_cons];by_cases hu:u=t
  ·simp only [hu,ei]at h ⊢;have hl:isL av d=false:=by
    cases d <;> simp only [isL];rename_i k c;cases hb:Nat.beq av k with
    | false=>rfl
    | true=>have:=ay hb; subst this; exact absurd rfl (h c)
   simp only [hl,om,ei,cY]
  ·simp only [aI hu];split
   ·rw [cY,aI hu]; exact ih hu
   ·exact ih hu
theorem zA {av t:Nat}{d:D}{e:Env}(h:Env.vn av ((t,d)::e)=true):Env.vn av e=true:=by
 unfold Env.vn at h;split at h
 ·split at h
  ·cases h
  ·exact h
 ·exact h
theorem xR {av:Nat}{dst:Option Nat}{d:D}{e:Env}(h:(iq e dst d).vn av=true):e.vn av=true:=by
 cases dst with
 | none=>exact h
 | some t=>exact zA h
theorem P0 {o:bz}{av:Nat}(h:oper C b o fr s=some (fr',s'))(hn:fr'.env.vn av=true):fr.env.vn av=true:=by
 unfold oper at h;split at h
 ·split at h
  ·split at h
   ·simp only [aa,ab]at h;obtain⟨rfl,rfl⟩:=h;exact xR hn
   ·cases h
  ·split at h
   ·split at h
    ·simp only [aa,ab]at h;obtain⟨rfl,rfl⟩:=h;exact zA hn
    ·cases h
   ·cases h
  ·split at h
   ·split at h
    ·split at h
     ·simp only [aa,ab]at h;obtain⟨rfl,rfl⟩:=h;exact zA (xR hn)
     ·cases h
    ·cases h
   ·cases h
  ·split at h
   ·simp only [aa,ab]at h;obtain⟨rfl,rfl⟩:=h;exact xR hn
   ·cases h
 ·simp only [aa,ab]at h;obtain⟨rfl,rfl⟩:=h;exact xR hn
 ·cases h
theorem Dr.vn {ops:Array Oper}{ao:Nat->bz}{σ:Nat->Fr×St}{ahd:Nat->List Nat}{av:Nat}(D:Dr C b hi ops ao σ ahd)(hn:(σ ops.size).1.env.vn av=true):∀d j,j+d=ops.size->(σ j).1.env.vn av=true
 | 0,j,h=>by obtain rfl:j=ops.size:=by omega
             exact hn
 | d+1,j,h=>P0 (D.step j (by omega)) (D.vn hn d (j+1) (by omega))
def Vw (av:Nat)(fr:Fr):Prop:=∀t k c,fr.env.get t=some (.iE k c)->k≠av
theorem QO {fr fr1:Fr}{s s1:St}{t k c:Nat}(h:val fr s (.g t)=val fr1 s1 (.g t))(h1:fr.env.get t=some (.iE k c)):fr1.env.get t=some (.iE k c):=by
 rcases Hw h with e | ⟨x,y,e1,e2⟩
 ·rw [← e]; exact h1
 ·rw [e1]at h1; cases h1
theorem Yh {fr fL:Fr}{s s1:St}(h:∀k,val fr s1 k=val fr s k):∀k,val fL s1 k=val fL s k:=fun k=>by
 have:=h k;cases k with
 | g t=>rfl
 | c t=>rfl
 | d=>rfl
 | h o=>exact this
 | hc o c=>exact this
 | n=>exact this
theorem LX {rd:Option Nat}{ops:Array Oper}{Q:Exit->Act->World->Prop}{n:Nat}{listed:Array Bool}{a:Act}{w:World}(hs:listed.size=ops.size)(fN:∀j,j < ops.size->nC listed j)(hQ:Q .normal a w):wpAnyIn (Rd rd) 0 P .any ops Q n listed a w:=by
 have h0:Region.ready .any ops listed=[]:=List.eq_nil_iff_forall_not_mem.2 fun i hi=>by
  obtain⟨h1,h2,_⟩:=(mem_ready hs).1 hi;exact h2 (fN i h1)
 cases n with
 | zero=>exact ⟨h0,hQ⟩
 | succ n=>exact ⟨fun _=>hQ,fun i hi=>by rw [h0]at hi; cases hi⟩
theorem Hh {Cd:au}{rd:Option Nat}(hC:cm pn P G C)(hCd:cm pn P G Cd)(hX:∀f k,X f=some k->lZ P f k)(hg:gn pn G ρ0 w0){ops KL:Array Oper}{m:Nat}(fQ:ops.size=m+2)(qz:KL.size=m)(OS:∀j (h:j < m),KL[j]'(by omega)=ops[j]'(by omega)){ao:Nat->bz}{σ:Nat->Fr×St}{ahd:Nat->List Nat}(DR:Dr Cd b hi KL ao σ ahd)
  (FM:∀j,(h:j < m)->(ao j).op=(fB P G X A ops (ops[j]'(by omega))).op/\(ao j).dst=(fB P G X A ops (ops[j]'(by omega))).dst/\(ao j).guard=(fB P G X A ops (ops[j]'(by omega))).guard)(lU:∀j,j < m->rd=none\/(ao j).op.nd=true)
  {oA oL:bz}{av:Nat}{z:D}(eA:fB P G X A ops (ops[m]'(by omega))=oA)(fA:oA=⟨some av,.mZ (.c z),none,none⟩)(eL:fB P G X A ops (ops[m+1]'(by omega))=oL)(hrL:rd=none\/oL.op.nd=true)
  (hdA:direct (ops[m]'(by omega))=[])(hdL:∀i,i < m+1->i∈direct (ops[m+1]'(by omega)))(hlL:∀i∈direct (ops[m+1]'(by omega)),i < m+1)(td:∀j,j < m->av ∉ (ao j).sl/\(ao j).dst≠some av)
  {f1:Fr}{s1:St}(nK:oper C 0 oA (σ m).1 (σ m).2=some (f1,s1))(hL:oper C 0 oL f1 s1=some (fr',s')){Q:Exit->Act->World->Prop}(hQ:∀a' w',Inv ρ0 w0 A.nt fr' s' a' w' ->Q .normal a' w'):
  ∀(n:Nat) (listed l1:Array Bool) (fr:Fr) (s:St) (a:Act) (w:World),left listed ops.size=n->listed.size=m+2->QX Cd b KL ao σ l1 fr s->(∀j,j < m->(nC listed j↔nC l1 j))-> ¬ nC listed (m+1)->Vw av fr->
   ((¬ nC listed m/\Inv ρ0 w0 A.nt fr s a w)\/(nC listed m/\∃fL,FL av z fr fL/\Inv ρ0 w0 A.nt fL s a w))->wpAnyIn (Rd rd) 0 P .any ops Q n listed a w:=by
 have hf1:f1= { (σ m).1 with env:=(av,.lv z)::(σ m).1.env}/\s1=(σ m).2/\(σ m).1.env.vn av=true/\z.st=true:=by
  subst fA;simp only [oper,aJ,bO.ev]at nK;split at nK
  ·rename_i hb;simp only [aa,ab]at nK;simp only [aB]at hb;exact⟨nK.1.symm,nK.2.symm,hb.1,hb.2⟩
  ·cases nK
 obtain⟨rfl,rfl,abD,abT⟩:=hf1;have hσ:∀j,j<=m->Vw av (σ j).1:=fun j hj=>Cm (DR.vn (by rw [qz]; exact abD) (m - j) j (by omega));have conv:∀ {i:Nat} (h1:i < ops.size) {K:Act->World->Prop} {a:Act} {w:World},(if Region.wanted ops[i] (yielded ops a.tmps) then ops[i].wpIn (Rd rd) 0 P a w K Q else K (a.put ops[i].dst undef) w)->wpOpIn (Rd rd) 0 P ops Q i K a w:=by
  intro i h1 K a w this;unfold wpOpIn;simp only [cw h1];split
  ·rename_i hw;rw [bQ hw]at this;exact this
  ·rename_i hw;rw [aI hw]at this;exact⟨fun _ _=>trivial,this⟩
 intro n;induction n with
 | zero=>
  intro listed l1 fr s a w hn Q9 M hl qS FQ hI;exfalso;simp only [left,List.countP_eq_zero]at hn;have:=hn (m+1) (by simp [fQ]);simp only [eR,Bool.not_eq_false]at this;exact qS this
 | succ n ih=>
  intro listed l1 fr s a w hn Q9 M hl qS FQ hI;have OK:listed.size=ops.size:=by omega
  refine⟨fun h0=> ?_,fun i hi=> ?_⟩
  ·exfalso;have fN:∀j,j < m+1->nC listed j:=by
    intro j;induction j using Nat.strongRecOn with
    | ind j ihj=>
     intro hj;rcases Decidable.em (nC listed j) with h | h
     ·exact h
     ·have:j∈Region.ready .any ops listed:=(mem_ready OK).2 ⟨by omega,h,fun q hq=> ?_⟩
      ·rw [h0]at this; cases this
      ·rcases aP j m with YA | YA
       ·have h2:=DR.low j (by omega) q (by rw [OS j YA]; exact hq);exact ihj q h2 (by omega)
       ·obtain rfl:j=m:=by omega
        rw [hdA]at hq; cases hq
   have:m+1∈Region.ready .any ops listed:=(mem_ready OK).2 ⟨by omega,qS,fun q hq=>fN q (hlL q hq)⟩;rw [h0]at this; cases this
  ·obtain⟨h1,h2,h3⟩:=(mem_ready OK).1 hi;have iB:∀q,nC (listed.setIfInBounds i true) q↔q=i\/nC listed q:=fun q=>B2 (by omega);have OH:left (listed.setIfInBounds i true) ops.size=n:=by have:=Er OK h1 h2; omega
   refine conv h1 ?_
   rcases gJ i m with hm | rfl | hm
   ·
    have Bh : ¬ nC l1 i:=fun h=>h2 ((hl i hm).2 h)
    have h3' :∀q∈direct (KL[i]'(by omega)),nC l1 q:=fun q hq=>by
     have h4:=DR.low i (by omega) q hq;exact (hl q (by omega)).1 (h3 q (by rw [← OS i hm]; exact hq))
    obtain⟨s2,vK,s3,k1,k2,k3,k4,k5⟩:=M.step DR (by omega) Bh h3'
    have aaq:Vw av vK:=fun t k c ht=>by
     by_cases hw:kE b (ao i) (σ i).1 (σ i).2 (σ (i+1)).2 (.g t)
     ·exact hσ (i+1) (by omega) t k c (QO (k4 _ hw) ht)
     ·exact FQ t k c (QO (k5 _ hw) ht)
    have sS:∀j,j < m->(nC (listed.setIfInBounds i true) j↔nC (l1.setIfInBounds i true) j):=fun j hj=>by
     rw [iB,B2 (by rw [M.size]; omega),hl j hj]
    have aap: ¬ nC (listed.setIfInBounds i true) (m+1):=fun h=>by
     rcases (iB _).1 h with h | h
     ·omega
     ·exact qS h
    rcases hI with ⟨p1,p2⟩ | ⟨p1,fL,p2,p3⟩
    ·refine oa (K:=wpAnyIn (Rd rd) 0 P .any ops Q n (listed.setIfInBounds i true)) hCd hX hg (ops:=ops) (FM i hm) (lU i hm) k2 (p2.vX fun k=>(k1 k).symm) fun a' w' rG => ?_
     exact ih _ _ vK s3 a' w' OH (by simp [Q9]) k3 sS aap aaq (.inl ⟨fun h=>by
      rcases (iB _).1 h with h | h
      ·omega
      ·exact p1 h,rG⟩)
    ·obtain⟨fL2,q1,q2⟩:=KK p2 (td i hm).1 (td i hm).2 (DR.one i (by omega)) k2;refine oa (K:=wpAnyIn (Rd rd) 0 P .any ops Q n (listed.setIfInBounds i true)) hCd hX hg (ops:=ops) (FM i hm) (lU i hm) q1 (p3.vX fun k=>(Yh (fL:=fL) k1 k).symm) fun a' w' rG => ?_;exact ih _ _ vK s3 a' w' OH (by simp [Q9]) k3 sS aap aaq (.inr ⟨(iB _).2 (.inr p1),fL2,q2,rG⟩)
   ·
    rcases hI with ⟨p1,p2⟩ | ⟨p1,_⟩
    ·have e1:∀t,(Env.cut av fr.env).get t=fr.env.get t:=fun t=>uq fun c h=>FQ t av c h rfl
     have hIc:Inv ρ0 w0 A.nt { fr with env:=Env.cut av fr.env} s a w:=p2.vX fun k=>by
      cases k <;> simp only [val,e1]
     have jS :oper C 0 oA { fr with env:=Env.cut av fr.env} s=some ({ fr with env:=(av,.lv z)::Env.cut av fr.env},s):=by
      subst fA;simp only [oper,aJ,bO.ev,RX,abT,dS]
     refine oa (K:=wpAnyIn (Rd rd) 0 P .any ops Q n (listed.setIfInBounds i true)) hC hX hg (ops:=ops) (o:=ops[i]) (by rw [eA]; exact ⟨rfl,rfl,rfl⟩) (.inr (by rw [fA]; rfl)) jS hIc fun a' w' rG => ?_;refine ih _ l1 fr s a' w' OH (by simp [Q9]) M (fun j hj=> ?_) (fun h=> ?_) FQ (.inr ⟨(iB _).2 (.inl rfl),{ fr with env:=(av,.lv z)::Env.cut av fr.env},⟨?_,fun t ht=> ?_,rfl⟩,rG⟩)
     ·rw [iB]
      exact⟨fun h=>by
       rcases h with h | h
       ·omega
       ·exact (hl j hj).1 h,fun h=> .inr ((hl j hj).2 h)⟩
     ·rcases (iB _).1 h with h | h
      ·omega
      ·exact qS h
     ·simp only [cY,ei]
     ·simp only [cY,aI (bE ht),e1]
    ·exact absurd p1 h2
   ·
    obtain rfl:i=m+1:=by omega
    have fN:∀j,j < m+1->nC listed j:=fun j hj=>h3 j (hdL j hj);rcases hI with ⟨p1,_⟩ | ⟨_,fL,p2,p3⟩
    ·exact absurd (fN m (by omega)) p1
    have hv:∀k,val fr s k=val (σ m).1 (σ m).2 k:=fun k=>by
     have:=M.cut k KL.size (aq _) (fun j hj _=>(hl j (by omega)).1 (fN j (by omega))) (fun j h4 h5=>by omega);rw [qz]at this; exact this
    have hvL:∀k,val fL s k=val { (σ m).1 with env:=(av,.lv z)::(σ m).1.env} (σ m).2 k:=fun k=>by
     cases k with
     | g t=>
      by_cases ht:t=av
      ·subst ht; simp only [val,cY,ei,p2.a]
      ·have:=hv (.g t);simp only [val,cY,aI (bE ht),p2.o t ht]at this ⊢;exact this
     | c t=>
      by_cases ht:t=av
      ·subst ht; simp only [val,cY,ei,p2.a]
      ·have:=hv (.c t);simp only [val,cY,aI (bE ht),p2.o t ht]at this ⊢;exact this
     | d=>have:=hv .d; simp only [val,p2.d]at this ⊢; exact this
     | h o=>exact hv (.h o)
     | hc o c=>exact hv (.hc o c)
     | n=>exact hv .n
    refine oa (K:=wpAnyIn (Rd rd) 0 P .any ops Q n (listed.setIfInBounds (m+1) true)) hC hX hg (ops:=ops) (o:=ops[m+1]) (by rw [eL]; exact ⟨rfl,rfl,rfl⟩) hrL hL (p3.vX hvL) fun a' w' rG => ?_;refine LX (by simp [OK]) (fun j hj=>(iB j).2 ?_) (hQ _ _ rG);by_cases e:j=m+1
    ·exact .inl e
    ·exact .inr (fN j (by omega))
theorem Cy {n i:Nat}: ¬ nC (Array.replicate n false) i:=fun hi=>by
 simp only [nC,bR,kH]at hi;split at hi <;> cases hi
theorem AK {C:au}{av:Nat}{z:D} {fr fr' :Fr} {s s' :St}(nK:oper C b ⟨some av,.mZ (.c z),none,none⟩ fr s=some (fr',s')):fr.env.vn av=true:=by
 simp only [oper,aJ,bO.ev]at nK;split at nK
 ·rename_i hb;simp only [aB]at hb;exact hb.1
 ·cases nK
theorem zo {m:Nat}:left (Array.replicate m false) m=m:=by
 unfold left;rw [List.countP_eq_length.2]
 ·simp
 ·intro i hi;simp only [bR,kH];split <;> rfl
theorem NW (hm:P.follows .mixedOrders=true)(hC:cm pn P G C)(hX:∀f k,X f=some k->lZ P f k):qm pn P G X C:=by
 intro L rd A ρ0 w0 id ops fr s e fr' s' a w sE hg h hI;unfold KN at h sE;simp only at h sE
 have hup:∀k,Inv ρ0 w0 A.nt fr { s with n:=s.n+k} a w:=fun k=>by
  obtain⟨ρ,h1,h2,h3⟩:=hI;exact⟨ρ,h1,h2,⟨fun o x hx=>by have:=h3.lt o x hx; show o < s.n+_; omega,h3.ok,h3.no,h3.live,h3.size⟩⟩
 split at h
 ·rename_i k y hd;simp only [hd]at sE;simp only [bN]at h;split at h
  ·cases h
  ·split at h
   ·rename_i fr1 s1 h1;simp only [aa,ab]at h;obtain⟨rfl,rfl,rfl⟩:=h;obtain⟨ao,σ,ahd,DR,t0,t1,FM,rK⟩:=DQ hC hd h1;refine wpIn_region_any (n:=0) hm ?_;refine Gq (rd:=rd) (b:=s.n) (HS hC _ _) hX hg DR FM (fun j hj=>sE.imp (fun h=>h) fun hq=> ?_) ?_ _ _ fr _ a _ zo (QX.start (fun k=>by rw [t0]) DR) (hup k).drew
    ·simp only [AC.nd,c9]at hq;obtain⟨l,hl⟩:=rK j hj;exact hq _ hl
    ·rw [t1];exact fun a' w' rG =>⟨trivial,rG⟩
   ·cases h
 ·rename_i Ld;simp only [Ld]at sE;split at h
  ·rename_i ht;simp only [ht]at sE;split at h
   ·rename_i k y hd;simp only [hd]at sE;unfold Ve at ht;split at ht
    ·rename_i av z oL d hl pk;simp only [aB,c9,oy,eR]at ht;obtain⟨⟨FU,Ic⟩,Ri⟩:=ht;have hlen:(ops.toList.map (fB P G X A ops)).length=ops.size:=by simp
     have Xx:2<=ops.size:=by
      have:=congrArg List.length hl;simp only [km,hlen,aT,b9]at this;omega
     obtain⟨m,An⟩:∃m,ops.size=m+2:=⟨ops.size - 2,by omega⟩;have Lg:(ops.toList.map (fB P G X A ops)).length - 2=m:=by omega
     rw [Lg]at hd hl pk Ri h sE;rw [show (ops.toList.map (fB P G X A ops)).length - 1=m+1 by omega]at FU Ic;have at1:∀(f:Oper->bz) i (h:i < ops.size),(ops.toList.map f)[i]? =some (f ops[i]):=fun f i h=>by simp [h]
     have at2:∀i (h:i < ops.size),(ops.toList.map direct)[i]? =some (direct ops[i]):=fun i h=>by simp [h]
     have eA:fB P G X A ops (ops[m]'(by omega))=⟨some av,.mZ (.c z),none,none⟩:=by
      have:=congrArg (fun q=>q[0]?) hl;simp only [cS,fu,at1 _ m (by omega),aS,aa]at this;exact this
     have eL:fB P G X A ops (ops[m+1]'(by omega))=oL:=by
      have:=congrArg (fun q=>q[1]?) hl;simp only [cS,at1 _ (m+1) (by omega),bP,aS,aa]at this;exact this
     have dA:direct (ops[m]'(by omega))=[]:=by
      have:=congrArg (fun q=>q[0]?) pk;simp only [cS,fu,at2 m (by omega),aS,aa]at this;exact this
     have dL:direct (ops[m+1]'(by omega))=d:=by
      have:=congrArg (fun q=>q[1]?) pk;simp only [cS,at2 (m+1) (by omega),bP,aS,aa]at this;exact this
     have qz:(ops.toList.take m).toArray.size=m:=by simp; omega
     have OS:∀j (h:j < m),(ops.toList.take m).toArray[j]'(by omega)=ops[j]'(by omega):=fun j h=>by simp
     rw [← List.map_take,← List.map_take]at hd;rw [hl]at h sE;simp only [bN]at h;simp only [AC.nd,aB,h9,List.all_nil,mD]at sE;split at h
     ·rename_i vK s2 h2;split at h2
      ·cases h2
      ·split at h2
       ·rename_i fr1 s1 h1;simp only [aa,ab]at h2;obtain⟨_,rfl,rfl⟩:=h2;split at h
        ·rename_i fr3 s3 h3;simp only [aa,ab]at h;obtain⟨rfl,rfl,rfl⟩:=h;obtain⟨ao,σ,ahd,DR,t0,t1,FM,rK⟩:=DQ (ops0:=ops) (ops:=(ops.toList.take m).toArray) hC (by simpa using hd) h1;rw [qz]at t1;simp only [opers]at h3;split at h3
         ·rename_i fr4 s4 h4;split at h3
          ·rename_i fr5 s5 h5;simp only [aa,ab]at h3;obtain⟨rfl,rfl⟩:=h3;refine wpIn_region_any (n:=0) hm ?_
           have ZV :∀j,(h:j < m)->(ao j).op=(fB P G X A ops (ops[j]'(by omega))).op/\(ao j).dst=(fB P G X A ops (ops[j]'(by omega))).dst/\(ao j).guard=(fB P G X A ops (ops[j]'(by omega))).guard:=fun j hj=>by
            have:=FM j (by omega);rw [OS j hj]at this; exact this
           refine Hh (rd:=rd) (b:=s.n) (m:=m) hC (HS hC _ _) hX hg An qz OS DR ZV (fun j hj=>sE.imp (fun h=>h) fun hq=> ?_) eA rfl eL (sE.imp (fun h=>h) fun hq=>hq.2.2) dA (fun i hi=>by rw [dL]; exact oU.1 (FU i hi)) (fun i hi=>by rw [dL]at hi; exact az (Ic i hi)) (fun j hj=> ?_) (by rw [t1]; exact h4) h5 (fun a' w' rG =>⟨trivial,rG⟩) _ (Array.replicate ops.size false) (Array.replicate (ops.toList.take m).toArray.size false) fr _ a _ zo (by simp [An]) (QX.start (fun k=>by rw [t0]) DR) (fun j hj=> ?_) (fun h=> ?_) ?_ (.inl ⟨fun h=> ?_,(hup k).drew⟩)
           ·have hq:=hq.1;simp only [c9]at hq;obtain⟨l,hl⟩:=rK j (by omega);exact hq _ hl
           ·have hx:=Ri (fB P G X A ops (ops[j]'(by omega))) (bG (i:=j) (by rw [da,bQ hj,at1 _ j (by omega)]));obtain⟨g1,g2,g3⟩:=ZV j hj;refine⟨fun hm=> ?_,fun hm=> ?_⟩
            ·have:av∈(fB P G X A ops (ops[j]'(by omega))).sl:=by
              unfold bz.sl at hm ⊢;rw [← g1,← g3]; exact hm
             rw [oU.2 this]at hx; cases hx.1
            ·rw [← g2,hm]at hx;simp [tH,pM]at hx
           ·exact⟨fun h=>absurd h Cy,fun h=>absurd h Cy⟩
           ·exact Cy h
           ·have:=Cm (DR.vn (av:=av) (by rw [qz,t1]; exact AK h4) m 0 (by omega));rw [t0]at this; exact this
           ·exact Cy h
          ·cases h3
         ·cases h3
        ·cases h
       ·cases h2
     ·rename_i dn;exfalso;cases h6:(s.ro && Nat.blt 0 k) with
      | true=>simp only [h6]at h; cases h
      | false=>cases h7:gZ (lA s.n k C) s.n y [] fr { s with n:=s.n+k} with
       | none=>simp only [h6,h7]at h; cases h
       | some q=>exact dn q.1 q.2 (by simp only [h6,h7])
    ·cases ht
   ·simp [bN]at h
  ·simp [bN]at h
end Go.Ab
