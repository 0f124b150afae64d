/- Part. -/
import Derived.Test.YtdkejjahldkkoaaGreatDoorG16
set_option linter.unusedSectionVars false
set_option linter.unusedSimpArgs false
set_option linter.unusedVariables false
namespace Go.Ab
open Go
variable [eW]
variable {ρ ρ' ρ0:Gh}{w w' w0:World}{P:Program}{pn:iO}{G:Gl}{X:iJ}{A:nJ} {s s' :St}{a:Act}{C:au} {fr fr' :Fr}{b hi:Nat}
theorem wI {acc:List Fp}{y:Fp}:∀ {l:List Nat},fg acc y l=true->∀i∈l,∃x,acc[i]? =some x/\kX x y=true
 | [],_,i,h=>by cases h
 | j::r,h,i,hi=>by
  simp only [fg]at h;split at h
  ·rename_i x hx;split at h
   ·rename_i ha;rcases bS.1 hi with rfl | hi
    ·exact⟨x,hx,ha⟩
    ·exact wI h i hi
   ·cases h
  ·cases h
theorem uV {l m:List D}:∀ {rg:List (Nat×Nat×Nat)},cL l m rg=true->∀r∈rg,∀c,r.2.1<=c->c < r.2.1+r.2.2->l[c]? =m[c]?
 | [],_,r,h=>by cases h
 | (x,c0,n)::rg,h,r,hr=>by
  simp only [cL,aA]at h;rcases bS.1 hr with rfl | hr
  ·intro c h1 h2;simp only at h1 h2;have:=congrArg (fun q=>q[c - c0]?) (D.pK _ _ h.1);simp only [de,cW]at this;rw [bJ (by omega),bJ (by omega),show c0+(c - c0)=c by omega]at this;exact this
  ·exact uV h.2 r hr
theorem OV {u v:D}(h1:u.flat.length=v.flat.length)(h2:u.isAgg=v.isAgg):rn u=rn v:=by
 cases u <;> cases v <;> simp_all [rn,D.flat,D.isAgg]
def Ea (rg:List (Nat×Nat×Nat))(q:Nat)(a b:Option Obj):Prop:=ka b=ka a/\∀c,Q0 rg q c->jq b c=jq a c
theorem Cj {rg:List (Nat×Nat×Nat)}{q:Nat}{a b:Obj}(h:cP rg a b=true):Ea rg q (some a) (some b):=by
 unfold cP at h;split at h
 ·rename_i r rs t v t' v';simp only [aA,iS,ij]at h;obtain⟨rfl,h1,h2,h3⟩:=h;refine⟨by simp only [ka,aa,Obj.var.injEq,true_and]; exact (OV h1 h2).symm,fun c hc=> ?_⟩;rcases hc with hc | ⟨x,hx,_,zI,qd⟩
  ·cases hc
  ·simp only [jq]; exact (uV h3 x hx c zI qd).symm
 ·have:=Obj.beq_eq _ _ h;subst this;exact⟨rfl,fun _ _=>rfl⟩
theorem rO {rg:List (Nat×Nat×Nat)} {s s' :St}:∀ {l:List Nat},dE rg s s' l=false->∀q∈l,Ea rg q (s.get q) (s'.get q)
 | [],_,q,hq=>by cases hq
 | o::r,h,q,hq=>by
  simp only [dE]at h;split at h
  ·rename_i x y hx hy;split at h
   ·rename_i hb;rcases bS.1 hq with rfl | hq
    ·rw [hx,hy]; exact Cj hb
    ·exact rO h q hq
   ·cases h
  ·rename_i hx hy;rcases bS.1 hq with rfl | hq
   ·rw [hx,hy]; exact ⟨rfl,fun _ _=>rfl⟩
   ·exact rO h q hq
  ·cases h
theorem uW {acc:List Fp} {s s' :St}:∀ {l:List Nat},cJ acc s s' l=false->∀i∈l,∃x,acc[i]? =some x/\∀q∈x.1,Ea x.2.2 q (s.get q) (s'.get q)
 | [],_,i,h=>by cases h
 | j::r,h,i,hi=>by
  simp only [cJ]at h;split at h
  ·rename_i x hx;split at h
   ·cases h
   ·rename_i ha;rcases bS.1 hi with rfl | hi
    ·exact⟨x,hx,rO ha⟩
    ·exact uW h i hi
  ·cases h
theorem T.sj:∀ {t:T Obj} {k:Nat},k ∉ T.keys t->t.get k=none
 | .nil,k,_=>rfl
 | .node o l r,k,h=>by
  simp only [T.keys,bK,jO,kH,not_exists,not_and]at h;obtain⟨h1,h2,h3⟩:=h;by_cases hk:k=0
  ·subst hk;rw [T.jB];cases o with
   | none=>rfl
   | some x=>simp at h1
  ·by_cases ho:k % 2=1
   ·rw [T.jb _ _ _ hk ho];exact T.sj fun hm=>h2 _ hm (by omega)
   ·rw [T.ja _ _ _ hk ho];exact T.sj fun hm=>h3 _ hm (by omega)
theorem T.wq:∀ {t u:T Obj} {k:Nat},k ∉ T.diff t u->u.get k=t.get k
 | .nil,u,k,h=>by
  simp only [T.diff]at h;rw [T.sj h]; rfl
 | .node o l r,.nil,k,h=>by
  simp only [T.diff]at h;rw [T.sj h]; rfl
 | .node o l r,.node o' l' r',k,h=>by
  simp only [T.diff,bK,jO,kH,not_exists,not_and]at h;obtain⟨h1,h2,h3⟩:=h;by_cases hk:k=0
  ·subst hk;rw [T.jB,T.jB];cases o with
   | none=>
    cases o' with
    | none=>rfl
    | some y=>simp at h1
   | some x=>
    cases o' with
    | none=>simp at h1
    | some y=>
     simp only at h1;split at h1
     ·rename_i e; rw [Obj.beq_eq _ _ e]
     ·simp at h1
  ·by_cases ho:k % 2=1
   ·rw [T.jb _ _ _ hk ho,T.jb _ _ _ hk ho];exact T.wq fun hm=>h2 _ hm (by omega)
   ·rw [T.ja _ _ _ hk ho,T.ja _ _ _ hk ho];exact T.wq fun hm=>h3 _ hm (by omega)
theorem Zh {s s' :St}{b:Nat}{e:Env}{o:bj}:(Jf s s' b e o).1=(cE b e o).1:=by unfold Jf; split <;> rfl
theorem aaG {s s' :St}{b:Nat}{e:Env}{o:bj}:(Jf s s' b e o).2.2=(cE b e o).2.2:=by unfold Jf; split <;> rfl
theorem yN {a b c:List Nat}(h:r9 (a++b) c=true):r9 a c=true/\r9 b c=true:=by
 induction a with
 | nil=>exact ⟨rfl,h⟩
 | cons x r ih=>
  simp only [iL,r9]at h;cases hx:pX x c with
  | true=>simp only [hx]at h; cases h
  | false=>
   simp only [hx]at h;exact⟨by simp only [r9,hx]; exact (ih h).1,(ih h).2⟩
theorem Bw {s s' :St}{b:Nat}{e:Env}{o:bj}{y:Fp}(h:kX (Jf s s' b e o) y=true):kX (cE b e o) y=true/\(o.op.kind=5->∀q∈y.1,s'.get q=s.get q):=by
 unfold Jf at h;split at h
 ·simp only [kX,aA]at h ⊢;obtain⟨h1,h2,h3⟩:=h;exact⟨⟨(yN h1).2,(yN h2).2,h3⟩,fun _ q hq=>T.wq fun hm=>oz (yN h2).1 q hm hq⟩
 ·rename_i h5;exact⟨h,fun e=>by rw [e]at h5; simp at h5⟩
structure Tr (C:au)(b:Nat)(ys:List (bj×List Nat))(acc:List Fp)(σ:Nat->Fr×St):Prop where
 step:∀j o l,ys[j]? =some (o,l)->oper C b o (σ j).1 (σ j).2=some (σ (j+1))
 lv:∀j o l,ys[j]? =some (o,l)->(σ j).1.env.cX o.dst=false/\(σ (j+1)).1.env.cX o.dst=false
 chk:∀j o l,ys[j]? =some (o,l)->∀i∈l,(∃x,acc[i]? =some x/\kX x (cE b (σ j).1.env o)=true)\/
  ∃i' o' l',i=acc.length+i' /\i' < j/\ys[i']? =some (o',l')/\kX (Jf (σ i').2 (σ (i' +1)).2 b (σ i').1.env o') (cE b (σ j).1.env o)=true
 kept:∀j o l,ys[j]? =some (o,l)->o.op.kind=5->∀i∈l,(∃x,acc[i]? =some x/\∀q∈x.1,Ea x.2.2 q ((σ j).2.get q) ((σ (j+1)).2.get q))\/
  ∃i' o' l',i=acc.length+i' /\i' < j/\ys[i']? =some (o',l')/\∀q∈(cE b (σ i').1.env o').1,Ea (cE b (σ i').1.env o').2.2 q ((σ j).2.get q) ((σ (j+1)).2.get q)
theorem wV:∀ {ys:List (bj×List Nat)} {acc:List Fp} {fr:Fr} {s:St},iy C b ys acc fr s=some (fr',s')->∃σ,σ 0=(fr,s)/\σ ys.length=(fr',s')/\Tr C b ys acc σ
 | [],acc,fr,s,h=>by
  simp only [iy,aa,ab]at h;obtain⟨rfl,rfl⟩:=h;exact⟨fun _=>(fr,s),rfl,rfl,⟨fun j o l h=>by simp at h,fun j o l h=>by simp at h,fun j o l h=>by simp at h,fun j o l h=>by simp at h⟩⟩
 | (o,l)::r,acc,fr,s,h=>by
  simp only [iy]at h;split at h
  ·rename_i hc;split at h
   ·rename_i fr1 s1 h1;split at h
    ·rename_i RT;simp only [Bool.or_eq_false_iff]at RT;obtain⟨RT,UU⟩:=RT;obtain⟨σ,t0,t1,t2⟩:=wV h;simp only [aA,fe]at hc;refine⟨fun j=>match j with | 0=>(fr,s) | j+1=>σ j,rfl,t1,⟨fun j o' l' hj=> ?_,fun j o' l' hj=> ?_,fun j o' l' hj=> ?_,fun j o' l' hj h5=> ?_⟩⟩
     ·cases j with
      | zero=>
       simp only [aQ,aa,ab]at hj;obtain⟨rfl,rfl⟩:=hj;simp only [t0]; exact h1
      | succ j=>simp only [bX]at hj; exact t2.step j o' l' hj
     ·cases j with
      | zero=>
       simp only [aQ,aa,ab]at hj;obtain⟨rfl,rfl⟩:=hj;simp only [t0]; exact ⟨hc.2,RT⟩
      | succ j=>simp only [bX]at hj; exact t2.lv j o' l' hj
     ·cases j with
      | zero=>
       simp only [aQ,aa,ab]at hj;obtain⟨rfl,rfl⟩:=hj;exact fun i hi=> .inl (wI hc.1 i hi)
      | succ j=>
       simp only [bX]at hj;intro i hi;rcases t2.chk j o' l' hj i hi with ⟨x,hx,ha⟩ | ⟨i',o2,l2,e1,e2,e3,e4⟩
       ·rcases aG i acc.length with dQ | qc
        ·rw [aO dQ]at hx;exact .inl ⟨x,hx,ha⟩
        ·rw [aT qc]at hx;have hi0:i - acc.length=0:=by
          rcases ec (i - acc.length) with h | h
          ·exact h
          ·rw [eJ (by simp; omega)]at hx; cases hx
         rw [hi0]at hx;simp only [aQ,aa]at hx;subst hx;exact .inr ⟨0,o,l,by omega,by omega,by simp,by simpa only [t0] using ha⟩
       ·refine .inr ⟨i' +1,o2,l2, ?_,by omega,by simpa using e3,e4⟩;simp only [aB,aU,bL]at e1; omega
     ·cases j with
      | zero=>
       simp only [aQ,aa,ab]at hj;obtain⟨rfl,rfl⟩:=hj;simp only [lost,h5,az]at UU
       exact fun i hi=> .inl (by
        obtain⟨x,hx,hq⟩:=uW UU i hi;exact⟨x,hx,fun q hm=>by simpa only [t0] using hq q hm⟩)
      | succ j=>
       simp only [bX]at hj;intro i hi;rcases t2.kept j o' l' hj h5 i hi with ⟨x,hx,ha⟩ | ⟨i',o2,l2,e1,e2,e3,e4⟩
       ·rcases aG i acc.length with dQ | qc
        ·rw [aO dQ]at hx;exact .inl ⟨x,hx,ha⟩
        ·rw [aT qc]at hx;have hi0:i - acc.length=0:=by
          rcases ec (i - acc.length) with h | h
          ·exact h
          ·rw [eJ (by simp; omega)]at hx; cases hx
         rw [hi0]at hx;simp only [aQ,aa]at hx;subst hx;exact .inr ⟨0,o,l,by omega,by omega,by simp,by rw [Zh,aaG]at ha; exact ha⟩
       ·refine .inr ⟨i' +1,o2,l2, ?_,by omega,by simpa using e3,e4⟩;simp only [aB,aU,bL]at e1; omega
    ·cases h
   ·cases h
  ·cases h
structure Dr (C:au)(b hi:Nat)(ops:Array Oper)(ao:Nat->bj)(σ:Nat->Fr×St)(ahd:Nat->List Nat):Prop where
 step:∀j,j < ops.size->oper C b (ao j) (σ j).1 (σ j).2=some (σ (j+1))
 one:∀j,j < ops.size->lZ (ao j)=true
 cut:Ew C b hi
 lv:∀j,j < ops.size->(σ j).1.env.cX (ao j).dst=false/\(σ (j+1)).1.env.cX (ao j).dst=false
 low:∀j,(h:j < ops.size)->∀i∈direct ops[j],i < j
 ahead:∀(L:Nat->Prop),(∀j,(h:j < ops.size)->L j->∀i∈direct ops[j],L i)->∀j,(h:j < ops.size)->(∀i∈direct ops[j],L i)->∀i∈ahd j,L i
 free:∀i j,i < j->j < ops.size->i ∉ ahd j->∀k, ¬(kU b (ao i) (σ i).1 (σ i).2 (σ (i+1)).2 k/\tT b hi (ao j) (σ j).1 k)/\ ¬(tT b hi (ao i) (σ i).1 k/\kU b (ao j) (σ j).1 (σ j).2 (σ (j+1)).2 k)/\ ¬(kU b (ao i) (σ i).1 (σ i).2 (σ (i+1)).2 k/\kU b (ao j) (σ j).1 (σ j).2 (σ (j+1)).2 k)
theorem Dr.frame {ops:Array Oper}{ao:Nat->bj}{σ:Nat->Fr×St}{ahd:Nat->List Nat}(D:Dr C b hi ops ao σ ahd){j:Nat}(hj:j < ops.size){k:Key}(hk: ¬ kU b (ao j) (σ j).1 (σ j).2 (σ (j+1)).2 k):val (σ (j+1)).1 (σ (j+1)).2 k=val (σ j).1 (σ j).2 k:=
 Gq (fr:=(σ j).1) (s:=(σ j).2) (fr' :=(σ (j+1)).1) (s' :=(σ (j+1)).2) (D.step j hj) (D.one j hj) (D.lv j hj).1 (D.lv j hj).2 D.cut hk
theorem um {fr fr1:Fr}{s s1:St}{t:Nat}(h:val fr s (.g t)=val fr1 s1 (.g t)):fr.env.kG t=fr1.env.kG t:=by
 rw [qT,qT,NC (F7 h)]
theorem Dr.kG {ops:Array Oper}{ao:Nat->bj}{σ:Nat->Fr×St}{ahd:Nat->List Nat}(D:Dr C b hi ops ao σ ahd)(t:Nat):∀j,j<=ops.size->(σ j).1.env.kG t=(σ 0).1.env.kG t
 | 0,_=>rfl
 | j+1,hj=>by
  rw [← D.kG t j (by omega)];by_cases hk:kU b (ao j) (σ j).1 (σ j).2 (σ (j+1)).2 (.g t)
  ·have:=D.lv j (by omega);simp only [kU]at hk;simp only [hk,Env.cX]at this;rw [this.1,this.2]
  ·exact um (D.frame (by omega) hk)
theorem Dr.Cb {ops:Array Oper}{ao:Nat->bj}{σ:Nat->Fr×St}{ahd:Nat->List Nat}(D:Dr C b hi ops ao σ ahd){k:Key}{i:Nat}:∀ {c:Nat},i<=c->c<=ops.size->(∀q,i<=q->q < c-> ¬ kU b (ao q) (σ q).1 (σ q).2 (σ (q+1)).2 k)->val (σ c).1 (σ c).2 k=val (σ i).1 (σ i).2 k
 | 0,h,_,_=>by obtain rfl:i=0:=by omega
               rfl
 | c+1,h,hc,hw=>by
  by_cases e:i=c+1
  ·subst e; rfl
  ·rw [D.frame (by omega) (hw c (by omega) (by omega))];exact D.Cb (by omega) (by omega) (fun q h1 h2=>hw q h1 (by omega))
abbrev nR (listed:Array Bool)(j:Nat):Prop:=listed.getD j false=true
structure PI (C:au)(b:Nat)(ops:Array Oper)(ao:Nat->bj)(σ:Nat->Fr×St)(listed:Array Bool)(fr:Fr)(s:St):Prop where
 size:listed.size=ops.size
 down:∀j,(h:j < ops.size)->nR listed j->∀i∈direct ops[j],nR listed i
 lv:∀t,fr.env.kG t=(σ 0).1.env.kG t
 cut:∀k c,c<=ops.size->(∀i,i < c->kU b (ao i) (σ i).1 (σ i).2 (σ (i+1)).2 k->nR listed i)->(∀i,c<=i->i < ops.size->nR listed i-> ¬ kU b (ao i) (σ i).1 (σ i).2 (σ (i+1)).2 k)->val fr s k=val (σ c).1 (σ c).2 k
theorem BH {listed:Array Bool}{j i:Nat}(hj:j < listed.size):nR (listed.setIfInBounds j true) i↔i=j\/nR listed i:=by
 unfold nR;rw [ck,dR,ck];by_cases h:j=i
 ·subst h; simp [hj]
 ·have: ¬ i=j:=fun e=>h e.symm;simp [h,this]
theorem PI.step {ops:Array Oper}{ao:Nat->bj}{σ:Nat->Fr×St}{ahd:Nat->List Nat}{listed:Array Bool}(D:Dr C b hi ops ao σ ahd)(M:PI C b ops ao σ listed fr s){j:Nat}(hj:j < ops.size)(hn: ¬ nR listed j)(hd:∀i∈direct ops[j],nR listed i):
  ∃s1 vo s2,(∀k,val fr s1 k=val fr s k)/\oper C b (ao j) fr s1=some (vo,s2)/\PI C b ops ao σ (listed.setIfInBounds j true) vo s2/\
   (∀k,kU b (ao j) (σ j).1 (σ j).2 (σ (j+1)).2 k->val vo s2 k=val (σ (j+1)).1 (σ (j+1)).2 k)/\(∀k, ¬ kU b (ao j) (σ j).1 (σ j).2 (σ (j+1)).2 k->val vo s2 k=val fr s k):=by
 have abF:∀i∈ahd j,nR listed i:=D.ahead (nR listed) M.down j hj hd;have hL:∀i,nR (listed.setIfInBounds j true) i↔i=j\/nR listed i:=fun i=>BH (by rw [M.size]; exact hj);have fr1:∀i,i < j-> ¬ nR listed i->∀k, ¬(kU b (ao i) (σ i).1 (σ i).2 (σ (i+1)).2 k/\tT b hi (ao j) (σ j).1 k):=fun i hi hl k=>(D.free i j hi hj (fun h=>hl (abF i h)) k).1;have nah:∀i,i < ops.size->nR listed i->j ∉ ahd i:=fun i hi hl h=>hn (D.ahead (nR listed) M.down i hi (M.down i hi hl) j h);have vo:∀i,j < i->i < ops.size->nR listed i->∀k, ¬(tT b hi (ao j) (σ j).1 k/\kU b (ao i) (σ i).1 (σ i).2 (σ (i+1)).2 k)/\ ¬(kU b (ao j) (σ j).1 (σ j).2 (σ (j+1)).2 k/\kU b (ao i) (σ i).1 (σ i).2 (σ (i+1)).2 k):=fun i hi hs hl k=>(D.free j i hi hs (nah i hs hl) k).2
 have ml:∀k,tT b hi (ao j) (σ j).1 k->val fr s k=val (σ j).1 (σ j).2 k:=fun k hk=>by
  refine M.cut k j (by omega) (fun i hi hw=> ?_) (fun i hi hs hl hw=> ?_)
  ·rcases Decidable.em (nR listed i) with h | h
   ·exact h
   ·exact absurd ⟨hw,hk⟩ (fr1 i hi h k)
  ·rcases Nat.lt_or_eq_of_le hi with h | h
   ·exact (vo i h hs hl k).1 ⟨hk,hw⟩
   ·subst h; exact hn hl
 obtain⟨s1,f2,s2,⟨g1,_⟩,g2,g3,g4⟩:=CZ (fr:=(σ j).1) (s:=(σ j).2) (fr' :=(σ (j+1)).1) (s' :=(σ (j+1)).2) (fr1:=fr) (s1:=s) (D.step j hj) (D.one j hj) (D.lv j hj).1 (D.lv j hj).2 ml (fun t=>by rw [M.lv,D.kG t j (by omega)]) D.cut;refine⟨s1,f2,s2,g1,g2, ?_,g3,g4⟩;refine⟨by simp [M.size],fun i hi hl=> ?_,fun t=> ?_,fun k c hc h1 h2=> ?_⟩
 ·rcases (hL i).1 hl with rfl | hl
  ·exact fun q hq=>(hL q).2 (.inr (hd q hq))
  ·exact fun q hq=>(hL q).2 (.inr (M.down i hi hl q hq))
 ·by_cases hk:kU b (ao j) (σ j).1 (σ j).2 (σ (j+1)).2 (.g t)
  ·rw [um (g3 _ hk),D.kG t (j+1) (by omega)]
  ·rw [um (g4 _ hk),M.lv]
 ·by_cases hk:kU b (ao j) (σ j).1 (σ j).2 (σ (j+1)).2 k
  ·have hcj:j < c:=by
    rcases aG j c with h | h
    ·exact h
    ·exact absurd hk (h2 j h hj ((hL j).2 (.inl rfl)))
   rw [g3 k hk];refine (D.Cb (by omega) hc (fun q PB Ar hw=> ?_)).symm;have hq:=(hL q).1 (h1 q Ar hw);rcases hq with rfl | hq
   ·omega
   ·exact (vo q (by omega) (by omega) hq k).2 ⟨hk,hw⟩
  ·rw [g4 k hk];refine M.cut k c hc (fun i hi hw=> ?_) (fun i hi hs hl=>h2 i hi hs ((hL i).2 (.inr hl)));rcases (hL i).1 (h1 i hi hw) with rfl | h
   ·exact absurd hw hk
   ·exact h
theorem mem_ready {ops:Array Oper}{listed:Array Bool}{i:Nat}(hs:listed.size=ops.size):i∈Region.ready .any ops listed↔∃h:i < ops.size, ¬ nR listed i/\∀q∈direct ops[i],nR listed q:=by
 unfold Region.ready;simp only [List.mem_filter,mg];constructor
 ·rintro⟨h1,h2⟩;refine⟨h1, ?_⟩;have KV:i < listed.size:=by omega
  simp only [ck,cz h1,cz KV,eQ,dn,aA,fe]at h2;refine⟨fun h=> ?_,fun q hq=> ?_⟩
  ·simp only [nR,ck,cz KV,eQ]at h;rw [h]at h2; cases h2.1
  ·simp only [direct,jP,Array.mem_toList_iff]at hq;obtain⟨e,he,hq⟩:=hq;split at hq
   ·rename_i hb;simp only [aa]at hq; subst hq;have:=h2.2;rw [Array.all_eq_true']at this;have:=this e he;rw [hb]at this;simp only [Bool.not_true,mY]at this;simp only [nR,ck];exact this
   ·cases hq
 ·rintro⟨h1,h2,h3⟩;have KV:i < listed.size:=by omega
  refine⟨h1, ?_⟩;simp only [ck,cz h1,cz KV,eQ,dn,aA,fe];refine⟨?_, ?_⟩
  ·simp only [nR,ck,cz KV,eQ]at h2;simpa using h2
  ·rw [Array.all_eq_true'];intro e he;by_cases hb:Region.binds .any e=true
   ·have:=h3 e.on (by simp only [direct,jP,Array.mem_toList_iff]; exact ⟨e,he,by simp [hb]⟩);simp only [nR,ck]at this;simp only [hb,this,Bool.not_true,mY]
   ·simp [hb]
def left (listed:Array Bool)(n:Nat):Nat:=(List.range n).countP fun i=> !listed.getD i false
theorem Dt {listed:Array Bool}{n j:Nat}(hs:listed.size=n)(hj:j < n)(hn: ¬ nR listed j):left listed n=left (listed.setIfInBounds j true) n+1:=by
 unfold left
 have kM:∀i,(listed.setIfInBounds j true).getD i false=if i=j then true else listed.getD i false:=fun i=>by
  rw [ck,dR,ck];by_cases h:j=i
  ·subst h; simp [hs,hj]
  ·have: ¬ i=j:=fun e=>h e.symm;simp [h,this]
 have key:∀m,m<=n->(List.range m).countP (fun i=> !listed.getD i false)=(List.range m).countP (fun i=> !(listed.setIfInBounds j true).getD i false)+(if j < m then 1 else 0):=by
  intro m;induction m with
  | zero=>intro _; simp
  | succ m ih=>
   intro hm;rw [nP,List.countP_append,List.countP_append,ih (by omega)];simp only [mS,List.countP_nil,kM m];by_cases h1:m=j
   ·subst h1;have:listed.getD m false=false:=by simpa [nR] using hn
    simp [this]
   ·have h2:(j < m+1)=(j < m):=by
     apply propext; omega
    simp only [aJ h1,h2];split <;> split <;> omega
 have:=key n (an _);rw [this,bJ hj]
theorem GC {rd:Option Nat}(hC:c9 pn P G C)(hX:∀f k,X f=some k->my P f k)(hg:gF pn G ρ0 w0){ops:Array Oper}{ao:Nat->bj}{σ:Nat->Fr×St}{ahd:Nat->List Nat}(D:Dr C b hi ops ao σ ahd)
  (Fo:∀j,(h:j < ops.size)->(ao j).op=(fQ P G X A ops ops[j]).op/\(ao j).dst=(fQ P G X A ops ops[j]).dst/\(ao j).guard=(fQ P G X A ops ops[j]).guard)(ml:∀j,j < ops.size->rd=none\/(ao j).op.nd=true){Q:Exit->Act->World->Prop}
  (hQ:∀a' w',Inv ρ0 w0 A.nt (σ ops.size).1 (σ ops.size).2 a' w' ->Q .normal a' w'):∀(n:Nat) (listed:Array Bool) (fr:Fr) (s:St) (a:Act) (w:World),left listed ops.size=n->PI C b ops ao σ listed fr s->Inv ρ0 w0 A.nt fr s a w->wpAnyIn (Rd rd) 0 P .any ops Q n listed a w:=by
 have jr:∀(listed:Array Bool) (fr:Fr) (s:St) (a:Act) (w:World),PI C b ops ao σ listed fr s->Inv ρ0 w0 A.nt fr s a w->(∀j,j < ops.size->nR listed j)->Q .normal a w:=fun listed fr s a w M hI dK=>
  hQ a w (Inv.vZ (fun k=>M.cut k ops.size (an _) (fun i hi _=>dK i hi) (fun i h1 h2=>by omega)) hI)
 intro n;induction n with
 | zero=>
  intro listed fr s a w hn M hI
  have dK:∀j,j < ops.size->nR listed j:=fun j hj=>by
   simp only [left,List.countP_eq_zero]at hn;have:=hn j (by simpa using hj);simp only [fe,Bool.not_eq_false]at this;exact this
  refine⟨List.eq_nil_iff_forall_not_mem.2 fun i hi=> ?_,jr listed fr s a w M hI dK⟩;obtain⟨h1,h2,_⟩:=(mem_ready M.size).1 hi;exact h2 (dK i h1)
 | succ n ih=>
  intro listed fr s a w hn M hI;refine⟨fun h0=>jr listed fr s a w M hI fun j hj=> ?_,fun i hi=> ?_⟩
  ·
   have:∀j,j < ops.size->nR listed j:=by
    intro j;induction j using Nat.strongRecOn with
    | ind j ihj=>
     intro hj;rcases Decidable.em (nR listed j) with h | h
     ·exact h
     ·have:j∈Region.ready .any ops listed:=(mem_ready M.size).2 ⟨hj,h,fun q hq=>ihj q (D.low j hj q hq) (by have:=D.low j hj q hq; omega)⟩;rw [h0]at this; cases this
   exact this j hj
  ·obtain⟨h1,h2,h3⟩:=(mem_ready M.size).1 hi;obtain⟨s1,vo,s2,k1,k2,k3,_,_⟩:=M.step D h1 h2 h3;have hI1:Inv ρ0 w0 A.nt fr s1 a w:=hI.vZ (fun k=>(k1 k).symm)
   have:=oG (Q:=Q) (K:=wpAnyIn (Rd rd) 0 P .any ops Q n (listed.setIfInBounds i true)) hC hX hg (ops:=ops) (Fo i h1) (ml i h1) k2 hI1 (fun a' w' sX =>
    ih _ vo s2 a' w' (by have:=Dt M.size h1 h2; omega) k3 sX)
   unfold wpOpIn;simp only [cz h1];split
   ·rename_i hw;rw [bJ hw]at this;exact this
   ·rename_i hw;rw [aJ hw]at this;exact⟨fun _ _=>trivial,this⟩
theorem tu:∀(l:List bj) (k i:Nat),((mz l k).1[i]?).map (fun o=>(o.op,o.dst,o.guard))=(l[i]?).map (fun o=>(o.op,o.dst,o.guard))
 | [],k,i=>by simp [mz]
 | o::r,k,i=>by
  simp only [mz];split
  ·cases i with
   | zero=>rfl
   | succ i=>simpa using tu r (k+1) i
  ·cases i with
   | zero=>rfl
   | succ i=>simpa using tu r k i
theorem Bf:∀(l:List bj) (k:Nat),(mz l k).1.length=l.length
 | [],k=>rfl
 | o::r,k=>by
  simp only [mz];split <;> simp [Bf]
theorem Inv.drew {nt:Nat}(h:Inv ρ0 w0 nt fr s a w):Inv ρ0 w0 nt fr s a { w with drawn:=w.drawn+1}:=by
 obtain⟨ρ,h1,h2,h3⟩:=h;have hK:Kp ρ w ρ { w with drawn:=w.drawn+1}:=⟨rfl,rfl,rfl,an _,fun _ _ _=>⟨rfl,rfl⟩,fun _ h=>⟨h,rfl⟩,fun _ _ h=> .inr ⟨h,fun _ hb=>⟨hb,rfl,an _,rfl⟩⟩⟩;exact⟨ρ,h1.trans hK,h2.mono hK,h3.bR hK.r (fun _ _=>mZ) rfl (fun b o hb=>⟨rfl,rfl,rfl,rfl⟩) (fun b hb=>h3.size b hb)⟩
theorem PI.start {ops:Array Oper}{ao:Nat->bj}{σ:Nat->Fr×St}(h:∀k,val fr s k=val (σ 0).1 (σ 0).2 k){ahd:Nat->List Nat}(D:Dr C b hi ops ao σ ahd):PI C b ops ao σ (Array.replicate ops.size false) fr s:=by
 have Ft:∀i, ¬ nR (Array.replicate ops.size false) i:=fun i hi=>by
  simp only [nR,ck,lH]at hi;split at hi <;> cases hi
 refine⟨by simp,fun j _ hl=>absurd hl (Ft j),fun t=>um (h _),fun k c hc h1 h2=> ?_⟩;rw [h];exact (D.Cb (aR _) hc (fun q _ hq hw=>Ft q (h1 q hq hw))).symm
theorem ze:∀(l:List bj) (k:Nat),k<=(mz l k).2
 | [],k=>an _
 | o::r,k=>by
  simp only [mz];split
  ·exact cU (Nat.le_succ k) (ze r (k+1))
  ·exact ze r k
theorem xX {r:Nat}{o:bj}(ho:lZ o=true)(hr:o.al=some r):∀(l:List bj) (k i:Nat),(mz l k).1[i]? =some o->r < (mz l k).2
 | [],k,i,h=>by simp [mz]at h
 | x::q,k,i,h=>by
  simp only [mz]at h ⊢;split at h
  ·rename_i hx;rw [bJ hx];cases i with
   | zero=>
    simp only [aQ,aa]at h;subst h;simp only [aa]at hr;subst hr;exact ze q (k+1)
   | succ i=>exact xX ho hr q (k+1) i (by simpa using h)
  ·rename_i hx;rw [aJ hx];cases i with
   | zero=>
    simp only [aQ,aa]at h;subst h;simp only [lZ,hr,Option.isSome_some,aA]at ho;simp [hx]at ho
   | succ i=>exact xX ho hr q k i (by simpa using h)
theorem H5 (hC:c9 pn P G C)(b k:Nat):c9 pn P G (lV b k C):=
 ⟨fun f l s r h hy args w=>by obtain ⟨d,s'⟩:=r; exact hC.enter f l s _ (yz hC.PG h) hy args w,fun f l s d s' ρ w vs h=>hC.calls f l s d s' ρ w vs (yz hC.PG h),RG hC.ro b k,fun y l s d s' ρ w u vs h=>hC.vw y l s d s' ρ w u vs (yz hC.PG h),LN hC.PG b k⟩
theorem E1 {ops0 ops:Array Oper}{k:Nat}{ys:List (bj×List Nat)}(hC:c9 pn P G C)(hr:IK (ops.toList.map (fQ P G X A ops0)) (ops.toList.map direct)=some (k,ys))(h:iy (lV s.n k C) s.n ys [] fr { s with n:=s.n+k}=some (fr',s')):
  ∃(ao:Nat->bj) (σ:Nat->Fr×St) (ahd:Nat->List Nat),Dr (lV s.n k C) s.n (s.n+k) ops ao σ ahd/\σ 0=(fr,{ s with n:=s.n+k})/\σ ops.size=(fr',s')/\(∀j,(h:j < ops.size)->(ao j).op=(fQ P G X A ops0 ops[j]).op/\(ao j).dst=(fQ P G X A ops0 ops[j]).dst/\(ao j).guard=(fQ P G X A ops0 ops[j]).guard)/\∀j,j < ops.size->∃l,(ao j,l)∈ys:=by
 unfold IK at hr;simp only at hr;split at hr
 ·rename_i ys abg O2;simp only [aa,ab]at hr;obtain⟨rfl,rfl⟩:=hr;obtain⟨Gi,Fx⟩:=Ay O2;obtain⟨σ,t0,t1,t2⟩:=wV h;have hlen:ys.length=ops.size:=by
   have:=congrArg List.length Gi;simpa [Bf] using this
  let ao:Nat->bj:=fun j=>match ys[j]? with
   | some (o,_)=>o
   | none=>⟨none,.bad,none,none⟩
  have O2:∀j,j < ops.size->∃l,ys[j]? =some (ao j,l):=fun j hj=>by
   have VE :j < ys.length:=by omega
   refine⟨ys[j].2, ?_⟩;simp only [ao,ae VE]
  have pL:∀j,(hj:j < ops.size)->(ops.toList.map direct)[j]? =some (direct ops[j]):=fun j hj=>by simp [hj]
  have D:Dr (lV s.n (mz (ops.toList.map (fQ P G X A ops0)) 0).2 C) s.n (s.n+(mz (ops.toList.map (fQ P G X A ops0)) 0).2) ops ao σ (fun j=>(Om (ops.toList.map direct)).getD j []):=by
   refine⟨fun j hj=> ?_,fun j hj=> ?_,M3 hC.PG _ _,fun j hj=> ?_,fun j hj i hi=> ?_,fun L hL j hj hd=> ?_,fun i j nO hj hna q=> ?_⟩
   ·obtain⟨l,hl⟩:=O2 j hj;exact t2.step j _ l hl
   ·obtain⟨l,hl⟩:=O2 j hj;exact (Fx j _ l hl).1
   ·obtain⟨l,hl⟩:=O2 j hj;exact t2.lv j _ l hl
   ·have:=AD abg j _ (pL j hj) i hi;omega
   ·refine sZ (ds:=ops.toList.map direct) (L:=L) (fun j d hd hLj=> ?_) _ [] [] rfl rfl (fun j d _ _ i hi=>by simp at hi) j _ (pL j hj) hd;rcases aG j ops.size with h | h
    ·rw [pL j h]at hd;simp only [aa]at hd; subst hd;exact hL j h hLj
    ·rw [eJ (by simpa using h)]at hd; cases hd
   ·obtain⟨lj,YR⟩:=O2 j hj;obtain⟨li,Qd⟩:=O2 i (by omega);obtain⟨oj,cj⟩:=Fx j _ lj YR;obtain⟨oi,_⟩:=Fx i _ li Qd;have hi:([]++(mz (ops.toList.map (fQ P G X A ops0)) 0).1.take j)[i]? =some (ao i):=by
     rw [cA,de,bJ nO,← Gi,aE,Qd]; rfl
    rcases yK cj i _ hi with g | ⟨g1,g2⟩
    ·simp only [aM,bL]at g;exact absurd g hna
    ·have hap:rj (ao i).op (ao j).op=0\/(rj (ao i).op (ao j).op=1/\kX (cE s.n (σ i).1.env (ao i)) (cE s.n (σ j).1.env (ao j))=true):=by
      refine g2.imp (fun h=>h) fun ⟨a2,g3⟩=>⟨a2, ?_⟩;rcases t2.chk j _ lj YR _ g3 with ⟨x,hx,_⟩ | ⟨i',o',l',e1,e2,e3,e4⟩
      ·simp at hx
      ·simp only [bL,aM]at e1;subst e1;rw [Qd]at e3;simp only [aa,ab]at e3;rw [← e3.1]at e4;exact (Bw e4).1
     have abZ:(ao i).op.kind=5->rj (ao i).op (ao j).op=1->∀q∈(cE s.n (σ j).1.env (ao j)).1,(σ (i+1)).2.get q=(σ i).2.get q:=by
      intro h5 h1;have g3:=(g2.resolve_left (by rw [h1]; decide)).2;rcases t2.chk j _ lj YR _ g3 with ⟨x,hx,_⟩ | ⟨i',o',l',e1,e2,e3,e4⟩
      ·simp at hx
      ·simp only [bL,aM]at e1;subst e1;rw [Qd]at e3;simp only [aa,ab]at e3;rw [← e3.1]at e4;exact (Bw e4).2 h5
     have Lj:∀q lq,ys[q]? =some (ao q,lq)->lZ (ao q)=true->∀r,(ao q).al=some r->s.n+r < s.n+(mz (ops.toList.map (fQ P G X A ops0)) 0).2:=fun q lq hq ho r hr=>Nat.add_lt_add_left (xX ho hr _ 0 q (by rw [← Gi,aE,hq]; rfl)) _;refine Qr oi oj g1 hap (Lj i _ Qd oi) (Lj j _ YR oj) (fun h5 h1=> ?_) abZ q;have g3:=(g2.resolve_left (by rw [h1]; decide)).2;rcases t2.kept j _ lj YR h5 _ g3 with ⟨x,hx,_⟩ | ⟨i',o',l',e1,e2,e3,e4⟩
     ·simp at hx
     ·simp only [bL,aM]at e1;subst e1;rw [Qd]at e3;simp only [aa,ab]at e3;rw [← e3.1]at e4;exact e4
  have Fo:∀j,(h:j < ops.size)->(ao j).op=(fQ P G X A ops0 ops[j]).op/\(ao j).dst=(fQ P G X A ops0 ops[j]).dst/\(ao j).guard=(fQ P G X A ops0 ops[j]).guard:=fun j hj=>by
   obtain⟨l,hl⟩:=O2 j hj;have h1:=tu (ops.toList.map (fQ P G X A ops0)) 0 j;rw [← Gi,aE,hl,aE,ke,cz hj]at h1;simp only [dn,aa,ab]at h1;exact h1
  refine⟨ao,σ,_,D,t0,by rw [← hlen]; exact t1,Fo,fun j hj=> ?_⟩;obtain⟨l,hl⟩:=O2 j hj;exact⟨l,aK hl⟩
 ·cases hr
structure FL (av:Nat)(z:D)(fr fL:Fr):Prop where
 a:fL.env.get av=some (.lv z)
 o:∀t,t≠av->fL.env.get t=fr.env.get t
 d:fL.defers=fr.defers
theorem FL.lv {av:Nat}{z:D}{fL:Fr}(h:FL av z fr fL)(r:Nat)(hr:fr.env.kG r=true):fL.env.kG r=true:=by
 by_cases e:r=av
 ·subst e; unfold Env.kG; rw [h.a]
 ·unfold Env.kG at hr ⊢; rw [h.o r e]; exact hr
theorem xJ {e:Env}{dst:Option Nat}{d:D}{t:Nat}:(iu e dst d).get t=if dst=some t then some d else e.get t:=by
 cases dst with
 | none=>simp [iu]
 | some u=>simp only [iu,dB,aa]
theorem FL.put {av:Nat}{z d:D}{fL:Fr}{dst:Option Nat}(h:FL av z fr fL)(hd:dst≠some av):FL av z { fr with env:=iu fr.env dst d} { fL with env:=iu fL.env dst d}:=
 ⟨by simp only [xJ,aJ hd]; exact h.a,fun t ht=>by simp only [xJ]; split; rfl; exact h.o t ht,h.d⟩
theorem JY {o:bj}{av:Nat}{z:D}{fL:Fr}(hF:FL av z fr fL)(h1:av ∉ o.sl)(h2:o.dst≠some av)(fK:lZ o=true)(h:oper C b o fr s=some (fr',s')):∃fL',oper C b o fL s=some (fL',s')/\FL av z fr' fL' :=by
 have hg:∀t∈o.sl,fL.env.get t=fr.env.get t:=fun t ht=>hF.o t (by rintro rfl; exact h1 ht);have xB:∀t∈o.op.sl,fL.env.get t=fr.env.get t:=fun t ht=>hg t (by unfold bj.sl; split; exact eE _ ht; exact ht);have hw:aI fL.env o.guard=aI fr.env o.guard:=by
  cases Xw:o.guard with
  | none=>rfl
  | some q=>
   obtain⟨t,c⟩:=q;have:=hg t (by unfold bj.sl; rw [Xw]; exact List.mem_cons_self);simp only [aI,this]
 unfold oper at h ⊢;rw [hw];split at h
 ·rename_i yv;split at h
  ·rename_i f args om;have e1:f.ev fL.env=f.ev fr.env:=fG fun t ht=> .inl (xB t (by rw [om]; simp [eN.sl,ht]));have e2:sK fL.env args=sK fr.env args:=lD fun t ht=> .inl (xB t (by rw [om]; simp [eN.sl,ht]));simp only [om,e1,e2];split at h
   ·rename_i h3 h4;simp only [aa,ab]at h;obtain⟨rfl,rfl⟩:=h;refine⟨_,rfl, ?_⟩;have:=hF.put (d:= .gJ []) h2;exact⟨this.a,this.o,by simp only [hF.d]⟩
   ·cases h
  ·rename_i x om;simp [lZ,om]at fK
  ·rename_i r sz x v om;have e1:x.zb fL.env=x.zb fr.env:=lA fun t ht=> .inl (xB t (by rw [om]; simp [eN.sl,ht]));have e2:v.ev fL.env=v.ev fr.env:=fG fun t ht=> .inl (xB t (by rw [om]; simp [eN.sl,ht]));have e3:fL.env.get r=fr.env.get r:=xB r (by rw [om]; simp [eN.sl]);have cC:r≠av:=by rintro rfl; exact h1 (by unfold bj.sl; rw [om]; split <;> simp [eN.sl])
   simp only [om,e1,e2,e3];split at h
   ·split at h
    ·split at h
     ·simp only [aa,ab]at h;obtain⟨rfl,rfl⟩:=h;refine⟨_,rfl, ?_⟩;refine FL.put (fr:= { fr with env:=_}) (fL:= { fL with env:=_}) ⟨?_,fun t ht=> ?_,hF.d⟩ h2
      ·simp only [dB,aJ cC]; exact hF.a
      ·simp only [dB]; split; rfl; exact hF.o t ht
     ·cases h
    ·cases h
   ·cases h
  ·rename_i n1 n2 n3;split at h
   ·rename_i d s0 hF0;simp only [aa,ab]at h;obtain⟨rfl,rfl⟩:=h;have:=Mc (e' :=fL.env) (fun t ht=> .inl (xB t ht).symm) hF.lv (fun a sz x hp=>(xB a (by rw [hp]; simp [eN.sl])).symm) hF0;refine⟨{ fL with env:=iu fL.env o.dst d}, ?_,hF.put h2⟩;generalize o.op=p at *
    cases p <;> first
     | (exact absurd rfl (n1 _ _))
     | (exact absurd rfl (n2 _))
     | (exact absurd rfl (n3 _ _ _ _))
     | (simp only [this])
   ·cases h
 ·rename_i yv;simp only [aa,ab]at h;obtain⟨rfl,rfl⟩:=h;exact⟨_,rfl,hF.put h2⟩
 ·cases h
theorem Cu {av:Nat}:∀ {e:Env},e.tU av=true->∀t k c,e.get t=some (.iI k c)->k≠av
 | [],_,t,k,c,h=>by cases h
 | (u,d)::r,hn,t,k,c,h=>by
  have hr:Env.tU av r=true/\∀k c,d= .iI k c->k≠av:=by
   unfold Env.tU at hn;split at hn
   ·rename_i k' c';split at hn
    ·cases hn
    ·rename_i hb;refine⟨hn,fun k c e=> ?_⟩;cases e;rintro rfl;simp at hb
   ·rename_i cC;exact⟨hn,fun k c e=>absurd e (cC k c)⟩
  rw [dB]at h;split at h
  ·simp only [aa]at h; exact hr.2 k c h
  ·exact Cu hr.1 t k c h
def isL (av:Nat):D->Bool
 | .iI k _=>Nat.beq av k
 | _=>false
def Env.cut (av:Nat)(e:Env):Env:=e.filter fun p=> !(isL av p.2)
theorem IQ {av:Nat}:∀ {e:Env},Env.tU av e=e.all fun p=> !(isL av p.2)
 | []=>rfl
 | (t,d)::r=>by
  have ih:=IQ (av:=av) (e:=r);simp only [gQ,← ih];cases d <;> simp only [Env.tU,isL,pj,fM];rename_i k c;cases Nat.beq av k <;> rfl
theorem Rb {av:Nat}{e:Env}:(Env.cut av e).tU av=true:=by
 rw [IQ,Env.cut,List.all_filter];simp
theorem ux {av:Nat}:∀ {e:Env} {t:Nat},(∀c,e.get t≠some (.iI av c))->(Env.cut av e).get t=e.get t
 | [],t,_=>rfl
 | (u,d)::r,t,h=>by
  have ih:u≠t->(Env.cut av r).get t=Env.get r t:=fun cC=>ux fun c hc=>h c (by rw [dB,aJ cC]; exact hc);rw [dB]at h;unfold Env.cut at ih ⊢;rw [dB,List.filter_cons];by_cases hu:u=t
  ·simp only [hu,ep]at h ⊢;have hl:isL av d=false:=by
    cases d <;> simp only [isL];rename_i k c;cases hb:Nat.beq av k with
    | false=>rfl
    | true=>have:=aF hb; subst this; exact absurd rfl (h c)
   simp only [hl,pj,ep,dB]
  ·simp only [aJ hu];split
   ·rw [dB,aJ hu]; exact ih hu
   ·exact ih hu
theorem zm {av t:Nat}{d:D}{e:Env}(h:Env.tU av ((t,d)::e)=true):Env.tU av e=true:=by
 unfold Env.tU at h;split at h
 ·split at h
  ·cases h
  ·exact h
 ·exact h
theorem xF {av:Nat}{dst:Option Nat}{d:D}{e:Env}(h:(iu e dst d).tU av=true):e.tU av=true:=by
 cases dst with
 | none=>exact h
 | some t=>exact zm h
theorem Pm {o:bj}{av:Nat}(h:oper C b o fr s=some (fr',s'))(hn:fr'.env.tU av=true):fr.env.tU av=true:=by
 unfold oper at h;split at h
 ·split at h
  ·split at h
   ·simp only [aa,ab]at h;obtain⟨rfl,rfl⟩:=h;exact xF hn
   ·cases h
  ·split at h
   ·split at h
    ·simp only [aa,ab]at h;obtain⟨rfl,rfl⟩:=h;exact zm hn
    ·cases h
   ·cases h
  ·split at h
   ·split at h
    ·split at h
     ·simp only [aa,ab]at h;obtain⟨rfl,rfl⟩:=h;exact zm (xF hn)
     ·cases h
    ·cases h
   ·cases h
  ·split at h
   ·simp only [aa,ab]at h;obtain⟨rfl,rfl⟩:=h;exact xF hn
   ·cases h
 ·simp only [aa,ab]at h;obtain⟨rfl,rfl⟩:=h;exact xF hn
 ·cases h
theorem Dr.tU {ops:Array Oper}{ao:Nat->bj}{σ:Nat->Fr×St}{ahd:Nat->List Nat}{av:Nat}(D:Dr C b hi ops ao σ ahd)(hn:(σ ops.size).1.env.tU av=true):∀d j,j+d=ops.size->(σ j).1.env.tU av=true
 | 0,j,h=>by obtain rfl:j=ops.size:=by omega
             exact hn
 | d+1,j,h=>Pm (D.step j (by omega)) (D.tU hn d (j+1) (by omega))
def Xq (av:Nat)(fr:Fr):Prop:=∀t k c,fr.env.get t=some (.iI k c)->k≠av
theorem OP {fr fr1:Fr}{s s1:St}{t k c:Nat}(h:val fr s (.g t)=val fr1 s1 (.g t))(h1:fr.env.get t=some (.iI k c)):fr1.env.get t=some (.iI k c):=by
 rcases F7 h with e | ⟨x,y,e1,e2⟩
 ·rw [← e]; exact h1
 ·rw [e1]at h1; cases h1
theorem V8 {fr fL:Fr}{s s1:St}(h:∀k,val fr s1 k=val fr s k):∀k,val fL s1 k=val fL s k:=fun k=>by
 have:=h k;cases k with
 | g t=>rfl
 | c t=>rfl
 | d=>rfl
 | h o=>exact this
 | hc o c=>exact this
 | n=>exact this
theorem OE {rd:Option Nat}{ops:Array Oper}{Q:Exit->Act->World->Prop}{n:Nat}{listed:Array Bool}{a:Act}{w:World}(hs:listed.size=ops.size)(dK:∀j,j < ops.size->nR listed j)(hQ:Q .normal a w):wpAnyIn (Rd rd) 0 P .any ops Q n listed a w:=by
 have h0:Region.ready .any ops listed=[]:=List.eq_nil_iff_forall_not_mem.2 fun i hi=>by
  obtain⟨h1,h2,_⟩:=(mem_ready hs).1 hi;exact h2 (dK i h1)
 cases n with
 | zero=>exact ⟨h0,hQ⟩
 | succ n=>exact ⟨fun _=>hQ,fun i hi=>by rw [h0]at hi; cases hi⟩
theorem GR {Cd:au}{rd:Option Nat}(hC:c9 pn P G C)(hCd:c9 pn P G Cd)(hX:∀f k,X f=some k->my P f k)(hg:gF pn G ρ0 w0){ops K6:Array Oper}{m:Nat}(fR:ops.size=m+2)(tZ:K6.size=m)(NQ:∀j (h:j < m),K6[j]'(by omega)=ops[j]'(by omega)){ao:Nat->bj}{σ:Nat->Fr×St}{ahd:Nat->List Nat}(DR:Dr Cd b hi K6 ao σ ahd)
  (Fo:∀j,(h:j < m)->(ao j).op=(fQ P G X A ops (ops[j]'(by omega))).op/\(ao j).dst=(fQ P G X A ops (ops[j]'(by omega))).dst/\(ao j).guard=(fQ P G X A ops (ops[j]'(by omega))).guard)(ml:∀j,j < m->rd=none\/(ao j).op.nd=true)
  {oA oL:bj}{av:Nat}{z:D}(eA:fQ P G X A ops (ops[m]'(by omega))=oA)(fA:oA=⟨some av,.nC (.c z),none,none⟩)(eL:fQ P G X A ops (ops[m+1]'(by omega))=oL)(Lb:rd=none\/oL.op.nd=true)
  (hdA:direct (ops[m]'(by omega))=[])(hdL:∀i,i < m+1->i∈direct (ops[m+1]'(by omega)))(hlL:∀i∈direct (ops[m+1]'(by omega)),i < m+1)(tg:∀j,j < m->av ∉ (ao j).sl/\(ao j).dst≠some av)
  {f1:Fr}{s1:St}(om:oper C 0 oA (σ m).1 (σ m).2=some (f1,s1))(hL:oper C 0 oL f1 s1=some (fr',s')){Q:Exit->Act->World->Prop}(hQ:∀a' w',Inv ρ0 w0 A.nt fr' s' a' w' ->Q .normal a' w'):
  ∀(n:Nat) (listed l1:Array Bool) (fr:Fr) (s:St) (a:Act) (w:World),left listed ops.size=n->listed.size=m+2->PI Cd b K6 ao σ l1 fr s->(∀j,j < m->(nR listed j↔nR l1 j))-> ¬ nR listed (m+1)->Xq av fr->
   ((¬ nR listed m/\Inv ρ0 w0 A.nt fr s a w)\/(nR listed m/\∃fL,FL av z fr fL/\Inv ρ0 w0 A.nt fL s a w))->wpAnyIn (Rd rd) 0 P .any ops Q n listed a w:=by
 have hf1:f1= { (σ m).1 with env:=(av,.lv z)::(σ m).1.env}/\s1=(σ m).2/\(σ m).1.env.tU av=true/\z.st=true:=by
  subst fA;simp only [oper,aI,bP.ev]at om;split at om
  ·rename_i hb;simp only [aa,ab]at om;simp only [aA]at hb;exact⟨om.1.symm,om.2.symm,hb.1,hb.2⟩
  ·cases om
 obtain⟨rfl,rfl,ab5,acx⟩:=hf1;have hσ:∀j,j<=m->Xq av (σ j).1:=fun j hj=>Cu (DR.tU (by rw [tZ]; exact ab5) (m - j) j (by omega));have conv:∀ {i:Nat} (h1:i < ops.size) {K:Act->World->Prop} {a:Act} {w:World},(if Region.wanted ops[i] (yielded ops a.tmps) then ops[i].wpIn (Rd rd) 0 P a w K Q else K (a.put ops[i].dst undef) w)->wpOpIn (Rd rd) 0 P ops Q i K a w:=by
  intro i h1 K a w this;unfold wpOpIn;simp only [cz h1];split
  ·rename_i hw;rw [bJ hw]at this;exact this
  ·rename_i hw;rw [aJ hw]at this;exact⟨fun _ _=>trivial,this⟩
 intro n;induction n with
 | zero=>
  intro listed l1 fr s a w hn KV M hl qW Ft hI;exfalso;simp only [left,List.countP_eq_zero]at hn;have:=hn (m+1) (by simp [fR]);simp only [fe,Bool.not_eq_false]at this;exact qW this
 | succ n ih=>
  intro listed l1 fr s a w hn KV M hl qW Ft hI;have Ot:listed.size=ops.size:=by omega
  refine⟨fun h0=> ?_,fun i hi=> ?_⟩
  ·exfalso;have dK:∀j,j < m+1->nR listed j:=by
    intro j;induction j using Nat.strongRecOn with
    | ind j ihj=>
     intro hj;rcases Decidable.em (nR listed j) with h | h
     ·exact h
     ·have:j∈Region.ready .any ops listed:=(mem_ready Ot).2 ⟨by omega,h,fun q hq=> ?_⟩
      ·rw [h0]at this; cases this
      ·rcases aG j m with VE | VE
       ·have h2:=DR.low j (by omega) q (by rw [NQ j VE]; exact hq);exact ihj q h2 (by omega)
       ·obtain rfl:j=m:=by omega
        rw [hdA]at hq; cases hq
   have:m+1∈Region.ready .any ops listed:=(mem_ready Ot).2 ⟨by omega,qW,fun q hq=>dK q (hlL q hq)⟩;rw [h0]at this; cases this
  ·obtain⟨h1,h2,h3⟩:=(mem_ready Ot).1 hi;have gL:∀q,nR (listed.setIfInBounds i true) q↔q=i\/nR listed q:=fun q=>BH (by omega);have Nz:left (listed.setIfInBounds i true) ops.size=n:=by have:=Dt Ot h1 h2; omega
   refine conv h1 ?_
   rcases h9 i m with hm | rfl | hm
   ·
    have xo : ¬ nR l1 i:=fun h=>h2 ((hl i hm).2 h)
    have h3' :∀q∈direct (K6[i]'(by omega)),nR l1 q:=fun q hq=>by
     have h4:=DR.low i (by omega) q hq;exact (hl q (by omega)).1 (h3 q (by rw [← NQ i hm]; exact hq))
    obtain⟨s2,vo,s3,k1,k2,k3,k4,k5⟩:=M.step DR (by omega) xo h3'
    have aaj:Xq av vo:=fun t k c ht=>by
     by_cases hw:kU b (ao i) (σ i).1 (σ i).2 (σ (i+1)).2 (.g t)
     ·exact hσ (i+1) (by omega) t k c (OP (k4 _ hw) ht)
     ·exact Ft t k c (OP (k5 _ hw) ht)
    have sv:∀j,j < m->(nR (listed.setIfInBounds i true) j↔nR (l1.setIfInBounds i true) j):=fun j hj=>by
     rw [gL,BH (by rw [M.size]; omega),hl j hj]
    have YN: ¬ nR (listed.setIfInBounds i true) (m+1):=fun h=>by
     rcases (gL _).1 h with h | h
     ·omega
     ·exact qW h
    rcases hI with ⟨p1,p2⟩ | ⟨p1,fL,p2,p3⟩
    ·refine oG (K:=wpAnyIn (Rd rd) 0 P .any ops Q n (listed.setIfInBounds i true)) hCd hX hg (ops:=ops) (Fo i hm) (ml i hm) k2 (p2.vZ fun k=>(k1 k).symm) fun a' w' sX => ?_
     exact ih _ _ vo s3 a' w' Nz (by simp [KV]) k3 sv YN aaj (.inl ⟨fun h=>by
      rcases (gL _).1 h with h | h
      ·omega
      ·exact p1 h,sX⟩)
    ·obtain⟨fL2,q1,q2⟩:=JY p2 (tg i hm).1 (tg i hm).2 (DR.one i (by omega)) k2;refine oG (K:=wpAnyIn (Rd rd) 0 P .any ops Q n (listed.setIfInBounds i true)) hCd hX hg (ops:=ops) (Fo i hm) (ml i hm) q1 (p3.vZ fun k=>(V8 (fL:=fL) k1 k).symm) fun a' w' sX => ?_;exact ih _ _ vo s3 a' w' Nz (by simp [KV]) k3 sv YN aaj (.inr ⟨(gL _).2 (.inr p1),fL2,q2,sX⟩)
   ·
    rcases hI with ⟨p1,p2⟩ | ⟨p1,_⟩
    ·have e1:∀t,(Env.cut av fr.env).get t=fr.env.get t:=fun t=>ux fun c h=>Ft t av c h rfl
     have hIc:Inv ρ0 w0 A.nt { fr with env:=Env.cut av fr.env} s a w:=p2.vZ fun k=>by
      cases k <;> simp only [val,e1]
     have j9 :oper C 0 oA { fr with env:=Env.cut av fr.env} s=some ({ fr with env:=(av,.lv z)::Env.cut av fr.env},s):=by
      subst fA;simp only [oper,aI,bP.ev,Rb,acx,fk]
     refine oG (K:=wpAnyIn (Rd rd) 0 P .any ops Q n (listed.setIfInBounds i true)) hC hX hg (ops:=ops) (o:=ops[i]) (by rw [eA]; exact ⟨rfl,rfl,rfl⟩) (.inr (by rw [fA]; rfl)) j9 hIc fun a' w' sX => ?_;refine ih _ l1 fr s a' w' Nz (by simp [KV]) M (fun j hj=> ?_) (fun h=> ?_) Ft (.inr ⟨(gL _).2 (.inl rfl),{ fr with env:=(av,.lv z)::Env.cut av fr.env},⟨?_,fun t ht=> ?_,rfl⟩,sX⟩)
     ·rw [gL]
      exact⟨fun h=>by
       rcases h with h | h
       ·omega
       ·exact (hl j hj).1 h,fun h=> .inr ((hl j hj).2 h)⟩
     ·rcases (gL _).1 h with h | h
      ·omega
      ·exact qW h
     ·simp only [dB,ep]
     ·simp only [dB,aJ (bO ht),e1]
    ·exact absurd p1 h2
   ·
    obtain rfl:i=m+1:=by omega
    have dK:∀j,j < m+1->nR listed j:=fun j hj=>h3 j (hdL j hj);rcases hI with ⟨p1,_⟩ | ⟨_,fL,p2,p3⟩
    ·exact absurd (dK m (by omega)) p1
    have hv:∀k,val fr s k=val (σ m).1 (σ m).2 k:=fun k=>by
     have:=M.cut k K6.size (an _) (fun j hj _=>(hl j (by omega)).1 (dK j (by omega))) (fun j h4 h5=>by omega);rw [tZ]at this; exact this
    have hvL:∀k,val fL s k=val { (σ m).1 with env:=(av,.lv z)::(σ m).1.env} (σ m).2 k:=fun k=>by
     cases k with
     | g t=>
      by_cases ht:t=av
      ·subst ht; simp only [val,dB,ep,p2.a]
      ·have:=hv (.g t);simp only [val,dB,aJ (bO ht),p2.o t ht]at this ⊢;exact this
     | c t=>
      by_cases ht:t=av
      ·subst ht; simp only [val,dB,ep,p2.a]
      ·have:=hv (.c t);simp only [val,dB,aJ (bO ht),p2.o t ht]at this ⊢;exact this
     | d=>have:=hv .d; simp only [val,p2.d]at this ⊢; exact this
     | h o=>exact hv (.h o)
     | hc o c=>exact hv (.hc o c)
     | n=>exact hv .n
    refine oG (K:=wpAnyIn (Rd rd) 0 P .any ops Q n (listed.setIfInBounds (m+1) true)) hC hX hg (ops:=ops) (o:=ops[m+1]) (by rw [eL]; exact ⟨rfl,rfl,rfl⟩) Lb hL (p3.vZ hvL) fun a' w' sX => ?_;refine OE (by simp [Ot]) (fun j hj=>(gL j).2 ?_) (hQ _ _ sX);by_cases e:j=m+1
    ·exact .inl e
    ·exact .inr (dK j (by omega))
theorem BN {n i:Nat}: ¬ nR (Array.replicate n false) i:=fun hi=>by
 simp only [nR,ck,lH]at hi;split at hi <;> cases hi
theorem zO {C:au}{av:Nat}{z:D} {fr fr' :Fr} {s s' :St}(om:oper C b ⟨some av,.nC (.c z),none,none⟩ fr s=some (fr',s')):fr.env.tU av=true:=by
 simp only [oper,aI,bP.ev]at om;split at om
 ·rename_i hb;simp only [aA]at hb;exact hb.1
 ·cases om
theorem yC {m:Nat}:left (Array.replicate m false) m=m:=by
 unfold left;rw [List.countP_eq_length.2]
 ·simp
 ·intro i hi;simp only [ck,lH];split <;> rfl
theorem Oa (hm:P.follows .mixedOrders=true)(hC:c9 pn P G C)(hX:∀f k,X f=some k->my P f k):qH pn P G X C:=by
 intro L rd A ρ0 w0 id ops fr s e fr' s' a w tK hg h hI;unfold Jt at h tK;simp only at h tK
 have hup:∀k,Inv ρ0 w0 A.nt fr { s with n:=s.n+k} a w:=fun k=>by
  obtain⟨ρ,h1,h2,h3⟩:=hI;exact⟨ρ,h1,h2,⟨fun o x hx=>by have:=h3.lt o x hx; show o < s.n+_; omega,h3.ok,h3.no,h3.live,h3.size⟩⟩
 split at h
 ·rename_i k y hd;simp only [hd]at tK;simp only [bW]at h;split at h
  ·cases h
  ·split at h
   ·rename_i fr1 s1 h1;simp only [aa,ab]at h;obtain⟨rfl,rfl,rfl⟩:=h;obtain⟨ao,σ,ahd,DR,t0,t1,Fo,rY⟩:=E1 hC hd h1;refine wpIn_region_any (n:=0) hm ?_;refine GC (rd:=rd) (b:=s.n) (H5 hC _ _) hX hg DR Fo (fun j hj=>tK.imp (fun h=>h) fun hq=> ?_) ?_ _ _ fr _ a _ yC (PI.start (fun k=>by rw [t0]) DR) (hup k).drew
    ·simp only [AC.nd,dh]at hq;obtain⟨l,hl⟩:=rY j hj;exact hq _ hl
    ·rw [t1];exact fun a' w' sX =>⟨trivial,sX⟩
   ·cases h
 ·rename_i Fz;simp only [Fz]at tK;split at h
  ·rename_i ht;simp only [ht]at tK;split at h
   ·rename_i k y hd;simp only [hd]at tK;unfold Up at ht;split at ht
    ·rename_i av z oL d hl pL;simp only [aA,dh,mg,fe]at ht;obtain⟨⟨tW,sO⟩,Jj⟩:=ht;have hlen:(ops.toList.map (fQ P G X A ops)).length=ops.size:=by simp
     have WD:2<=ops.size:=by
      have:=congrArg List.length hl;simp only [eB,hlen,aU,bL]at this;omega
     obtain⟨m,zE⟩:∃m,ops.size=m+2:=⟨ops.size - 2,by omega⟩;have Ae:(ops.toList.map (fQ P G X A ops)).length - 2=m:=by omega
     rw [Ae]at hd hl pL Jj h tK;rw [show (ops.toList.map (fQ P G X A ops)).length - 1=m+1 by omega]at tW sO;have at1:∀(f:Oper->bj) i (h:i < ops.size),(ops.toList.map f)[i]? =some (f ops[i]):=fun f i h=>by simp [h]
     have at2:∀i (h:i < ops.size),(ops.toList.map direct)[i]? =some (direct ops[i]):=fun i h=>by simp [h]
     have eA:fQ P G X A ops (ops[m]'(by omega))=⟨some av,.nC (.c z),none,none⟩:=by
      have:=congrArg (fun q=>q[0]?) hl;simp only [cW,fP,at1 _ m (by omega),aQ,aa]at this;exact this
     have eL:fQ P G X A ops (ops[m+1]'(by omega))=oL:=by
      have:=congrArg (fun q=>q[1]?) hl;simp only [cW,at1 _ (m+1) (by omega),bX,aQ,aa]at this;exact this
     have dA:direct (ops[m]'(by omega))=[]:=by
      have:=congrArg (fun q=>q[0]?) pL;simp only [cW,fP,at2 m (by omega),aQ,aa]at this;exact this
     have dL:direct (ops[m+1]'(by omega))=d:=by
      have:=congrArg (fun q=>q[1]?) pL;simp only [cW,at2 (m+1) (by omega),bX,aQ,aa]at this;exact this
     have tZ:(ops.toList.take m).toArray.size=m:=by simp; omega
     have NQ:∀j (h:j < m),(ops.toList.take m).toArray[j]'(by omega)=ops[j]'(by omega):=fun j h=>by simp
     rw [← List.map_take,← List.map_take]at hd;rw [hl]at h tK;simp only [bW]at h;simp only [AC.nd,aA,gQ,List.all_nil,lG]at tK;split at h
     ·rename_i vo s2 h2;split at h2
      ·cases h2
      ·split at h2
       ·rename_i fr1 s1 h1;simp only [aa,ab]at h2;obtain⟨_,rfl,rfl⟩:=h2;split at h
        ·rename_i fr3 s3 h3;simp only [aa,ab]at h;obtain⟨rfl,rfl,rfl⟩:=h;obtain⟨ao,σ,ahd,DR,t0,t1,Fo,rY⟩:=E1 (ops0:=ops) (ops:=(ops.toList.take m).toArray) hC (by simpa using hd) h1;rw [tZ]at t1;simp only [opers]at h3;split at h3
         ·rename_i fr4 s4 h4;split at h3
          ·rename_i fr5 s5 h5;simp only [aa,ab]at h3;obtain⟨rfl,rfl⟩:=h3;refine wpIn_region_any (n:=0) hm ?_
           have Ys :∀j,(h:j < m)->(ao j).op=(fQ P G X A ops (ops[j]'(by omega))).op/\(ao j).dst=(fQ P G X A ops (ops[j]'(by omega))).dst/\(ao j).guard=(fQ P G X A ops (ops[j]'(by omega))).guard:=fun j hj=>by
            have:=Fo j (by omega);rw [NQ j hj]at this; exact this
           refine GR (rd:=rd) (b:=s.n) (m:=m) hC (H5 hC _ _) hX hg zE tZ NQ DR Ys (fun j hj=>tK.imp (fun h=>h) fun hq=> ?_) eA rfl eL (tK.imp (fun h=>h) fun hq=>hq.2.2) dA (fun i hi=>by rw [dL]; exact o8.1 (tW i hi)) (fun i hi=>by rw [dL]at hi; exact ax (sO i hi)) (fun j hj=> ?_) (by rw [t1]; exact h4) h5 (fun a' w' sX =>⟨trivial,sX⟩) _ (Array.replicate ops.size false) (Array.replicate (ops.toList.take m).toArray.size false) fr _ a _ yC (by simp [zE]) (PI.start (fun k=>by rw [t0]) DR) (fun j hj=> ?_) (fun h=> ?_) ?_ (.inl ⟨fun h=> ?_,(hup k).drew⟩)
           ·have hq:=hq.1;simp only [dh]at hq;obtain⟨l,hl⟩:=rY j (by omega);exact hq _ hl
           ·have hx:=Jj (fQ P G X A ops (ops[j]'(by omega))) (aK (i:=j) (by rw [de,bJ hj,at1 _ j (by omega)]));obtain⟨g1,g2,g3⟩:=Ys j hj;refine⟨fun hm=> ?_,fun hm=> ?_⟩
            ·have:av∈(fQ P G X A ops (ops[j]'(by omega))).sl:=by
              unfold bj.sl at hm ⊢;rw [← g1,← g3]; exact hm
             rw [o8.2 this]at hx; cases hx.1
            ·rw [← g2,hm]at hx;simp [tw,pX]at hx
           ·exact⟨fun h=>absurd h BN,fun h=>absurd h BN⟩
           ·exact BN h
           ·have:=Cu (DR.tU (av:=av) (by rw [tZ,t1]; exact zO h4) m 0 (by omega));rw [t0]at this; exact this
           ·exact BN h
          ·cases h3
         ·cases h3
        ·cases h
       ·cases h2
     ·rename_i cC;exfalso;cases h6:(s.ro && Nat.blt 0 k) with
      | true=>simp only [h6]at h; cases h
      | false=>cases h7:iy (lV s.n k C) s.n y [] fr { s with n:=s.n+k} with
       | none=>simp only [h6,h7]at h; cases h
       | some q=>exact cC q.1 q.2 (by simp only [h6,h7])
    ·cases ht
   ·simp [bW]at h
  ·simp [bW]at h
end Go.Ab
