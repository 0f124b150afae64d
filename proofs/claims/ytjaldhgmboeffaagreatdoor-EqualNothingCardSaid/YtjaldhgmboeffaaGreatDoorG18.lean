/- Part. -/
import Derived.Test.YtjaldhgmboeffaaGreatDoorG17
set_option linter.unusedSimpArgs false
set_option linter.unusedVariables false
set_option linter.unusedSectionVars false
namespace Go.Ab
open Go
variable [eV]
variable {ρ ρ' ρ0:Gh}{w w' w0:World}{P:Program}{pn:jn}{G:Gl}{X:iw}{A:nA} {s s' :St}{a:Act}{C:ay} {fr fr' :Fr}{b hi:Nat}
theorem wm {acc:List Fp}{y:Fp}:∀ {l:List Nat},fh acc y l=true->∀i∈l,∃x,acc[i]? =some x/\lz x y=true
 | [],_,i,h=>by cases h
 | j::r,h,i,hi=>by
  simp only [fh]at h;split at h
  ·rename_i x hx;split at h
   ·rename_i ha;rcases bR.1 hi with rfl | hi
    ·exact⟨x,hx,ha⟩
    ·exact wm h i hi
   ·cases h
  ·cases h
theorem uK {l m:List D}:∀ {rg:List (Nat×Nat×Nat)},cP l m rg=true->∀r∈rg,∀c,r.2.1<=c->c < r.2.1+r.2.2->l[c]? =m[c]?
 | [],_,r,h=>by cases h
 | (x,c0,n)::rg,h,r,hr=>by
  simp only [cP,aB]at h;rcases bR.1 hr with rfl | hr
  ·intro c h1 h2;simp only at h1 h2;have:=congrArg (fun q=>q[c - c0]?) (D.pK _ _ h.1);simp only [de,cX]at this;rw [bT (by omega),bT (by omega),show c0+(c - c0)=c by omega]at this;exact this
  ·exact uK h.2 r hr
theorem NJ {u v:D}(h1:u.flat.length=v.flat.length)(h2:u.isAgg=v.isAgg):qW u=qW v:=by
 cases u <;> cases v <;> simp_all [qW,D.flat,D.isAgg]
def C3 (rg:List (Nat×Nat×Nat))(q:Nat)(a b:Option Obj):Prop:=kg b=kg a/\∀c,Sf rg q c->jq b c=jq a c
theorem B5 {rg:List (Nat×Nat×Nat)}{q:Nat}{a b:Obj}(h:cS rg a b=true):C3 rg q (some a) (some b):=by
 unfold cS at h;split at h
 ·rename_i r rs t v t' v';simp only [aB,iQ,ib]at h;obtain⟨rfl,h1,h2,h3⟩:=h;refine⟨by simp only [kg,aa,Obj.var.injEq,true_and]; exact (NJ h1 h2).symm,fun c hc=> ?_⟩;rcases hc with hc | ⟨x,hx,_,zk,uo⟩
  ·cases hc
  ·simp only [jq]; exact (uK h3 x hx c zk uo).symm
 ·have:=Obj.beq_eq _ _ h;subst this;exact⟨rfl,fun _ _=>rfl⟩
theorem rz {rg:List (Nat×Nat×Nat)} {s s' :St}:∀ {l:List Nat},dE rg s s' l=false->∀q∈l,C3 rg q (s.get q) (s'.get q)
 | [],_,q,hq=>by cases hq
 | o::r,h,q,hq=>by
  simp only [dE]at h;split at h
  ·rename_i x y hx hy;split at h
   ·rename_i hb;rcases bR.1 hq with rfl | hq
    ·rw [hx,hy]; exact B5 hb
    ·exact rz h q hq
   ·cases h
  ·rename_i hx hy;rcases bR.1 hq with rfl | hq
   ·rw [hx,hy]; exact ⟨rfl,fun _ _=>rfl⟩
   ·exact rz h q hq
  ·cases h
theorem uN {acc:List Fp} {s s' :St}:∀ {l:List Nat},cK acc s s' l=false->∀i∈l,∃x,acc[i]? =some x/\∀q∈x.1,C3 x.2.2 q (s.get q) (s'.get q)
 | [],_,i,h=>by cases h
 | j::r,h,i,hi=>by
  simp only [cK]at h;split at h
  ·rename_i x hx;split at h
   ·cases h
   ·rename_i ha;rcases bR.1 hi with rfl | hi
    ·exact⟨x,hx,rz ha⟩
    ·exact uN h i hi
  ·cases h
theorem T.si:∀ {t:T Obj} {k:Nat},k ∉ T.keys t->t.get k=none
 | .nil,k,_=>rfl
 | .node o l r,k,h=>by
  simp only [T.keys,bK,jO,kK,not_exists,not_and]at h;obtain⟨h1,h2,h3⟩:=h;by_cases hk:k=0
  ·subst hk;rw [T.ju];cases o with
   | none=>rfl
   | some x=>simp at h1
  ·by_cases ho:k % 2=1
   ·rw [T.iY _ _ _ hk ho];exact T.si fun hm=>h2 _ hm (by omega)
   ·rw [T.iZ _ _ _ hk ho];exact T.si fun hm=>h3 _ hm (by omega)
theorem T.vS:∀ {t u:T Obj} {k:Nat},k ∉ T.diff t u->u.get k=t.get k
 | .nil,u,k,h=>by
  simp only [T.diff]at h;rw [T.si h]; rfl
 | .node o l r,.nil,k,h=>by
  simp only [T.diff]at h;rw [T.si h]; rfl
 | .node o l r,.node o' l' r',k,h=>by
  simp only [T.diff,bK,jO,kK,not_exists,not_and]at h;obtain⟨h1,h2,h3⟩:=h;by_cases hk:k=0
  ·subst hk;rw [T.ju,T.ju];cases o with
   | none=>
    cases o' with
    | none=>rfl
    | some y=>simp at h1
   | some x=>
    cases o' with
    | none=>simp at h1
    | some y=>
     simp only at h1;split at h1
     ·rename_i e; rw [Obj.beq_eq _ _ e]
     ·simp at h1
  ·by_cases ho:k % 2=1
   ·rw [T.iY _ _ _ hk ho,T.iY _ _ _ hk ho];exact T.vS fun hm=>h2 _ hm (by omega)
   ·rw [T.iZ _ _ _ hk ho,T.iZ _ _ _ hk ho];exact T.vS fun hm=>h3 _ hm (by omega)
theorem Z5 {s s' :St}{b:Nat}{e:Env}{o:bg}:(Jo s s' b e o).1=(cF b e o).1:=by unfold Jo; split <;> rfl
theorem ZP {s s' :St}{b:Nat}{e:Env}{o:bg}:(Jo s s' b e o).2.2=(cF b e o).2.2:=by unfold Jo; split <;> rfl
theorem xU {a b c:List Nat}(h:rU (a++b) c=true):rU a c=true/\rU b c=true:=by
 induction a with
 | nil=>exact ⟨rfl,h⟩
 | cons x r ih=>
  simp only [iJ,rU]at h;cases hx:p8 x c with
  | true=>simp only [hx]at h; cases h
  | false=>
   simp only [hx]at h;exact⟨by simp only [rU,hx]; exact (ih h).1,(ih h).2⟩
theorem Be {s s' :St}{b:Nat}{e:Env}{o:bg}{y:Fp}(h:lz (Jo s s' b e o) y=true):lz (cF b e o) y=true/\(o.op.kind=5->∀q∈y.1,s'.get q=s.get q):=by
 unfold Jo at h;split at h
 ·simp only [lz,aB]at h ⊢;obtain⟨h1,h2,h3⟩:=h;exact⟨⟨(xU h1).2,(xU h2).2,h3⟩,fun _ q hq=>T.vS fun hm=>oF (xU h2).1 q hm hq⟩
 ·rename_i h5;exact⟨h,fun e=>by rw [e]at h5; simp at h5⟩
structure Tr (C:ay)(b:Nat)(ys:List (bg×List Nat))(acc:List Fp)(σ:Nat->Fr×St):Prop where
 step:∀j o l,ys[j]? =some (o,l)->oper C b o (σ j).1 (σ j).2=some (σ (j+1))
 lv:∀j o l,ys[j]? =some (o,l)->(σ j).1.env.cY o.dst=false/\(σ (j+1)).1.env.cY o.dst=false
 chk:∀j o l,ys[j]? =some (o,l)->∀i∈l,(∃x,acc[i]? =some x/\lz x (cF b (σ j).1.env o)=true)\/
  ∃i' o' l',i=acc.length+i' /\i' < j/\ys[i']? =some (o',l')/\lz (Jo (σ i').2 (σ (i' +1)).2 b (σ i').1.env o') (cF b (σ j).1.env o)=true
 kept:∀j o l,ys[j]? =some (o,l)->o.op.kind=5->∀i∈l,(∃x,acc[i]? =some x/\∀q∈x.1,C3 x.2.2 q ((σ j).2.get q) ((σ (j+1)).2.get q))\/
  ∃i' o' l',i=acc.length+i' /\i' < j/\ys[i']? =some (o',l')/\∀q∈(cF b (σ i').1.env o').1,C3 (cF b (σ i').1.env o').2.2 q ((σ j).2.get q) ((σ (j+1)).2.get q)
theorem wO:∀ {ys:List (bg×List Nat)} {acc:List Fp} {fr:Fr} {s:St},iz C b ys acc fr s=some (fr',s')->∃σ,σ 0=(fr,s)/\σ ys.length=(fr',s')/\Tr C b ys acc σ
 | [],acc,fr,s,h=>by
  simp only [iz,aa,ae]at h;obtain⟨rfl,rfl⟩:=h;exact⟨fun _=>(fr,s),rfl,rfl,⟨fun j o l h=>by simp at h,fun j o l h=>by simp at h,fun j o l h=>by simp at h,fun j o l h=>by simp at h⟩⟩
 | (o,l)::r,acc,fr,s,h=>by
  simp only [iz]at h;split at h
  ·rename_i hc;split at h
   ·rename_i fr1 s1 h1;split at h
    ·rename_i Qx;simp only [Bool.or_eq_false_iff]at Qx;obtain⟨Qx,TA⟩:=Qx;obtain⟨σ,t0,t1,t2⟩:=wO h;simp only [aB,ff]at hc;refine⟨fun j=>match j with | 0=>(fr,s) | j+1=>σ j,rfl,t1,⟨fun j o' l' hj=> ?_,fun j o' l' hj=> ?_,fun j o' l' hj=> ?_,fun j o' l' hj h5=> ?_⟩⟩
     ·cases j with
      | zero=>
       simp only [aR,aa,ae]at hj;obtain⟨rfl,rfl⟩:=hj;simp only [t0]; exact h1
      | succ j=>simp only [bY]at hj; exact t2.step j o' l' hj
     ·cases j with
      | zero=>
       simp only [aR,aa,ae]at hj;obtain⟨rfl,rfl⟩:=hj;simp only [t0]; exact ⟨hc.2,Qx⟩
      | succ j=>simp only [bY]at hj; exact t2.lv j o' l' hj
     ·cases j with
      | zero=>
       simp only [aR,aa,ae]at hj;obtain⟨rfl,rfl⟩:=hj;exact fun i hi=> .inl (wm hc.1 i hi)
      | succ j=>
       simp only [bY]at hj;intro i hi;rcases t2.chk j o' l' hj i hi with ⟨x,hx,ha⟩ | ⟨i',o2,l2,e1,e2,e3,e4⟩
       ·rcases aH i acc.length with dM | pW
        ·rw [aP dM]at hx;exact .inl ⟨x,hx,ha⟩
        ·rw [aT pW]at hx;have hi0:i - acc.length=0:=by
          rcases ec (i - acc.length) with h | h
          ·exact h
          ·rw [eN (by simp; omega)]at hx; cases hx
         rw [hi0]at hx;simp only [aR,aa]at hx;subst hx;exact .inr ⟨0,o,l,by omega,by omega,by simp,by simpa only [t0] using ha⟩
       ·refine .inr ⟨i' +1,o2,l2, ?_,by omega,by simpa using e3,e4⟩;simp only [aG,aV,bL]at e1; omega
     ·cases j with
      | zero=>
       simp only [aR,aa,ae]at hj;obtain⟨rfl,rfl⟩:=hj;simp only [lost,h5,aA]at TA
       exact fun i hi=> .inl (by
        obtain⟨x,hx,hq⟩:=uN TA i hi;exact⟨x,hx,fun q hm=>by simpa only [t0] using hq q hm⟩)
      | succ j=>
       simp only [bY]at hj;intro i hi;rcases t2.kept j o' l' hj h5 i hi with ⟨x,hx,ha⟩ | ⟨i',o2,l2,e1,e2,e3,e4⟩
       ·rcases aH i acc.length with dM | pW
        ·rw [aP dM]at hx;exact .inl ⟨x,hx,ha⟩
        ·rw [aT pW]at hx;have hi0:i - acc.length=0:=by
          rcases ec (i - acc.length) with h | h
          ·exact h
          ·rw [eN (by simp; omega)]at hx; cases hx
         rw [hi0]at hx;simp only [aR,aa]at hx;subst hx;exact .inr ⟨0,o,l,by omega,by omega,by simp,by rw [Z5,ZP]at ha; exact ha⟩
       ·refine .inr ⟨i' +1,o2,l2, ?_,by omega,by simpa using e3,e4⟩;simp only [aG,aV,bL]at e1; omega
    ·cases h
   ·cases h
  ·cases h
structure Dr (C:ay)(b hi:Nat)(ops:Array Oper)(ao:Nat->bg)(σ:Nat->Fr×St)(ahd:Nat->List Nat):Prop where
 step:∀j,j < ops.size->oper C b (ao j) (σ j).1 (σ j).2=some (σ (j+1))
 one:∀j,j < ops.size->l8 (ao j)=true
 cut:D2 C b hi
 lv:∀j,j < ops.size->(σ j).1.env.cY (ao j).dst=false/\(σ (j+1)).1.env.cY (ao j).dst=false
 low:∀j,(h:j < ops.size)->∀i∈direct ops[j],i < j
 ahead:∀(L:Nat->Prop),(∀j,(h:j < ops.size)->L j->∀i∈direct ops[j],L i)->∀j,(h:j < ops.size)->(∀i∈direct ops[j],L i)->∀i∈ahd j,L i
 free:∀i j,i < j->j < ops.size->i ∉ ahd j->∀k, ¬(kW b (ao i) (σ i).1 (σ i).2 (σ (i+1)).2 k/\tO b hi (ao j) (σ j).1 k)/\ ¬(tO b hi (ao i) (σ i).1 k/\kW b (ao j) (σ j).1 (σ j).2 (σ (j+1)).2 k)/\ ¬(kW b (ao i) (σ i).1 (σ i).2 (σ (i+1)).2 k/\kW b (ao j) (σ j).1 (σ j).2 (σ (j+1)).2 k)
theorem Dr.frame {ops:Array Oper}{ao:Nat->bg}{σ:Nat->Fr×St}{ahd:Nat->List Nat}(D:Dr C b hi ops ao σ ahd){j:Nat}(hj:j < ops.size){k:Key}(hk: ¬ kW b (ao j) (σ j).1 (σ j).2 (σ (j+1)).2 k):val (σ (j+1)).1 (σ (j+1)).2 k=val (σ j).1 (σ j).2 k:=
 F8 (fr:=(σ j).1) (s:=(σ j).2) (fr' :=(σ (j+1)).1) (s' :=(σ (j+1)).2) (D.step j hj) (D.one j hj) (D.lv j hj).1 (D.lv j hj).2 D.cut hk
theorem ue {fr fr1:Fr}{s s1:St}{t:Nat}(h:val fr s (.g t)=val fr1 s1 (.g t)):fr.env.kC t=fr1.env.kC t:=by
 rw [qE,qE,LR (G0 h)]
theorem Dr.kC {ops:Array Oper}{ao:Nat->bg}{σ:Nat->Fr×St}{ahd:Nat->List Nat}(D:Dr C b hi ops ao σ ahd)(t:Nat):∀j,j<=ops.size->(σ j).1.env.kC t=(σ 0).1.env.kC t
 | 0,_=>rfl
 | j+1,hj=>by
  rw [← D.kC t j (by omega)];by_cases hk:kW b (ao j) (σ j).1 (σ j).2 (σ (j+1)).2 (.g t)
  ·have:=D.lv j (by omega);simp only [kW]at hk;simp only [hk,Env.cY]at this;rw [this.1,this.2]
  ·exact ue (D.frame (by omega) hk)
theorem Dr.BP {ops:Array Oper}{ao:Nat->bg}{σ:Nat->Fr×St}{ahd:Nat->List Nat}(D:Dr C b hi ops ao σ ahd){k:Key}{i:Nat}:∀ {c:Nat},i<=c->c<=ops.size->(∀q,i<=q->q < c-> ¬ kW b (ao q) (σ q).1 (σ q).2 (σ (q+1)).2 k)->val (σ c).1 (σ c).2 k=val (σ i).1 (σ i).2 k
 | 0,h,_,_=>by obtain rfl:i=0:=by omega
               rfl
 | c+1,h,hc,hw=>by
  by_cases e:i=c+1
  ·subst e; rfl
  ·rw [D.frame (by omega) (hw c (by omega) (by omega))];exact D.BP (by omega) (by omega) (fun q h1 h2=>hw q h1 (by omega))
abbrev nU (listed:Array Bool)(j:Nat):Prop:=listed.getD j false=true
structure Pq (C:ay)(b:Nat)(ops:Array Oper)(ao:Nat->bg)(σ:Nat->Fr×St)(listed:Array Bool)(fr:Fr)(s:St):Prop where
 size:listed.size=ops.size
 down:∀j,(h:j < ops.size)->nU listed j->∀i∈direct ops[j],nU listed i
 lv:∀t,fr.env.kC t=(σ 0).1.env.kC t
 cut:∀k c,c<=ops.size->(∀i,i < c->kW b (ao i) (σ i).1 (σ i).2 (σ (i+1)).2 k->nU listed i)->(∀i,c<=i->i < ops.size->nU listed i-> ¬ kW b (ao i) (σ i).1 (σ i).2 (σ (i+1)).2 k)->val fr s k=val (σ c).1 (σ c).2 k
theorem BM {listed:Array Bool}{j i:Nat}(hj:j < listed.size):nU (listed.setIfInBounds j true) i↔i=j\/nU listed i:=by
 unfold nU;rw [cl,dS,cl];by_cases h:j=i
 ·subst h; simp [hj]
 ·have: ¬ i=j:=fun e=>h e.symm;simp [h,this]
theorem Pq.step {ops:Array Oper}{ao:Nat->bg}{σ:Nat->Fr×St}{ahd:Nat->List Nat}{listed:Array Bool}(D:Dr C b hi ops ao σ ahd)(M:Pq C b ops ao σ listed fr s){j:Nat}(hj:j < ops.size)(hn: ¬ nU listed j)(hd:∀i∈direct ops[j],nU listed i):
  ∃s1 vB s2,(∀k,val fr s1 k=val fr s k)/\oper C b (ao j) fr s1=some (vB,s2)/\Pq C b ops ao σ (listed.setIfInBounds j true) vB s2/\
   (∀k,kW b (ao j) (σ j).1 (σ j).2 (σ (j+1)).2 k->val vB s2 k=val (σ (j+1)).1 (σ (j+1)).2 k)/\(∀k, ¬ kW b (ao j) (σ j).1 (σ j).2 (σ (j+1)).2 k->val vB s2 k=val fr s k):=by
 have abR:∀i∈ahd j,nU listed i:=D.ahead (nU listed) M.down j hj hd;have hL:∀i,nU (listed.setIfInBounds j true) i↔i=j\/nU listed i:=fun i=>BM (by rw [M.size]; exact hj);have fr1:∀i,i < j-> ¬ nU listed i->∀k, ¬(kW b (ao i) (σ i).1 (σ i).2 (σ (i+1)).2 k/\tO b hi (ao j) (σ j).1 k):=fun i hi hl k=>(D.free i j hi hj (fun h=>hl (abR i h)) k).1;have nah:∀i,i < ops.size->nU listed i->j ∉ ahd i:=fun i hi hl h=>hn (D.ahead (nU listed) M.down i hi (M.down i hi hl) j h);have vB:∀i,j < i->i < ops.size->nU listed i->∀k, ¬(tO b hi (ao j) (σ j).1 k/\kW b (ao i) (σ i).1 (σ i).2 (σ (i+1)).2 k)/\ ¬(kW b (ao j) (σ j).1 (σ j).2 (σ (j+1)).2 k/\kW b (ao i) (σ i).1 (σ i).2 (σ (i+1)).2 k):=fun i hi hs hl k=>(D.free j i hi hs (nah i hs hl) k).2
 have mr:∀k,tO b hi (ao j) (σ j).1 k->val fr s k=val (σ j).1 (σ j).2 k:=fun k hk=>by
  refine M.cut k j (by omega) (fun i hi hw=> ?_) (fun i hi hs hl hw=> ?_)
  ·rcases Decidable.em (nU listed i) with h | h
   ·exact h
   ·exact absurd ⟨hw,hk⟩ (fr1 i hi h k)
  ·rcases Nat.lt_or_eq_of_le hi with h | h
   ·exact (vB i h hs hl k).1 ⟨hk,hw⟩
   ·subst h; exact hn hl
 obtain⟨s1,f2,s2,⟨g1,_⟩,g2,g3,g4⟩:=DK (fr:=(σ j).1) (s:=(σ j).2) (fr' :=(σ (j+1)).1) (s' :=(σ (j+1)).2) (fr1:=fr) (s1:=s) (D.step j hj) (D.one j hj) (D.lv j hj).1 (D.lv j hj).2 mr (fun t=>by rw [M.lv,D.kC t j (by omega)]) D.cut;refine⟨s1,f2,s2,g1,g2, ?_,g3,g4⟩;refine⟨by simp [M.size],fun i hi hl=> ?_,fun t=> ?_,fun k c hc h1 h2=> ?_⟩
 ·rcases (hL i).1 hl with rfl | hl
  ·exact fun q hq=>(hL q).2 (.inr (hd q hq))
  ·exact fun q hq=>(hL q).2 (.inr (M.down i hi hl q hq))
 ·by_cases hk:kW b (ao j) (σ j).1 (σ j).2 (σ (j+1)).2 (.g t)
  ·rw [ue (g3 _ hk),D.kC t (j+1) (by omega)]
  ·rw [ue (g4 _ hk),M.lv]
 ·by_cases hk:kW b (ao j) (σ j).1 (σ j).2 (σ (j+1)).2 k
  ·have hcj:j < c:=by
    rcases aH j c with h | h
    ·exact h
    ·exact absurd hk (h2 j h hj ((hL j).2 (.inl rfl)))
   rw [g3 k hk];refine (D.BP (by omega) hc (fun q PK zW hw=> ?_)).symm;have hq:=(hL q).1 (h1 q zW hw);rcases hq with rfl | hq
   ·omega
   ·exact (vB q (by omega) (by omega) hq k).2 ⟨hk,hw⟩
  ·rw [g4 k hk];refine M.cut k c hc (fun i hi hw=> ?_) (fun i hi hs hl=>h2 i hi hs ((hL i).2 (.inr hl)));rcases (hL i).1 (h1 i hi hw) with rfl | h
   ·exact absurd hw hk
   ·exact h
theorem mem_ready {ops:Array Oper}{listed:Array Bool}{i:Nat}(hs:listed.size=ops.size):i∈Region.ready .any ops listed↔∃h:i < ops.size, ¬ nU listed i/\∀q∈direct ops[i],nU listed q:=by
 unfold Region.ready;simp only [List.mem_filter,mi];constructor
 ·rintro⟨h1,h2⟩;refine⟨h1, ?_⟩;have Jq:i < listed.size:=by omega
  simp only [cl,cA h1,cA Jq,eZ,da,aB,ff]at h2;refine⟨fun h=> ?_,fun q hq=> ?_⟩
  ·simp only [nU,cl,cA Jq,eZ]at h;rw [h]at h2; cases h2.1
  ·simp only [direct,jP,Array.mem_toList_iff]at hq;obtain⟨e,he,hq⟩:=hq;split at hq
   ·rename_i hb;simp only [aa]at hq; subst hq;have:=h2.2;rw [Array.all_eq_true']at this;have:=this e he;rw [hb]at this;simp only [Bool.not_true,nf]at this;simp only [nU,cl];exact this
   ·cases hq
 ·rintro⟨h1,h2,h3⟩;have Jq:i < listed.size:=by omega
  refine⟨h1, ?_⟩;simp only [cl,cA h1,cA Jq,eZ,da,aB,ff];refine⟨?_, ?_⟩
  ·simp only [nU,cl,cA Jq,eZ]at h2;simpa using h2
  ·rw [Array.all_eq_true'];intro e he;by_cases hb:Region.binds .any e=true
   ·have:=h3 e.on (by simp only [direct,jP,Array.mem_toList_iff]; exact ⟨e,he,by simp [hb]⟩);simp only [nU,cl]at this;simp only [hb,this,Bool.not_true,nf]
   ·simp [hb]
def left (listed:Array Bool)(n:Nat):Nat:=(List.range n).countP fun i=> !listed.getD i false
theorem CW {listed:Array Bool}{n j:Nat}(hs:listed.size=n)(hj:j < n)(hn: ¬ nU listed j):left listed n=left (listed.setIfInBounds j true) n+1:=by
 unfold left
 have kQ:∀i,(listed.setIfInBounds j true).getD i false=if i=j then true else listed.getD i false:=fun i=>by
  rw [cl,dS,cl];by_cases h:j=i
  ·subst h; simp [hs,hj]
  ·have: ¬ i=j:=fun e=>h e.symm;simp [h,this]
 have key:∀m,m<=n->(List.range m).countP (fun i=> !listed.getD i false)=(List.range m).countP (fun i=> !(listed.setIfInBounds j true).getD i false)+(if j < m then 1 else 0):=by
  intro m;induction m with
  | zero=>intro _; simp
  | succ m ih=>
   intro hm;rw [nR,List.countP_append,List.countP_append,ih (by omega)];simp only [mW,List.countP_nil,kQ m];by_cases h1:m=j
   ·subst h1;have:listed.getD m false=false:=by simpa [nU] using hn
    simp [this]
   ·have h2:(j < m+1)=(j < m):=by
     apply propext; omega
    simp only [aK h1,h2];split <;> split <;> omega
 have:=key n (aq _);rw [this,bT hj]
theorem Hh {rd:Option Nat}(hC:dR pn P G C)(hX:∀f k,X f=some k->mA P f k)(hg:gN pn G ρ0 w0){ops:Array Oper}{ao:Nat->bg}{σ:Nat->Fr×St}{ahd:Nat->List Nat}(D:Dr C b hi ops ao σ ahd)
  (Fl:∀j,(h:j < ops.size)->(ao j).op=(fQ P G X A ops ops[j]).op/\(ao j).dst=(fQ P G X A ops ops[j]).dst/\(ao j).guard=(fQ P G X A ops ops[j]).guard)(mr:∀j,j < ops.size->rd=none\/(ao j).op.nd=true){Q:Exit->Act->World->Prop}
  (hQ:∀a' w',Inv ρ0 w0 A.nt (σ ops.size).1 (σ ops.size).2 a' w' ->Q .normal a' w'):∀(n:Nat) (listed:Array Bool) (fr:Fr) (s:St) (a:Act) (w:World),left listed ops.size=n->Pq C b ops ao σ listed fr s->Inv ρ0 w0 A.nt fr s a w->wpAnyIn (Rd rd) 0 P .any ops Q n listed a w:=by
 have jr:∀(listed:Array Bool) (fr:Fr) (s:St) (a:Act) (w:World),Pq C b ops ao σ listed fr s->Inv ρ0 w0 A.nt fr s a w->(∀j,j < ops.size->nU listed j)->Q .normal a w:=fun listed fr s a w M hI dQ=>
  hQ a w (Inv.vT (fun k=>M.cut k ops.size (aq _) (fun i hi _=>dQ i hi) (fun i h1 h2=>by omega)) hI)
 intro n;induction n with
 | zero=>
  intro listed fr s a w hn M hI
  have dQ:∀j,j < ops.size->nU listed j:=fun j hj=>by
   simp only [left,List.countP_eq_zero]at hn;have:=hn j (by simpa using hj);simp only [ff,Bool.not_eq_false]at this;exact this
  refine⟨List.eq_nil_iff_forall_not_mem.2 fun i hi=> ?_,jr listed fr s a w M hI dQ⟩;obtain⟨h1,h2,_⟩:=(mem_ready M.size).1 hi;exact h2 (dQ i h1)
 | succ n ih=>
  intro listed fr s a w hn M hI;refine⟨fun h0=>jr listed fr s a w M hI fun j hj=> ?_,fun i hi=> ?_⟩
  ·
   have:∀j,j < ops.size->nU listed j:=by
    intro j;induction j using Nat.strongRecOn with
    | ind j ihj=>
     intro hj;rcases Decidable.em (nU listed j) with h | h
     ·exact h
     ·have:j∈Region.ready .any ops listed:=(mem_ready M.size).2 ⟨hj,h,fun q hq=>ihj q (D.low j hj q hq) (by have:=D.low j hj q hq; omega)⟩;rw [h0]at this; cases this
   exact this j hj
  ·obtain⟨h1,h2,h3⟩:=(mem_ready M.size).1 hi;obtain⟨s1,vB,s2,k1,k2,k3,_,_⟩:=M.step D h1 h2 h3;have hI1:Inv ρ0 w0 A.nt fr s1 a w:=hI.vT (fun k=>(k1 k).symm)
   have:=oJ (Q:=Q) (K:=wpAnyIn (Rd rd) 0 P .any ops Q n (listed.setIfInBounds i true)) hC hX hg (ops:=ops) (Fl i h1) (mr i h1) k2 hI1 (fun a' w' sQ =>
    ih _ vB s2 a' w' (by have:=CW M.size h1 h2; omega) k3 sQ)
   unfold wpOpIn;simp only [cA h1];split
   ·rename_i hw;rw [bT hw]at this;exact this
   ·rename_i hw;rw [aK hw]at this;exact⟨fun _ _=>trivial,this⟩
theorem tM:∀(l:List bg) (k i:Nat),((mB l k).1[i]?).map (fun o=>(o.op,o.dst,o.guard))=(l[i]?).map (fun o=>(o.op,o.dst,o.guard))
 | [],k,i=>by simp [mB]
 | o::r,k,i=>by
  simp only [mB];split
  ·cases i with
   | zero=>rfl
   | succ i=>simpa using tM r (k+1) i
  ·cases i with
   | zero=>rfl
   | succ i=>simpa using tM r k i
theorem AZ:∀(l:List bg) (k:Nat),(mB l k).1.length=l.length
 | [],k=>rfl
 | o::r,k=>by
  simp only [mB];split <;> simp [AZ]
theorem Inv.drew {nt:Nat}(h:Inv ρ0 w0 nt fr s a w):Inv ρ0 w0 nt fr s a { w with drawn:=w.drawn+1}:=by
 obtain⟨ρ,h1,h2,h3⟩:=h;have hK:Kp ρ w ρ { w with drawn:=w.drawn+1}:=⟨rfl,rfl,rfl,aq _,fun _ _ _=>⟨rfl,rfl⟩,fun _ h=>⟨h,rfl⟩,fun _ _ h=> .inr ⟨h,fun _ hb=>⟨hb,rfl,aq _,rfl⟩⟩⟩;exact⟨ρ,h1.trans hK,h2.mono hK,h3.bV hK.r (fun _ _=>nh) rfl (fun b o hb=>⟨rfl,rfl,rfl,rfl⟩) (fun b hb=>h3.size b hb)⟩
theorem Pq.start {ops:Array Oper}{ao:Nat->bg}{σ:Nat->Fr×St}(h:∀k,val fr s k=val (σ 0).1 (σ 0).2 k){ahd:Nat->List Nat}(D:Dr C b hi ops ao σ ahd):Pq C b ops ao σ (Array.replicate ops.size false) fr s:=by
 have Fs:∀i, ¬ nU (Array.replicate ops.size false) i:=fun i hi=>by
  simp only [nU,cl,lK]at hi;split at hi <;> cases hi
 refine⟨by simp,fun j _ hl=>absurd hl (Fs j),fun t=>ue (h _),fun k c hc h1 h2=> ?_⟩;rw [h];exact (D.BP (aS _) hc (fun q _ hq hw=>Fs q (h1 q hq hw))).symm
theorem yo:∀(l:List bg) (k:Nat),k<=(mB l k).2
 | [],k=>aq _
 | o::r,k=>by
  simp only [mB];split
  ·exact cU (Nat.le_succ k) (yo r (k+1))
  ·exact yo r k
theorem xH {r:Nat}{o:bg}(ho:l8 o=true)(hr:o.al=some r):∀(l:List bg) (k i:Nat),(mB l k).1[i]? =some o->r < (mB l k).2
 | [],k,i,h=>by simp [mB]at h
 | x::q,k,i,h=>by
  simp only [mB]at h ⊢;split at h
  ·rename_i hx;rw [bT hx];cases i with
   | zero=>
    simp only [aR,aa]at h;subst h;simp only [aa]at hr;subst hr;exact yo q (k+1)
   | succ i=>exact xH ho hr q (k+1) i (by simpa using h)
  ·rename_i hx;rw [aK hx];cases i with
   | zero=>
    simp only [aR,aa]at h;subst h;simp only [l8,hr,Option.isSome_some,aB]at ho;simp [hx]at ho
   | succ i=>exact xH ho hr q k i (by simpa using h)
theorem Io (hC:dR pn P G C)(b k:Nat):dR pn P G (lY b k C):=
 ⟨fun f l s r h hy args w=>by obtain ⟨d,s'⟩:=r; exact hC.enter f l s _ (xL hC.P8 h) hy args w,fun f l s d s' ρ w vs h=>hC.calls f l s d s' ρ w vs (xL hC.P8 h),QB hC.ro b k,fun y l s d s' ρ w u vs h=>hC.yF y l s d s' ρ w u vs (xL hC.P8 h),NY hC.P8 b k⟩
theorem Di {ops0 ops:Array Oper}{k:Nat}{ys:List (bg×List Nat)}(hC:dR pn P G C)(hr:IS (ops.toList.map (fQ P G X A ops0)) (ops.toList.map direct)=some (k,ys))(h:iz (lY s.n k C) s.n ys [] fr { s with n:=s.n+k}=some (fr',s')):
  ∃(ao:Nat->bg) (σ:Nat->Fr×St) (ahd:Nat->List Nat),Dr (lY s.n k C) s.n (s.n+k) ops ao σ ahd/\σ 0=(fr,{ s with n:=s.n+k})/\σ ops.size=(fr',s')/\(∀j,(h:j < ops.size)->(ao j).op=(fQ P G X A ops0 ops[j]).op/\(ao j).dst=(fQ P G X A ops0 ops[j]).dst/\(ao j).guard=(fQ P G X A ops0 ops[j]).guard)/\∀j,j < ops.size->∃l,(ao j,l)∈ys:=by
 unfold IS at hr;simp only at hr;split at hr
 ·rename_i ys abH M7;simp only [aa,ae]at hr;obtain⟨rfl,rfl⟩:=hr;obtain⟨Hj,Fg⟩:=AS M7;obtain⟨σ,t0,t1,t2⟩:=wO h;have hlen:ys.length=ops.size:=by
   have:=congrArg List.length Hj;simpa [AZ] using this
  let ao:Nat->bg:=fun j=>match ys[j]? with
   | some (o,_)=>o
   | none=>⟨none,.bad,none,none⟩
  have M7:∀j,j < ops.size->∃l,ys[j]? =some (ao j,l):=fun j hj=>by
   have V9 :j < ys.length:=by omega
   refine⟨ys[j].2, ?_⟩;simp only [ao,ab V9]
  have pO:∀j,(hj:j < ops.size)->(ops.toList.map direct)[j]? =some (direct ops[j]):=fun j hj=>by simp [hj]
  have D:Dr (lY s.n (mB (ops.toList.map (fQ P G X A ops0)) 0).2 C) s.n (s.n+(mB (ops.toList.map (fQ P G X A ops0)) 0).2) ops ao σ (fun j=>(Ns (ops.toList.map direct)).getD j []):=by
   refine⟨fun j hj=> ?_,fun j hj=> ?_,Pk hC.P8 _ _,fun j hj=> ?_,fun j hj i hi=> ?_,fun L hL j hj hd=> ?_,fun i j nO hj Zm q=> ?_⟩
   ·obtain⟨l,hl⟩:=M7 j hj;exact t2.step j _ l hl
   ·obtain⟨l,hl⟩:=M7 j hj;exact (Fg j _ l hl).1
   ·obtain⟨l,hl⟩:=M7 j hj;exact t2.lv j _ l hl
   ·have:=Al abH j _ (pO j hj) i hi;omega
   ·refine s9 (ds:=ops.toList.map direct) (L:=L) (fun j d hd hLj=> ?_) _ [] [] rfl rfl (fun j d _ _ i hi=>by simp at hi) j _ (pO j hj) hd;rcases aH j ops.size with h | h
    ·rw [pO j h]at hd;simp only [aa]at hd; subst hd;exact hL j h hLj
    ·rw [eN (by simpa using h)]at hd; cases hd
   ·obtain⟨lj,YB⟩:=M7 j hj;obtain⟨li,QC⟩:=M7 i (by omega);obtain⟨oj,cj⟩:=Fg j _ lj YB;obtain⟨oi,_⟩:=Fg i _ li QC;have hi:([]++(mB (ops.toList.map (fQ P G X A ops0)) 0).1.take j)[i]? =some (ao i):=by
     rw [cB,de,bT nO,← Hj,aC,QC]; rfl
    rcases ze cj i _ hi with g | ⟨g1,g2⟩
    ·simp only [aN,bL]at g;exact absurd g Zm
    ·have hap:qR (ao i).op (ao j).op=0\/(qR (ao i).op (ao j).op=1/\lz (cF s.n (σ i).1.env (ao i)) (cF s.n (σ j).1.env (ao j))=true):=by
      refine g2.imp (fun h=>h) fun ⟨a2,g3⟩=>⟨a2, ?_⟩;rcases t2.chk j _ lj YB _ g3 with ⟨x,hx,_⟩ | ⟨i',o',l',e1,e2,e3,e4⟩
      ·simp at hx
      ·simp only [bL,aN]at e1;subst e1;rw [QC]at e3;simp only [aa,ae]at e3;rw [← e3.1]at e4;exact (Be e4).1
     have ab3:(ao i).op.kind=5->qR (ao i).op (ao j).op=1->∀q∈(cF s.n (σ j).1.env (ao j)).1,(σ (i+1)).2.get q=(σ i).2.get q:=by
      intro h5 h1;have g3:=(g2.resolve_left (by rw [h1]; decide)).2;rcases t2.chk j _ lj YB _ g3 with ⟨x,hx,_⟩ | ⟨i',o',l',e1,e2,e3,e4⟩
      ·simp at hx
      ·simp only [bL,aN]at e1;subst e1;rw [QC]at e3;simp only [aa,ae]at e3;rw [← e3.1]at e4;exact (Be e4).2 h5
     have Lc:∀q lq,ys[q]? =some (ao q,lq)->l8 (ao q)=true->∀r,(ao q).al=some r->s.n+r < s.n+(mB (ops.toList.map (fQ P G X A ops0)) 0).2:=fun q lq hq ho r hr=>Nat.add_lt_add_left (xH ho hr _ 0 q (by rw [← Hj,aC,hq]; rfl)) _;refine Rm oi oj g1 hap (Lc i _ QC oi) (Lc j _ YB oj) (fun h5 h1=> ?_) ab3 q;have g3:=(g2.resolve_left (by rw [h1]; decide)).2;rcases t2.kept j _ lj YB h5 _ g3 with ⟨x,hx,_⟩ | ⟨i',o',l',e1,e2,e3,e4⟩
     ·simp at hx
     ·simp only [bL,aN]at e1;subst e1;rw [QC]at e3;simp only [aa,ae]at e3;rw [← e3.1]at e4;exact e4
  have Fl:∀j,(h:j < ops.size)->(ao j).op=(fQ P G X A ops0 ops[j]).op/\(ao j).dst=(fQ P G X A ops0 ops[j]).dst/\(ao j).guard=(fQ P G X A ops0 ops[j]).guard:=fun j hj=>by
   obtain⟨l,hl⟩:=M7 j hj;have h1:=tM (ops.toList.map (fQ P G X A ops0)) 0 j;rw [← Hj,aC,hl,aC,kh,cA hj]at h1;simp only [da,aa,ae]at h1;exact h1
  refine⟨ao,σ,_,D,t0,by rw [← hlen]; exact t1,Fl,fun j hj=> ?_⟩;obtain⟨l,hl⟩:=M7 j hj;exact⟨l,aM hl⟩
 ·cases hr
structure FL (av:Nat)(z:D)(fr fL:Fr):Prop where
 a:fL.env.get av=some (.lv z)
 o:∀t,t≠av->fL.env.get t=fr.env.get t
 d:fL.defers=fr.defers
theorem FL.lv {av:Nat}{z:D}{fL:Fr}(h:FL av z fr fL)(r:Nat)(hr:fr.env.kC r=true):fL.env.kC r=true:=by
 by_cases e:r=av
 ·subst e; unfold Env.kC; rw [h.a]
 ·unfold Env.kC at hr ⊢; rw [h.o r e]; exact hr
theorem xu {e:Env}{dst:Option Nat}{d:D}{t:Nat}:(ij e dst d).get t=if dst=some t then some d else e.get t:=by
 cases dst with
 | none=>simp [ij]
 | some u=>simp only [ij,dB,aa]
theorem FL.put {av:Nat}{z d:D}{fL:Fr}{dst:Option Nat}(h:FL av z fr fL)(hd:dst≠some av):FL av z { fr with env:=ij fr.env dst d} { fL with env:=ij fL.env dst d}:=
 ⟨by simp only [xu,aK hd]; exact h.a,fun t ht=>by simp only [xu]; split; rfl; exact h.o t ht,h.d⟩
theorem I6 {o:bg}{av:Nat}{z:D}{fL:Fr}(hF:FL av z fr fL)(h1:av ∉ o.sl)(h2:o.dst≠some av)(fK:l8 o=true)(h:oper C b o fr s=some (fr',s')):∃fL',oper C b o fL s=some (fL',s')/\FL av z fr' fL' :=by
 have hg:∀t∈o.sl,fL.env.get t=fr.env.get t:=fun t ht=>hF.o t (by rintro rfl; exact h1 ht);have xo:∀t∈o.op.sl,fL.env.get t=fr.env.get t:=fun t ht=>hg t (by unfold bg.sl; split; exact eF _ ht; exact ht);have hw:aI fL.env o.guard=aI fr.env o.guard:=by
  cases OY:o.guard with
  | none=>rfl
  | some q=>
   obtain⟨t,c⟩:=q;have:=hg t (by unfold bg.sl; rw [OY]; exact List.mem_cons_self);simp only [aI,this]
 unfold oper at h ⊢;rw [hw];split at h
 ·rename_i x8;split at h
  ·rename_i f args oq;have e1:f.ev fL.env=f.ev fr.env:=fG fun t ht=> .inl (xo t (by rw [oq]; simp [eQ.sl,ht]));have e2:sg fL.env args=sg fr.env args:=lE fun t ht=> .inl (xo t (by rw [oq]; simp [eQ.sl,ht]));simp only [oq,e1,e2];split at h
   ·rename_i h3 h4;simp only [aa,ae]at h;obtain⟨rfl,rfl⟩:=h;refine⟨_,rfl, ?_⟩;have:=hF.put (d:= .gK []) h2;exact⟨this.a,this.o,by simp only [hF.d]⟩
   ·cases h
  ·rename_i x oq;simp [l8,oq]at fK
  ·rename_i r sz x v oq;have e1:x.yP fL.env=x.yP fr.env:=lI fun t ht=> .inl (xo t (by rw [oq]; simp [eQ.sl,ht]));have e2:v.ev fL.env=v.ev fr.env:=fG fun t ht=> .inl (xo t (by rw [oq]; simp [eQ.sl,ht]));have e3:fL.env.get r=fr.env.get r:=xo r (by rw [oq]; simp [eQ.sl]);have cE:r≠av:=by rintro rfl; exact h1 (by unfold bg.sl; rw [oq]; split <;> simp [eQ.sl])
   simp only [oq,e1,e2,e3];split at h
   ·split at h
    ·split at h
     ·simp only [aa,ae]at h;obtain⟨rfl,rfl⟩:=h;refine⟨_,rfl, ?_⟩;refine FL.put (fr:= { fr with env:=_}) (fL:= { fL with env:=_}) ⟨?_,fun t ht=> ?_,hF.d⟩ h2
      ·simp only [dB,aK cE]; exact hF.a
      ·simp only [dB]; split; rfl; exact hF.o t ht
     ·cases h
    ·cases h
   ·cases h
  ·rename_i n1 n2 n3;split at h
   ·rename_i d s0 hF0;simp only [aa,ae]at h;obtain⟨rfl,rfl⟩:=h;have:=NX (e' :=fL.env) (fun t ht=> .inl (xo t ht).symm) hF.lv (fun a sz x hp=>(xo a (by rw [hp]; simp [eQ.sl])).symm) hF0;refine⟨{ fL with env:=ij fL.env o.dst d}, ?_,hF.put h2⟩;generalize o.op=p at *
    cases p <;> first
     | (exact absurd rfl (n1 _ _))
     | (exact absurd rfl (n2 _))
     | (exact absurd rfl (n3 _ _ _ _))
     | (simp only [this])
   ·cases h
 ·rename_i x8;simp only [aa,ae]at h;obtain⟨rfl,rfl⟩:=h;exact⟨_,rfl,hF.put h2⟩
 ·cases h
theorem BH {av:Nat}:∀ {e:Env},e.tQ av=true->∀t k c,e.get t=some (.iG k c)->k≠av
 | [],_,t,k,c,h=>by cases h
 | (u,d)::r,hn,t,k,c,h=>by
  have hr:Env.tQ av r=true/\∀k c,d= .iG k c->k≠av:=by
   unfold Env.tQ at hn;split at hn
   ·rename_i k' c';split at hn
    ·cases hn
    ·rename_i hb;refine⟨hn,fun k c e=> ?_⟩;cases e;rintro rfl;simp at hb
   ·rename_i cE;exact⟨hn,fun k c e=>absurd e (cE k c)⟩
  rw [dB]at h;split at h
  ·simp only [aa]at h; exact hr.2 k c h
  ·exact BH hr.1 t k c h
def ZZ (av:Nat):D->Bool
 | .iG k _=>Nat.beq av k
 | _=>false
def Env.cut (av:Nat)(e:Env):Env:=e.filter fun p=> !(ZZ av p.2)
theorem IT {av:Nat}:∀ {e:Env},Env.tQ av e=e.all fun p=> !(ZZ av p.2)
 | []=>rfl
 | (t,d)::r=>by
  have ih:=IT (av:=av) (e:=r);simp only [gQ,← ih];cases d <;> simp only [Env.tQ,ZZ,pq,fM];rename_i k c;cases Nat.beq av k <;> rfl
theorem QE {av:Nat}{e:Env}:(Env.cut av e).tQ av=true:=by
 rw [IT,Env.cut,List.all_filter];simp
theorem uP {av:Nat}:∀ {e:Env} {t:Nat},(∀c,e.get t≠some (.iG av c))->(Env.cut av e).get t=e.get t
 | [],t,_=>rfl
 | (u,d)::r,t,h=>by
  have ih:u≠t->(Env.cut av r).get t=Env.get r t:=fun cE=>uP fun c hc=>h c (by rw [dB,aK cE]; exact hc);rw [dB]at h;unfold Env.cut at ih ⊢;rw [dB,List.filter_cons];by_cases hu:u=t
  ·simp only [hu,eu]at h ⊢;have hl:ZZ av d=false:=by
    cases d <;> simp only [ZZ];rename_i k c;cases hb:Nat.beq av k with
    | false=>rfl
    | true=>have:=aD hb; subst this; exact absurd rfl (h c)
   simp only [hl,pq,eu,dB]
  ·simp only [aK hu];split
   ·rw [dB,aK hu]; exact ih hu
   ·exact ih hu
theorem yx {av t:Nat}{d:D}{e:Env}(h:Env.tQ av ((t,d)::e)=true):Env.tQ av e=true:=by
 unfold Env.tQ at h;split at h
 ·split at h
  ·cases h
  ·exact h
 ·exact h
theorem xn {av:Nat}{dst:Option Nat}{d:D}{e:Env}(h:(ij e dst d).tQ av=true):e.tQ av=true:=by
 cases dst with
 | none=>exact h
 | some t=>exact yx h
theorem OW {o:bg}{av:Nat}(h:oper C b o fr s=some (fr',s'))(hn:fr'.env.tQ av=true):fr.env.tQ av=true:=by
 unfold oper at h;split at h
 ·split at h
  ·split at h
   ·simp only [aa,ae]at h;obtain⟨rfl,rfl⟩:=h;exact xn hn
   ·cases h
  ·split at h
   ·split at h
    ·simp only [aa,ae]at h;obtain⟨rfl,rfl⟩:=h;exact yx hn
    ·cases h
   ·cases h
  ·split at h
   ·split at h
    ·split at h
     ·simp only [aa,ae]at h;obtain⟨rfl,rfl⟩:=h;exact yx (xn hn)
     ·cases h
    ·cases h
   ·cases h
  ·split at h
   ·simp only [aa,ae]at h;obtain⟨rfl,rfl⟩:=h;exact xn hn
   ·cases h
 ·simp only [aa,ae]at h;obtain⟨rfl,rfl⟩:=h;exact xn hn
 ·cases h
theorem Dr.tQ {ops:Array Oper}{ao:Nat->bg}{σ:Nat->Fr×St}{ahd:Nat->List Nat}{av:Nat}(D:Dr C b hi ops ao σ ahd)(hn:(σ ops.size).1.env.tQ av=true):∀d j,j+d=ops.size->(σ j).1.env.tQ av=true
 | 0,j,h=>by obtain rfl:j=ops.size:=by omega
             exact hn
 | d+1,j,h=>OW (D.step j (by omega)) (D.tQ hn d (j+1) (by omega))
def WS (av:Nat)(fr:Fr):Prop:=∀t k c,fr.env.get t=some (.iG k c)->k≠av
theorem Lo {fr fr1:Fr}{s s1:St}{t k c:Nat}(h:val fr s (.g t)=val fr1 s1 (.g t))(h1:fr.env.get t=some (.iG k c)):fr1.env.get t=some (.iG k c):=by
 rcases G0 h with e | ⟨x,y,e1,e2⟩
 ·rw [← e]; exact h1
 ·rw [e1]at h1; cases h1
theorem XV {fr fL:Fr}{s s1:St}(h:∀k,val fr s1 k=val fr s k):∀k,val fL s1 k=val fL s k:=fun k=>by
 have:=h k;cases k with
 | g t=>rfl
 | c t=>rfl
 | d=>rfl
 | h o=>exact this
 | hc o c=>exact this
 | n=>exact this
theorem MY {rd:Option Nat}{ops:Array Oper}{Q:Exit->Act->World->Prop}{n:Nat}{listed:Array Bool}{a:Act}{w:World}(hs:listed.size=ops.size)(dQ:∀j,j < ops.size->nU listed j)(hQ:Q .normal a w):wpAnyIn (Rd rd) 0 P .any ops Q n listed a w:=by
 have h0:Region.ready .any ops listed=[]:=List.eq_nil_iff_forall_not_mem.2 fun i hi=>by
  obtain⟨h1,h2,_⟩:=(mem_ready hs).1 hi;exact h2 (dQ i h1)
 cases n with
 | zero=>exact ⟨h0,hQ⟩
 | succ n=>exact ⟨fun _=>hQ,fun i hi=>by rw [h0]at hi; cases hi⟩
theorem Hg {Cd:ay}{rd:Option Nat}(hC:dR pn P G C)(hCd:dR pn P G Cd)(hX:∀f k,X f=some k->mA P f k)(hg:gN pn G ρ0 w0){ops IY:Array Oper}{m:Nat}(fS:ops.size=m+2)(uL:IY.size=m)(Nq:∀j (h:j < m),IY[j]'(by omega)=ops[j]'(by omega)){ao:Nat->bg}{σ:Nat->Fr×St}{ahd:Nat->List Nat}(DR:Dr Cd b hi IY ao σ ahd)
  (Fl:∀j,(h:j < m)->(ao j).op=(fQ P G X A ops (ops[j]'(by omega))).op/\(ao j).dst=(fQ P G X A ops (ops[j]'(by omega))).dst/\(ao j).guard=(fQ P G X A ops (ops[j]'(by omega))).guard)(mr:∀j,j < m->rd=none\/(ao j).op.nd=true)
  {oA oL:bg}{av:Nat}{z:D}(eA:fQ P G X A ops (ops[m]'(by omega))=oA)(fA:oA=⟨some av,.nv (.c z),none,none⟩)(eL:fQ P G X A ops (ops[m+1]'(by omega))=oL)(K8:rd=none\/oL.op.nd=true)
  (hdA:direct (ops[m]'(by omega))=[])(hdL:∀i,i < m+1->i∈direct (ops[m+1]'(by omega)))(hlL:∀i∈direct (ops[m+1]'(by omega)),i < m+1)(sO:∀j,j < m->av ∉ (ao j).sl/\(ao j).dst≠some av)
  {f1:Fr}{s1:St}(oq:oper C 0 oA (σ m).1 (σ m).2=some (f1,s1))(hL:oper C 0 oL f1 s1=some (fr',s')){Q:Exit->Act->World->Prop}(hQ:∀a' w',Inv ρ0 w0 A.nt fr' s' a' w' ->Q .normal a' w'):
  ∀(n:Nat) (listed l1:Array Bool) (fr:Fr) (s:St) (a:Act) (w:World),left listed ops.size=n->listed.size=m+2->Pq Cd b IY ao σ l1 fr s->(∀j,j < m->(nU listed j↔nU l1 j))-> ¬ nU listed (m+1)->WS av fr->
   ((¬ nU listed m/\Inv ρ0 w0 A.nt fr s a w)\/(nU listed m/\∃fL,FL av z fr fL/\Inv ρ0 w0 A.nt fL s a w))->wpAnyIn (Rd rd) 0 P .any ops Q n listed a w:=by
 have hf1:f1= { (σ m).1 with env:=(av,.lv z)::(σ m).1.env}/\s1=(σ m).2/\(σ m).1.env.tQ av=true/\z.st=true:=by
  subst fA;simp only [oper,aI,bP.ev]at oq;split at oq
  ·rename_i hb;simp only [aa,ae]at oq;simp only [aB]at hb;exact⟨oq.1.symm,oq.2.symm,hb.1,hb.2⟩
  ·cases oq
 obtain⟨rfl,rfl,abP,aaY⟩:=hf1;have hσ:∀j,j<=m->WS av (σ j).1:=fun j hj=>BH (DR.tQ (by rw [uL]; exact abP) (m - j) j (by omega));have conv:∀ {i:Nat} (h1:i < ops.size) {K:Act->World->Prop} {a:Act} {w:World},(if Region.wanted ops[i] (yielded ops a.tmps) then ops[i].wpIn (Rd rd) 0 P a w K Q else K (a.put ops[i].dst undef) w)->wpOpIn (Rd rd) 0 P ops Q i K a w:=by
  intro i h1 K a w this;unfold wpOpIn;simp only [cA h1];split
  ·rename_i hw;rw [bT hw]at this;exact this
  ·rename_i hw;rw [aK hw]at this;exact⟨fun _ _=>trivial,this⟩
 intro n;induction n with
 | zero=>
  intro listed l1 fr s a w hn Jq M hl qU Fs hI;exfalso;simp only [left,List.countP_eq_zero]at hn;have:=hn (m+1) (by simp [fS]);simp only [ff,Bool.not_eq_false]at this;exact qU this
 | succ n ih=>
  intro listed l1 fr s a w hn Jq M hl qU Fs hI;have OP:listed.size=ops.size:=by omega
  refine⟨fun h0=> ?_,fun i hi=> ?_⟩
  ·exfalso;have dQ:∀j,j < m+1->nU listed j:=by
    intro j;induction j using Nat.strongRecOn with
    | ind j ihj=>
     intro hj;rcases Decidable.em (nU listed j) with h | h
     ·exact h
     ·have:j∈Region.ready .any ops listed:=(mem_ready OP).2 ⟨by omega,h,fun q hq=> ?_⟩
      ·rw [h0]at this; cases this
      ·rcases aH j m with V9 | V9
       ·have h2:=DR.low j (by omega) q (by rw [Nq j V9]; exact hq);exact ihj q h2 (by omega)
       ·obtain rfl:j=m:=by omega
        rw [hdA]at hq; cases hq
   have:m+1∈Region.ready .any ops listed:=(mem_ready OP).2 ⟨by omega,qU,fun q hq=>dQ q (hlL q hq)⟩;rw [h0]at this; cases this
  ·obtain⟨h1,h2,h3⟩:=(mem_ready OP).1 hi;have gO:∀q,nU (listed.setIfInBounds i true) q↔q=i\/nU listed q:=fun q=>BM (by omega);have Pj:left (listed.setIfInBounds i true) ops.size=n:=by have:=CW OP h1 h2; omega
   refine conv h1 ?_
   rcases gZ i m with hm | rfl | hm
   ·
    have xr : ¬ nU l1 i:=fun h=>h2 ((hl i hm).2 h)
    have h3' :∀q∈direct (IY[i]'(by omega)),nU l1 q:=fun q hq=>by
     have h4:=DR.low i (by omega) q hq;exact (hl q (by omega)).1 (h3 q (by rw [← Nq i hm]; exact hq))
    obtain⟨s2,vB,s3,k1,k2,k3,k4,k5⟩:=M.step DR (by omega) xr h3'
    have Zg:WS av vB:=fun t k c ht=>by
     by_cases hw:kW b (ao i) (σ i).1 (σ i).2 (σ (i+1)).2 (.g t)
     ·exact hσ (i+1) (by omega) t k c (Lo (k4 _ hw) ht)
     ·exact Fs t k c (Lo (k5 _ hw) ht)
    have sq:∀j,j < m->(nU (listed.setIfInBounds i true) j↔nU (l1.setIfInBounds i true) j):=fun j hj=>by
     rw [gO,BM (by rw [M.size]; omega),hl j hj]
    have Zs: ¬ nU (listed.setIfInBounds i true) (m+1):=fun h=>by
     rcases (gO _).1 h with h | h
     ·omega
     ·exact qU h
    rcases hI with ⟨p1,p2⟩ | ⟨p1,fL,p2,p3⟩
    ·refine oJ (K:=wpAnyIn (Rd rd) 0 P .any ops Q n (listed.setIfInBounds i true)) hCd hX hg (ops:=ops) (Fl i hm) (mr i hm) k2 (p2.vT fun k=>(k1 k).symm) fun a' w' sQ => ?_
     exact ih _ _ vB s3 a' w' Pj (by simp [Jq]) k3 sq Zs Zg (.inl ⟨fun h=>by
      rcases (gO _).1 h with h | h
      ·omega
      ·exact p1 h,sQ⟩)
    ·obtain⟨fL2,q1,q2⟩:=I6 p2 (sO i hm).1 (sO i hm).2 (DR.one i (by omega)) k2;refine oJ (K:=wpAnyIn (Rd rd) 0 P .any ops Q n (listed.setIfInBounds i true)) hCd hX hg (ops:=ops) (Fl i hm) (mr i hm) q1 (p3.vT fun k=>(XV (fL:=fL) k1 k).symm) fun a' w' sQ => ?_;exact ih _ _ vB s3 a' w' Pj (by simp [Jq]) k3 sq Zs Zg (.inr ⟨(gO _).2 (.inr p1),fL2,q2,sQ⟩)
   ·
    rcases hI with ⟨p1,p2⟩ | ⟨p1,_⟩
    ·have e1:∀t,(Env.cut av fr.env).get t=fr.env.get t:=fun t=>uP fun c h=>Fs t av c h rfl
     have hIc:Inv ρ0 w0 A.nt { fr with env:=Env.cut av fr.env} s a w:=p2.vT fun k=>by
      cases k <;> simp only [val,e1]
     have kf :oper C 0 oA { fr with env:=Env.cut av fr.env} s=some ({ fr with env:=(av,.lv z)::Env.cut av fr.env},s):=by
      subst fA;simp only [oper,aI,bP.ev,QE,aaY,fm]
     refine oJ (K:=wpAnyIn (Rd rd) 0 P .any ops Q n (listed.setIfInBounds i true)) hC hX hg (ops:=ops) (o:=ops[i]) (by rw [eA]; exact ⟨rfl,rfl,rfl⟩) (.inr (by rw [fA]; rfl)) kf hIc fun a' w' sQ => ?_;refine ih _ l1 fr s a' w' Pj (by simp [Jq]) M (fun j hj=> ?_) (fun h=> ?_) Fs (.inr ⟨(gO _).2 (.inl rfl),{ fr with env:=(av,.lv z)::Env.cut av fr.env},⟨?_,fun t ht=> ?_,rfl⟩,sQ⟩)
     ·rw [gO]
      exact⟨fun h=>by
       rcases h with h | h
       ·omega
       ·exact (hl j hj).1 h,fun h=> .inr ((hl j hj).2 h)⟩
     ·rcases (gO _).1 h with h | h
      ·omega
      ·exact qU h
     ·simp only [dB,eu]
     ·simp only [dB,aK (bO ht),e1]
    ·exact absurd p1 h2
   ·
    obtain rfl:i=m+1:=by omega
    have dQ:∀j,j < m+1->nU listed j:=fun j hj=>h3 j (hdL j hj);rcases hI with ⟨p1,_⟩ | ⟨_,fL,p2,p3⟩
    ·exact absurd (dQ m (by omega)) p1
    have hv:∀k,val fr s k=val (σ m).1 (σ m).2 k:=fun k=>by
     have:=M.cut k IY.size (aq _) (fun j hj _=>(hl j (by omega)).1 (dQ j (by omega))) (fun j h4 h5=>by omega);rw [uL]at this; exact this
    have hvL:∀k,val fL s k=val { (σ m).1 with env:=(av,.lv z)::(σ m).1.env} (σ m).2 k:=fun k=>by
     cases k with
     | g t=>
      by_cases ht:t=av
      ·subst ht; simp only [val,dB,eu,p2.a]
      ·have:=hv (.g t);simp only [val,dB,aK (bO ht),p2.o t ht]at this ⊢;exact this
     | c t=>
      by_cases ht:t=av
      ·subst ht; simp only [val,dB,eu,p2.a]
      ·have:=hv (.c t);simp only [val,dB,aK (bO ht),p2.o t ht]at this ⊢;exact this
     | d=>have:=hv .d; simp only [val,p2.d]at this ⊢; exact this
     | h o=>exact hv (.h o)
     | hc o c=>exact hv (.hc o c)
     | n=>exact hv .n
    refine oJ (K:=wpAnyIn (Rd rd) 0 P .any ops Q n (listed.setIfInBounds (m+1) true)) hC hX hg (ops:=ops) (o:=ops[m+1]) (by rw [eL]; exact ⟨rfl,rfl,rfl⟩) K8 hL (p3.vT hvL) fun a' w' sQ => ?_;refine MY (by simp [OP]) (fun j hj=>(gO j).2 ?_) (hQ _ _ sQ);by_cases e:j=m+1
    ·exact .inl e
    ·exact .inr (dQ j (by omega))
theorem Br {n i:Nat}: ¬ nU (Array.replicate n false) i:=fun hi=>by
 simp only [nU,cl,lK]at hi;split at hi <;> cases hi
theorem zG {C:ay}{av:Nat}{z:D} {fr fr' :Fr} {s s' :St}(oq:oper C b ⟨some av,.nv (.c z),none,none⟩ fr s=some (fr',s')):fr.env.tQ av=true:=by
 simp only [oper,aI,bP.ev]at oq;split at oq
 ·rename_i hb;simp only [aB]at hb;exact hb.1
 ·cases oq
theorem xQ {m:Nat}:left (Array.replicate m false) m=m:=by
 unfold left;rw [List.countP_eq_length.2]
 ·simp
 ·intro i hi;simp only [cl,lK];split <;> rfl
theorem Ny (hm:P.follows .mixedOrders=true)(hC:dR pn P G C)(hX:∀f k,X f=some k->mA P f k):qP pn P G X C:=by
 intro L rd A ρ0 w0 id ops fr s e fr' s' a w tc hg h hI;unfold JM at h tc;simp only at h tc
 have hup:∀k,Inv ρ0 w0 A.nt fr { s with n:=s.n+k} a w:=fun k=>by
  obtain⟨ρ,h1,h2,h3⟩:=hI;exact⟨ρ,h1,h2,⟨fun o x hx=>by have:=h3.lt o x hx; show o < s.n+_; omega,h3.ok,h3.no,h3.live,h3.size⟩⟩
 split at h
 ·rename_i k y hd;simp only [hd]at tc;simp only [bX]at h;split at h
  ·cases h
  ·split at h
   ·rename_i fr1 s1 h1;simp only [aa,ae]at h;obtain⟨rfl,rfl,rfl⟩:=h;obtain⟨ao,σ,ahd,DR,t0,t1,Fl,rI⟩:=Di hC hd h1;refine wpIn_region_any (n:=0) hm ?_;refine Hh (rd:=rd) (b:=s.n) (Io hC _ _) hX hg DR Fl (fun j hj=>tc.imp (fun h=>h) fun hq=> ?_) ?_ _ _ fr _ a _ xQ (Pq.start (fun k=>by rw [t0]) DR) (hup k).drew
    ·simp only [AC.nd,dg]at hq;obtain⟨l,hl⟩:=rI j hj;exact hq _ hl
    ·rw [t1];exact fun a' w' sQ =>⟨trivial,sQ⟩
   ·cases h
 ·rename_i Fh;simp only [Fh]at tc;split at h
  ·rename_i ht;simp only [ht]at tc;split at h
   ·rename_i k y hd;simp only [hd]at tc;unfold SA at ht;split at ht
    ·rename_i av z oL d hl pO;simp only [aB,dg,mi,ff]at ht;obtain⟨⟨tP,sH⟩,O3⟩:=ht;have hlen:(ops.toList.map (fQ P G X A ops)).length=ops.size:=by simp
     have Xx:2<=ops.size:=by
      have:=congrArg List.length hl;simp only [dY,hlen,aV,bL]at this;omega
     obtain⟨m,zj⟩:∃m,ops.size=m+2:=⟨ops.size - 2,by omega⟩;have zH:(ops.toList.map (fQ P G X A ops)).length - 2=m:=by omega
     rw [zH]at hd hl pO O3 h tc;rw [show (ops.toList.map (fQ P G X A ops)).length - 1=m+1 by omega]at tP sH;have at1:∀(f:Oper->bg) i (h:i < ops.size),(ops.toList.map f)[i]? =some (f ops[i]):=fun f i h=>by simp [h]
     have at2:∀i (h:i < ops.size),(ops.toList.map direct)[i]? =some (direct ops[i]):=fun i h=>by simp [h]
     have eA:fQ P G X A ops (ops[m]'(by omega))=⟨some av,.nv (.c z),none,none⟩:=by
      have:=congrArg (fun q=>q[0]?) hl;simp only [cX,fP,at1 _ m (by omega),aR,aa]at this;exact this
     have eL:fQ P G X A ops (ops[m+1]'(by omega))=oL:=by
      have:=congrArg (fun q=>q[1]?) hl;simp only [cX,at1 _ (m+1) (by omega),bY,aR,aa]at this;exact this
     have dA:direct (ops[m]'(by omega))=[]:=by
      have:=congrArg (fun q=>q[0]?) pO;simp only [cX,fP,at2 m (by omega),aR,aa]at this;exact this
     have dL:direct (ops[m+1]'(by omega))=d:=by
      have:=congrArg (fun q=>q[1]?) pO;simp only [cX,at2 (m+1) (by omega),bY,aR,aa]at this;exact this
     have uL:(ops.toList.take m).toArray.size=m:=by simp; omega
     have Nq:∀j (h:j < m),(ops.toList.take m).toArray[j]'(by omega)=ops[j]'(by omega):=fun j h=>by simp
     rw [← List.map_take,← List.map_take]at hd;rw [hl]at h tc;simp only [bX]at h;simp only [AC.nd,aB,gQ,List.all_nil,lJ]at tc;split at h
     ·rename_i vB s2 h2;split at h2
      ·cases h2
      ·split at h2
       ·rename_i fr1 s1 h1;simp only [aa,ae]at h2;obtain⟨_,rfl,rfl⟩:=h2;split at h
        ·rename_i fr3 s3 h3;simp only [aa,ae]at h;obtain⟨rfl,rfl,rfl⟩:=h;obtain⟨ao,σ,ahd,DR,t0,t1,Fl,rI⟩:=Di (ops0:=ops) (ops:=(ops.toList.take m).toArray) hC (by simpa using hd) h1;rw [uL]at t1;simp only [opers]at h3;split at h3
         ·rename_i fr4 s4 h4;split at h3
          ·rename_i fr5 s5 h5;simp only [aa,ae]at h3;obtain⟨rfl,rfl⟩:=h3;refine wpIn_region_any (n:=0) hm ?_
           have Yr :∀j,(h:j < m)->(ao j).op=(fQ P G X A ops (ops[j]'(by omega))).op/\(ao j).dst=(fQ P G X A ops (ops[j]'(by omega))).dst/\(ao j).guard=(fQ P G X A ops (ops[j]'(by omega))).guard:=fun j hj=>by
            have:=Fl j (by omega);rw [Nq j hj]at this; exact this
           refine Hg (rd:=rd) (b:=s.n) (m:=m) hC (Io hC _ _) hX hg zj uL Nq DR Yr (fun j hj=>tc.imp (fun h=>h) fun hq=> ?_) eA rfl eL (tc.imp (fun h=>h) fun hq=>hq.2.2) dA (fun i hi=>by rw [dL]; exact oO.1 (tP i hi)) (fun i hi=>by rw [dL]at hi; exact az (sH i hi)) (fun j hj=> ?_) (by rw [t1]; exact h4) h5 (fun a' w' sQ =>⟨trivial,sQ⟩) _ (Array.replicate ops.size false) (Array.replicate (ops.toList.take m).toArray.size false) fr _ a _ xQ (by simp [zj]) (Pq.start (fun k=>by rw [t0]) DR) (fun j hj=> ?_) (fun h=> ?_) ?_ (.inl ⟨fun h=> ?_,(hup k).drew⟩)
           ·have hq:=hq.1;simp only [dg]at hq;obtain⟨l,hl⟩:=rI j (by omega);exact hq _ hl
           ·have hx:=O3 (fQ P G X A ops (ops[j]'(by omega))) (aM (i:=j) (by rw [de,bT hj,at1 _ j (by omega)]));obtain⟨g1,g2,g3⟩:=Yr j hj;refine⟨fun hm=> ?_,fun hm=> ?_⟩
            ·have:av∈(fQ P G X A ops (ops[j]'(by omega))).sl:=by
              unfold bg.sl at hm ⊢;rw [← g1,← g3]; exact hm
             rw [oO.2 this]at hx; cases hx.1
            ·rw [← g2,hm]at hx;simp [tv,p8]at hx
           ·exact⟨fun h=>absurd h Br,fun h=>absurd h Br⟩
           ·exact Br h
           ·have:=BH (DR.tQ (av:=av) (by rw [uL,t1]; exact zG h4) m 0 (by omega));rw [t0]at this; exact this
           ·exact Br h
          ·cases h3
         ·cases h3
        ·cases h
       ·cases h2
     ·rename_i cE;exfalso;cases h6:(s.ro && Nat.blt 0 k) with
      | true=>simp only [h6]at h; cases h
      | false=>cases h7:iz (lY s.n k C) s.n y [] fr { s with n:=s.n+k} with
       | none=>simp only [h6,h7]at h; cases h
       | some q=>exact cE q.1 q.2 (by simp only [h6,h7])
    ·cases ht
   ·simp [bX]at h
  ·simp [bX]at h
end Go.Ab
