/- Part. -/
import Derived.Test.YtmcdajnpdekocaaGreatDoorG22
set_option linter.unusedSectionVars false
set_option linter.unusedSimpArgs false
set_option linter.unusedVariables false
namespace Go.Ab
open Go
variable [Vals]
variable {ρ ρ' ρ0:Gh}{w w' w0:World}{P:Program}{pn:Pins}{G:Gl}{X:Exts}{A:Adv} {s s' :St}{a:Act}{C:zAa} {fr fr' :Fr}{b hi:Nat}
theorem zLe {acc:List Fp}{y:Fp}:∀ {l:List Nat},ckA acc y l=true→∀i∈l,∃x,acc[i]? =some x∧zDb x y=true
 | [],_,i,h=>by cases h
 | j::r,h,i,hi=>by
  simp only [ckA]at h
  split at h
  ·rename_i x hx
   split at h
   ·rename_i ha
    rcases List.mem_cons.1 hi with rfl | hi
    ·exact⟨x,hx,ha⟩
    ·exact zLe h i hi
   ·cases h
  ·cases h
theorem zIq {l m:List D}:∀ {rg:List (Nat×Nat×Nat)},cEq l m rg=true→∀r∈rg,∀c,r.2.1≤c→c < r.2.1+r.2.2→l[c]? =m[c]?
 | [],_,r,h=>by cases h
 | (x,c0,n)::rg,h,r,hr=>by
  simp only [cEq,Bool.and_eq_true]at h
  rcases List.mem_cons.1 hr with rfl | hr
  ·intro c h1 h2
   simp only at h1 h2
   have:=congrArg (fun q=>q[c - c0]?) (D.beqs_eq _ _ h.1)
   simp only [List.getElem?_take,List.getElem?_drop]at this
   rw [if_pos (by omega),if_pos (by omega),show c0+(c - c0)=c by omega]at this
   exact this
  ·exact zIq h.2 r hr
theorem yIm {u v:D}(h1:u.flat.length=v.flat.length)(h2:u.isAgg=v.isAgg):zQq u=zQq v:=by
 cases u <;> cases v <;> simp_all [zQq,D.flat,D.isAgg]
def zZj (rg:List (Nat×Nat×Nat))(q:Nat)(a b:Option Obj):Prop:=skel b=skel a∧∀c,inRg rg q c→zPt b c=zPt a c
theorem zSr {rg:List (Nat×Nat×Nat)}{q:Nat}{a b:Obj}(h:sOb rg a b=true):zZj rg q (some a) (some b):=by
 unfold sOb at h
 split at h
 ·rename_i r rs t v t' v'
  simp only [Bool.and_eq_true,Nat.beq_eq,beq_iff_eq]at h
  obtain⟨rfl,h1,h2,h3⟩:=h
  refine⟨by simp only [skel,Option.some.injEq,Obj.var.injEq,true_and]; exact (yIm h1 h2).symm,fun c hc=> ?_⟩
  rcases hc with hc | ⟨x,hx,_,hc1,hc2⟩
  ·cases hc
  ·simp only [zPt]; exact (zIq h3 x hx c hc1 hc2).symm
 ·have:=Obj.beq_eq _ _ h
  subst this
  exact⟨rfl,fun _ _=>rfl⟩
theorem zGn {rg:List (Nat×Nat×Nat)} {s s' :St}:∀ {l:List Nat},zAf rg s s' l=false→∀q∈l,zZj rg q (s.get q) (s'.get q)
 | [],_,q,hq=>by cases hq
 | o::r,h,q,hq=>by
  simp only [zAf]at h
  split at h
  ·rename_i x y hx hy
   split at h
   ·rename_i hb
    rcases List.mem_cons.1 hq with rfl | hq
    ·rw [hx,hy]; exact zSr hb
    ·exact zGn h q hq
   ·cases h
  ·rename_i hx hy
   rcases List.mem_cons.1 hq with rfl | hq
   ·rw [hx,hy]; exact ⟨rfl,fun _ _=>rfl⟩
   ·exact zGn h q hq
  ·cases h
theorem zIn {acc:List Fp} {s s' :St}:∀ {l:List Nat},lAs acc s s' l=false→∀i∈l,∃x,acc[i]? =some x∧∀q∈x.1,zZj x.2.2 q (s.get q) (s'.get q)
 | [],_,i,h=>by cases h
 | j::r,h,i,hi=>by
  simp only [lAs]at h
  split at h
  ·rename_i x hx
   split at h
   ·cases h
   ·rename_i ha
    rcases List.mem_cons.1 hi with rfl | hi
    ·exact⟨x,hx,zGn ha⟩
    ·exact zIn h i hi
  ·cases h
theorem T.keys_spec:∀ {t:T Obj} {k:Nat},k ∉ T.keys t→t.get k=none
 | .nil,k,_=>rfl
 | .node o l r,k,h=>by
  simp only [T.keys,List.mem_append,List.mem_map,not_or,not_exists,not_and]at h
  obtain⟨h1,h2,h3⟩:=h
  by_cases hk:k=0
  ·subst hk
   rw [T.get_node0]
   cases o with
   | none=>rfl
   | some x=>simp at h1
  ·by_cases ho:k % 2=1
   ·rw [T.get_node1 _ _ _ hk ho]
    exact T.keys_spec fun hm=>h2 _ hm (by omega)
   ·rw [T.get_node2 _ _ _ hk ho]
    exact T.keys_spec fun hm=>h3 _ hm (by omega)
theorem T.diff_spec:∀ {t u:T Obj} {k:Nat},k ∉ T.diff t u→u.get k=t.get k
 | .nil,u,k,h=>by
  simp only [T.diff]at h
  rw [T.keys_spec h]; rfl
 | .node o l r,.nil,k,h=>by
  simp only [T.diff]at h
  rw [T.keys_spec h]; rfl
 | .node o l r,.node o' l' r',k,h=>by
  simp only [T.diff,List.mem_append,List.mem_map,not_or,not_exists,not_and]at h
  obtain⟨h1,h2,h3⟩:=h
  by_cases hk:k=0
  ·subst hk
   rw [T.get_node0,T.get_node0]
   cases o with
   | none=>
    cases o' with
    | none=>rfl
    | some y=>simp at h1
   | some x=>
    cases o' with
    | none=>simp at h1
    | some y=>
     simp only at h1
     split at h1
     ·rename_i e; rw [Obj.beq_eq _ _ e]
     ·simp at h1
  ·by_cases ho:k % 2=1
   ·rw [T.get_node1 _ _ _ hk ho,T.get_node1 _ _ _ hk ho]
    exact T.diff_spec fun hm=>h2 _ hm (by omega)
   ·rw [T.get_node2 _ _ _ hk ho,T.get_node2 _ _ _ hk ho]
    exact T.diff_spec fun hm=>h3 _ hm (by omega)
theorem fpX_1 {s s' :St}{b:Nat}{e:Env}{o:zPk}:(fpX s s' b e o).1=(fpOf b e o).1:=by unfold fpX; split <;> rfl
theorem fpX_3 {s s' :St}{b:Nat}{e:Env}{o:zPk}:(fpX s s' b e o).2.2=(fpOf b e o).2.2:=by unfold fpX; split <;> rfl
theorem zOa {a b c:List Nat}(h:disj (a++b) c=true):disj a c=true∧disj b c=true:=by
 induction a with
 | nil=>exact ⟨rfl,h⟩
 | cons x r ih=>
  simp only [List.cons_append,disj]at h
  cases hx:memN x c with
  | true=>simp only [hx]at h; cases h
  | false=>
   simp only [hx]at h
   exact⟨by simp only [disj,hx]; exact (ih h).1,(ih h).2⟩
theorem zSp {s s' :St}{b:Nat}{e:Env}{o:zPk}{y:Fp}(h:zDb (fpX s s' b e o) y=true):zDb (fpOf b e o) y=true∧(o.op.kind=5→∀q∈y.1,s'.get q=s.get q):=by
 unfold fpX at h
 split at h
 ·simp only [zDb,Bool.and_eq_true]at h ⊢
  obtain⟨h1,h2,h3⟩:=h
  exact⟨⟨(zOa h1).2,(zOa h2).2,h3⟩,fun _ q hq=>T.diff_spec fun hm=>zEd (zOa h2).1 q hm hq⟩
 ·rename_i h5
  exact⟨h,fun e=>by rw [e]at h5; simp at h5⟩
structure Tr (C:zAa)(b:Nat)(ys:List (zPk×List Nat))(acc:List Fp)(σ:Nat→Fr×St):Prop where
 step:∀j o l,ys[j]? =some (o,l)→oper C b o (σ j).1 (σ j).2=some (σ (j+1))
 lv:∀j o l,ys[j]? =some (o,l)→(σ j).1.env.isLvo o.dst=false∧(σ (j+1)).1.env.isLvo o.dst=false
 chk:∀j o l,ys[j]? =some (o,l)→∀i∈l,(∃x,acc[i]? =some x∧zDb x (fpOf b (σ j).1.env o)=true)∨
  ∃i' o' l',i=acc.length+i' ∧i' < j∧ys[i']? =some (o',l')∧zDb (fpX (σ i').2 (σ (i' +1)).2 b (σ i').1.env o') (fpOf b (σ j).1.env o)=true
 kept:∀j o l,ys[j]? =some (o,l)→o.op.kind=5→∀i∈l,(∃x,acc[i]? =some x∧∀q∈x.1,zZj x.2.2 q ((σ j).2.get q) ((σ (j+1)).2.get q))∨
  ∃i' o' l',i=acc.length+i' ∧i' < j∧ys[i']? =some (o',l')∧∀q∈(fpOf b (σ i').1.env o').1,zZj (fpOf b (σ i').1.env o').2.2 q ((σ j).2.get q) ((σ (j+1)).2.get q)
theorem zLc:∀ {ys:List (zPk×List Nat)} {acc:List Fp} {fr:Fr} {s:St},zBk C b ys acc fr s=some (fr',s')→∃σ,σ 0=(fr,s)∧σ ys.length=(fr',s')∧Tr C b ys acc σ
 | [],acc,fr,s,h=>by
  simp only [zBk,Option.some.injEq,Prod.mk.injEq]at h
  obtain⟨rfl,rfl⟩:=h
  exact⟨fun _=>(fr,s),rfl,rfl,⟨fun j o l h=>by simp at h,fun j o l h=>by simp at h,fun j o l h=>by simp at h,fun j o l h=>by simp at h⟩⟩
 | (o,l)::r,acc,fr,s,h=>by
  simp only [zBk]at h
  split at h
  ·rename_i hc
   split at h
   ·rename_i fr1 s1 h1
    split at h
    ·rename_i hlv1
     simp only [Bool.or_eq_false_iff]at hlv1
     obtain⟨hlv1,hlost⟩:=hlv1
     obtain⟨σ,t0,t1,t2⟩:=zLc h
     simp only [Bool.and_eq_true,Bool.not_eq_true']at hc
     refine⟨fun j=>match j with | 0=>(fr,s) | j+1=>σ j,rfl,t1,⟨fun j o' l' hj=> ?_,fun j o' l' hj=> ?_,fun j o' l' hj=> ?_,fun j o' l' hj h5=> ?_⟩⟩
     ·cases j with
      | zero=>
       simp only [List.getElem?_cons_zero,Option.some.injEq,Prod.mk.injEq]at hj
       obtain⟨rfl,rfl⟩:=hj
       simp only [t0]; exact h1
      | succ j=>simp only [List.getElem?_cons_succ]at hj; exact t2.step j o' l' hj
     ·cases j with
      | zero=>
       simp only [List.getElem?_cons_zero,Option.some.injEq,Prod.mk.injEq]at hj
       obtain⟨rfl,rfl⟩:=hj
       simp only [t0]; exact ⟨hc.2,hlv1⟩
      | succ j=>simp only [List.getElem?_cons_succ]at hj; exact t2.lv j o' l' hj
     ·cases j with
      | zero=>
       simp only [List.getElem?_cons_zero,Option.some.injEq,Prod.mk.injEq]at hj
       obtain⟨rfl,rfl⟩:=hj
       exact fun i hi=> .inl (zLe hc.1 i hi)
      | succ j=>
       simp only [List.getElem?_cons_succ]at hj
       intro i hi
       rcases t2.chk j o' l' hj i hi with ⟨x,hx,ha⟩ | ⟨i',o2,l2,e1,e2,e3,e4⟩
       ·rcases Nat.lt_or_ge i acc.length with hlt | hge
        ·rw [List.getElem?_append_left hlt]at hx
         exact .inl ⟨x,hx,ha⟩
        ·rw [List.getElem?_append_right hge]at hx
         have hi0:i - acc.length=0:=by
          rcases Nat.eq_zero_or_pos (i - acc.length) with h | h
          ·exact h
          ·rw [List.getElem?_eq_none (by simp; omega)]at hx; cases hx
         rw [hi0]at hx
         simp only [List.getElem?_cons_zero,Option.some.injEq]at hx
         subst hx
         exact .inr ⟨0,o,l,by omega,by omega,by simp,by simpa only [t0] using ha⟩
       ·refine .inr ⟨i' +1,o2,l2, ?_,by omega,by simpa using e3,e4⟩
        simp only [List.length_append,List.length_cons,List.length_nil]at e1; omega
     ·cases j with
      | zero=>
       simp only [List.getElem?_cons_zero,Option.some.injEq,Prod.mk.injEq]at hj
       obtain⟨rfl,rfl⟩:=hj
       simp only [lost,h5,Nat.beq_refl]at hlost
       exact fun i hi=> .inl (by
        obtain⟨x,hx,hq⟩:=zIn hlost i hi
        exact⟨x,hx,fun q hm=>by simpa only [t0] using hq q hm⟩)
      | succ j=>
       simp only [List.getElem?_cons_succ]at hj
       intro i hi
       rcases t2.kept j o' l' hj h5 i hi with ⟨x,hx,ha⟩ | ⟨i',o2,l2,e1,e2,e3,e4⟩
       ·rcases Nat.lt_or_ge i acc.length with hlt | hge
        ·rw [List.getElem?_append_left hlt]at hx
         exact .inl ⟨x,hx,ha⟩
        ·rw [List.getElem?_append_right hge]at hx
         have hi0:i - acc.length=0:=by
          rcases Nat.eq_zero_or_pos (i - acc.length) with h | h
          ·exact h
          ·rw [List.getElem?_eq_none (by simp; omega)]at hx; cases hx
         rw [hi0]at hx
         simp only [List.getElem?_cons_zero,Option.some.injEq]at hx
         subst hx
         exact .inr ⟨0,o,l,by omega,by omega,by simp,by rw [fpX_1,fpX_3]at ha; exact ha⟩
       ·refine .inr ⟨i' +1,o2,l2, ?_,by omega,by simpa using e3,e4⟩
        simp only [List.length_append,List.length_cons,List.length_nil]at e1; omega
    ·cases h
   ·cases h
  ·cases h
structure Dr (C:zAa)(b hi:Nat)(ops:Array Oper)(ao:Nat→zPk)(σ:Nat→Fr×St)(ahd:Nat→List Nat):Prop where
 step:∀j,j < ops.size→oper C b (ao j) (σ j).1 (σ j).2=some (σ (j+1))
 one:∀j,j < ops.size→zQe (ao j)=true
 cut:zZk C b hi
 lv:∀j,j < ops.size→(σ j).1.env.isLvo (ao j).dst=false∧(σ (j+1)).1.env.isLvo (ao j).dst=false
 low:∀j,(h:j < ops.size)→∀i∈zDy ops[j],i < j
 ahead:∀(L:Nat→Prop),(∀j,(h:j < ops.size)→L j→∀i∈zDy ops[j],L i)→∀j,(h:j < ops.size)→(∀i∈zDy ops[j],L i)→∀i∈ahd j,L i
 free:∀i j,i < j→j < ops.size→i ∉ ahd j→∀k, ¬(wrK b (ao i) (σ i).1 (σ i).2 (σ (i+1)).2 k∧rdK b hi (ao j) (σ j).1 k)∧ ¬(rdK b hi (ao i) (σ i).1 k∧wrK b (ao j) (σ j).1 (σ j).2 (σ (j+1)).2 k)∧ ¬(wrK b (ao i) (σ i).1 (σ i).2 (σ (i+1)).2 k∧wrK b (ao j) (σ j).1 (σ j).2 (σ (j+1)).2 k)
theorem Dr.frame {ops:Array Oper}{ao:Nat→zPk}{σ:Nat→Fr×St}{ahd:Nat→List Nat}(D:Dr C b hi ops ao σ ahd){j:Nat}(hj:j < ops.size){k:Key}(hk: ¬ wrK b (ao j) (σ j).1 (σ j).2 (σ (j+1)).2 k):val (σ (j+1)).1 (σ (j+1)).2 k=val (σ j).1 (σ j).2 k:=
 zXx (fr:=(σ j).1) (s:=(σ j).2) (fr' :=(σ (j+1)).1) (s' :=(σ (j+1)).2) (D.step j hj) (D.one j hj) (D.lv j hj).1 (D.lv j hj).2 D.cut hk
theorem zJd {fr fr1:Fr}{s s1:St}{t:Nat}(h:val fr s (.g t)=val fr1 s1 (.g t)):fr.env.isLv t=fr1.env.isLv t:=by
 rw [zGi,zGi,isLvd_ss (val_ss h)]
theorem Dr.isLv {ops:Array Oper}{ao:Nat→zPk}{σ:Nat→Fr×St}{ahd:Nat→List Nat}(D:Dr C b hi ops ao σ ahd)(t:Nat):∀j,j≤ops.size→(σ j).1.env.isLv t=(σ 0).1.env.isLv t
 | 0,_=>rfl
 | j+1,hj=>by
  rw [← D.isLv t j (by omega)]
  by_cases hk:wrK b (ao j) (σ j).1 (σ j).2 (σ (j+1)).2 (.g t)
  ·have:=D.lv j (by omega)
   simp only [wrK]at hk
   simp only [hk,Env.isLvo]at this
   rw [this.1,this.2]
  ·exact zJd (D.frame (by omega) hk)
theorem Dr.between {ops:Array Oper}{ao:Nat→zPk}{σ:Nat→Fr×St}{ahd:Nat→List Nat}(D:Dr C b hi ops ao σ ahd){k:Key}{i:Nat}:∀ {c:Nat},i≤c→c≤ops.size→(∀q,i≤q→q < c→ ¬ wrK b (ao q) (σ q).1 (σ q).2 (σ (q+1)).2 k)→val (σ c).1 (σ c).2 k=val (σ i).1 (σ i).2 k
 | 0,h,_,_=>by obtain rfl:i=0:=by omega
               rfl
 | c+1,h,hc,hw=>by
  by_cases e:i=c+1
  ·subst e; rfl
  ·rw [D.frame (by omega) (hw c (by omega) (by omega))]
   exact D.between (by omega) (by omega) (fun q h1 h2=>hw q h1 (by omega))
abbrev Lst (listed:Array Bool)(j:Nat):Prop:=listed.getD j false=true
structure Mid (C:zAa)(b:Nat)(ops:Array Oper)(ao:Nat→zPk)(σ:Nat→Fr×St)(listed:Array Bool)(fr:Fr)(s:St):Prop where
 size:listed.size=ops.size
 down:∀j,(h:j < ops.size)→Lst listed j→∀i∈zDy ops[j],Lst listed i
 lv:∀t,fr.env.isLv t=(σ 0).1.env.isLv t
 cut:∀k c,c≤ops.size→(∀i,i < c→wrK b (ao i) (σ i).1 (σ i).2 (σ (i+1)).2 k→Lst listed i)→(∀i,c≤i→i < ops.size→Lst listed i→ ¬ wrK b (ao i) (σ i).1 (σ i).2 (σ (i+1)).2 k)→val fr s k=val (σ c).1 (σ c).2 k
theorem Lst_set {listed:Array Bool}{j i:Nat}(hj:j < listed.size):Lst (listed.setIfInBounds j true) i↔i=j∨Lst listed i:=by
 unfold Lst
 rw [Array.getD_eq_getD_getElem?,Array.getElem?_setIfInBounds,Array.getD_eq_getD_getElem?]
 by_cases h:j=i
 ·subst h; simp [hj]
 ·have: ¬ i=j:=fun e=>h e.symm
  simp [h,this]
theorem Mid.step {ops:Array Oper}{ao:Nat→zPk}{σ:Nat→Fr×St}{ahd:Nat→List Nat}{listed:Array Bool}(D:Dr C b hi ops ao σ ahd)(M:Mid C b ops ao σ listed fr s){j:Nat}(hj:j < ops.size)(hn: ¬ Lst listed j)(hd:∀i∈zDy ops[j],Lst listed i):
  ∃s1 fr2 s2,(∀k,val fr s1 k=val fr s k)∧oper C b (ao j) fr s1=some (fr2,s2)∧Mid C b ops ao σ (listed.setIfInBounds j true) fr2 s2:=by
 have hahd:∀i∈ahd j,Lst listed i:=D.ahead (Lst listed) M.down j hj hd
 have hL:∀i,Lst (listed.setIfInBounds j true) i↔i=j∨Lst listed i:=fun i=>Lst_set (by rw [M.size]; exact hj)
 have fr1:∀i,i < j→ ¬ Lst listed i→∀k, ¬(wrK b (ao i) (σ i).1 (σ i).2 (σ (i+1)).2 k∧rdK b hi (ao j) (σ j).1 k):=fun i hi hl k=>(D.free i j hi hj (fun h=>hl (hahd i h)) k).1
 have nah:∀i,i < ops.size→Lst listed i→j ∉ ahd i:=fun i hi hl h=>hn (D.ahead (Lst listed) M.down i hi (M.down i hi hl) j h)
 have fr2:∀i,j < i→i < ops.size→Lst listed i→∀k, ¬(rdK b hi (ao j) (σ j).1 k∧wrK b (ao i) (σ i).1 (σ i).2 (σ (i+1)).2 k)∧ ¬(wrK b (ao j) (σ j).1 (σ j).2 (σ (j+1)).2 k∧wrK b (ao i) (σ i).1 (σ i).2 (σ (i+1)).2 k):=fun i hi hs hl k=>(D.free j i hi hs (nah i hs hl) k).2
 have hrd:∀k,rdK b hi (ao j) (σ j).1 k→val fr s k=val (σ j).1 (σ j).2 k:=fun k hk=>by
  refine M.cut k j (by omega) (fun i hi hw=> ?_) (fun i hi hs hl hw=> ?_)
  ·rcases Decidable.em (Lst listed i) with h | h
   ·exact h
   ·exact absurd ⟨hw,hk⟩ (fr1 i hi h k)
  ·rcases Nat.lt_or_eq_of_le hi with h | h
   ·exact (fr2 i h hs hl k).1 ⟨hk,hw⟩
   ·subst h; exact hn hl
 obtain⟨s1,f2,s2,⟨g1,_⟩,g2,g3,g4⟩:=zVs (fr:=(σ j).1) (s:=(σ j).2) (fr' :=(σ (j+1)).1) (s' :=(σ (j+1)).2) (fr1:=fr) (s1:=s) (D.step j hj) (D.one j hj) (D.lv j hj).1 (D.lv j hj).2 hrd (fun t=>by rw [M.lv,D.isLv t j (by omega)]) D.cut
 refine⟨s1,f2,s2,g1,g2,⟨by simp [M.size],fun i hi hl=> ?_,fun t=> ?_,fun k c hc h1 h2=> ?_⟩⟩
 ·rcases (hL i).1 hl with rfl | hl
  ·exact fun q hq=>(hL q).2 (.inr (hd q hq))
  ·exact fun q hq=>(hL q).2 (.inr (M.down i hi hl q hq))
 ·by_cases hk:wrK b (ao j) (σ j).1 (σ j).2 (σ (j+1)).2 (.g t)
  ·rw [zJd (g3 _ hk),D.isLv t (j+1) (by omega)]
  ·rw [zJd (g4 _ hk),M.lv]
 ·by_cases hk:wrK b (ao j) (σ j).1 (σ j).2 (σ (j+1)).2 k
  ·have hcj:j < c:=by
    rcases Nat.lt_or_ge j c with h | h
    ·exact h
    ·exact absurd hk (h2 j h hj ((hL j).2 (.inl rfl)))
   rw [g3 k hk]
   refine (D.between (by omega) hc (fun q hq1 hq2 hw=> ?_)).symm
   have hq:=(hL q).1 (h1 q hq2 hw)
   rcases hq with rfl | hq
   ·omega
   ·exact (fr2 q (by omega) (by omega) hq k).2 ⟨hk,hw⟩
  ·rw [g4 k hk]
   refine M.cut k c hc (fun i hi hw=> ?_) (fun i hi hs hl=>h2 i hi hs ((hL i).2 (.inr hl)))
   rcases (hL i).1 (h1 i hi hw) with rfl | h
   ·exact absurd hw hk
   ·exact h
theorem zKc {ops:Array Oper}{listed:Array Bool}{i:Nat}(hs:listed.size=ops.size):i∈Region.ready .any ops listed↔∃h:i < ops.size, ¬ Lst listed i∧∀q∈zDy ops[i],Lst listed q:=by
 unfold Region.ready
 simp only [List.mem_filter,List.mem_range]
 constructor
 ·rintro⟨h1,h2⟩
  refine⟨h1, ?_⟩
  have hls:i < listed.size:=by omega
  simp only [Array.getD_eq_getD_getElem?,Array.getElem?_eq_getElem h1,Array.getElem?_eq_getElem hls,Option.getD_some,Option.map_some,Bool.and_eq_true,Bool.not_eq_true']at h2
  refine⟨fun h=> ?_,fun q hq=> ?_⟩
  ·simp only [Lst,Array.getD_eq_getD_getElem?,Array.getElem?_eq_getElem hls,Option.getD_some]at h
   rw [h]at h2; cases h2.1
  ·simp only [zDy,List.mem_filterMap,Array.mem_toList_iff]at hq
   obtain⟨e,he,hq⟩:=hq
   split at hq
   ·rename_i hb
    simp only [Option.some.injEq]at hq; subst hq
    have:=h2.2
    rw [Array.all_eq_true']at this
    have:=this e he
    rw [hb]at this
    simp only [Bool.not_true,Bool.false_or]at this
    simp only [Lst,Array.getD_eq_getD_getElem?]
    exact this
   ·cases hq
 ·rintro⟨h1,h2,h3⟩
  have hls:i < listed.size:=by omega
  refine⟨h1, ?_⟩
  simp only [Array.getD_eq_getD_getElem?,Array.getElem?_eq_getElem h1,Array.getElem?_eq_getElem hls,Option.getD_some,Option.map_some,Bool.and_eq_true,Bool.not_eq_true']
  refine⟨?_, ?_⟩
  ·simp only [Lst,Array.getD_eq_getD_getElem?,Array.getElem?_eq_getElem hls,Option.getD_some]at h2
   simpa using h2
  ·rw [Array.all_eq_true']
   intro e he
   by_cases hb:Region.binds .any e=true
   ·have:=h3 e.on (by simp only [zDy,List.mem_filterMap,Array.mem_toList_iff]; exact ⟨e,he,by simp [hb]⟩)
    simp only [Lst,Array.getD_eq_getD_getElem?]at this
    simp only [hb,this,Bool.not_true,Bool.false_or]
   ·simp [hb]
def left (listed:Array Bool)(n:Nat):Nat:=(List.range n).countP fun i=> !listed.getD i false
theorem left_set {listed:Array Bool}{n j:Nat}(hs:listed.size=n)(hj:j < n)(hn: ¬ Lst listed j):left listed n=left (listed.setIfInBounds j true) n+1:=by
 unfold left
 have hget:∀i,(listed.setIfInBounds j true).getD i false=if i=j then true else listed.getD i false:=fun i=>by
  rw [Array.getD_eq_getD_getElem?,Array.getElem?_setIfInBounds,Array.getD_eq_getD_getElem?]
  by_cases h:j=i
  ·subst h; simp [hs,hj]
  ·have: ¬ i=j:=fun e=>h e.symm
   simp [h,this]
 have key:∀m,m≤n→(List.range m).countP (fun i=> !listed.getD i false)=(List.range m).countP (fun i=> !(listed.setIfInBounds j true).getD i false)+(if j < m then 1 else 0):=by
  intro m
  induction m with
  | zero=>intro _; simp
  | succ m ih=>
   intro hm
   rw [List.range_succ,List.countP_append,List.countP_append,ih (by omega)]
   simp only [List.countP_cons,List.countP_nil,hget m]
   by_cases h1:m=j
   ·subst h1
    have:listed.getD m false=false:=by simpa [Lst] using hn
    simp [this]
   ·have h2:(j < m+1)=(j < m):=by
     apply propext; omega
    simp only [if_neg h1,h2]
    split <;> split <;> omega
 have:=key n (Nat.le_refl _)
 rw [this,if_pos hj]
theorem zYn {rd:Option Nat}(hC:ClO pn P G C)(hX:∀f k,X f=some k→zQi P f k)(hg:GlOk pn G ρ0 w0){ops:Array Oper}{ao:Nat→zPk}{σ:Nat→Fr×St}{ahd:Nat→List Nat}(D:Dr C b hi ops ao σ ahd)
  (hao:∀j,(h:j < ops.size)→(ao j).op=(zPy P G X A ops ops[j]).op∧(ao j).dst=(zPy P G X A ops ops[j]).dst∧(ao j).guard=(zPy P G X A ops ops[j]).guard)(hrd:∀j,j < ops.size→rd=none∨(ao j).op.nd=true){Q:Exit→Act→World→Prop}
  (hQ:∀a' w',Inv ρ0 w0 A.nt (σ ops.size).1 (σ ops.size).2 a' w' →Q .normal a' w'):∀(n:Nat) (listed:Array Bool) (fr:Fr) (s:St) (a:Act) (w:World),left listed ops.size=n→Mid C b ops ao σ listed fr s→Inv ρ0 w0 A.nt fr s a w→wpAnyIn (Rd rd) 0 P .any ops Q n listed a w:=by
 have hfin:∀(listed:Array Bool) (fr:Fr) (s:St) (a:Act) (w:World),Mid C b ops ao σ listed fr s→Inv ρ0 w0 A.nt fr s a w→(∀j,j < ops.size→Lst listed j)→Q .normal a w:=fun listed fr s a w M hI hall=>
  hQ a w (Inv.of_val (fun k=>M.cut k ops.size (Nat.le_refl _) (fun i hi _=>hall i hi) (fun i h1 h2=>by omega)) hI)
 intro n
 induction n with
 | zero=>
  intro listed fr s a w hn M hI
  have hall:∀j,j < ops.size→Lst listed j:=fun j hj=>by
   simp only [left,List.countP_eq_zero]at hn
   have:=hn j (by simpa using hj)
   simp only [Bool.not_eq_true',Bool.not_eq_false]at this
   exact this
  refine⟨List.eq_nil_iff_forall_not_mem.2 fun i hi=> ?_,hfin listed fr s a w M hI hall⟩
  obtain⟨h1,h2,_⟩:=(zKc M.size).1 hi
  exact h2 (hall i h1)
 | succ n ih=>
  intro listed fr s a w hn M hI
  refine⟨fun h0=>hfin listed fr s a w M hI fun j hj=> ?_,fun i hi=> ?_⟩
  ·
   have:∀j,j < ops.size→Lst listed j:=by
    intro j
    induction j using Nat.strongRecOn with
    | ind j ihj=>
     intro hj
     rcases Decidable.em (Lst listed j) with h | h
     ·exact h
     ·have:j∈Region.ready .any ops listed:=(zKc M.size).2 ⟨hj,h,fun q hq=>ihj q (D.low j hj q hq) (by have:=D.low j hj q hq; omega)⟩
      rw [h0]at this; cases this
   exact this j hj
  ·obtain⟨h1,h2,h3⟩:=(zKc M.size).1 hi
   obtain⟨s1,fr2,s2,k1,k2,k3⟩:=M.step D h1 h2 h3
   have hI1:Inv ρ0 w0 A.nt fr s1 a w:=hI.of_val (fun k=>(k1 k).symm)
   have:=zRh (Q:=Q) (K:=wpAnyIn (Rd rd) 0 P .any ops Q n (listed.setIfInBounds i true)) hC hX hg (ops:=ops) (hao i h1) (hrd i h1) k2 hI1 (fun a' w' hI' =>
    ih _ fr2 s2 a' w' (by have:=left_set M.size h1 h2; omega) k3 hI')
   unfold wpOpIn
   simp only [Array.getElem?_eq_getElem h1]
   split
   ·rename_i hw
    rw [if_pos hw]at this
    exact this
   ·rename_i hw
    rw [if_neg hw]at this
    exact⟨fun _ _=>trivial,this⟩
theorem zHy:∀(l:List zPk) (k i:Nat),((ranks l k).1[i]?).map (fun o=>(o.op,o.dst,o.guard))=(l[i]?).map (fun o=>(o.op,o.dst,o.guard))
 | [],k,i=>by simp [ranks]
 | o::r,k,i=>by
  simp only [ranks]
  split
  ·cases i with
   | zero=>rfl
   | succ i=>simpa using zHy r (k+1) i
  ·cases i with
   | zero=>rfl
   | succ i=>simpa using zHy r k i
theorem zPh:∀(l:List zPk) (k:Nat),(ranks l k).1.length=l.length
 | [],k=>rfl
 | o::r,k=>by
  simp only [ranks]
  split <;> simp [zPh]
theorem Inv.drew {nt:Nat}(h:Inv ρ0 w0 nt fr s a w):Inv ρ0 w0 nt fr s a { w with drawn:=w.drawn+1}:=by
 obtain⟨ρ,h1,h2,h3⟩:=h
 have hK:Kp ρ w ρ { w with drawn:=w.drawn+1}:=⟨rfl,rfl,rfl,Nat.le_refl _,fun _ _ _=>⟨rfl,rfl⟩,fun _ h=>⟨h,rfl⟩,fun _ _ h=> .inr ⟨h,fun _ hb=>⟨hb,rfl,Nat.le_refl _,rfl⟩⟩⟩
 exact⟨ρ,h1.trans hK,h2.mono hK,h3.keep hK.r (fun _ _=>Iff.rfl) rfl (fun b o hb=>⟨rfl,rfl,rfl,rfl⟩) (fun b hb=>h3.size b hb)⟩
theorem Mid.start {ops:Array Oper}{ao:Nat→zPk}{σ:Nat→Fr×St}(h:∀k,val fr s k=val (σ 0).1 (σ 0).2 k){ahd:Nat→List Nat}(D:Dr C b hi ops ao σ ahd):Mid C b ops ao σ (Array.replicate ops.size false) fr s:=by
 have hno:∀i, ¬ Lst (Array.replicate ops.size false) i:=fun i hi=>by
  simp only [Lst,Array.getD_eq_getD_getElem?,Array.getElem?_replicate]at hi
  split at hi <;> cases hi
 refine⟨by simp,fun j _ hl=>absurd hl (hno j),fun t=>zJd (h _),fun k c hc h1 h2=> ?_⟩
 rw [h]
 exact (D.between (Nat.zero_le _) hc (fun q _ hq hw=>hno q (h1 q hq hw))).symm
theorem zNm:∀(l:List zPk) (k:Nat),k≤(ranks l k).2
 | [],k=>Nat.le_refl _
 | o::r,k=>by
  simp only [ranks]
  split
  ·exact Nat.le_trans (Nat.le_succ k) (zNm r (k+1))
  ·exact zNm r k
theorem zNn {r:Nat}{o:zPk}(ho:zQe o=true)(hr:o.al=some r):∀(l:List zPk) (k i:Nat),(ranks l k).1[i]? =some o→r < (ranks l k).2
 | [],k,i,h=>by simp [ranks]at h
 | x::q,k,i,h=>by
  simp only [ranks]at h ⊢
  split at h
  ·rename_i hx
   rw [if_pos hx]
   cases i with
   | zero=>
    simp only [List.getElem?_cons_zero,Option.some.injEq]at h
    subst h
    simp only [Option.some.injEq]at hr
    subst hr
    exact zNm q (k+1)
   | succ i=>exact zNn ho hr q (k+1) i (by simpa using h)
  ·rename_i hx
   rw [if_neg hx]
   cases i with
   | zero=>
    simp only [List.getElem?_cons_zero,Option.some.injEq]at h
    subst h
    simp only [zQe,hr,Option.isSome_some,Bool.and_eq_true]at ho
    simp [hx]at ho
   | succ i=>exact zNn ho hr q k i (by simpa using h)
theorem cutC_ok (hC:ClO pn P G C)(b k:Nat):ClO pn P G (cutC b k C):=
 ⟨fun f l s r h hy args w=>by obtain ⟨d,s'⟩:=r; exact hC.enter f l s _ (zOb hC.rox h) hy args w,fun f l s d s' ρ w vs h=>hC.calls f l s d s' ρ w vs (zOb hC.rox h),cutC_ro hC.ro b k,fun y l s d s' ρ w u vs h=>hC.yields y l s d s' ρ w u vs (zOb hC.rox h),cutC_rox hC.rox b k⟩
theorem drawn_ok (hm:P.follows .mixedOrders=true)(hC:ClO pn P G C)(hX:∀f k,X f=some k→zQi P f k):zGl pn P G X C:=by
 intro rd A ρ0 w0 id ops k l fr s fr' s' a w Q hnd hg hr hro h hI hQ
 unfold regB at hr
 simp only at hr
 split at hr
 ·rename_i ys hlow hys
  simp only [AC.dreg.injEq]at hr
  obtain⟨rfl,rfl⟩:=hr
  obtain⟨hmap,hck⟩:=zSi hys
  obtain⟨σ,t0,t1,t2⟩:=zLc h
  have hlen:ys.length=ops.size:=by
   have:=congrArg List.length hmap
   simpa [zPh] using this
  let ao:Nat→zPk:=fun j=>match ys[j]? with
   | some (o,_)=>o
   | none=>⟨none,.bad,none,none⟩
  have hys:∀j,j < ops.size→∃l,ys[j]? =some (ao j,l):=fun j hj=>by
   have hj' :j < ys.length:=by omega
   refine⟨ys[j].2, ?_⟩
   simp only [ao,List.getElem?_eq_getElem hj']
  have hds:∀j,(hj:j < ops.size)→(ops.toList.map zDy)[j]? =some (zDy ops[j]):=fun j hj=>by simp [hj]
  have D:Dr (cutC s.n (ranks (ops.toList.map (zPy P G X A ops)) 0).2 C) s.n (s.n+(ranks (ops.toList.map (zPy P G X A ops)) 0).2) ops ao σ (fun j=>(aheads (ops.toList.map zDy)).getD j []):=by
   refine⟨fun j hj=> ?_,fun j hj=> ?_,cutC_cut hC.rox _ _,fun j hj=> ?_,fun j hj i hi=> ?_,fun L hL j hj hd=> ?_,fun i j hij hj hna q=> ?_⟩
   ·obtain⟨l,hl⟩:=hys j hj
    exact t2.step j _ l hl
   ·obtain⟨l,hl⟩:=hys j hj
    exact (hck j _ l hl).1
   ·obtain⟨l,hl⟩:=hys j hj
    exact t2.lv j _ l hl
   ·have:=zRn hlow j _ (hds j hj) i hi
    omega
   ·refine zHq (ds:=ops.toList.map zDy) (L:=L) (fun j d hd hLj=> ?_) _ [] [] rfl rfl (fun j d _ _ i hi=>by simp at hi) j _ (hds j hj) hd
    rcases Nat.lt_or_ge j ops.size with h | h
    ·rw [hds j h]at hd
     simp only [Option.some.injEq]at hd; subst hd
     exact hL j h hLj
    ·rw [List.getElem?_eq_none (by simpa using h)]at hd; cases hd
   ·obtain⟨lj,hlj⟩:=hys j hj
    obtain⟨li,hli⟩:=hys i (by omega)
    obtain⟨oj,cj⟩:=hck j _ lj hlj
    obtain⟨oi,_⟩:=hck i _ li hli
    have hi:([]++(ranks (ops.toList.map (zPy P G X A ops)) 0).1.take j)[i]? =some (ao i):=by
     rw [List.nil_append,List.getElem?_take,if_pos hij,← hmap,List.getElem?_map,hli]; rfl
    rcases zMq cj i _ hi with g | ⟨g1,g2⟩
    ·simp only [Nat.zero_add,List.length_nil]at g
     exact absurd g hna
    ·have hap:zQr (ao i).op (ao j).op=0∨(zQr (ao i).op (ao j).op=1∧zDb (fpOf s.n (σ i).1.env (ao i)) (fpOf s.n (σ j).1.env (ao j))=true):=by
      refine g2.imp (fun h=>h) fun ⟨a2,g3⟩=>⟨a2, ?_⟩
      rcases t2.chk j _ lj hlj _ g3 with ⟨x,hx,_⟩ | ⟨i',o',l',e1,e2,e3,e4⟩
      ·simp at hx
      ·simp only [List.length_nil,Nat.zero_add]at e1
       subst e1
       rw [hli]at e3
       simp only [Option.some.injEq,Prod.mk.injEq]at e3
       rw [← e3.1]at e4
       exact (zSp e4).1
     have hap2:(ao i).op.kind=5→zQr (ao i).op (ao j).op=1→∀q∈(fpOf s.n (σ j).1.env (ao j)).1,(σ (i+1)).2.get q=(σ i).2.get q:=by
      intro h5 h1
      have g3:=(g2.resolve_left (by rw [h1]; decide)).2
      rcases t2.chk j _ lj hlj _ g3 with ⟨x,hx,_⟩ | ⟨i',o',l',e1,e2,e3,e4⟩
      ·simp at hx
      ·simp only [List.length_nil,Nat.zero_add]at e1
       subst e1
       rw [hli]at e3
       simp only [Option.some.injEq,Prod.mk.injEq]at e3
       rw [← e3.1]at e4
       exact (zSp e4).2 h5
     have hal:∀q lq,ys[q]? =some (ao q,lq)→zQe (ao q)=true→∀r,(ao q).al=some r→s.n+r < s.n+(ranks (ops.toList.map (zPy P G X A ops)) 0).2:=fun q lq hq ho r hr=>Nat.add_lt_add_left (zNn ho hr _ 0 q (by rw [← hmap,List.getElem?_map,hq]; rfl)) _
     refine free_of oi oj g1 hap (hal i _ hli oi) (hal j _ hlj oj) (fun h5 h1=> ?_) hap2 q
     have g3:=(g2.resolve_left (by rw [h1]; decide)).2
     rcases t2.kept j _ lj hlj h5 _ g3 with ⟨x,hx,_⟩ | ⟨i',o',l',e1,e2,e3,e4⟩
     ·simp at hx
     ·simp only [List.length_nil,Nat.zero_add]at e1
      subst e1
      rw [hli]at e3
      simp only [Option.some.injEq,Prod.mk.injEq]at e3
      rw [← e3.1]at e4
      exact e4
  have hao:∀j,(h:j < ops.size)→(ao j).op=(zPy P G X A ops ops[j]).op∧(ao j).dst=(zPy P G X A ops ops[j]).dst∧(ao j).guard=(zPy P G X A ops ops[j]).guard:=fun j hj=>by
   obtain⟨l,hl⟩:=hys j hj
   have h1:=zHy (ops.toList.map (zPy P G X A ops)) 0 j
   rw [← hmap,List.getElem?_map,hl,List.getElem?_map,Array.getElem?_toList,Array.getElem?_eq_getElem hj]at h1
   simp only [Option.map_some,Option.some.injEq,Prod.mk.injEq]at h1
   exact h1
  refine wpIn_region_any (n:=0) hm ?_
  have hI' :Inv ρ0 w0 A.nt fr { s with n:=s.n+(ranks (ops.toList.map (zPy P G X A ops)) 0).2} a w:=by
   obtain⟨ρ,h1,h2,h3⟩:=hI
   exact⟨ρ,h1,h2,⟨fun o x hx=>by have:=h3.lt o x hx; show o < s.n+_; omega,h3.ok,h3.no,h3.live,h3.size⟩⟩
  refine zYn (rd:=rd) (b:=s.n) (cutC_ok hC _ _) hX hg D hao (fun j hj=>hnd.imp (fun h=>h) fun hq=> ?_) ?_ _ _ fr _ a _ ?_ (Mid.start (fun k=>by rw [t0]) D) hI'.drew
  ·simp only [AC.nd,List.all_eq_true]at hq
   obtain⟨l,hl⟩:=hys j hj
   exact hq _ (List.mem_of_getElem? hl)
  ·rw [← hlen,t1]
   exact hQ
  ·unfold left
   rw [List.countP_eq_length.2]
   ·simp
   ·intro i hi
    simp only [Array.getD_eq_getD_getElem?,Array.getElem?_replicate]
    split <;> rfl
 ·cases hr
end Go.Ab
