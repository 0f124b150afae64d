/- Part. -/
import Derived.Scope
import Derived.Test.YtmcdajnpdekocaaGreatDoorG16
set_option linter.unusedSectionVars false
set_option linter.unusedSimpArgs false
set_option linter.unusedVariables false
namespace Go.Ab
open Go
variable [Vals]
variable {ρ ρ' ρ0:Gh}{w w' w0:World}{P:Program}{pn:Pins}{G:Gl}{X:Exts}{A:Adv} {s s' :St}{env:Env}{a:Act}{lo:Nat}{d:D}{C:zAa}{L:zBl}{al:Option Nat} {fr fr' :Fr}
theorem zIm {rd:Option Nat}(hC:ClO pn P G C)(hX:∀f k,X f=some k→zQi P f k)(hg:GlOk pn G ρ0 w0){ops:Array Oper}{b:Nat}{Q:Exit→Act→World→Prop}:
  ∀(l:List Oper) (n:Nat) (fr:Fr) (s:St) (a:Act) (w:World),(∀i,i < l.length→ops[n+i]? =l[i]?)→(rd=none∨(l.map (zPy P G X A ops)).all (fun o=>o.op.nd)=true)→opers C b (l.map (zPy P G X A ops)) fr s=some (fr',s')→Inv ρ0 w0 A.nt fr s a w→
   (∀a' w',Inv ρ0 w0 A.nt fr' s' a' w' →Q .normal a' w')→wpOpsIn (Rd rd) 0 P ops Q (List.range' n l.length) a w
 | [],n,fr,s,a,w,_,_,h,hI,hQ=>by
  simp only [List.map_nil,opers,Option.some.injEq,Prod.mk.injEq]at h
  obtain⟨rfl,rfl⟩:=h
  exact hQ _ _ hI
 | o::l,n,fr,s,a,w,hi,hrd,h,hI,hQ=>by
  simp only [List.map_cons,opers]at h
  simp only [List.map_cons,List.all_cons,Bool.and_eq_true]at hrd
  split at h
  ·rename_i fr1 s1 h1
   have h0:=hi 0 (by simp)
   simp only [Nat.add_zero,List.getElem?_cons_zero]at h0
   simp only [List.length_cons,List.range'_succ]
   simp only [wpOpsIn,h0]
   have:=zRh (Q:=Q) (K:=wpOpsIn (Rd rd) 0 P ops Q (List.range' (n+1) l.length)) hC hX hg (ops:=ops) (o:=o) ⟨rfl,rfl,rfl⟩ (hrd.imp id And.left) h1 hI (fun a' w' hI' =>
    zIm hC hX hg l (n+1) fr1 s1 a' w' (fun i hlt=>by
     have:=hi (i+1) (by simpa using hlt)
     simpa [Nat.add_assoc,Nat.add_comm 1 i] using this) (hrd.imp id And.right) h hI' hQ)
   split
   ·rename_i hw
    rw [if_pos hw]at this
    exact this
   ·rename_i hw
    rw [if_neg hw]at this
    exact⟨fun _ _=>trivial,this⟩
  ·cases h
def zQu:Ex→Exit→Prop
 | .normal,.normal=>True
 | .exit i,.exit j=>i=j
 | .ret,.ret=>True
 | _,_=>False
def Post (ρ0:Gh)(w0:World)(nt:Nat)(e:Ex)(fr:Fr)(s:St):Exit→Act→World→Prop:=fun x a w=>zQu e x∧Inv ρ0 w0 nt fr s a w
theorem zTa {rd:Option Nat}(n:Nat):(Rd rd).room n:=room_wide n
def zOq (rd:Option Nat)(P:Program)(c:Code)(Q:Exit→Act→World→Prop)(a:Act)(w:World):Prop:=
 ∀(b:Frame) (k:List Item) (cs:List Frame),b.roundOf=rd→∃e a' w',Q e a' w' ∧ArrivesIn (Machine.fenced P (Rd rd)) P (lone (b.atR a (.code c:: .inLoop c::k)) cs w) b k cs e a' w'
theorem zUe {rd:Option Nat}{c:Code}{Q:Exit→Act→World→Prop}(h:c.wpIn (Rd rd) 0 P (Exit.then (zOq rd P c Q) Q) a w):zOq rd P c Q a w:=by
 intro b k cs hro
 obtain⟨e,a₁,w₁,hq,harr⟩:=h b (.inLoop c::k) cs hro trivial (zTa _)
 cases e with
 | normal=>
  obtain⟨e₂,a₂,w₂,hq₂,harr₂⟩:=hq b k cs hro
  exact⟨e₂,a₂,w₂,hq₂,.of_steps (StepsIn.trans harr (.one (fenced_calm (n:=0) trivial (zTa _) rfl) stepR_inLoop)) harr₂⟩
 | exit id=>exact ⟨_,a₁,w₁,hq,.pass (x:= .inLoop c) rfl (fun _ _=> .inl (by simp)) harr⟩
 | goto l=>exact ⟨_,a₁,w₁,hq,.pass (x:= .inLoop c) rfl (fun _ _=> .inl (by simp)) harr⟩
 | ret=>exact ⟨_,a₁,w₁,hq,.pass (x:= .inLoop c) rfl (fun _ _=> .inl (by simp)) harr⟩
 | panic ch=>exact ⟨_,a₁,w₁,hq,.pass (x:= .inLoop c) rfl (fun _ _=> .inl (by simp)) harr⟩
 | outgrown=>exact ⟨_,a₁,w₁,hq,.pass (x:= .inLoop c) rfl (fun _ _=> .inl (by simp)) harr⟩
theorem zXh {rd:Option Nat}{c:Code}{Q:Exit→Act→World→Prop}(h:zOq rd P c Q a w):(Code.loop c).wpIn (Rd rd) 0 P Q a w:=by
 intro b k cs hro _ _
 obtain⟨e,a',w',hq,harr⟩:=h b k cs hro
 exact⟨e,a',w',hq,.of_steps (.one (fenced_calm (n:=0) trivial (zTa _) rfl) stepR_loop) harr⟩
structure zLq (pn:Pins)(P:Program)(G:Gl)(X:Exts)(L:zBl):Prop where
 ro:RoL L
 loop:∀(rd:Option Nat) (A:Adv) (ρ0:Gh) (w0:World) (c:Code) (ks ks' :List (List Nat)) (keep:List Nat) (ac:AC) (fr:Fr) (s:St) (e:Ex) (fr' :Fr) (s' :St) (a:Act) (w:World),(rd=none∨ac.nd=true)→ac.isRangef=false→GlOk pn G ρ0 w0→compile P G X A c ks=(ac,ks')→
  L keep ac fr s=some (e,fr',s')→Inv ρ0 w0 A.nt fr s a w→zOq rd P c (Post ρ0 w0 A.nt e fr' s') a w
 range:∀(A:Adv) (ρ0:Gh) (w0:World) (g:Operand) (g' :Opd) (ps:Array Tmp) (ca cb:Code) (k1 k2 k3 k4:List (List Nat)) (keep:List Nat) (x y:AC) (fr:Fr) (s:St) (e:Ex) (fr' :Fr) (s' :St) (a:Act) (w:World),GlOk pn G ρ0 w0→opd G g=some g' →compile P G X A ca k1=(x,k2)→compile P G X A cb k3=(y,k4)→
  x.nd=true→y.nd=true→(∀t∈ps.toList,t < A.nt)→L [] (.rangef keep g' ps.toList x y) fr s=some (e,fr',s')→Inv ρ0 w0 A.nt fr s a w→(Code.rangeFunc g ps ca cb).wpIn Fence.wide 0 P (Post ρ0 w0 A.nt e fr' s') a w
def zGl (pn:Pins)(P:Program)(G:Gl)(X:Exts)(C:zAa):Prop:=∀(rd:Option Nat) (A:Adv) (ρ0:Gh) (w0:World) (id:Nat) (ops:Array Oper) (k:Nat) (l:List (zPk×List Nat)) (fr:Fr) (s:St) (fr' :Fr) (s' :St) (a:Act) (w:World) (Q:Exit→Act→World→Prop),(rd=none∨(AC.dreg k l).nd=true)→GlOk pn G ρ0 w0→
 regB P G X A ops true= .dreg k l→(s.ro && Nat.blt 0 k)=false→zBk (cutC s.n k C) s.n l [] fr { s with n:=s.n+k}=some (fr',s')→Inv ρ0 w0 A.nt fr s a w→(∀a' w',Inv ρ0 w0 A.nt fr' s' a' w' →Q .normal a' w')→(Code.region id ops true).wpIn (Rd rd) 0 P Q a w
theorem yFb {ops:Array Oper}:regB P G X A ops true= .bad∨∃k l,regB P G X A ops true= .dreg k l:=by
 unfold regB
 simp only
 split
 ·exact .inr ⟨_,_,rfl⟩
 ·exact .inl rfl
theorem zCo {b:Frame}{a:Act}{k:List Item}{cs:List Frame}{w:World}{c:Code}:step P (lone (b.atR a (.code (.scope c)::k)) cs w)= .next (lone (b.atR a (.code c:: .inScope c::k)) cs w):=
 step_lone_go (by simp [stepG,stepG.exec,Frame.atR])
theorem zOe {b:Frame}{a:Act}{k:List Item}{cs:List Frame}{w:World}{c:Code}:step P (lone (b.atR a (.inScope c::k)) cs w)= .next (lone (b.atR a k) cs w):=
 step_lone_go (by simp [stepG,stepG.exec,Frame.atR])
theorem zXi {F:Fence}{n:Nat}{Q:Exit→Act→World→Prop}{a:Act}{w:World}{c:Code}(h:c.wpIn F n P (Exit.noGoto Q) a w):(Code.scope c).wpIn F n P Q a w:=by
 intro b k cs hro hb hr
 have h0:(lone (b.atR a (.code (.scope c)::k)) cs w).fenced P F:=fenced_calm hb hr rfl
 obtain⟨e,a₁,w₁,hq,harr⟩:=h b (.inScope c::k) cs hro hb hr
 cases e with
 | normal=>exact ⟨.normal,a₁,w₁,hq,.head h0 zCo (StepsIn.trans harr (.one (fenced_calm hb hr rfl) zOe))⟩
 | exit id=>
  have hx:exitTo id (.inScope c::k)=exitTo id k:=by simp [exitTo]
  exact⟨.exit id,a₁,w₁,hq,fun k' hk=> .head h0 zCo (harr.1 k' (by rw [hx]; exact hk)),fun hr' hk=>let ⟨k₁,h1,h2⟩:=harr.2 hr' (by rw [hx]; exact hk); ⟨k₁,h1,.head h0 zCo h2⟩⟩
 | goto l=>exact hq.elim
 | ret=>exact ⟨_,a₁,w₁,hq,.of_steps (.one h0 zCo) harr⟩
 | panic ch=>exact ⟨_,a₁,w₁,hq,.of_steps (.one h0 zCo) harr⟩
 | outgrown=>exact ⟨_,a₁,w₁,hq,.of_steps (.one h0 zCo) harr⟩
theorem zCh {rd:Option Nat}(hC:ClO pn P G C)(hX:∀f k,X f=some k→zQi P f k)(hL:zLq pn P G X L)(hD:zGl pn P G X C)(hg:GlOk pn G ρ0 w0):
  ∀(c:Code) (ks ks' :List (List Nat)) (ac:AC) (fr:Fr) (s:St) (e:Ex) (fr' :Fr) (s' :St) (a:Act) (w:World),(rd=none∨ac.nd=true)→compile P G X A c ks=(ac,ks')→zAe C L ac fr s=some (e,fr',s')→Inv ρ0 w0 A.nt fr s a w→c.wpIn (Rd rd) 0 P (Post ρ0 w0 A.nt e fr' s') a w
 | .skip,ks,ks',ac,fr,s,e,fr',s',a,w,hrd,hc,h,hI=>by
  simp only [compile,Prod.mk.injEq]at hc
  obtain⟨rfl,rfl⟩:=hc
  simp only [zAe,Option.some.injEq,Prod.mk.injEq]at h
  obtain⟨rfl,rfl,rfl⟩:=h
  exact wpIn_skip ⟨trivial,hI⟩
 | .region id ops dr,ks,ks',ac,fr,s,e,fr',s',a,w,hrd,hc,h,hI=>by
  simp only [compile,Prod.mk.injEq]at hc
  obtain⟨rfl,rfl⟩:=hc
  cases dr with
  | false=>
   simp only [regB,zAe]at h
   split at h
   ·rename_i fr1 s1 h1
    simp only [Option.some.injEq,Prod.mk.injEq]at h
    obtain⟨rfl,rfl,rfl⟩:=h
    refine wpIn_region (n:=0) ?_
    have:=zIm (rd:=rd) (Q:=Post ρ0 w0 A.nt .normal fr1 s1) hC hX hg ops.toList 0 fr s a w (by simp) (hrd.imp (fun h=>h) fun hr=>by simpa only [regB,AC.nd] using hr) h1 hI (fun a' w' hI' =>⟨trivial,hI'⟩)
    rwa [← List.range_eq_range',Array.length_toList]at this
   ·cases h
  | true=>
   rcases yFb (P:=P) (G:=G) (X:=X) (A:=A) (ops:=ops) with hb | ⟨k,l,hb⟩
   ·rw [hb]at h; simp [zAe]at h
   ·rw [hb]at h hrd
    simp only [zAe]at h
    split at h
    ·cases h
    ·rename_i hro
     split at h
     ·rename_i fr1 s1 h1
      simp only [Option.some.injEq,Prod.mk.injEq]at h
      obtain⟨rfl,rfl,rfl⟩:=h
      exact hD rd A ρ0 w0 id ops k l fr s fr1 s1 a w _ hrd hg hb (by simpa using hro) h1 hI (fun a' w' hI' =>⟨trivial,hI'⟩)
     ·cases h
 | .seq x y,ks,ks',ac,fr,s,e,fr',s',a,w,hrd,hc,h,hI=>by
  simp only [compile,Prod.mk.injEq]at hc
  obtain⟨rfl,rfl⟩:=hc
  simp only [zAe]at h
  simp only [AC.nd,Bool.and_eq_true]at hrd
  refine wpIn_seq ?_
  split at h
  ·rename_i fr1 s1 h1
   refine wpIn_mono (zCh hC hX hL hD hg x ks _ _ fr s _ fr1 s1 a w (hrd.imp id And.left) rfl h1 hI) fun ex a' w' hq=> ?_
   obtain⟨hx,hI'⟩:=hq
   cases ex <;> simp only [zQu]at hx
   exact zCh hC hX hL hD hg y _ _ _ fr1 s1 e fr' s' a' w' (hrd.imp id And.right) rfl h hI'
  ·rename_i r hne
   refine wpIn_mono (zCh hC hX hL hD hg x ks _ _ fr s e fr' s' a w (hrd.imp id And.left) rfl h hI) fun ex a' w' hq=> ?_
   obtain⟨hx,hI'⟩:=hq
   cases ex
   case normal=>
    cases e <;> simp only [zQu]at hx
    exact absurd h (hne fr' s')
   all_goals exact ⟨hx,hI'⟩
 | .cond c x y,ks,ks',ac,fr,s,e,fr',s',a,w,hrd,hc,h,hI=>by
  simp only [compile]at hc
  split at hc
  ·rename_i c' hcc
   simp only [Prod.mk.injEq]at hc
   obtain⟨rfl,rfl⟩:=hc
   simp only [zAe]at h
   simp only [AC.nd,Bool.and_eq_true]at hrd
   have hI0:=hI
   obtain⟨ρ,hKp,hf,hs⟩:=hI
   split at h
   ·rename_i hv
    have:=opR hcc hf.env (hg.mono hKp) hv
    simp only [Rep]at this
    exact wpIn_cond_true this (zCh hC hX hL hD hg x _ _ _ fr s e fr' s' a w (hrd.imp id And.left) rfl h hI0)
   ·rename_i hv
    have:=opR hcc hf.env (hg.mono hKp) hv
    simp only [Rep]at this
    exact wpIn_cond_false this (zCh hC hX hL hD hg y _ _ _ fr s e fr' s' a w (hrd.imp id And.right) rfl h hI0)
   ·cases h
  ·simp only [Prod.mk.injEq]at hc
   obtain⟨rfl,rfl⟩:=hc
   simp [zAe]at h
 | .block id x,ks,ks',ac,fr,s,e,fr',s',a,w,hrd,hc,h,hI=>by
  simp only [compile,Prod.mk.injEq]at hc
  obtain⟨rfl,rfl⟩:=hc
  simp only [zAe]at h
  simp only [AC.nd]at hrd
  refine wpIn_block ?_
  split at h
  ·rename_i i fr1 s1 h1
   refine wpIn_mono (zCh hC hX hL hD hg x ks _ _ fr s _ fr1 s1 a w hrd rfl h1 hI) fun ex a' w' hq=> ?_
   obtain⟨hx,hI'⟩:=hq
   cases ex <;> simp only [zQu]at hx
   rename_i j
   subst hx
   split at h
   ·rename_i hid
    obtain rfl:=Nat.eq_of_beq_eq_true hid
    simp only [Option.some.injEq,Prod.mk.injEq]at h
    obtain⟨rfl,rfl,rfl⟩:=h
    simp only [Exit.inBlock,if_true]
    exact⟨trivial,hI'⟩
   ·rename_i hid
    simp only [Option.some.injEq,Prod.mk.injEq]at h
    obtain⟨rfl,rfl,rfl⟩:=h
    have hne:i≠id:=by rintro rfl; rw [Nat.beq_refl]at hid; cases hid
    simp only [Exit.inBlock,if_neg hne]
    exact⟨rfl,hI'⟩
  ·rename_i r hne
   refine wpIn_mono (zCh hC hX hL hD hg x ks _ _ fr s e fr' s' a w hrd rfl h hI) fun ex a' w' hq=> ?_
   obtain⟨hx,hI'⟩:=hq
   cases ex
   case exit j=>
    cases e <;> simp only [zQu]at hx
    exact absurd h (hne _ fr' s')
   all_goals exact ⟨hx,hI'⟩
 | .loop x,ks,ks',ac,fr,s,e,fr',s',a,w,hrd,hc,h,hI=>by
  cases ks with
  | nil=>
   simp only [compile,Prod.mk.injEq]at hc
   obtain⟨rfl,rfl⟩:=hc
   simp [zAe]at h
  | cons k ks=>
   simp only [compile]at hc
   split at hc
   ·simp only [Prod.mk.injEq]at hc
    obtain⟨rfl,rfl⟩:=hc
    simp [zAe]at h
   ·rename_i hnr
    simp only [Prod.mk.injEq]at hc
    obtain⟨rfl,rfl⟩:=hc
    simp only [zAe]at h
    simp only [AC.nd]at hrd
    exact zXh (hL.loop rd A ρ0 w0 x ks _ k _ fr s e fr' s' a w hrd hnr hg rfl h hI)
 | .exit id,ks,ks',ac,fr,s,e,fr',s',a,w,hrd,hc,h,hI=>by
  simp only [compile,Prod.mk.injEq]at hc
  obtain⟨rfl,rfl⟩:=hc
  simp only [zAe,Option.some.injEq,Prod.mk.injEq]at h
  obtain⟨rfl,rfl,rfl⟩:=h
  exact wpIn_exit ⟨rfl,hI⟩
 | .ret,ks,ks',ac,fr,s,e,fr',s',a,w,hrd,hc,h,hI=>by
  simp only [compile,Prod.mk.injEq]at hc
  obtain⟨rfl,rfl⟩:=hc
  simp only [zAe,Option.some.injEq,Prod.mk.injEq]at h
  obtain⟨rfl,rfl,rfl⟩:=h
  exact wpIn_ret ⟨trivial,hI⟩
 | .rangeFunc g ps ca cb,ks,ks',ac,fr,s,e,fr',s',a,w,hrd,hc,h,hI=>by
  have bad:∀kk,(ac,ks')=(.bad,kk)→(Code.rangeFunc g ps ca cb).wpIn (Rd rd) 0 P (Post ρ0 w0 A.nt e fr' s') a w:=by
   intro kk hh
   simp only [Prod.mk.injEq]at hh
   obtain⟨rfl,rfl⟩:=hh
   simp [zAe]at h
  cases ks with
  | nil=>
   simp only [compile]at hc
   exact bad _ hc.symm
  | cons k ks=>
   simp only [compile]at hc
   split at hc
   ·rename_i g' hg'
    split at hc
    ·rename_i hnd
     simp only [Bool.and_eq_true,List.all_eq_true]at hnd
     simp only [Prod.mk.injEq]at hc
     obtain⟨rfl,rfl⟩:=hc
     simp only [AC.nd,Bool.false_eq_true,or_false]at hrd
     subst hrd
     simp only [zAe]at h
     exact hL.range A ρ0 w0 g g' ps ca cb _ _ _ _ k _ _ fr s e fr' s' a w hg hg' rfl rfl hnd.1 hnd.2.1 (fun t ht=>Nat.le_of_ble_eq_true (hnd.2.2 t ht)) h hI
    ·exact bad _ hc.symm
   ·exact bad _ hc.symm
 | .scope x,ks,ks',ac,fr,s,e,fr',s',a,w,hrd,hc,h,hI=>by
  simp only [compile]at hc
  refine zXi (wpIn_mono (zCh hC hX hL hD hg x ks ks' ac fr s e fr' s' a w hrd hc h hI) fun ex a' w' hq=> ?_)
  obtain⟨hx,hI'⟩:=hq
  cases ex with
  | goto l=>cases e <;> simp only [zQu]at hx
  | _=>exact ⟨hx,hI'⟩
 | .label _,ks,ks',ac,fr,s,e,fr',s',a,w,hrd,hc,h,hI=>by
  simp only [compile,Prod.mk.injEq]at hc
  obtain⟨rfl,rfl⟩:=hc
  simp only [zAe,Option.some.injEq,Prod.mk.injEq]at h
  obtain⟨rfl,rfl,rfl⟩:=h
  exact wpIn_label ⟨trivial,hI⟩
 | .goto _,ks,ks',ac,fr,s,e,fr',s',a,w,hrd,hc,h,hI=>by
  simp only [compile,Prod.mk.injEq]at hc
  obtain⟨rfl,rfl⟩:=hc
  simp [zAe]at h
 | .refuse _,ks,ks',ac,fr,s,e,fr',s',a,w,hrd,hc,h,hI=>by
  simp only [compile,Prod.mk.injEq]at hc
  obtain⟨rfl,rfl⟩:=hc
  simp [zAe]at h
theorem zEr {e:Env}:∀ {l:List Nat} {t:Nat} {d:D},(e.keep l).get t=some d→e.get t=some d
 | [],t,d,h=>by simp [Env.keep,Env.get]at h
 | k::l,t,d,h=>by
  simp only [Env.keep]at h
  split at h
  ·rename_i q hq
   rw [zAj]at h
   split at h
   ·rename_i e'; subst e'; rw [← h]; exact hq
   ·exact zEr h
  ·exact zEr h
theorem Inv.keep {l:List Nat}(h:Inv ρ0 w0 lo fr s a w):Inv ρ0 w0 lo { fr with env:=fr.env.keep l} s a w:=by
 obtain⟨ρ,h1,h2,h3⟩:=h
 refine⟨ρ,h1,⟨⟨fun t d hd=> ?_,fun t t' x x' b hne g1 g2=>h2.env.inj t t' x x' b hne (zEr g1) (zEr g2)⟩,h2.size,h2.defers⟩,h3⟩
 have:=h2.env.slot t d (zEr hd)
 cases d with
 | lptr k c=>
  simp only [SlR]at *
  exact fun x hx=>this x (zEr hx)
 | _=>exact this
theorem loop_ok {T:Nat→Option AFn}{H:zAa}(hX:∀f k,X f=some k→zQi P f k){n:Nat}(hC:ClO pn P G (zPn T H n))(hD:zGl pn P G X (zPn T H n))(hL:zLq pn P G X (zPq T H n))
  (rd:Option Nat)(A:Adv)(ρ0:Gh)(w0:World)(c:Code) (ks ks' :List (List Nat))(keep:List Nat)(ac:AC)(fr:Fr)(s:St)(e:Ex) (fr' :Fr) (s' :St)(a:Act)(w:World)(hrd:rd=none∨ac.nd=true)(hnr:ac.isRangef=false)(hg:GlOk pn G ρ0 w0)(hc:compile P G X A c ks=(ac,ks'))
  (h:zPq T H (n+1) keep ac fr s=some (e,fr',s'))(hI:Inv ρ0 w0 A.nt fr s a w):zOq rd P c (Post ρ0 w0 A.nt e fr' s') a w:=by
 rw [zBb _ _ _ _ hnr]at h
 refine zUe ?_
 split at h
 ·rename_i fr1 s1 h1
  refine wpIn_mono (zCh hC hX hL hD hg c ks ks' ac _ s _ fr1 s1 a w hrd hc h1 hI.keep) fun ex a' w' hq=> ?_
  obtain⟨hx,hI'⟩:=hq
  cases ex <;> simp only [zQu]at hx
  exact hL.loop rd A ρ0 w0 c ks ks' keep ac fr1 s1 e fr' s' a' w' hrd hnr hg hc h hI'
 ·rename_i r hne
  refine wpIn_mono (zCh hC hX hL hD hg c ks ks' ac _ s e fr' s' a w hrd hc h hI.keep) fun ex a' w' hq=> ?_
  obtain⟨hx,hI'⟩:=hq
  cases ex
  case normal=>
   cases e <;> simp only [zQu]at hx
   exact absurd h (hne fr' s')
  all_goals exact ⟨hx,hI'⟩
end Go.Ab
