/- Part. -/
import Derived.Test.YtmcdajnpdekocaaGreatDoorG18
import Derived.RangeFuncLeaves
set_option linter.unusedSectionVars false
set_option linter.unusedSimpArgs false
set_option linter.unusedVariables false
namespace Go.Ab
open Go
variable [Vals]
variable {ρ ρ' ρ0:Gh}{w w' w0:World}{P:Program}{pn:Pins}{G:Gl}{X:Exts}{A:Adv} {s s' :St}{env:Env}{a:Act}{lo:Nat}{d:D}{C CD:zAa}{L:zBl}{al:Option Nat} {fr fr' :Fr}
theorem zGo {t:TypeId}{v u:Value}(h:(Instr.loadAt t v).run P w= .ok u w):((do loadVar t (← asAddr v)):Sem Value).run P w= .ok u w:=by
 cases v with
 | pointer p=>
  cases p with
  | none=>simp [Instr.loadAt,Instr.sureAddr,stuck,Sem.run]at h
  | some q=>simpa [Instr.loadAt,Instr.sureAddr,asAddr] using h
 | _=>simp [Instr.loadAt,Instr.sureAddr,stuck,Sem.run]at h
def resV (tmps:Array Value):ResultVar→Sem Value
 | .tmp t=>pure (tmps.getD t undef)
 | .cell a t=>do loadVar t (← asAddr (tmps.getD a undef))
theorem zIl (he:EnR ρ w lo env a.tmps)(hs:zPl ρ s w):∀(rs:List ResultVar) (rs' :List ARes) (l:List D),rs.mapM (resB P)=some rs' →resD env s rs' =some l→∃vs,(rs.mapM (resV a.tmps)).run P w= .ok vs w∧RepL ρ w l vs
 | [],rs',l,h,h' =>by
  simp at h; subst h
  simp only [resD,Option.some.injEq]at h'; subst h'
  exact⟨[],by simp,by simp [RepL]⟩
 | r::rs,rs',l,h,h' =>by
  simp only [List.mapM_cons,Option.pure_def,Option.bind_eq_bind,Option.bind_eq_some_iff]at h
  obtain⟨x,h1,q,h2,h3⟩:=h
  simp only [Option.some.injEq]at h3; subst h3
  have cons:∀d l' v,resD env s q=some l' →(resV a.tmps r).run P w= .ok v w→Rep ρ w d v→∃vs,((r::rs).mapM (resV a.tmps)).run P w= .ok vs w∧RepL ρ w (d::l') vs:=by
   intro d l' v hl hv hr
   obtain⟨vs,g1,g2⟩:=zIl he hs rs q l' h2 hl
   refine⟨v::vs,by simp [List.mapM_cons,hv,g1], ?_⟩
   simp only [RepL]; exact ⟨v,vs,rfl,hr,g2⟩
  cases r with
  | tmp t=>
   simp only [resB,Option.some.injEq]at h1; subst h1
   simp only [resD]at h'
   split at h'
   ·rename_i d l' hd hl
    simp only [Option.some.injEq]at h'; subst h'
    have hg:GlOk .none (fun _=>none) ρ w:=⟨(fun _ _ h=>by cases h),trivial⟩
    exact cons d l' (a.tmps.getD t undef) hl (by simp only [resV,Sem.run_pure]) (opR (x' := .tmp t) rfl he hg hd)
   ·cases h'
  | cell b t=>
   simp only [resB,Option.map_eq_some_iff]at h1
   obtain⟨sz,hsz,rfl⟩:=h1
   simp only [resD]at h'
   split at h'
   ·rename_i v hlv
    split at h'
    ·rename_i d l' hd hl
     simp only [Option.some.injEq]at h'; subst h'
     have hsl:=he.slot _ _ hlv
     simp only [SlR]at hsl
     obtain⟨b',q',el,q1,q2,q3,q4,q5,q6⟩:=hsl
     obtain⟨hf,_⟩:=q4.flat q6
     have g1:=zGx hf (D.st_flat q6) hd
     have g2:=run_load (P:=P) (c:=0) (zCz q5) hsz
     simp only [Nat.add_zero]at g2
     have ht:a.tmps.getD b undef= .pointer (some ⟨b',0,none⟩):=by simp [q1]
     cases sz with
     | some n=>
      obtain⟨g3,g4⟩:=g1
      exact cons d l' _ hl (by simp only [resV,ht]; exact zGo (g2 g3)) g4
     | none=>
      obtain⟨u,g3,g4,_⟩:=g1
      exact cons d l' _ hl (by simp only [resV,ht]; exact zGo (g2 u g3)) g4
    ·cases h'
   ·rename_i p hnl hp
    split at h'
    ·rename_i d l' hd hl
     simp only [Option.some.injEq]at h'; subst h'
     have hsl:=he.slot _ _ hp
     have hpv:Rep ρ w p (a.tmps.getD b undef):=by
      cases p <;> first | (simp only [zPr]at hd; cases hd; done) | (simp only [SlR]at hsl; obtain ⟨v,hv,hr⟩:=hsl; simpa [hv] using hr) | exact absurd rfl (hnl _)
     obtain⟨u,g1,g2⟩:=zTj (P:=P) hs hsz hd hpv
     exact cons d l' u hl (by simp only [resV]; exact zGo g1) g2
    ·cases h'
   ·cases h'
theorem zMg (he:EnR ρ w lo env a.tmps)(hs:zPl ρ s w){fn:Func} {rs' :List ARes}{l:List D}(h:fn.results.toList.mapM (resB P)=some rs') (h' :resD env s rs' =some l):∃v,(results fn a.tmps).run P w= .ok v w∧Rep ρ w (single l) v:=by
 obtain⟨vs,g1,g2⟩:=zIl he hs _ _ _ h h'
 have hm:(fn.results.mapM (resV a.tmps)).run P w= .ok vs.toArray w:=by
  rw [Array.mapM_eq_mapM_toList]
  simp [g1]
 refine⟨if h:vs.toArray.size=1 then vs.toArray[0] else .tuple vs.toArray, ?_, ?_⟩
 ·have:results fn a.tmps=(do let vs ← fn.results.mapM (resV a.tmps); pure (if h:vs.size=1 then vs[0] else .tuple vs)):=by
   unfold results
   congr 1
  rw [this,Sem.run_bind,hm]
  rfl
 ·have hl:=g2.length
  cases l with
  | nil=>simp only [RepL]at g2; subst g2; simp [single,Rep,RepL]
  | cons d l=>
   cases l with
   | nil=>
    simp only [RepL]at g2
    obtain⟨v,_,rfl,h1,rfl⟩:=g2
    simpa [single] using h1
   | cons d2 l=>
    have hne: ¬ vs.toArray.size=1:=by simp; simp at hl; omega
    rw [dif_neg hne]
    simp only [single,Rep]
    exact⟨_,rfl,by simpa using g2⟩
structure zKp (pn:Pins)(P:Program)(G:Gl)(C:zAa):Prop where
 enter:∀f l s r,C f l s=some r→∀(args:Array Value) w,(callFunc f args).run P w= .ok (.enter f args) w
 calls:∀f l s d s' ρ w vs u,C f l s=some (d,s')→zPl ρ s w→GlOk pn G ρ w→RepL ρ w l vs→CallsDIn Fence.wide 0 P f vs.toArray u w (fun e u' w' =>u' =u∧zCl ρ w s' d e w')
theorem EnR.putDef {tmps:Array Value}(he:EnR ρ w lo env tmps){b:Nat}{ds:List Deferred}(hp:ρ.own b= .priv)(hb:w.heap[b]? =some (.deferred (some ds)))(hK:Kr ρ w ρ (w.putObj b (.deferred none))):EnR ρ (w.putObj b (.deferred none)) lo env tmps:=by
 refine⟨fun t d hd=> ?_,he.inj⟩
 have:=he.slot t d hd
 cases d with
 | lv x=>
  simp only [SlR]at *
  obtain⟨b',v,el,h1,h2,h3,h4,h5,h6⟩:=this
  exact⟨b',v,el,h1,h2,h3,Rep.mono' hK _ _ h4,(World.putObj_heap_other (by rintro rfl; rw [hb]at h5; cases h5)).trans h5,h6⟩
 | lptr a c=>exact this
 | _=>
  simp only [SlR]at *
  obtain⟨v,h1,h2⟩:=this
  exact⟨v,h1,Rep.mono' hK _ _ h2⟩
theorem zDq.putDef {lo:Nat}{b:Nat}(hK:Kr ρ w ρ (w.putObj b (.deferred none))):∀ {l:List (D×List D)} {ds:List Deferred},(∀m∈ds,m.target≠ .collected b)→zDq ρ w lo l ds→zDq ρ (w.putObj b (.deferred none)) lo l ds
 | [],_,_,h=>h
 | (d,l)::r,_,hm,h=>by
  rcases h with ⟨h1,b',t,rfl,h3,h4,h5,h6,h7⟩ | ⟨f,x,y,va,vc,vl,t,h1,rfl,h3,h4,h5,h6⟩
  ·have hne:b' ≠b:=by rintro rfl; exact hm { target:= .collected b',args:= #[]} (by simp) rfl
   exact .inl ⟨h1,b',t,rfl,h3,h4,(World.putObj_heap_other hne).trans h5,h6,zDq.putDef hK (fun m h=>hm m (by simp [h])) h7⟩
  ·exact .inr ⟨f,x,y,va,vc,vl,t,h1,rfl,RepL.mono' hK _ _ h3,RepL.mono' hK _ _ h4,RepL.mono' hK _ _ h5,zDq.putDef hK (fun m h=>hm m (by simp [h])) h6⟩
theorem zNq (hCD:zKp pn P G CD)(hg:GlOk pn G ρ0 w0){fn:Func}{tmps:Array Value}{R:Ending→World→Prop}:
  ∀(l:List (D×List D)) (ds:List Deferred) (s:St) (ρ:Gh) (w:World),zDq ρ w w0.heap.size l ds→leave CD l s=some s' →zPl ρ s w→Kp ρ0 w0 ρ w→EnR ρ w lo env tmps→
   (∀ρ' w',Kp ρ0 w0 ρ' w' →zPl ρ' s' w' →EnR ρ' w' lo env tmps→LeavesInM Fence.wide 0 P fn tmps R [] .returning w')→LeavesInM Fence.wide 0 P fn tmps R ds .returning w
 | [],ds,s,ρ,w,hd,h,hs,hK,he,hfin=>by
  simp only [zDq]at hd; subst hd
  simp only [leave,Option.some.injEq]at h; subst h
  exact hfin ρ w hK hs he
 | (d,l)::r,ds,s,ρ,w,hd,h,hs,hK,he,hfin=>by
  rcases hd with ⟨rfl,b,t,rfl,h3,h4,h5,h6,h7⟩ | ⟨f,x,y,va,vc,vl,t,rfl,rfl,h3,h4,h5,h6⟩
  ·simp only [leave]at h
   obtain⟨r1,r2⟩:=zTz hs (l:=b) (.deferred none) h4
   refine⟨by simp,.inl ⟨b,_,rfl,run_takeDeferred h5, ?_⟩⟩
   refine zNq hCD hg r t s ρ _ (h7.putDef r1 h6) h r2 ⟨hK.os,hK.tape,hK.output,by rw [World.putObj_size]; exact hK.size,fun b' hb' hn=> ?_,hK.dead,hK.live⟩ (he.putDef h4 h5 r1) hfin
   obtain⟨e1,e2⟩:=hK.kept b' hb' hn
   exact⟨(World.putObj_heap_other (by omega)).trans e1,e2⟩
  ·cases f <;> simp only [leave]at h <;> (try (cases h; done))
   rename_i g
   split at h
   ·rename_i d1 s1 hc
    have hi:=hCD.enter _ _ _ _ hc (va++vl++vc) w
    refine⟨by simp,.inr ⟨fun h=>(by cases h),.func g,vc,g,va++vl++vc,rfl,by simpa [invoke] using hi,fun _ _=>trivial, ?_⟩⟩
    have:=hCD.calls _ _ _ _ _ ρ w _ .returning hc hs (hg.mono hK) ((h3.append h5).append h4)
    have e:(va.toList++vl.toList++vc.toList).toArray=va++vl++vc:=by apply Array.ext'; simp
    rw [e]at this
    refine this.mono fun e' u' w' hr=> ?_
    obtain⟨rfl,hr⟩:=hr
    cases e' with
    | returned v=>
     obtain⟨ρ',k1,k2,k3⟩:=hr
     exact zNq hCD hg r t s1 ρ' w' (h6.mono k1) h k2 (hK.trans k1) (he.mono k1) hfin
    | panicked _=>exact hr.elim
    | outgrown=>exact hr.elim
   ·cases h
structure zQk (P:Program)(G:Gl)(X:Exts)(T:Nat→Option AFn):Prop where
 ok : ∀ f fn, T f = some fn → ∃ func A, P.funcs[f]? = some func ∧ (func.name == "runtime.NumGoroutine") = false ∧ zEe P G X func A = some fn
theorem zWi:∀ {l:List D} {i t:Nat} {d:D},(env0 i l).get t=some d→i≤t∧l[t - i]? =some d
 | [],i,t,d,h=>by simp [env0,Env.get]at h
 | x::l,i,t,d,h=>by
  simp only [env0]at h
  rw [zAj]at h
  split at h
  ·rename_i e; subst e; simp only [Option.some.injEq]at h; subst h; simp
  ·rename_i hne
   obtain⟨h1,h2⟩:=zWi h
   refine⟨by omega, ?_⟩
   rw [show t - i=(t - (i+1))+1 by omega]; simpa using h2
theorem inv0 (hs:zPl ρ s w){l:List D}{vs:List Value}(hl:RepL ρ w l vs)(n:Nat):Inv ρ w n { env:=env0 0 l,defers:=[]} s { tmps:=vs.toArray++Array.replicate (n - vs.toArray.size) undef,defers:=[]} w:=by
 have key:∀t d,(env0 0 l).get t=some d→∃v,(vs.toArray++Array.replicate (n - vs.toArray.size) undef)[t]? =some v∧Rep ρ w d v:=fun t d h=>by
  obtain⟨_,h2⟩:=zWi h
  simp only [Nat.sub_zero]at h2
  obtain⟨v,h3,h4⟩:=hl.get h2
  have hlt:t < vs.length:=(List.getElem?_eq_some_iff.1 h3).1
  refine⟨v, ?_,h4⟩
  rw [Array.getElem?_append_left (by simpa using hlt)]; simpa using h3
 refine⟨ρ,Kp.refl _ _,⟨⟨fun t d h=> ?_,fun t t' x x' b _ h1 _=> ?_⟩,by simp; omega,rfl⟩,hs⟩
 ·obtain⟨v,h1,h2⟩:=key t d h
  cases d <;> first | exact ⟨v,h1,h2⟩ | (simp only [Rep]at h2)
 ·obtain⟨v,_,h2⟩:=key t _ h1
  simp only [Rep]at h2
theorem zWj {T:Nat→Option AFn}(hT:zQk P G X T){f:Nat}{fn:AFn}(h:T f=some fn)(args:Array Value)(w:World):(callFunc f args).run P w= .ok (.enter f args) w:=by
 obtain⟨func,A,h1,h2,h3⟩:=hT.ok f fn h
 have h2 : func.name ≠ "runtime.NumGoroutine" := by simpa using h2
 unfold zEe at h3
 split at h3
 ·rename_i c rs hb _
  simp [callFunc,h1,h2,hb]
 ·cases h3
theorem yIp {T:Nat→Option AFn}(hT:zQk P G X T)(hX:∀f k,X f=some k→zQi P f k)(hC:ClO pn P G C)(hCD:zKp pn P G CD)(hL:zLq pn P G X L)(hD:zGl pn P G X C){f:Nat}{fn:AFn}(hf:T f=some fn){l:List D}{vs:List Value}
  (h:zQf C CD L fn l s=some (d,s'))(hs:zPl ρ s w)(hg:GlOk pn G ρ w)(hl:RepL ρ w l vs):Calls P f vs.toArray w (zCl ρ w s' d):=by
 obtain⟨func,A,h1,h2,h3⟩:=hT.ok f fn hf
 unfold zEe at h3
 split at h3
 ·rename_i c rs hb hrs
  simp only [Option.some.injEq]at h3; subst h3
  refine callsIn_wide.1 (callsIn_of_wp_marks (n:=0) h1 hb trivial ?_)
  unfold zQf at h
  have fin:∀e fr' s1,(e= .normal∨e= .ret)→zAe C L (compile P G X { A with nt:=func.ntmps} c A.ks).1 { env:=env0 0 l,defers:=[]} s=some (e,fr',s1)→
    (match leave CD fr'.defers s1 with | some s'' =>(match resD fr'.env s'' rs with | some l=>some (single l,s'') | none=>none) | none=>none)=some (d,s')→c.wpIn Fence.wide 0 P (bodyPostM Fence.wide 0 P func (zCl ρ w s' d)) { tmps:=vs.toArray++Array.replicate (func.ntmps - vs.toArray.size) undef,defers:=[]} w:=by
   intro e fr' s1 he hex hlv
   split at hlv
   ·rename_i s2 hle
    split at hlv
    ·rename_i l2 hres
     simp only [Option.some.injEq,Prod.mk.injEq]at hlv
     obtain⟨rfl,rfl⟩:=hlv
     refine wpIn_mono (zCh (rd:=none) (A:= { A with nt:=func.ntmps}) hC hX hL hD hg c A.ks _ _ _ s e fr' s1 _ w (.inl rfl) rfl hex (inv0 hs hl func.ntmps)) fun ex a' w' hq=> ?_
     obtain⟨hx,ρ1,k1,k2,k3⟩:=hq
     have hlv:LeavesInM Fence.wide 0 P func a'.tmps (zCl ρ w s2 (single l2)) a'.defers .returning w' :=
      zNq hCD hg fr'.defers a'.defers s1 ρ1 w' k2.defers hle k3 k1 k2.env (fun ρ2 w2 q1 q2 q3=>by
       obtain⟨v,r1,r2⟩:=zMg (P:=P) q3 q2 hrs hres
       exact⟨v,r1,ρ2,q1,q2,r2⟩)
     rcases he with rfl | rfl <;> cases ex <;> simp only [zQu]at hx <;> exact hlv
    ·cases hlv
   ·cases hlv
  split at h
  ·cases h
  ·rename_i e fr' s1 hne hex
   refine fin e fr' s1 ?_ hex h
   cases e with
   | normal=>exact .inl rfl
   | exit id=>exact (hne id rfl).elim
   | ret=>exact .inr rfl
  ·cases h
 ·cases h3
theorem callD_ok {T:Nat→Option AFn}(hT:zQk P G X T)(hX:∀f k,X f=some k→zQi P f k)(hC:ClO pn P G C)(hL:zLq pn P G X L)(hD:zGl pn P G X C):zKp pn P G (zQj T C L):=by
 refine⟨fun f l s r h args w=> ?_,fun f l s d s' ρ w vs u h hs hg hl=> ?_⟩
 ·unfold zQj at h
  split at h
  ·rename_i fn hf; exact zWj hT hf args w
  ·cases h
 ·unfold zQj at h
  split at h
  ·rename_i fn hf
   obtain⟨func,A,h1,h2,h3⟩:=hT.ok f fn hf
   unfold zEe at h3
   split at h3
   ·rename_i c rs hb hrs
    simp only [Option.some.injEq]at h3; subst h3
    refine callsDIn_of_wp (n:=0) h1 hb trivial ?_
    unfold zLo at h
    have fin:∀e fr' s1,(e= .normal∨e= .ret)→zAe C L (compile P G X { A with nt:=func.ntmps} c A.ks).1 { env:=env0 0 l,defers:=[]} s=some (e,fr',s1)→
      (match fr'.defers with | []=>(match resD fr'.env s1 rs with | some l=>some (single l,s1) | none=>none) | _=>none)=some (d,s')→c.wpIn Fence.wide 0 P (bodyPost P func (zCl ρ w s' d)) { tmps:=vs.toArray++Array.replicate (func.ntmps - vs.toArray.size) undef,defers:=[]} w:=by
     intro e fr' s1 he hex hlv
     split at hlv
     ·rename_i hdf
      split at hlv
      ·rename_i l2 hres
       simp only [Option.some.injEq,Prod.mk.injEq]at hlv
       obtain⟨rfl,rfl⟩:=hlv
       refine wpIn_mono (zCh (rd:=none) (A:= { A with nt:=func.ntmps}) hC hX hL hD hg c A.ks _ _ _ s e fr' s1 _ w (.inl rfl) rfl hex (inv0 hs hl func.ntmps)) fun ex a' w' hq=> ?_
       obtain⟨hx,ρ1,k1,k2,k3⟩:=hq
       have hd0:=k2.defers
       rw [hdf]at hd0
       simp only [zDq]at hd0
       obtain⟨v,r1,r2⟩:=zMg (P:=P) k2.env k3 hrs hres
       have hlv:a'.defers=[]∧∃v,(results func a'.tmps).run P w' = .ok v w' ∧zCl ρ w s1 (single l2) (.returned v) w' :=⟨hd0,v,r1,ρ1,k1,k3,r2⟩
       rcases he with rfl | rfl <;> cases ex <;> simp only [zQu]at hx <;> exact hlv
      ·cases hlv
     ·cases hlv
    split at h
    ·cases h
    ·rename_i e fr' s1 hne hex
     refine fin e fr' s1 ?_ hex h
     cases e with
     | normal=>exact .inl rfl
     | exit id=>exact (hne id rfl).elim
     | ret=>exact .inr rfl
    ·cases h
   ·cases h3
  ·cases h
theorem zOc {T:Nat→Option AFn}(hT:zQk P G X T)(hX:∀f k,X f=some k→zQi P f k)(hD:∀pn C,ClO pn P G C→zGl pn P G X C):∀n {pn:Pins} {H:zAa},ClO pn P G H→ClO pn P G (zPn T H n)∧zLq pn P G X (zPq T H n)
 | 0,pn,H,hH=>by
  refine⟨⟨fun f l s r h=> ?_,fun f l s d s' ρ w vs h=> ?_,(zEs hH.ro 0).1,fun y l s d s' ρ w u vs h=>by simp [zPn]at h,(zKm hH.rox 0).1⟩,⟨(zEs hH.ro 0).2,fun rd A ρ0 w0 c ks ks' keep ac fr s e fr' s' a w hrd hnr hg hc h=> ?_,fun A ρ0 w0 g g' ps ca cb k1 k2 k3 k4 keep x y fr s e fr' s' a w hg hgo hx hy nx ny hps h=> ?_⟩⟩
  ·simp [zPn]at h
  ·simp [zPn]at h
  ·simp [zPq]at h
  ·simp [zPq]at h
 | n+1,pn,H,hH=>by
  obtain⟨ih1,ih2⟩:=zOc hT hX hD n hH
  refine⟨⟨fun f l s r h hy args w=> ?_,fun f l s d s' ρ w vs h hs hg hl=> ?_,(zEs hH.ro (n+1)).1,fun y l s d s' ρ w u vs h=> ?_,(zKm hH.rox (n+1)).1⟩,⟨(zEs hH.ro (n+1)).2,loop_ok hX ih1 (hD _ _ ih1) ih2,fun A ρ0 w0 g g' ps ca cb k1 k2 k3 k4 keep x y fr s e fr' s' a w hg hgo hx hy nx ny hps h hI=> ?_⟩⟩
  ·simp only [zPn]at h
   split at h
   ·exact hH.enter f l s r h hy args w
   ·split at h
    ·rename_i fn hf; exact zWj hT hf args w
    ·exact hH.enter f l s r h hy args w
  ·simp only [zPn,hl.yS]at h
   split at h
   ·rename_i fn hf
    exact yIp hT hX ih1 (callD_ok hT hX ih1 ih2 (hD _ _ ih1)) ih2 (hD _ _ ih1) hf h hs hg hl
   ·exact hH.calls f l s d s' ρ w vs h hs hg hl
  ·simp only [zPn,yS]at h
   exact hH.yields y l s d s' ρ w u vs h
  ·rw [zBs]at h
   exact range_ok (A:=A) (fun k l r env e1 e2 e3 e4=>(zOc hT hX hD n (yHx (A:=A) ih1 hX ih2 (hD _ _ ih1) hH hx hy nx ny hps e1 e2 e3 e4)).1) hg hgo h hI
end Go.Ab
namespace Go.Ab
open Go
variable [Vals]
def SS (a b:Option D):Prop:=a=b∨∃x y,a=some (.lv x)∧b=some (.lv y)
theorem SS.refl (a:Option D):SS a a:= .inl rfl
theorem SS.symm {a b:Option D}(h:SS a b):SS b a:=by
 rcases h with h | ⟨x,y,h1,h2⟩
 ·exact .inl h.symm
 ·exact .inr ⟨y,x,h2,h1⟩
theorem SS.trans {a b c:Option D}(h:SS a b)(k:SS b c):SS a c:=by
 rcases h with rfl | ⟨x,y,rfl,rfl⟩
 ·exact k
 ·rcases k with rfl | ⟨z,u,h1,rfl⟩
  ·exact .inr ⟨x,y,rfl,rfl⟩
  ·exact .inr ⟨x,u,rfl,rfl⟩
section
variable {e e' :Env}
theorem zAs {x:Opd}(h:∀t∈x.sl,SS (e.get t) (e'.get t)):x.ev e=x.ev e' :=by
 cases x with
 | t n=>
  rcases h n (by simp [Opd.sl]) with h | ⟨x,y,h1,h2⟩
  ·simp only [Opd.ev,h]
  ·simp only [Opd.ev,h1,h2]
 | c d=>rfl
theorem zFo {x:Opd}(h:∀t∈x.sl,SS (e.get t) (e'.get t)):x.evp e=x.evp e' :=by
 cases x with
 | t n=>
  rcases h n (by simp [Opd.sl]) with h | ⟨x,y,h1,h2⟩
  ·simp only [Opd.evp,h]
  ·simp only [Opd.evp,h1,h2]
 | c d=>rfl
theorem zDc:∀ {l:List Opd},(∀t∈lSl l,SS (e.get t) (e'.get t))→evs e l=evs e' l
 | [],_=>rfl
 | x::l,h=>by
  simp only [evs]
  rw [zAs (x:=x) (fun t ht=>h t (by simp [lSl]; exact .inl ht)),zDc (l:=l) (fun t ht=>h t (by simp [lSl]at ht ⊢; exact .inr ht))]
theorem zFp {x:Option Opd}(h:∀t∈oSl x,SS (e.get t) (e'.get t)):evo e x=evo e' x:=by
 cases x with
 | none=>rfl
 | some x=>simp only [evo]; rw [zAs (x:=x) h]
theorem zIo:∀ {l:List (Nat×Nat×Opd)},(∀t∈l.flatMap (fun q=>q.2.2.sl),SS (e.get t) (e'.get t))→zFd e l=zFd e' l
 | [],_=>rfl
 | (a,b,x)::l,h=>by
  simp only [zFd]
  rw [zAs (x:=x) (fun t ht=>h t (by simp; exact .inl ht)),zIo (l:=l) (fun t ht=>h t (by simp only [List.flatMap_cons,List.mem_append]; exact .inr ht))]
theorem zEw:∀ {l:List (Nat×Opd)},(∀t∈l.flatMap (fun q=>q.2.sl),SS (e.get t) (e'.get t))→zBw e l=zBw e' l
 | [],_=>rfl
 | (a,x)::l,h=>by
  simp only [zBw]
  rw [zAs (x:=x) (fun t ht=>h t (by simp; exact .inl ht)),zEw (l:=l) (fun t ht=>h t (by simp only [List.flatMap_cons,List.mem_append]; exact .inr ht))]
theorem opF_env {C:zAa}{s:St}{al:Option Nat}{p:AOp}(h:∀t∈p.sl,SS (e.get t) (e'.get t))(hl:∀r,e.isLv r=e'.isLv r)(hc:∀a sz x,p= .lload a sz x→e.get a=e'.get a):opF C e s al p=opF C e' s al p:=by
 cases p <;> simp only [AOp.sl,List.mem_append,List.mem_cons]at h <;> simp only [opF]
 case mv x=>rw [zFo h]
 case pick a b c=>rw [zAs (x:=a) fun t ht=>h t (by simp [ht]),zAs (x:=b) fun t ht=>h t (by simp [ht]),zAs (x:=c) fun t ht=>h t (by simp [ht])]
 case vslice=>rw [zEw h]
 case bslice=>rw [zEw h]
 case build=>rw [zIo h]
 case lload a sz x=>rw [zFo (x:=x) fun t ht=>h t (.inr ht),hc a sz x rfl]
 case nilchk x=>simp only [zFo h,hl]
 case faddr off x=>simp only [zFo h,hl]
 case iaddrA n z x i=>simp only [zFo (x:=x) fun t ht=>h t (.inl ht),zAs (x:=i) fun t ht=>h t (.inr ht),hl]
 case mkfn f a b=>rw [zDc (l:=a) fun t ht=>h t (.inl ht),zDc (l:=b) fun t ht=>h t (.inr ht)]
 case mkmap r=>rw [zFp h]
 case sstr x a b=>rw [zAs (x:=x) fun t ht=>h t (by simp [ht]),zFp (x:=a) fun t ht=>h t (by simp [ht]),zFp (x:=b) fun t ht=>h t (by simp [ht])]
 case ssl z x a b c=>rw [zAs (x:=x) fun t ht=>h t (by simp [ht]),zFp (x:=a) fun t ht=>h t (by simp [ht]),zFp (x:=b) fun t ht=>h t (by simp [ht]),zFp (x:=c) fun t ht=>h t (by simp [ht])]
 case mupd et x y z=>rw [zAs (x:=x) fun t ht=>h t (by simp [ht]),zAs (x:=y) fun t ht=>h t (by simp [ht]),zAs (x:=z) fun t ht=>h t (by simp [ht])]
 case mestore x y z=>rw [zAs (x:=x) fun t ht=>h t (by simp [ht]),zAs (x:=y) fun t ht=>h t (by simp [ht]),zAs (x:=z) fun t ht=>h t (by simp [ht])]
 case call ro f l=>rw [zDc h]
 case callv f l=>rw [zAs (x:=f) fun t ht=>h t (.inl ht),zDc (l:=l) fun t ht=>h t (.inr ht)]
 case invoke tb x l=>rw [zAs (x:=x) fun t ht=>h t (.inl ht),zDc (l:=l) fun t ht=>h t (.inr ht)]
 case ext k l=>rw [zDc h]
 case minmax mx l=>rw [zDc h]
 all_goals first
  | rfl
  | (rw [zAs h]; done)
  | (rename_i x y; rw [zAs (x:=x) fun t ht=>h t (.inl ht),zAs (x:=y) fun t ht=>h t (.inr ht)]; done)
end
end Go.Ab
