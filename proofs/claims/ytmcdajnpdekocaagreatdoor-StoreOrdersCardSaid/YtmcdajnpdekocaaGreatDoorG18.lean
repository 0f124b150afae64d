/- Part. -/
import Derived.Test.YtmcdajnpdekocaaGreatDoorG17
import Derived.RangeFuncRecord
set_option linter.unusedSectionVars false
set_option linter.unusedSimpArgs false
set_option linter.unusedVariables false
namespace Go.Ab
open Go
variable [Vals]
variable {ρ ρ' ρ0:Gh}{w w' w0:World}{P:Program}{pn:Pins}{G:Gl}{X:Exts}{A:Adv} {s s' :St}{a:Act}{C H:zAa}{L:zBl} {fr fr' :Fr}
theorem St.loopAt_get {o k:Nat}{st:LSt}(h:s.loopAt o k st=true):s.get o=some (.loop k st):=by
 unfold St.loopAt at h
 split at h
 ·rename_i k' st' hg
  simp only [Bool.and_eq_true,decide_eq_true_eq,Nat.beq_eq]at h
  rw [hg,h.1,h.2]
 ·cases h
theorem zTz (hs:zPl ρ s w){l:Nat}(o:Go.Obj)(hp:ρ.own l= .priv):Kr ρ w ρ (w.putObj l o)∧zPl ρ s (w.putObj l o):=by
 have hh:∀b,b≠l→(w.putObj l o).heap[b]? =w.heap[b]? :=fun b hb=>World.putObj_heap_other hb
 have hK:Kr ρ w ρ (w.putObj l o):=⟨fun b _ hi=>⟨hh b (by rintro rfl; rw [hp]at hi; cases hi),hi⟩,fun _ h=>⟨h,rfl⟩,fun _ _ h=> .inr ⟨h,fun _ hb=>⟨hb,rfl,Nat.le_refl _,rfl⟩⟩⟩
 exact⟨hK,hs.keep hK (fun _ _=>Iff.rfl) rfl (fun b o hb=>⟨hh b (by rintro rfl; rw [hp]at hb; cases hb),rfl,rfl,rfl⟩) (fun b hb=>hs.size b (by simpa using hb))⟩
theorem yAe (hs:zPl ρ s w){o k:Nat} {st st' :LSt}(hget:s.get o=some (.loop k st))(h:s.set o (.loop k st')=some s'):
  Kp ρ w ρ (w.putObj (ρ.lp k).1 (.loop (zPw (ρ.lp k).2 st')))∧zPl ρ s' (w.putObj (ρ.lp k).1 (.loop (zPw (ρ.lp k).2 st'))):=by
 obtain⟨h1,h2,h3,h4⟩:=hs.ok _ _ hget
 have hh:∀b,b≠(ρ.lp k).1→(w.putObj (ρ.lp k).1 (.loop (zPw (ρ.lp k).2 st'))).heap[b]? =w.heap[b]? :=fun b hb=>World.putObj_heap_other hb
 have hK:Kp ρ w ρ (w.putObj (ρ.lp k).1 (.loop (zPw (ρ.lp k).2 st'))):=⟨rfl,rfl,rfl,by simp,fun b _ hn=>⟨hh b (by rintro rfl; exact hn o h3.1),rfl⟩,fun _ h=>⟨h,rfl⟩,fun _ _ h=> .inr ⟨h,fun _ hb=>⟨hb,rfl,Nat.le_refl _,rfl⟩⟩⟩
 obtain rfl:=St.set_some h
 refine⟨hK,hs.upd hK o (.loop k st') (fun _ _ _ _=>Iff.rfl) (fun _ _=>rfl) (fun b o' hne _ hb=>⟨hh b (by rintro rfl; rw [h3.1]at hb; exact hne (by simpa using hb.symm)),rfl,rfl,rfl⟩) ⟨h1,h2,h3,World.putObj_heap_same (Array.getElem?_eq_some_iff.1 h4).1⟩ (fun b hb=>hs.size b (by simpa using hb)) (hs.lt _ _ hget) (Nat.le_refl _) (St.get_set0 s _ _)⟩
theorem zYl (hs:zPl ρ s w){o k:Nat}{st:LSt}(hget:s.get o=some (.loop k st))(h:s.set o .dead=some s')(ob:Go.Obj):
  ∃ρ',Kp ρ w ρ' (w.putObj (ρ.lp k).1 ob)∧zPl ρ' s' (w.putObj (ρ.lp k).1 ob):=by
 obtain⟨h1,h2,h3,h4⟩:=hs.ok _ _ hget
 have hh:∀b,b≠(ρ.lp k).1→(w.putObj (ρ.lp k).1 ob).heap[b]? =w.heap[b]? :=fun b hb=>World.putObj_heap_other hb
 let ρ' :Gh:= { ρ with kd:=fun q=>if q=o then .dead else ρ.kd q}
 have hko:ρ'.kd o= .dead:=if_pos rfl
 have hkn:∀q,q≠o→ρ'.kd q=ρ.kd q:=fun q hq=>if_neg hq
 have hK:Kp ρ w ρ' (w.putObj (ρ.lp k).1 ob):=by
  refine⟨rfl,rfl,rfl,by simp,fun b _ hn=>⟨hh b (by rintro rfl; exact hn o h3.1),rfl⟩,fun q hq=>⟨?_,rfl⟩,fun q sz hq=> ?_⟩
  ·by_cases e:q=o
   ·subst e; exact hko
   ·exact (hkn q e).trans hq
  ·by_cases e:q=o
   ·subst e; exact .inl hko
   ·exact .inr ⟨(hkn q e).trans hq,fun _ hb=>⟨hb,rfl,Nat.le_refl _,rfl⟩⟩
 obtain rfl:=St.set_some h
 exact⟨ρ',hK,hs.upd hK o .dead (fun _ _ _ _=>Iff.rfl) (fun q hq=>hkn q hq) (fun b o' hne _ hb=>⟨hh b (by rintro rfl; rw [h3.1]at hb; exact hne (by simpa using hb.symm)),rfl,rfl,rfl⟩) hko (fun b hb=>hs.size b (by simpa using hb)) (hs.lt _ _ hget) (Nat.le_refl _) (St.get_set0 s _ _)⟩
theorem enter1 (hs:zPl ρ s w)(ob:Go.Obj)(p:Nat×Go.Loop):
  ∃ρ',Kp ρ w ρ' (w.alloc ob)∧zPl ρ' (s.push0 .dead) (w.alloc ob)∧ρ'.kd s.n= .dead∧ρ'.lp s.n=p∧ρ'.own w.heap.size= .priv:=by
 have hw:(w.alloc ob).heap=w.heap.push ob:=rfl
 have hn:s.get s.n=none:=by
  cases h:s.get s.n with
  | none=>rfl
  | some x=>exact absurd (hs.lt _ _ h) (Nat.lt_irrefl _)
 have hf:=hs.no _ hn
 let ρ' :Gh:= { ρ with own:=fun b=>if b=w.heap.size then .priv else ρ.own b,kd:=fun q=>if q=s.n then .dead else ρ.kd q,lp:=fun q=>if q=s.n then p else ρ.lp q}
 have hold:∀b,b < w.heap.size→(w.alloc ob).heap[b]? =w.heap[b]? :=fun b hb=>by rw [hw,Array.getElem?_push,if_neg (by omega)]
 have hown:∀b,b < w.heap.size→ρ'.own b=ρ.own b:=fun b hb=>if_neg (by omega)
 have hne:∀q,ρ.kd q≠ .fresh→q≠s.n:=by rintro q h rfl; exact h hf
 have hK:Kp ρ w ρ' (w.alloc ob):=by
  refine⟨rfl,rfl,rfl,by rw [hw]; simp,fun b hb _=>⟨hold b hb,hown b hb⟩,fun o ho=> ?_,fun o z ho=> .inr ⟨?_,fun b hb=>⟨(hown b (hs.own_lt hb)).trans hb,rfl,Nat.le_refl _,rfl⟩⟩⟩
  ·have:=hne o (by rw [ho]; simp)
   exact⟨(if_neg this).trans ho,if_neg this⟩
  ·have:=hne o (by rw [ho]; simp)
   exact (if_neg this).trans ho
 refine⟨ρ',hK,hs.upd hK s.n .dead (fun b o hne' _=> ?_) (fun o hne' =>if_neg hne') (fun b o _ _ hb=>⟨hold b (hs.own_lt hb),rfl,rfl,rfl⟩) (if_pos rfl) (fun b hb=> ?_) (by simp [St.push0]) (by simp [St.push0]) (St.get_push0 s _),if_pos rfl,if_pos rfl,if_pos rfl⟩
 ·by_cases hb:b < w.heap.size
  ·rw [hown b hb]
  ·constructor
   ·intro h
    have h:(if b=w.heap.size then Own.priv else ρ.own b)= .obj o:=h
    split at h
    ·cases h
    ·exact h
   ·intro h; exact absurd (hs.own_lt h) hb
 ·rw [hw]at hb
  simp only [Array.size_push]at hb
  exact (if_neg (by omega)).trans (hs.size b (by omega))
theorem enter2 (hs:zPl ρ s w){k:Nat}{r:Go.Loop}(hk:ρ.kd k= .dead)(hp:ρ.lp k=(w.heap.size,zPw r .ready)):
  ∃ρ',Kp ρ w ρ' (w.alloc (.loop (zPw r .ready)))∧zPl ρ' (s.push0 (.loop k .ready)) (w.alloc (.loop (zPw r .ready))):=by
 have hw:(w.alloc (.loop (zPw r .ready))).heap=w.heap.push (.loop (zPw r .ready)):=rfl
 have hn:s.get s.n=none:=by
  cases h:s.get s.n with
  | none=>rfl
  | some x=>exact absurd (hs.lt _ _ h) (Nat.lt_irrefl _)
 have hf:=hs.no _ hn
 let ρ' :Gh:= { ρ with own:=fun b=>if b=w.heap.size then .obj s.n else ρ.own b,kd:=fun q=>if q=s.n then .live 1 else ρ.kd q}
 have hold:∀b,b < w.heap.size→(w.alloc (.loop (zPw r .ready))).heap[b]? =w.heap[b]? :=fun b hb=>by rw [hw,Array.getElem?_push,if_neg (by omega)]
 have hown:∀b,b < w.heap.size→ρ'.own b=ρ.own b:=fun b hb=>if_neg (by omega)
 have hne:∀q,ρ.kd q≠ .fresh→q≠s.n:=by rintro q h rfl; exact h hf
 have hK:Kp ρ w ρ' (w.alloc (.loop (zPw r .ready))):=by
  refine⟨rfl,rfl,rfl,by rw [hw]; simp,fun b hb _=>⟨hold b hb,hown b hb⟩,fun o ho=> ?_,fun o z ho=> .inr ⟨?_,fun b hb=>⟨(hown b (hs.own_lt hb)).trans hb,rfl,Nat.le_refl _,rfl⟩⟩⟩
  ·exact⟨(if_neg (hne o (by rw [ho]; simp))).trans ho,rfl⟩
  ·exact (if_neg (hne o (by rw [ho]; simp))).trans ho
 have hone:ρ'.one s.n w.heap.size:=by
  refine⟨if_pos rfl,fun b' h' => ?_⟩
  have h' :(if b' =w.heap.size then Own.obj s.n else ρ.own b')= .obj s.n:=h'
  split at h'
  ·assumption
  ·exact absurd hf (hs.live _ _ h')
 refine⟨ρ',hK,hs.upd hK s.n (.loop k .ready) (fun b o hne' _=> ?_) (fun o hne' =>if_neg hne') (fun b o _ _ hb=>⟨hold b (hs.own_lt hb),rfl,rfl,rfl⟩) ⟨if_pos rfl,(if_neg (hne k (by rw [hk]; simp))).trans hk, ?_, ?_⟩ (fun b hb=> ?_) (by simp [St.push0]) (by simp [St.push0]) (St.get_push0 s _)⟩
 ·by_cases hb:b < w.heap.size
  ·rw [hown b hb]
  ·constructor
   ·intro h
    have h:(if b=w.heap.size then Own.obj s.n else ρ.own b)= .obj o:=h
    split at h
    ·exact absurd (by simpa using h.symm) hne'
    ·exact h
   ·intro h; exact absurd (hs.own_lt h) hb
 ·show ρ'.one s.n (ρ.lp k).1
  rw [hp]; exact hone
 ·show (w.alloc (.loop (zPw r .ready))).heap[(ρ.lp k).1]? =some (.loop (zPw (ρ.lp k).2 .ready))
  rw [hp,hw]
  simp [zPw]
 ·rw [hw]at hb
  simp only [Array.size_push]at hb
  exact (if_neg (by omega)).trans (hs.size b (by omega))
theorem GlOk.weak {k l:Nat}{r:Go.Loop}{e:Env}(h:GlOk (pn.loop k l r e) G ρ w):GlOk pn G ρ w:=⟨h.1,h.2.2⟩
theorem zRd:∀ {e:Env},e.plain=true→∀ {t:Nat} {d:D},e.get t=some d→(∀x,d≠ .lv x)∧(∀b c,d≠ .lptr b c)
 | [],_,t,d,h=>by simp [Env.get]at h
 | (u,q)::r,hp,t,d,h=>by
  rw [zAj]at h
  simp only [Env.plain]at hp
  split at h
  ·simp only [Option.some.injEq]at h; subst h
   split at hp
   ·cases hp
   ·cases hp
   ·rename_i h1 h2; exact ⟨fun x e=>h1 x e,fun b c e=>h2 b c e⟩
  ·split at hp
   ·cases hp
   ·cases hp
   ·exact zRd hp h
theorem SlR.plain {lo:Nat}{e:Env}{tmps:Array Value}{t:Nat}{d:D}(h1:∀x,d≠ .lv x)(h2:∀b c,d≠ .lptr b c):SlR ρ w lo e tmps t d↔∃v,tmps[t]? =some v∧Rep ρ w d v:=by
 cases d <;> first | exact Iff.rfl | exact absurd rfl (h1 _) | exact absurd rfl (h2 _ _)
def Sees (ρ:Gh)(w:World)(e:Env)(tmps:Array Value):Prop:=∀t d,e.get t=some d→∃v,tmps[t]? =some v∧Rep ρ w d v
theorem Sees.envRel {lo:Nat}{e:Env}{tmps:Array Value}(h:Sees ρ w e tmps):EnR ρ w lo e tmps:=by
 have key:∀t d,e.get t=some d→(∀x,d≠ .lv x)∧(∀b c,d≠ .lptr b c):=fun t d hd=>by
  obtain⟨v,_,hr⟩:=h t d hd
  refine⟨?_, ?_⟩ <;> · intros; rintro rfl; simp [Rep]at hr
 refine⟨fun t d hd=>(SlR.plain (key t d hd).1 (key t d hd).2).2 (h t d hd),fun t t' x x' b _ h1 _=>absurd rfl ((key t _ h1).1 x)⟩
theorem Sees.bind {tmps:Array Value}:∀(ps:List Nat) (xs:List D) (vs:List Value) (e e' :Env) (tmps:Array Value),zGb ps xs e=some e' →RepL ρ w xs vs→(∀t∈ps,t < tmps.size)→Sees ρ w e tmps→
  ps.length=vs.length∧Sees ρ w e' ((ps.zip vs).foldl (fun t p=>t.setIfInBounds p.1 p.2) tmps)∧((ps.zip vs).foldl (fun t p=>t.setIfInBounds p.1 p.2) tmps).size=tmps.size
 | [],[],vs,e,e',tmps,h,hr,_,hs=>by
  simp only [zGb,Option.some.injEq]at h; subst h
  simp only [RepL]at hr; subst hr
  exact⟨rfl,hs,rfl⟩
 | [],_::_,_,_,_,_,h,_,_,_=>by simp [zGb]at h
 | _::_,[],_,_,_,_,h,_,_,_=>by simp [zGb]at h
 | t::ps,d::xs,vs,e,e',tmps,h,hr,hlt,hs=>by
  simp only [zGb]at h
  simp only [RepL]at hr
  obtain⟨v,r,rfl,hv,hr⟩:=hr
  have ht:=hlt t (by simp)
  obtain⟨h1,h2,h3⟩:=Sees.bind (tmps:=tmps) ps xs r ((t,d)::e) e' (tmps.setIfInBounds t v) h hr (fun u hu=>by simpa using hlt u (by simp [hu])) (fun u q hq=>by
   rw [zAj]at hq
   split at hq
   ·rename_i eq; subst eq
    simp only [Option.some.injEq]at hq; subst hq
    exact⟨v,by simp [ht],hv⟩
   ·rename_i hne
    obtain⟨z,hz,hrz⟩:=hs u q hq
    exact⟨z,by rw [Array.getElem?_setIfInBounds,if_neg hne]; exact hz,hrz⟩)
  refine⟨by simp [h1], ?_, ?_⟩
  ·simpa using h2
  ·simpa using h3
theorem yEo (hC:RoC C)(hL:RoL L)(hH:RoX H){k:Nat}{ps:List Nat}{env:Env}{x y:AC}:RoX (zPv k ps env (zAe C L x) (zAe C L y) H):=by
 intro f l s d s' s1 hs h
 unfold zPv at h ⊢
 split at h
 ·rename_i k' xs
  split at h
  ·split at h
   ·exfalso
    unfold midR at h
    split at h
    ·rename_i fr1 s2 h1
     have e:=zAu hC hL hs.ro h1
     rw [e]at h
     split at h
     ·simp only [St.set,hs.ro]at h
      cases h
     ·cases h
    ·cases h
   ·cases h
  ·exact hH _ _ _ _ _ _ hs h
 ·exact hH _ _ _ _ _ _ hs h
theorem yHx (hC:ClO pn P G C)(hX:∀f k,X f=some k→zQi P f k)(hL:zLq pn P G X L)(hD:zGl pn P G X C)(hH:ClO pn P G H){k l:Nat}{r:Go.Loop}{env:Env}{ps:Array Tmp}{ca cb:Code}{k1 k2 k3 k4:List (List Nat)}{x y:AC}
  (hx:compile P G X A ca k1=(x,k2))(hy:compile P G X A cb k3=(y,k4))(nx:x.nd=true)(ny:y.nd=true)(hps:∀t∈ps.toList,t < A.nt)(hpa:r.params=ps)(has:r.assign=ca)(hbo:r.body=cb)(hsz:A.nt≤r.tmps.size):
  ClO (pn.loop k l r env) P G (zPv k ps.toList env (zAe C L x) (zAe C L y) H):=by
 have other:∀ {f l s q},zPv k ps.toList env (zAe C L x) (zAe C L y) H f l s=some q→H f l s=some q∨(f=0∧∃xs e,l= .lv (.yl k)::xs∧s.loopAt (k+1) k .ready=true∧zGb ps.toList xs env=some e∧midR k (zAe C L y) (zAe C L x ⟨e,[]⟩ s)=some q):=by
  intro f l s q h
  unfold zPv at h
  split at h
  ·rename_i k' xs
   split at h
   ·rename_i hk
    obtain rfl:=Nat.eq_of_beq_eq_true hk
    split at h
    ·rename_i e h1 h2
     exact .inr ⟨rfl,xs,e,rfl,h1,h2,h⟩
    ·cases h
   ·exact .inl h
  ·exact .inl h
 refine⟨fun f l s q h hf=> ?_,fun f l s d s' ρ w vs h hs hg hl=> ?_,fun f l s d s' hro h=> ?_,fun y1 l1 s d s' ρ w u vs h hs hg hu hl=> ?_,yEo hC.ro hL.ro hH.rox⟩
 ·rcases other h with h | ⟨rfl,xs,e,rfl,_⟩
  ·exact hH.enter f l s q h hf
  ·rcases hf with hf | hf
   ·exact absurd rfl hf
   ·cases hf
 ·rcases other h with h | ⟨rfl,xs,e,rfl,_⟩
  ·exact hH.calls f l s d s' ρ w vs h hs hg.weak hl
  ·simp [RepL,Rep]at hl
 ·rcases other h with h | ⟨rfl,xs,e,rfl,_,_,hm⟩
  ·exact hH.ro f l s d s' hro h
  ·unfold midR at hm
   split at hm
   ·rename_i fr1 s1 h1
    split at hm
    ·split at hm
     ·rename_i s2 h2
      obtain rfl:=zAu hC.ro hL.ro hro h1
      simp [St.set,hro]at h2
     ·cases hm
    ·cases hm
   ·cases hm
 ·rcases other h with h | ⟨_,xs,e,hl1,hla,hbe,hm⟩
  ·exact hH.yields y1 l1 s d s' ρ w u vs h hs hg.weak hu hl
  ·simp only [List.cons.injEq,D.lv.injEq]at hl1
   obtain⟨rfl,rfl⟩:=hl1
   obtain⟨hg1,⟨p1,p2,p3⟩,hpn⟩:=hg
   simp only [Rep]at hu
   have hob:=hs.ok _ _ (St.loopAt_get hla)
   obtain⟨o1,o2,o3,o4⟩:=hob
   rw [p2]at o3 o4
   obtain⟨b1,b2,b3⟩:=Sees.bind (tmps:=r.tmps) ps.toList l1 vs env e r.tmps hbe hl (fun t ht=>Nat.lt_of_lt_of_le (hps t ht) hsz) p3
   refine⟨l,by rw [hu.2,p2],r.fn,(ps.toList.zip vs).foldl (fun t p=>t.setIfInBounds p.1 p.2) r.tmps,ca,cb, ?_, ?_⟩
   ·have:=run_yield (P:=P) (args:=vs.toArray) o4 (by simp only [zPw]; rw [hpa]; simpa using b1.symm)
    rw [this]
    simp only [zPw,hpa,has,hbo]
    have hz:(ps.zip vs.toArray)=(ps.toList.zip vs).toArray:=by
     apply Array.ext'; simp
    rw [hz]
    simp only [List.foldl_toArray']
    done
   ·
    have hgl:GlOk pn G ρ w:=⟨hg1,hpn⟩
    unfold midR at hm
    split at hm
    ·rename_i fr1 s1 h1
     split at hm
     ·rename_i hla1
      split at hm
      ·rename_i s2 h2
       have hI:Inv ρ w A.nt ⟨e,[]⟩ s { tmps:=(ps.toList.zip vs).foldl (fun t p=>t.setIfInBounds p.1 p.2) r.tmps,defers:=[]} w:=⟨ρ,Kp.refl _ _,⟨b2.envRel,by show A.nt≤_; rw [b3]; exact hsz,rfl⟩,hs⟩
       refine roundIn_of_wpIn (F:=Fence.wide) trivial (wpIn_mono (zCh (rd:=some l) hC hX hL hD hgl ca k1 k2 x ⟨e,[]⟩ s .normal fr1 s1 _ w (.inr nx) hx h1 hI) fun ex a1 w1 hq=> ?_)
       obtain⟨hex,ρ1,j1,j2,j3⟩:=hq
       cases ex <;> simp only [zQu]at hex
       simp only [Exit.then]
       have hg1' :=St.loopAt_get hla1
       obtain⟨q1,q2,q3,q4⟩:=j3.ok _ _ hg1'
       have hlp:ρ1.lp k=(l,r):=(j1.dead k p1).2.trans p2
       have hbr:=run_beginRound (P:=P) (by rw [hlp]at q4; exact q4) (by simp [zPw])
       obtain⟨m1,m2⟩:=yAe j3 hg1' h2
       rw [hlp]at m1 m2
       refine⟨_,hbr, ?_⟩
       have hwb:w1.putObj l (.loop { zPw r .ready with state:= .busy})=w1.putObj l (.loop (zPw r .busy)):=rfl
       rw [hwb]
       unfold endR at hm
       split at hm
       ·rename_i e2 fr2 s3 h3
        split at hm
        ·rename_i hd2 hla2
         obtain⟨h4,rfl⟩:=zBd hm
         refine wpIn_mono (zCh (rd:=some l) hC hX hL hD hgl cb k3 k4 y fr1 s2 e2 fr2 s3 a1 _ (.inr ny) hy h3 ⟨ρ1,j1.trans m1,j2.mono m1,m2⟩) fun ex a2 w2 hq=> ?_
         obtain⟨hex,ρ2,n1,n2,n3⟩:=hq
         have hg2:=St.loopAt_get hla2
         obtain⟨t1,t2,t3,t4⟩:=n3.ok _ _ hg2
         have hlp2:ρ2.lp k=(l,r):=(n1.dead k p1).2.trans p2
         obtain⟨g1,g2⟩:=yAe n3 hg2 h4
         rw [hlp2]at t4 g1 g2
         have fin:∀(j:Option Code),(zPw r (stOf e2))= { zPw r .busy with state:=if j.isNone then .ready else .done,pending:=j}→j.isNone=zFn e2→∃v w',(Instr.endRound l j).run P w2= .ok v w' ∧zCl ρ w s' (.bool (zFn e2)) (.returned v) w' :=by
          intro j hj hn
          refine⟨_,_,run_endRound j t4,ρ2,n1.trans ?_, ?_,by rw [hn]; simp [Rep]⟩
          ·rw [← hj]; exact g1
          ·rw [← hj]; exact g2
         cases e2 <;> cases ex <;> simp only [zQu]at hex
         ·exact fin none rfl rfl
         ·subst hex; exact fin (some (.exit _)) rfl rfl
         ·exact fin (some .ret) rfl rfl
        ·cases hm
       ·cases hm
      ·cases hm
     ·cases hm
    ·cases hm
theorem range_ok {C' :Nat→Env→zAa}{keep:List Nat}{g:Operand} {g' :Opd}{ps:Array Tmp}{ca cb:Code}{e:Ex}
  (hC' :∀(k l:Nat) (r:Go.Loop) (env:Env),r.params=ps→r.assign=ca→r.body=cb→A.nt≤r.tmps.size→ClO (pn.loop k l r env) P G (C' k env))
  (hg:GlOk pn G ρ0 w0)(hgo:opd G g=some g')(h:zEy C' keep g' fr s=some (e,fr',s'))(hI:Inv ρ0 w0 A.nt fr s a w):
  (Code.rangeFunc g ps ca cb).wpIn Fence.wide 0 P (Post ρ0 w0 A.nt e fr' s') a w:=by
 unfold zEy at h
 split at h
 ·rename_i gf caps hgv hro
  split at h
  ·rename_i hpl
   unfold zXe at h
   split at h
   ·rename_i d s2 hrun
    split at h
    ·rename_i k' st hget
     split at h
     ·rename_i e1 s3 hk hex hset
      simp only [Option.some.injEq,Prod.mk.injEq]at h
      obtain⟨rfl,rfl,rfl⟩:=h
      obtain rfl:=Nat.eq_of_beq_eq_true hk
      obtain⟨ρ,hKp,hf,hs⟩:=hI
      have hv:=opR hgo hf.env (hg.mono hKp) hgv
      simp only [Rep,RepL]at hv
      obtain⟨va,lb,hv,hva,hcaps⟩:=hv
      obtain rfl:va= #[]:=Array.toList_eq_nil_iff.1 hva
      refine wpIn_rangeFunc fun fn _=> ?_
      obtain⟨r,hr⟩:∃r:Go.Loop,r= { state:= .ready,pending:=none,fn:=fn,tmps:=a.tmps,params:=ps,assign:=ca,body:=cb,defers:=w.heap.size}:=⟨_,rfl⟩
      have hrr:zPw r .ready=r:=by rw [hr]; rfl
      obtain⟨ρ1,a1,a2,a3,a4,a5⟩:=enter1 hs (.deferred (some [])) (w.heap.size+1,r)
      have hsz1:(w.alloc (.deferred (some []))).heap.size=w.heap.size+1:=by
       show (w.heap.push _).size=_; simp
      obtain⟨ρ2,b1,b2⟩:=enter2 a2 (k:=s.n) (r:=r) a3 (by rw [a4,hsz1,hrr])
      rw [hrr]at b1 b2
      have hen:=run_enterLoop_outer (P:=P) (w:=w) fn a.tmps ps ca cb
      rw [← hr]at hen
      obtain⟨W2,hW2⟩:∃W2,(w.alloc (.deferred (some []))).alloc (.loop r)=W2:=⟨_,rfl⟩
      rw [hW2]at b1 b2 hen
      have hkd2:ρ2.kd s.n= .dead:=(b1.dead _ a3).1
      have hlp2:ρ2.lp s.n=(w.heap.size+1,r):=(b1.dead _ a3).2.trans a4
      have k02:Kp ρ w ρ2 W2:=a1.trans b1
      have hsees:Sees ρ2 W2 (fr.env.keep keep) r.tmps:=fun t q hq=>by
       obtain⟨h1,h2⟩:=zRd hpl hq
       obtain⟨v,z1,z2⟩:=(SlR.plain h1 h2).1 (hf.env.slot t q (zEr hq))
       rw [hr]; exact ⟨v,z1,z2.mono k02⟩
      have hC2:=hC' s.n (w.heap.size+1) r (fr.env.keep keep) (by rw [hr]) (by rw [hr]) (by rw [hr]) (by rw [hr]; exact hf.size)
      have hy:yS (.yl s.n::caps)=false:=rfl
      have eg:=hC2.enter _ _ _ _ hrun (.inr hy)
      refine⟨w.heap.size+1,[{ target:= .collected w.heap.size,args:= #[]}],W2,{ target:= .fn (.func gf) lb,args:= #[.func (.yield (w.heap.size+1)) #[] #[]]},W2,gf,
       #[.func (.yield (w.heap.size+1)) #[] #[]]++lb,W2,hen, ?_,fun _ _=>trivial, ?_,fun h=>(by cases h),callsIn_wide.2 ?_⟩
      ·simp only [resolve,hv]
       simp [Deferred.ofValue,Act.eval]
      ·simp [invoke,eg]
      ·have hv2:RepL ρ2 W2 (.yl s.n::caps) (.func (.yield (w.heap.size+1)) #[] #[]::lb.toList):=by
        simp only [RepL]
        refine⟨_,_,rfl, ?_,hcaps.mono k02⟩
        simp only [Rep]
        exact⟨hkd2,by rw [hlp2]⟩
       have hgl2:GlOk (pn.loop s.n (w.heap.size+1) r (fr.env.keep keep)) G ρ2 W2:=by
        have:=hg.mono (hKp.trans k02)
        exact⟨this.1,⟨hkd2,hlp2,hsees⟩,this.2⟩
       have hcall:=hC2.calls _ _ _ _ _ _ _ _ hrun b2 hgl2 hv2
       have ez:(Value.func (.yield (w.heap.size+1)) #[] #[]::lb.toList).toArray= #[.func (.yield (w.heap.size+1)) #[] #[]]++lb:=by
        apply Array.ext'; simp
       rw [ez]at hcall
       refine hcall.mono fun en w3 he=> ?_
       cases en with
       | panicked _=>exact he.elim
       | outgrown=>exact he.elim
       | returned v=>
        obtain⟨ρ3,q1,q2,q3⟩:=he
        have hlp3:ρ3.lp s.n=(w.heap.size+1,r):=(q1.dead _ hkd2).2.trans hlp2
        have t4:=(q2.ok _ _ hget).2.2.2
        obtain⟨ρ4,u1,u2⟩:=zYl q2 hget hset (.loop { zPw r st with state:= .exhausted})
        rw [hlp3]at t4 u1 u2
        have hend:=run_endLoop (P:=P) t4 (by cases st <;> first | (cases hex; done) | simp [zPw])
        have d1:(w.alloc (.deferred (some []))).heap[w.heap.size]? =some (.deferred (some [])):=World.alloc_heap_new w _
        have k14:Kp ρ1 (w.alloc (.deferred (some []))) ρ4 _:=b1.trans (q1.trans u1)
        obtain⟨d2,d3⟩:=k14.kept w.heap.size (by rw [hsz1]; omega) (fun o=>by rw [a5]; simp)
        have kall:=a1.trans k14
        have hInv:Inv ρ0 w0 A.nt { fr with defers:=(.nilf,[])::fr.defers} s3 { a with defers:=[{ target:= .collected w.heap.size,args:= #[]}]++a.defers} _:=
         ⟨ρ4,hKp.trans kall,⟨hf.env.mono kall,hf.size,.inl ⟨rfl,w.heap.size,a.defers,rfl,hKp.size,d3.trans a5,d2.trans d1,fun m hm hb=>Nat.lt_irrefl _ (hf.defers.marks m hm _ hb),hf.defers.mono kall⟩⟩,u2⟩
        refine⟨_,_,hend, ?_⟩
        cases st <;> simp only [exOf,Option.some.injEq]at hex
        ·subst hex; exact ⟨trivial,hInv⟩
        ·cases hex
        ·subst hex; exact wpIn_exit ⟨rfl,hInv⟩
        ·subst hex; exact wpIn_ret ⟨trivial,hInv⟩
     ·cases h
    ·cases h
   ·cases h
  ·cases h
 ·cases h
end Go.Ab
