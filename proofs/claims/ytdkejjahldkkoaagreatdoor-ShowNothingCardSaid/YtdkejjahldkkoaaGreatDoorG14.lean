/- Part. -/
import Derived.Test.YtdkejjahldkkoaaGreatDoorG13
import Derived.RangeFuncRecord
import Derived.RangeFuncLeaves
set_option linter.unusedSectionVars false
set_option linter.unusedSimpArgs false
set_option linter.unusedVariables false
namespace Go.Ab
open Go
variable [eW]
variable {ρ ρ' ρ0:Gh}{w w' w0:World}{P:Program}{pn:iO}{G:Gl}{X:iJ}{A:nJ} {s s' :St}{a:Act}{C H:au}{L:ic} {fr fr' :Fr}
theorem St.tP {o k:Nat}{st:QC}(h:s.nL o k st=true):s.get o=some (.loop k st):=by
 unfold St.nL at h;split at h
 ·rename_i k' st' hg;simp only [aA,aX,iS]at h;rw [hg,h.1,h.2]
 ·cases h
theorem EM (hs:bZ ρ s w){l:Nat}(o:Go.Obj)(hp:ρ.own l= .qG):Kr ρ w ρ (w.putObj l o)/\bZ ρ s (w.putObj l o):=by
 have hh:∀b,b≠l->(w.putObj l o).heap[b]? =w.heap[b]? :=fun b hb=>World.putObj_heap_other hb;have hK:Kr ρ w ρ (w.putObj l o):=⟨fun b _ hi=>⟨hh b (by rintro rfl; rw [hp]at hi; cases hi),hi⟩,fun _ h=>⟨h,rfl⟩,fun _ _ h=> .inr ⟨h,fun _ hb=>⟨hb,rfl,an _,rfl⟩⟩⟩;exact⟨hK,hs.bR hK (fun _ _=>mZ) rfl (fun b o hb=>⟨hh b (by rintro rfl; rw [hp]at hb; cases hb),rfl,rfl,rfl⟩) (fun b hb=>hs.size b (by simpa using hb))⟩
theorem IC (hs:bZ ρ s w){o k:Nat} {st st' :QC}(kM:s.get o=some (.loop k st))(h:s.set o (.loop k st')=some s'):
  Kp ρ w ρ (w.putObj (ρ.lp k).1 (.loop (jY (ρ.lp k).2 st')))/\bZ ρ s' (w.putObj (ρ.lp k).1 (.loop (jY (ρ.lp k).2 st'))):=by
 obtain⟨h1,h2,h3,h4⟩:=hs.ok _ _ kM;have hh:∀b,b≠(ρ.lp k).1->(w.putObj (ρ.lp k).1 (.loop (jY (ρ.lp k).2 st'))).heap[b]? =w.heap[b]? :=fun b hb=>World.putObj_heap_other hb;have hK:Kp ρ w ρ (w.putObj (ρ.lp k).1 (.loop (jY (ρ.lp k).2 st'))):=⟨rfl,rfl,rfl,by simp,fun b _ hn=>⟨hh b (by rintro rfl; exact hn o h3.1),rfl⟩,fun _ h=>⟨h,rfl⟩,fun _ _ h=> .inr ⟨h,fun _ hb=>⟨hb,rfl,an _,rfl⟩⟩⟩;obtain rfl:=St.qi h;refine⟨hK,hs.PC hK o (.loop k st') (fun _ _ _ _=>mZ) (fun _ _=>rfl) (fun b o' cC _ hb=>⟨hh b (by rintro rfl; rw [h3.1]at hb; exact cC (by simpa using hb.symm)),rfl,rfl,rfl⟩) ⟨h1,h2,h3,World.putObj_heap_same (gy.1 h4).1⟩ (fun b hb=>hs.size b (by simpa using hb)) (hs.lt _ _ kM) (an _) (St.fu s _ _)⟩
theorem Ho (hs:bZ ρ s w){o k:Nat}{st:QC}(kM:s.get o=some (.loop k st))(h:s.set o .dead=some s')(ob:Go.Obj):
  ∃ρ',Kp ρ w ρ' (w.putObj (ρ.lp k).1 ob)/\bZ ρ' s' (w.putObj (ρ.lp k).1 ob):=by
 obtain⟨h1,h2,h3,h4⟩:=hs.ok _ _ kM;have hh:∀b,b≠(ρ.lp k).1->(w.putObj (ρ.lp k).1 ob).heap[b]? =w.heap[b]? :=fun b hb=>World.putObj_heap_other hb;let ρ' :Gh:= { ρ with kd:=fun q=>if q=o then .dead else ρ.kd q}
 have rP:ρ'.kd o= .dead:=bJ rfl;have Tf:∀q,q≠o->ρ'.kd q=ρ.kd q:=fun q hq=>aJ hq;have hK:Kp ρ w ρ' (w.putObj (ρ.lp k).1 ob):=by
  refine⟨rfl,rfl,rfl,by simp,fun b _ hn=>⟨hh b (by rintro rfl; exact hn o h3.1),rfl⟩,fun q hq=>⟨?_,rfl⟩,fun q sz hq=> ?_⟩
  ·by_cases e:q=o
   ·subst e; exact rP
   ·exact (Tf q e).trans hq
  ·by_cases e:q=o
   ·subst e; exact .inl rP
   ·exact .inr ⟨(Tf q e).trans hq,fun _ hb=>⟨hb,rfl,an _,rfl⟩⟩
 obtain rfl:=St.qi h;exact⟨ρ',hK,hs.PC hK o .dead (fun _ _ _ _=>mZ) (fun q hq=>Tf q hq) (fun b o' cC _ hb=>⟨hh b (by rintro rfl; rw [h3.1]at hb; exact cC (by simpa using hb.symm)),rfl,rfl,rfl⟩) rP (fun b hb=>hs.size b (by simpa using hb)) (hs.lt _ _ kM) (an _) (St.fu s _ _)⟩
theorem Wl (hs:bZ ρ s w)(ob:Go.Obj)(p:Nat×Go.Loop):
  ∃ρ',Kp ρ w ρ' (w.alloc ob)/\bZ ρ' (s.bc .dead) (w.alloc ob)/\ρ'.kd s.n= .dead/\ρ'.lp s.n=p/\ρ'.own w.heap.size= .qG:=by
 have hw:(w.alloc ob).heap=w.heap.push ob:=rfl;have hn:s.get s.n=none:=by
  cases h:s.get s.n with
  | none=>rfl
  | some x=>exact absurd (hs.lt _ _ h) (gR _)
 have hf:=hs.no _ hn;let ρ' :Gh:= { ρ with own:=fun b=>if b=w.heap.size then .qG else ρ.own b,kd:=fun q=>if q=s.n then .dead else ρ.kd q,lp:=fun q=>if q=s.n then p else ρ.lp q}
 have hold:∀b,b < w.heap.size->(w.alloc ob).heap[b]? =w.heap[b]? :=fun b hb=>by rw [hw,js,aJ (by omega)]
 have lE:∀b,b < w.heap.size->ρ'.own b=ρ.own b:=fun b hb=>aJ (by omega);have cC:∀q,ρ.kd q≠ .fresh->q≠s.n:=by rintro q h rfl; exact h hf
 have hK:Kp ρ w ρ' (w.alloc ob):=by
  refine⟨rfl,rfl,rfl,by rw [hw]; simp,fun b hb _=>⟨hold b hb,lE b hb⟩,fun o ho=> ?_,fun o z ho=> .inr ⟨?_,fun b hb=>⟨(lE b (hs.jN hb)).trans hb,rfl,an _,rfl⟩⟩⟩
  ·have:=cC o (by rw [ho]; simp);exact⟨(aJ this).trans ho,aJ this⟩
  ·have:=cC o (by rw [ho]; simp);exact (aJ this).trans ho
 refine⟨ρ',hK,hs.PC hK s.n .dead (fun b o tJ _=> ?_) (fun o tJ =>aJ tJ) (fun b o _ _ hb=>⟨hold b (hs.jN hb),rfl,rfl,rfl⟩) (bJ rfl) (fun b hb=> ?_) (by simp [St.bc]) (by simp [St.bc]) (St.vT s _),bJ rfl,bJ rfl,bJ rfl⟩
 ·by_cases hb:b < w.heap.size
  ·rw [lE b hb]
  ·constructor
   ·intro h;have h:(if b=w.heap.size then Own.qG else ρ.own b)= .obj o:=h;split at h
    ·cases h
    ·exact h
   ·intro h; exact absurd (hs.jN h) hb
 ·rw [hw]at hb;simp only [Array.size_push]at hb;exact (aJ (by omega)).trans (hs.size b (by omega))
theorem Wd (hs:bZ ρ s w){k:Nat}{r:Go.Loop}(hk:ρ.kd k= .dead)(hp:ρ.lp k=(w.heap.size,jY r .ready)):
  ∃ρ',Kp ρ w ρ' (w.alloc (.loop (jY r .ready)))/\bZ ρ' (s.bc (.loop k .ready)) (w.alloc (.loop (jY r .ready))):=by
 have hw:(w.alloc (.loop (jY r .ready))).heap=w.heap.push (.loop (jY r .ready)):=rfl;have hn:s.get s.n=none:=by
  cases h:s.get s.n with
  | none=>rfl
  | some x=>exact absurd (hs.lt _ _ h) (gR _)
 have hf:=hs.no _ hn;let ρ' :Gh:= { ρ with own:=fun b=>if b=w.heap.size then .obj s.n else ρ.own b,kd:=fun q=>if q=s.n then .live 1 else ρ.kd q}
 have hold:∀b,b < w.heap.size->(w.alloc (.loop (jY r .ready))).heap[b]? =w.heap[b]? :=fun b hb=>by rw [hw,js,aJ (by omega)]
 have lE:∀b,b < w.heap.size->ρ'.own b=ρ.own b:=fun b hb=>aJ (by omega);have cC:∀q,ρ.kd q≠ .fresh->q≠s.n:=by rintro q h rfl; exact h hf
 have hK:Kp ρ w ρ' (w.alloc (.loop (jY r .ready))):=by
  refine⟨rfl,rfl,rfl,by rw [hw]; simp,fun b hb _=>⟨hold b hb,lE b hb⟩,fun o ho=> ?_,fun o z ho=> .inr ⟨?_,fun b hb=>⟨(lE b (hs.jN hb)).trans hb,rfl,an _,rfl⟩⟩⟩
  ·exact⟨(aJ (cC o (by rw [ho]; simp))).trans ho,rfl⟩
  ·exact (aJ (cC o (by rw [ho]; simp))).trans ho
 have nM:ρ'.one s.n w.heap.size:=by
  refine⟨bJ rfl,fun b' h' => ?_⟩;have h' :(if b' =w.heap.size then Own.obj s.n else ρ.own b')= .obj s.n:=h';split at h'
  ·assumption
  ·exact absurd hf (hs.live _ _ h')
 refine⟨ρ',hK,hs.PC hK s.n (.loop k .ready) (fun b o tJ _=> ?_) (fun o tJ =>aJ tJ) (fun b o _ _ hb=>⟨hold b (hs.jN hb),rfl,rfl,rfl⟩) ⟨bJ rfl,(aJ (cC k (by rw [hk]; simp))).trans hk, ?_, ?_⟩ (fun b hb=> ?_) (by simp [St.bc]) (by simp [St.bc]) (St.vT s _)⟩
 ·by_cases hb:b < w.heap.size
  ·rw [lE b hb]
  ·constructor
   ·intro h;have h:(if b=w.heap.size then Own.obj s.n else ρ.own b)= .obj o:=h;split at h
    ·exact absurd (by simpa using h.symm) tJ
    ·exact h
   ·intro h; exact absurd (hs.jN h) hb
 ·show ρ'.one s.n (ρ.lp k).1;rw [hp]; exact nM
 ·show (w.alloc (.loop (jY r .ready))).heap[(ρ.lp k).1]? =some (.loop (jY (ρ.lp k).2 .ready));rw [hp,hw];simp [jY]
 ·rw [hw]at hb;simp only [Array.size_push]at hb;exact (aJ (by omega)).trans (hs.size b (by omega))
theorem gF.ZH {k l:Nat}{r:Go.Loop}{e:Env}(h:gF (pn.loop k l r e) G ρ w):gF pn G ρ w:=⟨h.1,h.2.2⟩
theorem A8:∀ {e:Env},e.plain=true->∀ {t:Nat} {d:D},e.get t=some d->(∀x,d≠ .lv x)/\(∀b c,d≠ .iI b c)
 | [],_,t,d,h=>by simp [Env.get]at h
 | (u,q)::r,hp,t,d,h=>by
  rw [dB]at h;simp only [Env.plain]at hp;split at h
  ·simp only [aa]at h; subst h;split at hp
   ·cases hp
   ·cases hp
   ·rename_i h1 h2; exact ⟨fun x e=>h1 x e,fun b c e=>h2 b c e⟩
  ·split at hp
   ·cases hp
   ·cases hp
   ·exact A8 hp h
theorem ej.plain {lo:Nat}{e:Env}{tmps:Array Value}{t:Nat}{d:D}(h1:∀x,d≠ .lv x)(h2:∀b c,d≠ .iI b c):ej ρ w lo e tmps t d↔∃v,tmps[t]? =some v/\aS ρ w d v:=by
 cases d <;> first | exact mZ | exact absurd rfl (h1 _) | exact absurd rfl (h2 _ _)
def Ej (ρ:Gh)(w:World)(e:Env)(tmps:Array Value):Prop:=∀t d,e.get t=some d->∃v,tmps[t]? =some v/\aS ρ w d v
theorem Ej.Xl {lo:Nat}{e:Env}{tmps:Array Value}(h:Ej ρ w e tmps):eu ρ w lo e tmps:=by
 have key:∀t d,e.get t=some d->(∀x,d≠ .lv x)/\(∀b c,d≠ .iI b c):=fun t d hd=>by
  obtain⟨v,_,hr⟩:=h t d hd;refine⟨?_, ?_⟩ <;> · intros; rintro rfl; simp [aS]at hr
 refine⟨fun t d hd=>(ej.plain (key t d hd).1 (key t d hd).2).2 (h t d hd),fun t t' x x' b _ h1 _=>absurd rfl ((key t _ h1).1 x)⟩
theorem Ej.bind {tmps:Array Value}:∀(ps:List Nat) (xs:List D) (vs:List Value) (e e' :Env) (tmps:Array Value),qa ps xs e=some e' ->br ρ w xs vs->(∀t∈ps,t < tmps.size)->Ej ρ w e tmps->
  ps.length=vs.length/\Ej ρ w e' ((ps.zip vs).foldl (fun t p=>t.setIfInBounds p.1 p.2) tmps)/\((ps.zip vs).foldl (fun t p=>t.setIfInBounds p.1 p.2) tmps).size=tmps.size
 | [],[],vs,e,e',tmps,h,hr,_,hs=>by
  simp only [qa,aa]at h; subst h;simp only [br]at hr; subst hr;exact⟨rfl,hs,rfl⟩
 | [],_::_,_,_,_,_,h,_,_,_=>by simp [qa]at h
 | _::_,[],_,_,_,_,h,_,_,_=>by simp [qa]at h
 | t::ps,d::xs,vs,e,e',tmps,h,hr,dQ,hs=>by
  simp only [qa]at h;simp only [br]at hr;obtain⟨v,r,rfl,hv,hr⟩:=hr;have ht:=dQ t (by simp)
  obtain⟨h1,h2,h3⟩:=Ej.bind (tmps:=tmps) ps xs r ((t,d)::e) e' (tmps.setIfInBounds t v) h hr (fun u hu=>by simpa using dQ u (by simp [hu])) (fun u q hq=>by
   rw [dB]at hq;split at hq
   ·rename_i eq; subst eq;simp only [aa]at hq; subst hq;exact⟨v,by simp [ht],hv⟩
   ·rename_i cC;obtain⟨z,hz,hrz⟩:=hs u q hq;exact⟨z,by rw [dR,aJ cC]; exact hz,hrz⟩)
  refine⟨by simp [h1], ?_, ?_⟩
  ·simpa using h2
  ·simpa using h3
theorem Ji (hC:Fq C)(hL:Xu L)(hH:zJ H){k:Nat}{ps:List Nat}{env:Env}{x y:AC}:zJ (jX k ps env (bW C L x) (bW C L y) H):=by
 intro f l s d s' s1 hs h;unfold jX at h ⊢;split at h
 ·rename_i k' xs;split at h
  ·split at h
   ·exfalso;unfold Cp at h;split at h
    ·rename_i fr1 s2 h1;have e:=gH hC hL hs.ro h1;rw [e]at h;split at h
     ·simp only [St.set,hs.ro]at h;cases h
     ·cases h
    ·cases h
   ·cases h
  ·exact hH _ _ _ _ _ _ hs h
 ·exact hH _ _ _ _ _ _ hs h
theorem Ng (hC:c9 pn P G C)(hX:∀f k,X f=some k->my P f k)(hL:wg pn P G X L)(hD:qH pn P G X C)(hH:c9 pn P G H){k l:Nat}{r:Go.Loop}{env:Env}{ps:Array Tmp}{ca cb:Code}{k1 k2 k3 k4:List (List Nat)}{x y:AC}
  (hx:compile P G X A ca k1=(x,k2))(hy:compile P G X A cb k3=(y,k4))(nx:x.nd=true)(ny:y.nd=true)(PV:∀t∈ps.toList,t < A.nt)(hpa:r.params=ps)(has:r.assign=ca)(Q2:r.body=cb)(fR:A.nt<=r.tmps.size):
  c9 (pn.loop k l r env) P G (jX k ps.toList env (bW C L x) (bW C L y) H):=by
 have other:∀ {f l s q},jX k ps.toList env (bW C L x) (bW C L y) H f l s=some q->H f l s=some q\/(f=0/\∃xs e,l= .lv (.yl k)::xs/\s.nL (k+1) k .ready=true/\qa ps.toList xs env=some e/\Cp k (bW C L y) (bW C L x ⟨e,[]⟩ s)=some q):=by
  intro f l s q h;unfold jX at h;split at h
  ·rename_i k' xs;split at h
   ·rename_i hk;obtain rfl:=aF hk;split at h
    ·rename_i e h1 h2;exact .inr ⟨rfl,xs,e,rfl,h1,h2,h⟩
    ·cases h
   ·exact .inl h
  ·exact .inl h
 refine⟨fun f l s q h hf=> ?_,fun f l s d s' ρ w vs h hs hg hl=> ?_,fun f l s d s' wz h=> ?_,fun y1 l1 s d s' ρ w u vs h hs hg hu hl=> ?_,Ji hC.ro hL.ro hH.PG⟩
 ·rcases other h with h | ⟨rfl,xs,e,rfl,_⟩
  ·exact hH.enter f l s q h hf
  ·rcases hf with hf | hf
   ·exact absurd rfl hf
   ·cases hf
 ·rcases other h with h | ⟨rfl,xs,e,rfl,_⟩
  ·exact hH.calls f l s d s' ρ w vs h hs hg.ZH hl
  ·simp [br,aS]at hl
 ·rcases other h with h | ⟨rfl,xs,e,rfl,_,_,hm⟩
  ·exact hH.ro f l s d s' wz h
  ·unfold Cp at hm;split at hm
   ·rename_i fr1 s1 h1;split at hm
    ·split at hm
     ·rename_i s2 h2;obtain rfl:=gH hC.ro hL.ro wz h1;simp [St.set,wz]at h2
     ·cases hm
    ·cases hm
   ·cases hm
 ·rcases other h with h | ⟨_,xs,e,sv,X8,hbe,hm⟩
  ·exact hH.vw y1 l1 s d s' ρ w u vs h hs hg.ZH hu hl
  ·simp only [ey,D.lv.injEq]at sv;obtain⟨rfl,rfl⟩:=sv;obtain⟨UB,⟨p1,p2,p3⟩,WZ⟩:=hg;simp only [aS]at hu;have lF:=hs.ok _ _ (St.tP X8);obtain⟨o1,o2,o3,o4⟩:=lF;rw [p2]at o3 o4;obtain⟨b1,b2,b3⟩:=Ej.bind (tmps:=r.tmps) ps.toList l1 vs env e r.tmps hbe hl (fun t ht=>eX (PV t ht) fR) p3;refine⟨l,by rw [hu.2,p2],r.fn,(ps.toList.zip vs).foldl (fun t p=>t.setIfInBounds p.1 p.2) r.tmps,ca,cb, ?_, ?_⟩
   ·have:=run_yield (P:=P) (args:=vs.toArray) o4 (by simp only [jY]; rw [hpa]; simpa using b1.symm);rw [this];simp only [jY,hpa,has,Q2];have hz:(ps.zip vs.toArray)=(ps.toList.zip vs).toArray:=by
     apply dG; simp
    rw [hz];simp only [List.foldl_toArray'];done
   ·
    have hgl:gF pn G ρ w:=⟨UB,WZ⟩;unfold Cp at hm;split at hm
    ·rename_i fr1 s1 h1;split at hm
     ·rename_i ab0;split at hm
      ·rename_i s2 h2;have hI:Inv ρ w A.nt ⟨e,[]⟩ s { tmps:=(ps.toList.zip vs).foldl (fun t p=>t.setIfInBounds p.1 p.2) r.tmps,defers:=[]} w:=⟨ρ,Kp.refl _ _,⟨b2.Xl,by show A.nt<=_; rw [b3]; exact fR,rfl⟩,hs⟩;refine roundIn_of_wpIn (F:=Fence.wide) trivial (wpIn_mono (kg (rd:=some l) hC hX hL hD hgl ca k1 k2 x ⟨e,[]⟩ s .normal fr1 s1 _ w (.inr nx) hx h1 hI) fun ex a1 w1 hq=> ?_);obtain⟨hex,ρ1,j1,j2,j3⟩:=hq;cases ex <;> simp only [qY]at hex;simp only [Exit.then];have Za :=St.tP ab0;obtain⟨q1,q2,q3,q4⟩:=j3.ok _ _ Za;have hlp:ρ1.lp k=(l,r):=(j1.dead k p1).2.trans p2;have hbr:=run_beginRound (P:=P) (by rw [hlp]at q4; exact q4) (by simp [jY]);obtain⟨m1,m2⟩:=IC j3 Za h2;rw [hlp]at m1 m2;refine⟨_,hbr, ?_⟩;have hwb:w1.putObj l (.loop { jY r .ready with state:= .busy})=w1.putObj l (.loop (jY r .busy)):=rfl;rw [hwb];unfold Ks at hm;split at hm
       ·rename_i e2 vo s3 h3;split at hm
        ·rename_i Gn acp;obtain⟨h4,rfl⟩:=iq hm;refine wpIn_mono (kg (rd:=some l) hC hX hL hD hgl cb k3 k4 y fr1 s2 e2 vo s3 a1 _ (.inr ny) hy h3 ⟨ρ1,j1.trans m1,j2.mono m1,m2⟩) fun ex a2 w2 hq=> ?_;obtain⟨hex,ρ2,n1,n2,n3⟩:=hq;have FF:=St.tP acp;obtain⟨t1,t2,t3,t4⟩:=n3.ok _ _ FF;have Nk:ρ2.lp k=(l,r):=(n1.dead k p1).2.trans p2;obtain⟨g1,g2⟩:=IC n3 FF h4;rw [Nk]at t4 g1 g2;have fin:∀(j:Option Code),(jY r (R1 e2))= { jY r .busy with state:=if j.isNone then .ready else .done,pending:=j}->j.isNone=qj e2->∃v w',(Instr.endRound l j).run P w2= .ok v w' /\jA ρ w s' (.bool (qj e2)) (.returned v) w' :=by
          intro j hj hn;refine⟨_,_,run_endRound j t4,ρ2,n1.trans ?_, ?_,by rw [hn]; simp [aS]⟩
          ·rw [← hj]; exact g1
          ·rw [← hj]; exact g2
         cases e2 <;> cases ex <;> simp only [qY]at hex
         ·exact fin none rfl rfl
         ·subst hex; exact fin (some (.exit _)) rfl rfl
         ·exact fin (some .ret) rfl rfl
        ·cases hm
       ·cases hm
      ·cases hm
     ·cases hm
    ·cases hm
theorem Nf {C' :Nat->Env->au}{bR:List Nat}{g:Operand} {g' :bP}{ps:Array Tmp}{ca cb:Code}{e:Ex}
  (hC' :∀(k l:Nat) (r:Go.Loop) (env:Env),r.params=ps->r.assign=ca->r.body=cb->A.nt<=r.tmps.size->c9 (pn.loop k l r env) P G (C' k env))
  (hg:gF pn G ρ0 w0)(xB:eK G g=some g')(h:nK C' bR g' fr s=some (e,fr',s'))(hI:Inv ρ0 w0 A.nt fr s a w):
  (Code.rangeFunc g ps ca cb).wpIn Fence.wide 0 P (mK ρ0 w0 A.nt e fr' s') a w:=by
 unfold nK at h;split at h
 ·rename_i gf caps hgv wz;split at h
  ·rename_i KN;unfold Bx at h;split at h
   ·rename_i d s2 fW;split at h
    ·rename_i k' st kM;split at h
     ·rename_i e1 s3 hk hex gL;simp only [aa,ab]at h;obtain⟨rfl,rfl,rfl⟩:=h;obtain rfl:=aF hk;obtain⟨ρ,CK,hf,hs⟩:=hI;have hv:=aZ xB hf.env (hg.mono CK) hgv;simp only [aS,br]at hv;obtain⟨va,lb,hv,Ln,aat⟩:=hv;obtain rfl:va= #[]:=Array.toList_eq_nil_iff.1 Ln;refine wpIn_rangeFunc fun fn _=> ?_;obtain⟨r,hr⟩:∃r:Go.Loop,r= { state:= .ready,pending:=none,fn:=fn,tmps:=a.tmps,params:=ps,assign:=ca,body:=cb,defers:=w.heap.size}:=⟨_,rfl⟩;have hrr:jY r .ready=r:=by rw [hr]; rfl
      obtain⟨ρ1,a1,a2,a3,a4,a5⟩:=Wl hs (.deferred (some [])) (w.heap.size+1,r);have YZ:(w.alloc (.deferred (some []))).heap.size=w.heap.size+1:=by
       show (w.heap.push _).size=_; simp
      obtain⟨ρ2,b1,b2⟩:=Wd a2 (k:=s.n) (r:=r) a3 (by rw [a4,YZ,hrr]);rw [hrr]at b1 b2;have sS:=run_enterLoop_outer (P:=P) (w:=w) fn a.tmps ps ca cb;rw [← hr]at sS;obtain⟨W2,hW2⟩:∃W2,(w.alloc (.deferred (some []))).alloc (.loop r)=W2:=⟨_,rfl⟩;rw [hW2]at b1 b2 sS;have Wv:ρ2.kd s.n= .dead:=(b1.dead _ a3).1;have Nk:ρ2.lp s.n=(w.heap.size+1,r):=(b1.dead _ a3).2.trans a4;have k02:Kp ρ w ρ2 W2:=a1.trans b1
      have aaP:Ej ρ2 W2 (fr.env.bR bR) r.tmps:=fun t q hq=>by
       obtain⟨h1,h2⟩:=A8 KN hq;obtain⟨v,z1,z2⟩:=(ej.plain h1 h2).1 (hf.env.slot t q (oT hq));rw [hr]; exact ⟨v,z1,z2.mono k02⟩
      have hC2:=hC' s.n (w.heap.size+1) r (fr.env.bR bR) (by rw [hr]) (by rw [hr]) (by rw [hr]) (by rw [hr]; exact hf.size);have hy:yS (.yl s.n::caps)=false:=rfl;have eg:=hC2.enter _ _ _ _ fW (.inr hy)
      refine⟨w.heap.size+1,[{ target:= .collected w.heap.size,args:= #[]}],W2,{ target:= .fn (.func gf) lb,args:= #[.func (.yield (w.heap.size+1)) #[] #[]]},W2,gf,
       #[.func (.yield (w.heap.size+1)) #[] #[]]++lb,W2,sS, ?_,fun _ _=>trivial, ?_,fun h=>(by cases h),callsIn_wide.2 ?_⟩
      ·simp only [resolve,hv];simp [Deferred.ofValue,Act.eval]
      ·simp [invoke,eg]
      ·have Sw:br ρ2 W2 (.yl s.n::caps) (.func (.yield (w.heap.size+1)) #[] #[]::lb.toList):=by
        simp only [br];refine⟨_,_,rfl, ?_,aat.mono k02⟩;simp only [aS];exact⟨Wv,by rw [Nk]⟩
       have abX:gF (pn.loop s.n (w.heap.size+1) r (fr.env.bR bR)) G ρ2 W2:=by
        have:=hg.mono (CK.trans k02);exact⟨this.1,⟨Wv,Nk,aaP⟩,this.2⟩
       have Tt:=hC2.calls _ _ _ _ _ _ _ _ fW b2 abX Sw;have ez:(Value.func (.yield (w.heap.size+1)) #[] #[]::lb.toList).toArray= #[.func (.yield (w.heap.size+1)) #[] #[]]++lb:=by
        apply dG; simp
       rw [ez]at Tt;refine Tt.mono fun en w3 he=> ?_;cases en with
       | panicked _=>exact he.elim
       | outgrown=>exact he.elim
       | returned v=>
        obtain⟨ρ3,q1,q2,q3⟩:=he;have abA:ρ3.lp s.n=(w.heap.size+1,r):=(q1.dead _ Wv).2.trans Nk;have t4:=(q2.ok _ _ kM).2.2.2;obtain⟨ρ4,u1,u2⟩:=Ho q2 kM gL (.loop { jY r st with state:= .exhausted});rw [abA]at t4 u1 u2;have iX:=run_endLoop (P:=P) t4 (by cases st <;> first | (cases hex; done) | simp [jY]);have d1:(w.alloc (.deferred (some []))).heap[w.heap.size]? =some (.deferred (some [])):=World.alloc_heap_new w _;have Xt:Kp ρ1 (w.alloc (.deferred (some []))) ρ4 _:=b1.trans (q1.trans u1);obtain⟨d2,d3⟩:=Xt.kept w.heap.size (by rw [YZ]; omega) (fun o=>by rw [a5]; simp);have kall:=a1.trans Xt
        have Xb:Inv ρ0 w0 A.nt { fr with defers:=(.mf,[])::fr.defers} s3 { a with defers:=[{ target:= .collected w.heap.size,args:= #[]}]++a.defers} _:=
         ⟨ρ4,CK.trans kall,⟨hf.env.mono kall,hf.size,.inl ⟨rfl,w.heap.size,a.defers,rfl,CK.size,d3.trans a5,d2.trans d1,fun m hm hb=>gR _ (hf.defers.marks m hm _ hb),hf.defers.mono kall⟩⟩,u2⟩
        refine⟨_,_,iX, ?_⟩;cases st <;> simp only [CF,aa]at hex
        ·subst hex; exact ⟨trivial,Xb⟩
        ·cases hex
        ·subst hex; exact wpIn_exit ⟨rfl,Xb⟩
        ·subst hex; exact wpIn_ret ⟨trivial,Xb⟩
     ·cases h
    ·cases h
   ·cases h
  ·cases h
 ·cases h
end Go.Ab
namespace Go.Ab
open Go
variable [eW]
variable {ρ ρ' ρ0:Gh}{w w' w0:World}{P:Program}{pn:iO}{G:Gl}{X:iJ}{A:nJ} {s s' :St}{env:Env}{a:Act}{lo:Nat}{d:D}{C CD:au}{L:ic}{al:Option Nat} {fr fr' :Fr}
theorem rL {t:TypeId}{v u:Value}(h:(Instr.loadAt t v).run P w= .ok u w):((do loadVar t (← asAddr v)):Sem Value).run P w= .ok u w:=by
 cases v with
 | pointer p=>
  cases p with
  | none=>simp [Instr.loadAt,Instr.sureAddr,stuck,Sem.run]at h
  | some q=>simpa [Instr.loadAt,Instr.sureAddr,asAddr] using h
 | _=>simp [Instr.loadAt,Instr.sureAddr,stuck,Sem.run]at h
def Cl (tmps:Array Value):ResultVar->Sem Value
 | .tmp t=>pure (tmps.getD t undef)
 | .cell a t=>do loadVar t (← asAddr (tmps.getD a undef))
theorem uv (he:eu ρ w lo env a.tmps)(hs:bZ ρ s w):∀(rs:List ResultVar) (rs' :List xb) (l:List D),rs.mapM (MU P)=some rs' ->kY env s rs' =some l->∃vs,(rs.mapM (Cl a.tmps)).run P w= .ok vs w/\br ρ w l vs
 | [],rs',l,h,h' =>by
  simp at h; subst h;simp only [kY,aa]at h'; subst h';exact⟨[],by simp,by simp [br]⟩
 | r::rs,rs',l,h,h' =>by
  simp only [jC,aP,aD,aj]at h;obtain⟨x,h1,q,h2,h3⟩:=h;simp only [aa]at h3; subst h3;have cons:∀d l' v,kY env s q=some l' ->(Cl a.tmps r).run P w= .ok v w->aS ρ w d v->∃vs,((r::rs).mapM (Cl a.tmps)).run P w= .ok vs w/\br ρ w (d::l') vs:=by
   intro d l' v hl hv hr;obtain⟨vs,g1,g2⟩:=uv he hs rs q l' h2 hl;refine⟨v::vs,by simp [jC,hv,g1], ?_⟩;simp only [br]; exact ⟨v,vs,rfl,hr,g2⟩
  cases r with
  | tmp t=>
   simp only [MU,aa]at h1; subst h1;simp only [kY]at h';split at h'
   ·rename_i d l' hd hl;simp only [aa]at h'; subst h';have hg:gF .none (fun _=>none) ρ w:=⟨(fun _ _ h=>by cases h),trivial⟩;exact cons d l' (a.tmps.getD t undef) hl (by simp only [Cl,Sem.run_pure]) (aZ (x' := .tmp t) rfl he hg hd)
   ·cases h'
  | cell b t=>
   simp only [MU,aY]at h1;obtain⟨sz,fR,rfl⟩:=h1;simp only [kY]at h';split at h'
   ·rename_i v na;split at h'
    ·rename_i d l' hd hl;simp only [aa]at h'; subst h';have tg:=he.slot _ _ na;simp only [ej]at tg;obtain⟨b',q',el,q1,q2,q3,q4,q5,q6⟩:=tg;obtain⟨hf,_⟩:=q4.flat q6;have g1:=rI hf (D.mX q6) hd;have g2:=run_load (P:=P) (c:=0) (rangeAt_of_block q5) fR;simp only [fP]at g2;have ht:a.tmps.getD b undef= .pointer (some ⟨b',0,none⟩):=by simp [q1]
     cases sz with
     | some n=>
      obtain⟨g3,g4⟩:=g1;exact cons d l' _ hl (by simp only [Cl,ht]; exact rL (g2 g3)) g4
     | none=>
      obtain⟨u,g3,g4,_⟩:=g1;exact cons d l' _ hl (by simp only [Cl,ht]; exact rL (g2 u g3)) g4
    ·cases h'
   ·rename_i p qW hp;split at h'
    ·rename_i d l' hd hl;simp only [aa]at h'; subst h';have tg:=he.slot _ _ hp;have Lc:aS ρ w p (a.tmps.getD b undef):=by
      cases p <;> first | (simp only [iR]at hd; cases hd; done) | (simp only [ej]at tg; obtain ⟨v,hv,hr⟩:=tg; simpa [hv] using hr) | exact absurd rfl (qW _)
     obtain⟨u,g1,g2⟩:=BK (P:=P) hs fR hd Lc;exact cons d l' u hl (by simp only [Cl]; exact rL g1) g2
    ·cases h'
   ·cases h'
theorem xK (he:eu ρ w lo env a.tmps)(hs:bZ ρ s w){fn:Func} {rs' :List xb}{l:List D}(h:fn.results.toList.mapM (MU P)=some rs') (h' :kY env s rs' =some l):∃v,(results fn a.tmps).run P w= .ok v w/\aS ρ w (single l) v:=by
 obtain⟨vs,g1,g2⟩:=uv he hs _ _ _ h h';have hm:(fn.results.mapM (Cl a.tmps)).run P w= .ok vs.toArray w:=by
  rw [Array.mapM_eq_mapM_toList];simp [g1]
 refine⟨if h:vs.toArray.size=1 then vs.toArray[0] else .tuple vs.toArray, ?_, ?_⟩
 ·have:results fn a.tmps=(do let vs ← fn.results.mapM (Cl a.tmps); pure (if h:vs.size=1 then vs[0] else .tuple vs)):=by
   unfold results
   congr 1
  rw [this,Sem.run_bind,hm];rfl
 ·have hl:=g2.length;cases l with
  | nil=>simp only [br]at g2; subst g2; simp [single,aS,br]
  | cons d l=>
   cases l with
   | nil=>
    simp only [br]at g2;obtain⟨v,_,rfl,h1,rfl⟩:=g2;simpa [single] using h1
   | cons d2 l=>
    have cC: ¬ vs.toArray.size=1:=by simp; simp at hl; omega
    rw [dif_neg cC];simp only [single,aS];exact⟨_,rfl,by simpa using g2⟩
structure wb (pn:iO)(P:Program)(G:Gl)(C:au):Prop where
 enter:∀f l s r,C f l s=some r->∀(args:Array Value) w,(callFunc f args).run P w= .ok (.enter f args) w
 calls:∀f l s d s' ρ w vs u,C f l s=some (d,s')->bZ ρ s w->gF pn G ρ w->br ρ w l vs->CallsDIn Fence.wide 0 P f vs.toArray u w (fun e u' w' =>u' =u/\jA ρ w s' d e w')
theorem eu.xW {tmps:Array Value}(he:eu ρ w lo env tmps){b:Nat}{ds:List Deferred}(hp:ρ.own b= .qG)(hb:w.heap[b]? =some (.deferred (some ds)))(hK:Kr ρ w ρ (w.putObj b (.deferred none))):eu ρ (w.putObj b (.deferred none)) lo env tmps:=by
 refine⟨fun t d hd=> ?_,he.inj⟩;have:=he.slot t d hd;cases d with
 | lv x=>
  simp only [ej]at *;obtain⟨b',v,el,h1,h2,h3,h4,h5,h6⟩:=this;exact⟨b',v,el,h1,h2,h3,aS.gn hK _ _ h4,(World.putObj_heap_other (by rintro rfl; rw [hb]at h5; cases h5)).trans h5,h6⟩
 | iI a c=>exact this
 | _=>
  simp only [ej]at *;obtain⟨v,h1,h2⟩:=this;exact⟨v,h1,aS.gn hK _ _ h2⟩
theorem iB.xW {lo:Nat}{b:Nat}(hK:Kr ρ w ρ (w.putObj b (.deferred none))):∀ {l:List (D×List D)} {ds:List Deferred},(∀m∈ds,m.target≠ .collected b)->iB ρ w lo l ds->iB ρ (w.putObj b (.deferred none)) lo l ds
 | [],_,_,h=>h
 | (d,l)::r,_,hm,h=>by
  rcases h with ⟨h1,b',t,rfl,h3,h4,h5,h6,h7⟩ | ⟨f,x,y,va,vc,vl,t,h1,rfl,h3,h4,h5,h6⟩
  ·have cC:b' ≠b:=by rintro rfl; exact hm { target:= .collected b',args:= #[]} (by simp) rfl
   exact .inl ⟨h1,b',t,rfl,h3,h4,(World.putObj_heap_other cC).trans h5,h6,iB.xW hK (fun m h=>hm m (by simp [h])) h7⟩
  ·exact .inr ⟨f,x,y,va,vc,vl,t,h1,rfl,br.gn hK _ _ h3,br.gn hK _ _ h4,br.gn hK _ _ h5,iB.xW hK (fun m h=>hm m (by simp [h])) h6⟩
theorem zA (Na:wb pn P G CD)(hg:gF pn G ρ0 w0){fn:Func}{tmps:Array Value}{R:Ending->World->Prop}:
  ∀(l:List (D×List D)) (ds:List Deferred) (s:St) (ρ:Gh) (w:World),iB ρ w w0.heap.size l ds->leave CD l s=some s' ->bZ ρ s w->Kp ρ0 w0 ρ w->eu ρ w lo env tmps->
   (∀ρ' w',Kp ρ0 w0 ρ' w' ->bZ ρ' s' w' ->eu ρ' w' lo env tmps->LeavesInM Fence.wide 0 P fn tmps R [] .returning w')->LeavesInM Fence.wide 0 P fn tmps R ds .returning w
 | [],ds,s,ρ,w,hd,h,hs,hK,he,jr=>by
  simp only [iB]at hd; subst hd;simp only [leave,aa]at h; subst h;exact jr ρ w hK hs he
 | (d,l)::r,ds,s,ρ,w,hd,h,hs,hK,he,jr=>by
  rcases hd with ⟨rfl,b,t,rfl,h3,h4,h5,h6,h7⟩ | ⟨f,x,y,va,vc,vl,t,rfl,rfl,h3,h4,h5,h6⟩
  ·simp only [leave]at h;obtain⟨r1,r2⟩:=EM hs (l:=b) (.deferred none) h4;refine⟨by simp,.inl ⟨b,_,rfl,run_takeDeferred h5, ?_⟩⟩;refine zA Na hg r t s ρ _ (h7.xW r1 h6) h r2 ⟨hK.os,hK.tape,hK.output,by rw [World.putObj_size]; exact hK.size,fun b' jm hn=> ?_,hK.dead,hK.live⟩ (he.xW h4 h5 r1) jr;obtain⟨e1,e2⟩:=hK.kept b' jm hn;exact⟨(World.putObj_heap_other (by omega)).trans e1,e2⟩
  ·cases f <;> simp only [leave]at h <;> (try (cases h; done));rename_i g;split at h
   ·rename_i d1 s1 hc;have hi:=Na.enter _ _ _ _ hc (va++vl++vc) w;refine⟨by simp,.inr ⟨fun h=>(by cases h),.func g,vc,g,va++vl++vc,rfl,by simpa [invoke] using hi,fun _ _=>trivial, ?_⟩⟩;have:=Na.calls _ _ _ _ _ ρ w _ .returning hc hs (hg.mono hK) ((h3.append h5).append h4);have e:(va.toList++vl.toList++vc.toList).toArray=va++vl++vc:=by apply dG; simp
    rw [e]at this;refine this.mono fun e' u' w' hr=> ?_;obtain⟨rfl,hr⟩:=hr;cases e' with
    | returned v=>
     obtain⟨ρ',k1,k2,k3⟩:=hr;exact zA Na hg r t s1 ρ' w' (h6.mono k1) h k2 (hK.trans k1) (he.mono k1) jr
    | panicked _=>exact hr.elim
    | outgrown=>exact hr.elim
   ·cases h
structure nT (P:Program)(G:Gl)(X:iJ)(T:Nat->Option dS):Prop where
 ok : ∀ f fn, T f = some fn → ∃ func A, P.funcs[f]? = some func ∧ (func.name == "runtime.NumGoroutine") = false ∧ oJ P G X func A = some fn
theorem EZ:∀ {l:List D} {i t:Nat} {d:D},(uo i l).get t=some d->i<=t/\l[t - i]? =some d
 | [],i,t,d,h=>by simp [uo,Env.get]at h
 | x::l,i,t,d,h=>by
  simp only [uo]at h;rw [dB]at h;split at h
  ·rename_i e; subst e; simp only [aa]at h; subst h; simp
  ·rename_i cC;obtain⟨h1,h2⟩:=EZ h;refine⟨by omega, ?_⟩;rw [show t - i=(t - (i+1))+1 by omega]; simpa using h2
theorem EE (hs:bZ ρ s w){l:List D}{vs:List Value}(hl:br ρ w l vs)(n:Nat):Inv ρ w n { env:=uo 0 l,defers:=[]} s { tmps:=vs.toArray++Array.replicate (n - vs.toArray.size) undef,defers:=[]} w:=by
 have key:∀t d,(uo 0 l).get t=some d->∃v,(vs.toArray++Array.replicate (n - vs.toArray.size) undef)[t]? =some v/\aS ρ w d v:=fun t d h=>by
  obtain⟨_,h2⟩:=EZ h;simp only [Nat.sub_zero]at h2;obtain⟨v,h3,h4⟩:=hl.get h2;have dQ:t < vs.length:=(af.1 h3).1;refine⟨v, ?_,h4⟩;rw [Array.getElem?_append_left (by simpa using dQ)]; simpa using h3
 refine⟨ρ,Kp.refl _ _,⟨⟨fun t d h=> ?_,fun t t' x x' b _ h1 _=> ?_⟩,by simp; omega,rfl⟩,hs⟩
 ·obtain⟨v,h1,h2⟩:=key t d h;cases d <;> first | exact ⟨v,h1,h2⟩ | (simp only [aS]at h2)
 ·obtain⟨v,_,h2⟩:=key t _ h1;simp only [aS]at h2
theorem E7 {T:Nat->Option dS}(hT:nT P G X T){f:Nat}{fn:dS}(h:T f=some fn)(args:Array Value)(w:World):(callFunc f args).run P w= .ok (.enter f args) w:=by
 obtain⟨func,A,h1,h2,h3⟩:=hT.ok f fn h;have h2 : func.name ≠ "runtime.NumGoroutine" := by simpa using h2
 unfold oJ at h3;split at h3
 ·rename_i c rs hb _;simp [callFunc,h1,h2,hb]
 ·cases h3
theorem OD {T:Nat->Option dS}(hT:nT P G X T)(hX:∀f k,X f=some k->my P f k)(hC:c9 pn P G C)(Na:wb pn P G CD)(hL:wg pn P G X L)(hD:qH pn P G X C){f:Nat}{fn:dS}(hf:T f=some fn){l:List D}{vs:List Value}
  (h:nS C CD L fn l s=some (d,s'))(hs:bZ ρ s w)(hg:gF pn G ρ w)(hl:br ρ w l vs):Calls P f vs.toArray w (jA ρ w s' d):=by
 obtain⟨func,A,h1,h2,h3⟩:=hT.ok f fn hf;unfold oJ at h3;split at h3
 ·rename_i c rs hb X4;simp only [aa]at h3; subst h3;refine callsIn_wide.1 (callsIn_of_wp_marks (n:=0) h1 hb trivial ?_);unfold nS at h
  have fin:∀e fr' s1,(e= .normal\/e= .ret)->bW C L (compile P G X { A with nt:=func.ntmps} c A.ks).1 { env:=uo 0 l,defers:=[]} s=some (e,fr',s1)->
    (match leave CD fr'.defers s1 with | some s'' =>(match kY fr'.env s'' rs with | some l=>some (single l,s'') | none=>none) | none=>none)=some (d,s')->c.wpIn Fence.wide 0 P (bodyPostM Fence.wide 0 P func (jA ρ w s' d)) { tmps:=vs.toArray++Array.replicate (func.ntmps - vs.toArray.size) undef,defers:=[]} w:=by
   intro e fr' s1 he hex na;split at na
   ·rename_i s2 hle;split at na
    ·rename_i l2 pA;simp only [aa,ab]at na;obtain⟨rfl,rfl⟩:=na;refine wpIn_mono (kg (rd:=none) (A:= { A with nt:=func.ntmps}) hC hX hL hD hg c A.ks _ _ _ s e fr' s1 _ w (.inl rfl) rfl hex (EE hs hl func.ntmps)) fun ex a' w' hq=> ?_;obtain⟨hx,ρ1,k1,k2,k3⟩:=hq
     have na:LeavesInM Fence.wide 0 P func a'.tmps (jA ρ w s2 (single l2)) a'.defers .returning w' :=
      zA Na hg fr'.defers a'.defers s1 ρ1 w' k2.defers hle k3 k1 k2.env (fun ρ2 w2 q1 q2 q3=>by
       obtain⟨v,r1,r2⟩:=xK (P:=P) q3 q2 X4 pA;exact⟨v,r1,ρ2,q1,q2,r2⟩)
     rcases he with rfl | rfl <;> cases ex <;> simp only [qY]at hx <;> exact na
    ·cases na
   ·cases na
  split at h
  ·cases h
  ·rename_i e fr' s1 cC hex;refine fin e fr' s1 ?_ hex h;cases e with
   | normal=>exact .inl rfl
   | exit id=>exact (cC id rfl).elim
   | ret=>exact .inr rfl
  ·cases h
 ·cases h3
theorem LA {T:Nat->Option dS}(hT:nT P G X T)(hX:∀f k,X f=some k->my P f k)(hC:c9 pn P G C)(hL:wg pn P G X L)(hD:qH pn P G X C):wb pn P G (pa T C L):=by
 refine⟨fun f l s r h args w=> ?_,fun f l s d s' ρ w vs u h hs hg hl=> ?_⟩
 ·unfold pa at h;split at h
  ·rename_i fn hf; exact E7 hT hf args w
  ·cases h
 ·unfold pa at h;split at h
  ·rename_i fn hf;obtain⟨func,A,h1,h2,h3⟩:=hT.ok f fn hf;unfold oJ at h3;split at h3
   ·rename_i c rs hb X4;simp only [aa]at h3; subst h3;refine callsDIn_of_wp (n:=0) h1 hb trivial ?_;unfold vU at h
    have fin:∀e fr' s1,(e= .normal\/e= .ret)->bW C L (compile P G X { A with nt:=func.ntmps} c A.ks).1 { env:=uo 0 l,defers:=[]} s=some (e,fr',s1)->
      (match fr'.defers with | []=>(match kY fr'.env s1 rs with | some l=>some (single l,s1) | none=>none) | _=>none)=some (d,s')->c.wpIn Fence.wide 0 P (bodyPost P func (jA ρ w s' d)) { tmps:=vs.toArray++Array.replicate (func.ntmps - vs.toArray.size) undef,defers:=[]} w:=by
     intro e fr' s1 he hex na;split at na
     ·rename_i hdf;split at na
      ·rename_i l2 pA;simp only [aa,ab]at na;obtain⟨rfl,rfl⟩:=na;refine wpIn_mono (kg (rd:=none) (A:= { A with nt:=func.ntmps}) hC hX hL hD hg c A.ks _ _ _ s e fr' s1 _ w (.inl rfl) rfl hex (EE hs hl func.ntmps)) fun ex a' w' hq=> ?_;obtain⟨hx,ρ1,k1,k2,k3⟩:=hq;have Fz:=k2.defers;rw [hdf]at Fz;simp only [iB]at Fz;obtain⟨v,r1,r2⟩:=xK (P:=P) k2.env k3 X4 pA;have na:a'.defers=[]/\∃v,(results func a'.tmps).run P w' = .ok v w' /\jA ρ w s1 (single l2) (.returned v) w' :=⟨Fz,v,r1,ρ1,k1,k3,r2⟩;rcases he with rfl | rfl <;> cases ex <;> simp only [qY]at hx <;> exact na
      ·cases na
     ·cases na
    split at h
    ·cases h
    ·rename_i e fr' s1 cC hex;refine fin e fr' s1 ?_ hex h;cases e with
     | normal=>exact .inl rfl
     | exit id=>exact (cC id rfl).elim
     | ret=>exact .inr rfl
    ·cases h
   ·cases h3
  ·cases h
theorem yw {T:Nat->Option dS}(hT:nT P G X T)(hX:∀f k,X f=some k->my P f k)(hD:∀pn C,c9 pn P G C->qH pn P G X C):∀n {pn:iO} {H:au},c9 pn P G H->c9 pn P G (dH T H n)/\wg pn P G X (fc T H n)
 | 0,pn,H,hH=>by
  refine⟨⟨fun f l s r h=> ?_,fun f l s d s' ρ w vs h=> ?_,(oU hH.ro 0).1,fun y l s d s' ρ w u vs h=>by simp [dH]at h,(wu hH.PG 0).1⟩,⟨(oU hH.ro 0).2,fun rd A ρ0 w0 c ks ks' bR ac fr s e fr' s' a w ml Zk hg hc h=> ?_,fun A ρ0 w0 g g' ps ca cb k1 k2 k3 k4 bR x y fr s e fr' s' a w hg xB hx hy nx ny PV h=> ?_⟩⟩
  ·simp [dH]at h
  ·simp [dH]at h
  ·simp [fc]at h
  ·simp [fc]at h
 | n+1,pn,H,hH=>by
  obtain⟨UE,ih2⟩:=yw hT hX hD n hH;refine⟨⟨fun f l s r h hy args w=> ?_,fun f l s d s' ρ w vs h hs hg hl=> ?_,(oU hH.ro (n+1)).1,fun y l s d s' ρ w u vs h=> ?_,(wu hH.PG (n+1)).1⟩,⟨(oU hH.ro (n+1)).2,Rg hX UE (hD _ _ UE) ih2,fun A ρ0 w0 g g' ps ca cb k1 k2 k3 k4 bR x y fr s e fr' s' a w hg xB hx hy nx ny PV h hI=> ?_⟩⟩
  ·simp only [dH]at h;split at h
   ·exact hH.enter f l s r h hy args w
   ·split at h
    ·rename_i fn hf; exact E7 hT hf args w
    ·exact hH.enter f l s r h hy args w
  ·simp only [dH,hl.yS]at h;split at h
   ·rename_i fn hf;exact OD hT hX UE (LA hT hX UE ih2 (hD _ _ UE)) ih2 (hD _ _ UE) hf h hs hg hl
   ·exact hH.calls f l s d s' ρ w vs h hs hg hl
  ·simp only [dH,yS]at h;exact hH.vw y l s d s' ρ w u vs h
  ·rw [jH]at h;exact Nf (A:=A) (fun k l r env e1 e2 e3 e4=>(yw hT hX hD n (Ng (A:=A) UE hX ih2 (hD _ _ UE) hH hx hy nx ny PV e1 e2 e3 e4)).1) hg xB h hI
end Go.Ab
namespace Go.Ab
open Go
variable [eW]
def SS (a b:Option D):Prop:=a=b\/∃x y,a=some (.lv x)/\b=some (.lv y)
theorem SS.refl (a:Option D):SS a a:= .inl rfl
theorem SS.symm {a b:Option D}(h:SS a b):SS b a:=by
 rcases h with h | ⟨x,y,h1,h2⟩
 ·exact .inl h.symm
 ·exact .inr ⟨y,x,h2,h1⟩
theorem SS.trans {a b c:Option D}(h:SS a b)(k:SS b c):SS a c:=by
 rcases h with rfl | ⟨x,y,rfl,rfl⟩
 ·exact k
 ·rcases k with rfl | ⟨z,u,h1,rfl⟩
  ·exact .inr ⟨x,y,rfl,rfl⟩
  ·exact .inr ⟨x,u,rfl,rfl⟩
section
variable {e e' :Env}
theorem fG {x:bP}(h:∀t∈x.sl,SS (e.get t) (e'.get t)):x.ev e=x.ev e' :=by
 cases x with
 | t n=>
  rcases h n (by simp [bP.sl]) with h | ⟨x,y,h1,h2⟩
  ·simp only [bP.ev,h]
  ·simp only [bP.ev,h1,h2]
 | c d=>rfl
theorem lA {x:bP}(h:∀t∈x.sl,SS (e.get t) (e'.get t)):x.zb e=x.zb e' :=by
 cases x with
 | t n=>
  rcases h n (by simp [bP.sl]) with h | ⟨x,y,h1,h2⟩
  ·simp only [bP.zb,h]
  ·simp only [bP.zb,h1,h2]
 | c d=>rfl
theorem lD:∀ {l:List bP},(∀t∈N0 l,SS (e.get t) (e'.get t))->sK e l=sK e' l
 | [],_=>rfl
 | x::l,h=>by
  simp only [sK];rw [fG (x:=x) (fun t ht=>h t (by simp [N0]; exact .inl ht)),lD (l:=l) (fun t ht=>h t (by simp [N0]at ht ⊢; exact .inr ht))]
theorem qu {x:Option bP}(h:∀t∈VO x,SS (e.get t) (e'.get t)):uz e x=uz e' x:=by
 cases x with
 | none=>rfl
 | some x=>simp only [uz]; rw [fG (x:=x) h]
theorem u6:∀ {l:List (Nat×Nat×bP)},(∀t∈l.flatMap (fun q=>q.2.2.sl),SS (e.get t) (e'.get t))->pJ e l=pJ e' l
 | [],_=>rfl
 | (a,b,x)::l,h=>by
  simp only [pJ];rw [fG (x:=x) (fun t ht=>h t (by simp; exact .inl ht)),u6 (l:=l) (fun t ht=>h t (by simp only [ji,bK]; exact .inr ht))]
theorem pV:∀ {l:List (Nat×bP)},(∀t∈l.flatMap (fun q=>q.2.sl),SS (e.get t) (e'.get t))->jx e l=jx e' l
 | [],_=>rfl
 | (a,x)::l,h=>by
  simp only [jx];rw [fG (x:=x) (fun t ht=>h t (by simp; exact .inl ht)),pV (l:=l) (fun t ht=>h t (by simp only [ji,bK]; exact .inr ht))]
def eN.lvB:eN->Bool
 | .sg _ | .wG .. | .ry .. =>true
 | _=>false
theorem DC {C:au}{s:St}{al:Option Nat}{p:eN}(h:∀t∈p.sl,SS (e.get t) (e'.get t))(hl:p.lvB=true->∀r,e.kG r=e'.kG r)(hc:∀a sz x,p= .sW a sz x->e.get a=e'.get a):cB C e s al p=cB C e' s al p:=by
 cases p <;> simp only [eN.sl,bK,bS]at h <;> simp only [cB]
 case mv x=>rw [lA h]
 case pick a b c=>rw [fG (x:=a) fun t ht=>h t (by simp [ht]),fG (x:=b) fun t ht=>h t (by simp [ht]),fG (x:=c) fun t ht=>h t (by simp [ht])]
 case qe=>rw [pV h]
 case tQ=>rw [pV h]
 case build=>rw [u6 h]
 case sW a sz x=>rw [lA (x:=x) fun t ht=>h t (.inr ht),hc a sz x rfl]
 case sg x=>simp only [lA h,hl rfl]
 case wG off x=>simp only [lA h,hl rfl]
 case ry n z x i=>simp only [lA (x:=x) fun t ht=>h t (.inl ht),fG (x:=i) fun t ht=>h t (.inr ht),hl rfl]
 case KY f a b=>rw [lD (l:=a) fun t ht=>h t (.inl ht),lD (l:=b) fun t ht=>h t (.inr ht)]
 case zy r=>rw [qu h]
 case pz x a b=>rw [fG (x:=x) fun t ht=>h t (by simp [ht]),qu (x:=a) fun t ht=>h t (by simp [ht]),qu (x:=b) fun t ht=>h t (by simp [ht])]
 case H8 z x a b c=>rw [fG (x:=x) fun t ht=>h t (by simp [ht]),qu (x:=a) fun t ht=>h t (by simp [ht]),qu (x:=b) fun t ht=>h t (by simp [ht]),qu (x:=c) fun t ht=>h t (by simp [ht])]
 case Ac et x y z=>rw [fG (x:=x) fun t ht=>h t (by simp [ht]),fG (x:=y) fun t ht=>h t (by simp [ht]),fG (x:=z) fun t ht=>h t (by simp [ht])]
 case pE x y z=>rw [fG (x:=x) fun t ht=>h t (by simp [ht]),fG (x:=y) fun t ht=>h t (by simp [ht]),fG (x:=z) fun t ht=>h t (by simp [ht])]
 case call ro f l=>rw [lD h]
 case pe f l=>rw [fG (x:=f) fun t ht=>h t (.inl ht),lD (l:=l) fun t ht=>h t (.inr ht)]
 case invoke tb x l=>rw [fG (x:=x) fun t ht=>h t (.inl ht),lD (l:=l) fun t ht=>h t (.inr ht)]
 case ext k l=>rw [lD h]
 case tS mx l=>rw [lD h]
 all_goals first
  | rfl
  | (rw [fG h]; done)
  | (rename_i x y; rw [fG (x:=x) fun t ht=>h t (.inl ht),fG (x:=y) fun t ht=>h t (.inr ht)]; done)
theorem Ql {C:au}{s:St}{al:Option Nat}{p:eN}(h:∀t∈p.sl,SS (e.get t) (e'.get t))(hl:∀r,e.kG r=e'.kG r)(hc:∀a sz x,p= .sW a sz x->e.get a=e'.get a):cB C e s al p=cB C e' s al p:=DC h (fun _=>hl) hc
theorem Mc {C:au}{s:St}{al:Option Nat}{p:eN}{r:D×St}(h:∀t∈p.sl,SS (e.get t) (e'.get t))(hl:∀r,e.kG r=true->e'.kG r=true)(hc:∀a sz x,p= .sW a sz x->e.get a=e'.get a)(hr:cB C e s al p=some r):cB C e' s al p=some r:=by
 cases hp:p.lvB with
 | false=>rw [← DC h (fun h0=>by rw [hp]at h0; cases h0) hc]; exact hr
 | true=>
  cases p <;> simp only [eN.lvB]at hp <;> first | (cases hp; done) | skip
  all_goals simp only [eN.sl,bK]at h
  case sg x=>
   simp only [cB]at hr ⊢;rw [← lA h];split at hr <;> first | (cases hr; done) | exact hr | skip
   split at hr
   ·rename_i h1; rw [hl _ h1]; exact hr
   ·cases hr
  case wG off x=>
   simp only [cB]at hr ⊢;rw [← lA h];split at hr <;> first | (cases hr; done) | exact hr | skip
   split at hr
   ·rename_i h1; rw [hl _ h1]; exact hr
   ·cases hr
  case ry n z x i=>
   simp only [cB]at hr ⊢;rw [← lA (x:=x) fun t ht=>h t (.inl ht),← fG (x:=i) fun t ht=>h t (.inr ht)];split at hr <;> first | (cases hr; done) | skip
   ·split at hr
    ·split at hr
     ·rename_i h1 h2; rw [h1,hl _ h2]; exact hr
     ·cases hr
    ·cases hr
   all_goals exact hr
end
end Go.Ab
