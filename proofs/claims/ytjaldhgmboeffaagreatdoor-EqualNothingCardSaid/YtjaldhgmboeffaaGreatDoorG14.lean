/- Part. -/
import Derived.Test.YtjaldhgmboeffaaGreatDoorG13
import Derived.RangeFuncRecord
import Derived.RangeFuncLeaves
set_option linter.unusedSimpArgs false
set_option linter.unusedVariables false
set_option linter.unusedSectionVars false
namespace Go.Ab
open Go
variable [eV]
variable {ρ ρ' ρ0:Gh}{w w' w0:World}{P:Program}{pn:jn}{G:Gl}{X:iw}{A:nA} {s s' :St}{a:Act}{C H:ay}{L:h9} {fr fr' :Fr}
theorem St.tu {o k:Nat}{st:Qz}(h:s.nN o k st=true):s.get o=some (.loop k st):=by
 unfold St.nN at h;split at h
 ·rename_i k' st' hg;simp only [aB,aY,iQ]at h;rw [hg,h.1,h.2]
 ·cases h
theorem Eh (hs:ck ρ s w){l:Nat}(o:Go.Obj)(hp:ρ.own l= .qu):Kr ρ w ρ (w.putObj l o)/\ck ρ s (w.putObj l o):=by
 have hh:∀b,b≠l->(w.putObj l o).heap[b]? =w.heap[b]? :=fun b hb=>World.putObj_heap_other hb;have hK:Kr ρ w ρ (w.putObj l o):=⟨fun b _ hi=>⟨hh b (by rintro rfl; rw [hp]at hi; cases hi),hi⟩,fun _ h=>⟨h,rfl⟩,fun _ _ h=> .inr ⟨h,fun _ hb=>⟨hb,rfl,aq _,rfl⟩⟩⟩;exact⟨hK,hs.bV hK (fun _ _=>nh) rfl (fun b o hb=>⟨hh b (by rintro rfl; rw [hp]at hb; cases hb),rfl,rfl,rfl⟩) (fun b hb=>hs.size b (by simpa using hb))⟩
theorem HI (hs:ck ρ s w){o k:Nat} {st st' :Qz}(kQ:s.get o=some (.loop k st))(h:s.set o (.loop k st')=some s'):
  Kp ρ w ρ (w.putObj (ρ.lp k).1 (.loop (jU (ρ.lp k).2 st')))/\ck ρ s' (w.putObj (ρ.lp k).1 (.loop (jU (ρ.lp k).2 st'))):=by
 obtain⟨h1,h2,h3,h4⟩:=hs.ok _ _ kQ;have hh:∀b,b≠(ρ.lp k).1->(w.putObj (ρ.lp k).1 (.loop (jU (ρ.lp k).2 st'))).heap[b]? =w.heap[b]? :=fun b hb=>World.putObj_heap_other hb;have hK:Kp ρ w ρ (w.putObj (ρ.lp k).1 (.loop (jU (ρ.lp k).2 st'))):=⟨rfl,rfl,rfl,by simp,fun b _ hn=>⟨hh b (by rintro rfl; exact hn o h3.1),rfl⟩,fun _ h=>⟨h,rfl⟩,fun _ _ h=> .inr ⟨h,fun _ hb=>⟨hb,rfl,aq _,rfl⟩⟩⟩;obtain rfl:=St.qf h;refine⟨hK,hs.Pt hK o (.loop k st') (fun _ _ _ _=>nh) (fun _ _=>rfl) (fun b o' cE _ hb=>⟨hh b (by rintro rfl; rw [h3.1]at hb; exact cE (by simpa using hb.symm)),rfl,rfl,rfl⟩) ⟨h1,h2,h3,World.putObj_heap_same (gA.1 h4).1⟩ (fun b hb=>hs.size b (by simpa using hb)) (hs.lt _ _ kQ) (aq _) (St.fv s _ _)⟩
theorem GG (hs:ck ρ s w){o k:Nat}{st:Qz}(kQ:s.get o=some (.loop k st))(h:s.set o .dead=some s')(ob:Go.Obj):
  ∃ρ',Kp ρ w ρ' (w.putObj (ρ.lp k).1 ob)/\ck ρ' s' (w.putObj (ρ.lp k).1 ob):=by
 obtain⟨h1,h2,h3,h4⟩:=hs.ok _ _ kQ;have hh:∀b,b≠(ρ.lp k).1->(w.putObj (ρ.lp k).1 ob).heap[b]? =w.heap[b]? :=fun b hb=>World.putObj_heap_other hb;let ρ' :Gh:= { ρ with kd:=fun q=>if q=o then .dead else ρ.kd q}
 have rW:ρ'.kd o= .dead:=bT rfl;have UN:∀q,q≠o->ρ'.kd q=ρ.kd q:=fun q hq=>aK hq;have hK:Kp ρ w ρ' (w.putObj (ρ.lp k).1 ob):=by
  refine⟨rfl,rfl,rfl,by simp,fun b _ hn=>⟨hh b (by rintro rfl; exact hn o h3.1),rfl⟩,fun q hq=>⟨?_,rfl⟩,fun q sz hq=> ?_⟩
  ·by_cases e:q=o
   ·subst e; exact rW
   ·exact (UN q e).trans hq
  ·by_cases e:q=o
   ·subst e; exact .inl rW
   ·exact .inr ⟨(UN q e).trans hq,fun _ hb=>⟨hb,rfl,aq _,rfl⟩⟩
 obtain rfl:=St.qf h;exact⟨ρ',hK,hs.Pt hK o .dead (fun _ _ _ _=>nh) (fun q hq=>UN q hq) (fun b o' cE _ hb=>⟨hh b (by rintro rfl; rw [h3.1]at hb; exact cE (by simpa using hb.symm)),rfl,rfl,rfl⟩) rW (fun b hb=>hs.size b (by simpa using hb)) (hs.lt _ _ kQ) (aq _) (St.fv s _ _)⟩
theorem XH (hs:ck ρ s w)(ob:Go.Obj)(p:Nat×Go.Loop):
  ∃ρ',Kp ρ w ρ' (w.alloc ob)/\ck ρ' (s.bz .dead) (w.alloc ob)/\ρ'.kd s.n= .dead/\ρ'.lp s.n=p/\ρ'.own w.heap.size= .qu:=by
 have hw:(w.alloc ob).heap=w.heap.push ob:=rfl;have hn:s.get s.n=none:=by
  cases h:s.get s.n with
  | none=>rfl
  | some x=>exact absurd (hs.lt _ _ h) (gR _)
 have hf:=hs.no _ hn;let ρ' :Gh:= { ρ with own:=fun b=>if b=w.heap.size then .qu else ρ.own b,kd:=fun q=>if q=s.n then .dead else ρ.kd q,lp:=fun q=>if q=s.n then p else ρ.lp q}
 have hold:∀b,b < w.heap.size->(w.alloc ob).heap[b]? =w.heap[b]? :=fun b hb=>by rw [hw,js,aK (by omega)]
 have lC:∀b,b < w.heap.size->ρ'.own b=ρ.own b:=fun b hb=>aK (by omega);have cE:∀q,ρ.kd q≠ .fresh->q≠s.n:=by rintro q h rfl; exact h hf
 have hK:Kp ρ w ρ' (w.alloc ob):=by
  refine⟨rfl,rfl,rfl,by rw [hw]; simp,fun b hb _=>⟨hold b hb,lC b hb⟩,fun o ho=> ?_,fun o z ho=> .inr ⟨?_,fun b hb=>⟨(lC b (hs.jJ hb)).trans hb,rfl,aq _,rfl⟩⟩⟩
  ·have:=cE o (by rw [ho]; simp);exact⟨(aK this).trans ho,aK this⟩
  ·have:=cE o (by rw [ho]; simp);exact (aK this).trans ho
 refine⟨ρ',hK,hs.Pt hK s.n .dead (fun b o tz _=> ?_) (fun o tz =>aK tz) (fun b o _ _ hb=>⟨hold b (hs.jJ hb),rfl,rfl,rfl⟩) (bT rfl) (fun b hb=> ?_) (by simp [St.bz]) (by simp [St.bz]) (St.vu s _),bT rfl,bT rfl,bT rfl⟩
 ·by_cases hb:b < w.heap.size
  ·rw [lC b hb]
  ·constructor
   ·intro h;have h:(if b=w.heap.size then Own.qu else ρ.own b)= .obj o:=h;split at h
    ·cases h
    ·exact h
   ·intro h; exact absurd (hs.jJ h) hb
 ·rw [hw]at hb;simp only [Array.size_push]at hb;exact (aK (by omega)).trans (hs.size b (by omega))
theorem Wm (hs:ck ρ s w){k:Nat}{r:Go.Loop}(hk:ρ.kd k= .dead)(hp:ρ.lp k=(w.heap.size,jU r .ready)):
  ∃ρ',Kp ρ w ρ' (w.alloc (.loop (jU r .ready)))/\ck ρ' (s.bz (.loop k .ready)) (w.alloc (.loop (jU r .ready))):=by
 have hw:(w.alloc (.loop (jU r .ready))).heap=w.heap.push (.loop (jU r .ready)):=rfl;have hn:s.get s.n=none:=by
  cases h:s.get s.n with
  | none=>rfl
  | some x=>exact absurd (hs.lt _ _ h) (gR _)
 have hf:=hs.no _ hn;let ρ' :Gh:= { ρ with own:=fun b=>if b=w.heap.size then .obj s.n else ρ.own b,kd:=fun q=>if q=s.n then .live 1 else ρ.kd q}
 have hold:∀b,b < w.heap.size->(w.alloc (.loop (jU r .ready))).heap[b]? =w.heap[b]? :=fun b hb=>by rw [hw,js,aK (by omega)]
 have lC:∀b,b < w.heap.size->ρ'.own b=ρ.own b:=fun b hb=>aK (by omega);have cE:∀q,ρ.kd q≠ .fresh->q≠s.n:=by rintro q h rfl; exact h hf
 have hK:Kp ρ w ρ' (w.alloc (.loop (jU r .ready))):=by
  refine⟨rfl,rfl,rfl,by rw [hw]; simp,fun b hb _=>⟨hold b hb,lC b hb⟩,fun o ho=> ?_,fun o z ho=> .inr ⟨?_,fun b hb=>⟨(lC b (hs.jJ hb)).trans hb,rfl,aq _,rfl⟩⟩⟩
  ·exact⟨(aK (cE o (by rw [ho]; simp))).trans ho,rfl⟩
  ·exact (aK (cE o (by rw [ho]; simp))).trans ho
 have nL:ρ'.one s.n w.heap.size:=by
  refine⟨bT rfl,fun b' h' => ?_⟩;have h' :(if b' =w.heap.size then Own.obj s.n else ρ.own b')= .obj s.n:=h';split at h'
  ·assumption
  ·exact absurd hf (hs.live _ _ h')
 refine⟨ρ',hK,hs.Pt hK s.n (.loop k .ready) (fun b o tz _=> ?_) (fun o tz =>aK tz) (fun b o _ _ hb=>⟨hold b (hs.jJ hb),rfl,rfl,rfl⟩) ⟨bT rfl,(aK (cE k (by rw [hk]; simp))).trans hk, ?_, ?_⟩ (fun b hb=> ?_) (by simp [St.bz]) (by simp [St.bz]) (St.vu s _)⟩
 ·by_cases hb:b < w.heap.size
  ·rw [lC b hb]
  ·constructor
   ·intro h;have h:(if b=w.heap.size then Own.obj s.n else ρ.own b)= .obj o:=h;split at h
    ·exact absurd (by simpa using h.symm) tz
    ·exact h
   ·intro h; exact absurd (hs.jJ h) hb
 ·show ρ'.one s.n (ρ.lp k).1;rw [hp]; exact nL
 ·show (w.alloc (.loop (jU r .ready))).heap[(ρ.lp k).1]? =some (.loop (jU (ρ.lp k).2 .ready));rw [hp,hw];simp [jU]
 ·rw [hw]at hb;simp only [Array.size_push]at hb;exact (aK (by omega)).trans (hs.size b (by omega))
theorem gN.Zt {k l:Nat}{r:Go.Loop}{e:Env}(h:gN (pn.loop k l r e) G ρ w):gN pn G ρ w:=⟨h.1,h.2.2⟩
theorem AY:∀ {e:Env},e.plain=true->∀ {t:Nat} {d:D},e.get t=some d->(∀x,d≠ .lv x)/\(∀b c,d≠ .iG b c)
 | [],_,t,d,h=>by simp [Env.get]at h
 | (u,q)::r,hp,t,d,h=>by
  rw [dB]at h;simp only [Env.plain]at hp;split at h
  ·simp only [aa]at h; subst h;split at hp
   ·cases hp
   ·cases hp
   ·rename_i h1 h2; exact ⟨fun x e=>h1 x e,fun b c e=>h2 b c e⟩
  ·split at hp
   ·cases hp
   ·cases hp
   ·exact AY hp h
theorem er.plain {lo:Nat}{e:Env}{tmps:Array Value}{t:Nat}{d:D}(h1:∀x,d≠ .lv x)(h2:∀b c,d≠ .iG b c):er ρ w lo e tmps t d↔∃v,tmps[t]? =some v/\aU ρ w d v:=by
 cases d <;> first | exact nh | exact absurd rfl (h1 _) | exact absurd rfl (h2 _ _)
def D1 (ρ:Gh)(w:World)(e:Env)(tmps:Array Value):Prop:=∀t d,e.get t=some d->∃v,tmps[t]? =some v/\aU ρ w d v
theorem D1.XL {lo:Nat}{e:Env}{tmps:Array Value}(h:D1 ρ w e tmps):ew ρ w lo e tmps:=by
 have key:∀t d,e.get t=some d->(∀x,d≠ .lv x)/\(∀b c,d≠ .iG b c):=fun t d hd=>by
  obtain⟨v,_,hr⟩:=h t d hd;refine⟨?_, ?_⟩ <;> · intros; rintro rfl; simp [aU]at hr
 refine⟨fun t d hd=>(er.plain (key t d hd).1 (key t d hd).2).2 (h t d hd),fun t t' x x' b _ h1 _=>absurd rfl ((key t _ h1).1 x)⟩
theorem D1.bind {tmps:Array Value}:∀(ps:List Nat) (xs:List D) (vs:List Value) (e e' :Env) (tmps:Array Value),pU ps xs e=some e' ->bw ρ w xs vs->(∀t∈ps,t < tmps.size)->D1 ρ w e tmps->
  ps.length=vs.length/\D1 ρ w e' ((ps.zip vs).foldl (fun t p=>t.setIfInBounds p.1 p.2) tmps)/\((ps.zip vs).foldl (fun t p=>t.setIfInBounds p.1 p.2) tmps).size=tmps.size
 | [],[],vs,e,e',tmps,h,hr,_,hs=>by
  simp only [pU,aa]at h; subst h;simp only [bw]at hr; subst hr;exact⟨rfl,hs,rfl⟩
 | [],_::_,_,_,_,_,h,_,_,_=>by simp [pU]at h
 | _::_,[],_,_,_,_,h,_,_,_=>by simp [pU]at h
 | t::ps,d::xs,vs,e,e',tmps,h,hr,dM,hs=>by
  simp only [pU]at h;simp only [bw]at hr;obtain⟨v,r,rfl,hv,hr⟩:=hr;have ht:=dM t (by simp)
  obtain⟨h1,h2,h3⟩:=D1.bind (tmps:=tmps) ps xs r ((t,d)::e) e' (tmps.setIfInBounds t v) h hr (fun u hu=>by simpa using dM u (by simp [hu])) (fun u q hq=>by
   rw [dB]at hq;split at hq
   ·rename_i eq; subst eq;simp only [aa]at hq; subst hq;exact⟨v,by simp [ht],hv⟩
   ·rename_i cE;obtain⟨z,hz,hrz⟩:=hs u q hq;exact⟨z,by rw [dS,aK cE]; exact hz,hrz⟩)
  refine⟨by simp [h1], ?_, ?_⟩
  ·simpa using h2
  ·simpa using h3
theorem JR (hC:Fj C)(hL:W7 L)(hH:zn H){k:Nat}{ps:List Nat}{env:Env}{x y:AC}:zn (jZ k ps env (bX C L x) (bX C L y) H):=by
 intro f l s d s' s1 hs h;unfold jZ at h ⊢;split at h
 ·rename_i k' xs;split at h
  ·split at h
   ·exfalso;unfold B4 at h;split at h
    ·rename_i fr1 s2 h1;have e:=gF hC hL hs.ro h1;rw [e]at h;split at h
     ·simp only [St.set,hs.ro]at h;cases h
     ·cases h
    ·cases h
   ·cases h
  ·exact hH _ _ _ _ _ _ hs h
 ·exact hH _ _ _ _ _ _ hs h
theorem NR (hC:dR pn P G C)(hX:∀f k,X f=some k->mA P f k)(hL:vw pn P G X L)(hD:qP pn P G X C)(hH:dR pn P G H){k l:Nat}{r:Go.Loop}{env:Env}{ps:Array Tmp}{ca cb:Code}{k1 k2 k3 k4:List (List Nat)}{x y:AC}
  (hx:compile P G X A ca k1=(x,k2))(hy:compile P G X A cb k3=(y,k4))(nx:x.nd=true)(ny:y.nd=true)(PD:∀t∈ps.toList,t < A.nt)(hpa:r.params=ps)(has:r.assign=ca)(Q0:r.body=cb)(fS:A.nt<=r.tmps.size):
  dR (pn.loop k l r env) P G (jZ k ps.toList env (bX C L x) (bX C L y) H):=by
 have other:∀ {f l s q},jZ k ps.toList env (bX C L x) (bX C L y) H f l s=some q->H f l s=some q\/(f=0/\∃xs e,l= .lv (.yl k)::xs/\s.nN (k+1) k .ready=true/\pU ps.toList xs env=some e/\B4 k (bX C L y) (bX C L x ⟨e,[]⟩ s)=some q):=by
  intro f l s q h;unfold jZ at h;split at h
  ·rename_i k' xs;split at h
   ·rename_i hk;obtain rfl:=aD hk;split at h
    ·rename_i e h1 h2;exact .inr ⟨rfl,xs,e,rfl,h1,h2,h⟩
    ·cases h
   ·exact .inl h
  ·exact .inl h
 refine⟨fun f l s q h hf=> ?_,fun f l s d s' ρ w vs h hs hg hl=> ?_,fun f l s d s' wM h=> ?_,fun y1 l1 s d s' ρ w u vs h hs hg hu hl=> ?_,JR hC.ro hL.ro hH.P8⟩
 ·rcases other h with h | ⟨rfl,xs,e,rfl,_⟩
  ·exact hH.enter f l s q h hf
  ·rcases hf with hf | hf
   ·exact absurd rfl hf
   ·cases hf
 ·rcases other h with h | ⟨rfl,xs,e,rfl,_⟩
  ·exact hH.calls f l s d s' ρ w vs h hs hg.Zt hl
  ·simp [bw,aU]at hl
 ·rcases other h with h | ⟨rfl,xs,e,rfl,_,_,hm⟩
  ·exact hH.ro f l s d s' wM h
  ·unfold B4 at hm;split at hm
   ·rename_i fr1 s1 h1;split at hm
    ·split at hm
     ·rename_i s2 h2;obtain rfl:=gF hC.ro hL.ro wM h1;simp [St.set,wM]at h2
     ·cases hm
    ·cases hm
   ·cases hm
 ·rcases other h with h | ⟨_,xs,e,sq,Yl,hbe,hm⟩
  ·exact hH.yF y1 l1 s d s' ρ w u vs h hs hg.Zt hu hl
  ·simp only [eC,D.lv.injEq]at sq;obtain⟨rfl,rfl⟩:=sq;obtain⟨SN,⟨p1,p2,p3⟩,WG⟩:=hg;simp only [aU]at hu;have lG:=hs.ok _ _ (St.tu Yl);obtain⟨o1,o2,o3,o4⟩:=lG;rw [p2]at o3 o4;obtain⟨b1,b2,b3⟩:=D1.bind (tmps:=r.tmps) ps.toList l1 vs env e r.tmps hbe hl (fun t ht=>eK (PD t ht) fS) p3;refine⟨l,by rw [hu.2,p2],r.fn,(ps.toList.zip vs).foldl (fun t p=>t.setIfInBounds p.1 p.2) r.tmps,ca,cb, ?_, ?_⟩
   ·have:=run_yield (P:=P) (args:=vs.toArray) o4 (by simp only [jU]; rw [hpa]; simpa using b1.symm);rw [this];simp only [jU,hpa,has,Q0];have hz:(ps.zip vs.toArray)=(ps.toList.zip vs).toArray:=by
     apply dH; simp
    rw [hz];simp only [List.foldl_toArray'];done
   ·
    have hgl:gN pn G ρ w:=⟨SN,WG⟩;unfold B4 at hm;split at hm
    ·rename_i fr1 s1 h1;split at hm
     ·rename_i ab7;split at hm
      ·rename_i s2 h2;have hI:Inv ρ w A.nt ⟨e,[]⟩ s { tmps:=(ps.toList.zip vs).foldl (fun t p=>t.setIfInBounds p.1 p.2) r.tmps,defers:=[]} w:=⟨ρ,Kp.refl _ _,⟨b2.XL,by show A.nt<=_; rw [b3]; exact fS,rfl⟩,hs⟩;refine roundIn_of_wpIn (F:=Fence.wide) trivial (wpIn_mono (km (rd:=some l) hC hX hL hD hgl ca k1 k2 x ⟨e,[]⟩ s .normal fr1 s1 _ w (.inr nx) hx h1 hI) fun ex a1 w1 hq=> ?_);obtain⟨hex,ρ1,j1,j2,j3⟩:=hq;cases ex <;> simp only [qX]at hex;simp only [Exit.then];have Zi :=St.tu ab7;obtain⟨q1,q2,q3,q4⟩:=j3.ok _ _ Zi;have hlp:ρ1.lp k=(l,r):=(j1.dead k p1).2.trans p2;have hbr:=run_beginRound (P:=P) (by rw [hlp]at q4; exact q4) (by simp [jU]);obtain⟨m1,m2⟩:=HI j3 Zi h2;rw [hlp]at m1 m2;refine⟨_,hbr, ?_⟩;have hwb:w1.putObj l (.loop { jU r .ready with state:= .busy})=w1.putObj l (.loop (jU r .busy)):=rfl;rw [hwb];unfold Kx at hm;split at hm
       ·rename_i e2 vB s3 h3;split at hm
        ·rename_i GR aaV;obtain⟨h4,rfl⟩:=il hm;refine wpIn_mono (km (rd:=some l) hC hX hL hD hgl cb k3 k4 y fr1 s2 e2 vB s3 a1 _ (.inr ny) hy h3 ⟨ρ1,j1.trans m1,j2.mono m1,m2⟩) fun ex a2 w2 hq=> ?_;obtain⟨hex,ρ2,n1,n2,n3⟩:=hq;have Fc:=St.tu aaV;obtain⟨t1,t2,t3,t4⟩:=n3.ok _ _ Fc;have Mx:ρ2.lp k=(l,r):=(n1.dead k p1).2.trans p2;obtain⟨g1,g2⟩:=HI n3 Fc h4;rw [Mx]at t4 g1 g2;have fin:∀(j:Option Code),(jU r (PS e2))= { jU r .busy with state:=if j.isNone then .ready else .done,pending:=j}->j.isNone=qn e2->∃v w',(Instr.endRound l j).run P w2= .ok v w' /\jW ρ w s' (.bool (qn e2)) (.returned v) w' :=by
          intro j hj hn;refine⟨_,_,run_endRound j t4,ρ2,n1.trans ?_, ?_,by rw [hn]; simp [aU]⟩
          ·rw [← hj]; exact g1
          ·rw [← hj]; exact g2
         cases e2 <;> cases ex <;> simp only [qX]at hex
         ·exact fin none rfl rfl
         ·subst hex; exact fin (some (.exit _)) rfl rfl
         ·exact fin (some .ret) rfl rfl
        ·cases hm
       ·cases hm
      ·cases hm
     ·cases hm
    ·cases hm
theorem Md {C' :Nat->Env->ay}{bV:List Nat}{g:Operand} {g' :bP}{ps:Array Tmp}{ca cb:Code}{e:Ex}
  (hC' :∀(k l:Nat) (r:Go.Loop) (env:Env),r.params=ps->r.assign=ca->r.body=cb->A.nt<=r.tmps.size->dR (pn.loop k l r env) P G (C' k env))
  (hg:gN pn G ρ0 w0)(xo:eO G g=some g')(h:nM C' bV g' fr s=some (e,fr',s'))(hI:Inv ρ0 w0 A.nt fr s a w):
  (Code.rangeFunc g ps ca cb).wpIn Fence.wide 0 P (mN ρ0 w0 A.nt e fr' s') a w:=by
 unfold nM at h;split at h
 ·rename_i gf caps hgv wM;split at h
  ·rename_i I3;unfold Ad at h;split at h
   ·rename_i d s2 fY;split at h
    ·rename_i k' st kQ;split at h
     ·rename_i e1 s3 hk hex gO;simp only [aa,ae]at h;obtain⟨rfl,rfl,rfl⟩:=h;obtain rfl:=aD hk;obtain⟨ρ,Cz,hf,hs⟩:=hI;have hv:=ba xo hf.env (hg.mono Cz) hgv;simp only [aU,bw]at hv;obtain⟨va,lb,hv,Le,Zr⟩:=hv;obtain rfl:va= #[]:=Array.toList_eq_nil_iff.1 Le;refine wpIn_rangeFunc fun fn _=> ?_;obtain⟨r,hr⟩:∃r:Go.Loop,r= { state:= .ready,pending:=none,fn:=fn,tmps:=a.tmps,params:=ps,assign:=ca,body:=cb,defers:=w.heap.size}:=⟨_,rfl⟩;have hrr:jU r .ready=r:=by rw [hr]; rfl
      obtain⟨ρ1,a1,a2,a3,a4,a5⟩:=XH hs (.deferred (some [])) (w.heap.size+1,r);have Yw:(w.alloc (.deferred (some []))).heap.size=w.heap.size+1:=by
       show (w.heap.push _).size=_; simp
      obtain⟨ρ2,b1,b2⟩:=Wm a2 (k:=s.n) (r:=r) a3 (by rw [a4,Yw,hrr]);rw [hrr]at b1 b2;have sG:=run_enterLoop_outer (P:=P) (w:=w) fn a.tmps ps ca cb;rw [← hr]at sG;obtain⟨W2,hW2⟩:∃W2,(w.alloc (.deferred (some []))).alloc (.loop r)=W2:=⟨_,rfl⟩;rw [hW2]at b1 b2 sG;have Xw:ρ2.kd s.n= .dead:=(b1.dead _ a3).1;have Mx:ρ2.lp s.n=(w.heap.size+1,r):=(b1.dead _ a3).2.trans a4;have k02:Kp ρ w ρ2 W2:=a1.trans b1
      have aax:D1 ρ2 W2 (fr.env.bV bV) r.tmps:=fun t q hq=>by
       obtain⟨h1,h2⟩:=AY I3 hq;obtain⟨v,z1,z2⟩:=(er.plain h1 h2).1 (hf.env.slot t q (oW hq));rw [hr]; exact ⟨v,z1,z2.mono k02⟩
      have hC2:=hC' s.n (w.heap.size+1) r (fr.env.bV bV) (by rw [hr]) (by rw [hr]) (by rw [hr]) (by rw [hr]; exact hf.size);have hy:yS (.yl s.n::caps)=false:=rfl;have eg:=hC2.enter _ _ _ _ fY (.inr hy)
      refine⟨w.heap.size+1,[{ target:= .collected w.heap.size,args:= #[]}],W2,{ target:= .fn (.func gf) lb,args:= #[.func (.yield (w.heap.size+1)) #[] #[]]},W2,gf,
       #[.func (.yield (w.heap.size+1)) #[] #[]]++lb,W2,sG, ?_,fun _ _=>trivial, ?_,fun h=>(by cases h),callsIn_wide.2 ?_⟩
      ·simp only [resolve,hv];simp [Deferred.ofValue,Act.eval]
      ·simp [invoke,eg]
      ·have P0:bw ρ2 W2 (.yl s.n::caps) (.func (.yield (w.heap.size+1)) #[] #[]::lb.toList):=by
        simp only [bw];refine⟨_,_,rfl, ?_,Zr.mono k02⟩;simp only [aU];exact⟨Xw,by rw [Mx]⟩
       have abx:gN (pn.loop s.n (w.heap.size+1) r (fr.env.bV bV)) G ρ2 W2:=by
        have:=hg.mono (Cz.trans k02);exact⟨this.1,⟨Xw,Mx,aax⟩,this.2⟩
       have Vh:=hC2.calls _ _ _ _ _ _ _ _ fY b2 abx P0;have ez:(Value.func (.yield (w.heap.size+1)) #[] #[]::lb.toList).toArray= #[.func (.yield (w.heap.size+1)) #[] #[]]++lb:=by
        apply dH; simp
       rw [ez]at Vh;refine Vh.mono fun en w3 he=> ?_;cases en with
       | panicked _=>exact he.elim
       | outgrown=>exact he.elim
       | returned v=>
        obtain⟨ρ3,q1,q2,q3⟩:=he;have ace:ρ3.lp s.n=(w.heap.size+1,r):=(q1.dead _ Xw).2.trans Mx;have t4:=(q2.ok _ _ kQ).2.2.2;obtain⟨ρ4,u1,u2⟩:=GG q2 kQ gO (.loop { jU r st with state:= .exhausted});rw [ace]at t4 u1 u2;have iW:=run_endLoop (P:=P) t4 (by cases st <;> first | (cases hex; done) | simp [jU]);have d1:(w.alloc (.deferred (some []))).heap[w.heap.size]? =some (.deferred (some [])):=World.alloc_heap_new w _;have XM:Kp ρ1 (w.alloc (.deferred (some []))) ρ4 _:=b1.trans (q1.trans u1);obtain⟨d2,d3⟩:=XM.kept w.heap.size (by rw [Yw]; omega) (fun o=>by rw [a5]; simp);have kall:=a1.trans XM
        have Xs:Inv ρ0 w0 A.nt { fr with defers:=(.mw,[])::fr.defers} s3 { a with defers:=[{ target:= .collected w.heap.size,args:= #[]}]++a.defers} _:=
         ⟨ρ4,Cz.trans kall,⟨hf.env.mono kall,hf.size,.inl ⟨rfl,w.heap.size,a.defers,rfl,Cz.size,d3.trans a5,d2.trans d1,fun m hm hb=>gR _ (hf.defers.marks m hm _ hb),hf.defers.mono kall⟩⟩,u2⟩
        refine⟨_,_,iW, ?_⟩;cases st <;> simp only [BW,aa]at hex
        ·subst hex; exact ⟨trivial,Xs⟩
        ·cases hex
        ·subst hex; exact wpIn_exit ⟨rfl,Xs⟩
        ·subst hex; exact wpIn_ret ⟨trivial,Xs⟩
     ·cases h
    ·cases h
   ·cases h
  ·cases h
 ·cases h
end Go.Ab
namespace Go.Ab
open Go
variable [eV]
variable {ρ ρ' ρ0:Gh}{w w' w0:World}{P:Program}{pn:jn}{G:Gl}{X:iw}{A:nA} {s s' :St}{env:Env}{a:Act}{lo:Nat}{d:D}{C CD:ay}{L:h9}{al:Option Nat} {fr fr' :Fr}
theorem rE {t:TypeId}{v u:Value}(h:(Instr.loadAt t v).run P w= .ok u w):((do loadVar t (← asAddr v)):Sem Value).run P w= .ok u w:=by
 cases v with
 | pointer p=>
  cases p with
  | none=>simp [Instr.loadAt,Instr.sureAddr,stuck,Sem.run]at h
  | some q=>simpa [Instr.loadAt,Instr.sureAddr,asAddr] using h
 | _=>simp [Instr.loadAt,Instr.sureAddr,stuck,Sem.run]at h
def Cb (tmps:Array Value):ResultVar->Sem Value
 | .tmp t=>pure (tmps.getD t undef)
 | .cell a t=>do loadVar t (← asAddr (tmps.getD a undef))
theorem uI (he:ew ρ w lo env a.tmps)(hs:ck ρ s w):∀(rs:List ResultVar) (rs' :List wV) (l:List D),rs.mapM (NI P)=some rs' ->lu env s rs' =some l->∃vs,(rs.mapM (Cb a.tmps)).run P w= .ok vs w/\bw ρ w l vs
 | [],rs',l,h,h' =>by
  simp at h; subst h;simp only [lu,aa]at h'; subst h';exact⟨[],by simp,by simp [bw]⟩
 | r::rs,rs',l,h,h' =>by
  simp only [jB,aQ,aE,an]at h;obtain⟨x,h1,q,h2,h3⟩:=h;simp only [aa]at h3; subst h3;have cons:∀d l' v,lu env s q=some l' ->(Cb a.tmps r).run P w= .ok v w->aU ρ w d v->∃vs,((r::rs).mapM (Cb a.tmps)).run P w= .ok vs w/\bw ρ w (d::l') vs:=by
   intro d l' v hl hv hr;obtain⟨vs,g1,g2⟩:=uI he hs rs q l' h2 hl;refine⟨v::vs,by simp [jB,hv,g1], ?_⟩;simp only [bw]; exact ⟨v,vs,rfl,hr,g2⟩
  cases r with
  | tmp t=>
   simp only [NI,aa]at h1; subst h1;simp only [lu]at h';split at h'
   ·rename_i d l' hd hl;simp only [aa]at h'; subst h';have hg:gN .none (fun _=>none) ρ w:=⟨(fun _ _ h=>by cases h),trivial⟩;exact cons d l' (a.tmps.getD t undef) hl (by simp only [Cb,Sem.run_pure]) (ba (x' := .tmp t) rfl he hg hd)
   ·cases h'
  | cell b t=>
   simp only [NI,bj]at h1;obtain⟨sz,fS,rfl⟩:=h1;simp only [lu]at h';split at h'
   ·rename_i v nD;split at h'
    ·rename_i d l' hd hl;simp only [aa]at h'; subst h';have sO:=he.slot _ _ nD;simp only [er]at sO;obtain⟨b',q',el,q1,q2,q3,q4,q5,q6⟩:=sO;obtain⟨hf,_⟩:=q4.flat q6;have g1:=rJ hf (D.na q6) hd;have g2:=run_load (P:=P) (c:=0) (rangeAt_of_block q5) fS;simp only [fP]at g2;have ht:a.tmps.getD b undef= .pointer (some ⟨b',0,none⟩):=by simp [q1]
     cases sz with
     | some n=>
      obtain⟨g3,g4⟩:=g1;exact cons d l' _ hl (by simp only [Cb,ht]; exact rE (g2 g3)) g4
     | none=>
      obtain⟨u,g3,g4,_⟩:=g1;exact cons d l' _ hl (by simp only [Cb,ht]; exact rE (g2 u g3)) g4
    ·cases h'
   ·rename_i p qU hp;split at h'
    ·rename_i d l' hd hl;simp only [aa]at h'; subst h';have sO:=he.slot _ _ hp;have Li:aU ρ w p (a.tmps.getD b undef):=by
      cases p <;> first | (simp only [iP]at hd; cases hd; done) | (simp only [er]at sO; obtain ⟨v,hv,hr⟩:=sO; simpa [hv] using hr) | exact absurd rfl (qU _)
     obtain⟨u,g1,g2⟩:=Bs (P:=P) hs fS hd Li;exact cons d l' u hl (by simp only [Cb]; exact rE g1) g2
    ·cases h'
   ·cases h'
theorem yv (he:ew ρ w lo env a.tmps)(hs:ck ρ s w){fn:Func} {rs' :List wV}{l:List D}(h:fn.results.toList.mapM (NI P)=some rs') (h' :lu env s rs' =some l):∃v,(results fn a.tmps).run P w= .ok v w/\aU ρ w (single l) v:=by
 obtain⟨vs,g1,g2⟩:=uI he hs _ _ _ h h';have hm:(fn.results.mapM (Cb a.tmps)).run P w= .ok vs.toArray w:=by
  rw [Array.mapM_eq_mapM_toList];simp [g1]
 refine⟨if h:vs.toArray.size=1 then vs.toArray[0] else .tuple vs.toArray, ?_, ?_⟩
 ·have:results fn a.tmps=(do let vs ← fn.results.mapM (Cb a.tmps); pure (if h:vs.size=1 then vs[0] else .tuple vs)):=by
   unfold results
   congr 1
  rw [this,Sem.run_bind,hm];rfl
 ·have hl:=g2.length;cases l with
  | nil=>simp only [bw]at g2; subst g2; simp [single,aU,bw]
  | cons d l=>
   cases l with
   | nil=>
    simp only [bw]at g2;obtain⟨v,_,rfl,h1,rfl⟩:=g2;simpa [single] using h1
   | cons d2 l=>
    have cE: ¬ vs.toArray.size=1:=by simp; simp at hl; omega
    rw [dif_neg cE];simp only [single,aU];exact⟨_,rfl,by simpa using g2⟩
structure vy (pn:jn)(P:Program)(G:Gl)(C:ay):Prop where
 enter:∀f l s r,C f l s=some r->∀(args:Array Value) w,(callFunc f args).run P w= .ok (.enter f args) w
 calls:∀f l s d s' ρ w vs u,C f l s=some (d,s')->ck ρ s w->gN pn G ρ w->bw ρ w l vs->CallsDIn Fence.wide 0 P f vs.toArray u w (fun e u' w' =>u' =u/\jW ρ w s' d e w')
theorem ew.yE {tmps:Array Value}(he:ew ρ w lo env tmps){b:Nat}{ds:List Deferred}(hp:ρ.own b= .qu)(hb:w.heap[b]? =some (.deferred (some ds)))(hK:Kr ρ w ρ (w.putObj b (.deferred none))):ew ρ (w.putObj b (.deferred none)) lo env tmps:=by
 refine⟨fun t d hd=> ?_,he.inj⟩;have:=he.slot t d hd;cases d with
 | lv x=>
  simp only [er]at *;obtain⟨b',v,el,h1,h2,h3,h4,h5,h6⟩:=this;exact⟨b',v,el,h1,h2,h3,aU.gn hK _ _ h4,(World.putObj_heap_other (by rintro rfl; rw [hb]at h5; cases h5)).trans h5,h6⟩
 | iG a c=>exact this
 | _=>
  simp only [er]at *;obtain⟨v,h1,h2⟩:=this;exact⟨v,h1,aU.gn hK _ _ h2⟩
theorem ix.yE {lo:Nat}{b:Nat}(hK:Kr ρ w ρ (w.putObj b (.deferred none))):∀ {l:List (D×List D)} {ds:List Deferred},(∀m∈ds,m.target≠ .collected b)->ix ρ w lo l ds->ix ρ (w.putObj b (.deferred none)) lo l ds
 | [],_,_,h=>h
 | (d,l)::r,_,hm,h=>by
  rcases h with ⟨h1,b',t,rfl,h3,h4,h5,h6,h7⟩ | ⟨f,x,y,va,vc,vl,t,h1,rfl,h3,h4,h5,h6⟩
  ·have cE:b' ≠b:=by rintro rfl; exact hm { target:= .collected b',args:= #[]} (by simp) rfl
   exact .inl ⟨h1,b',t,rfl,h3,h4,(World.putObj_heap_other cE).trans h5,h6,ix.yE hK (fun m h=>hm m (by simp [h])) h7⟩
  ·exact .inr ⟨f,x,y,va,vc,vl,t,h1,rfl,bw.gn hK _ _ h3,bw.gn hK _ _ h4,bw.gn hK _ _ h5,ix.yE hK (fun m h=>hm m (by simp [h])) h6⟩
theorem x9 (Oz:vy pn P G CD)(hg:gN pn G ρ0 w0){fn:Func}{tmps:Array Value}{R:Ending->World->Prop}:
  ∀(l:List (D×List D)) (ds:List Deferred) (s:St) (ρ:Gh) (w:World),ix ρ w w0.heap.size l ds->leave CD l s=some s' ->ck ρ s w->Kp ρ0 w0 ρ w->ew ρ w lo env tmps->
   (∀ρ' w',Kp ρ0 w0 ρ' w' ->ck ρ' s' w' ->ew ρ' w' lo env tmps->LeavesInM Fence.wide 0 P fn tmps R [] .returning w')->LeavesInM Fence.wide 0 P fn tmps R ds .returning w
 | [],ds,s,ρ,w,hd,h,hs,hK,he,jr=>by
  simp only [ix]at hd; subst hd;simp only [leave,aa]at h; subst h;exact jr ρ w hK hs he
 | (d,l)::r,ds,s,ρ,w,hd,h,hs,hK,he,jr=>by
  rcases hd with ⟨rfl,b,t,rfl,h3,h4,h5,h6,h7⟩ | ⟨f,x,y,va,vc,vl,t,rfl,rfl,h3,h4,h5,h6⟩
  ·simp only [leave]at h;obtain⟨r1,r2⟩:=Eh hs (l:=b) (.deferred none) h4;refine⟨by simp,.inl ⟨b,_,rfl,run_takeDeferred h5, ?_⟩⟩;refine x9 Oz hg r t s ρ _ (h7.yE r1 h6) h r2 ⟨hK.os,hK.tape,hK.output,by rw [World.putObj_size]; exact hK.size,fun b' jl hn=> ?_,hK.dead,hK.live⟩ (he.yE h4 h5 r1) jr;obtain⟨e1,e2⟩:=hK.kept b' jl hn;exact⟨(World.putObj_heap_other (by omega)).trans e1,e2⟩
  ·cases f <;> simp only [leave]at h <;> (try (cases h; done));rename_i g;split at h
   ·rename_i d1 s1 hc;have hi:=Oz.enter _ _ _ _ hc (va++vl++vc) w;refine⟨by simp,.inr ⟨fun h=>(by cases h),.func g,vc,g,va++vl++vc,rfl,by simpa [invoke] using hi,fun _ _=>trivial, ?_⟩⟩;have:=Oz.calls _ _ _ _ _ ρ w _ .returning hc hs (hg.mono hK) ((h3.append h5).append h4);have e:(va.toList++vl.toList++vc.toList).toArray=va++vl++vc:=by apply dH; simp
    rw [e]at this;refine this.mono fun e' u' w' hr=> ?_;obtain⟨rfl,hr⟩:=hr;cases e' with
    | returned v=>
     obtain⟨ρ',k1,k2,k3⟩:=hr;exact x9 Oz hg r t s1 ρ' w' (h6.mono k1) h k2 (hK.trans k1) (he.mono k1) jr
    | panicked _=>exact hr.elim
    | outgrown=>exact hr.elim
   ·cases h
structure mC (P:Program)(G:Gl)(X:iw)(T:Nat->Option dU):Prop where
 ok : ∀ f fn, T f = some fn → ∃ func A, P.funcs[f]? = some func ∧ (func.name == "runtime.NumGoroutine") = false ∧ mO P G X func A = some fn
theorem CG:∀ {l:List D} {i t:Nat} {d:D},(uS i l).get t=some d->i<=t/\l[t - i]? =some d
 | [],i,t,d,h=>by simp [uS,Env.get]at h
 | x::l,i,t,d,h=>by
  simp only [uS]at h;rw [dB]at h;split at h
  ·rename_i e; subst e; simp only [aa]at h; subst h; simp
  ·rename_i cE;obtain⟨h1,h2⟩:=CG h;refine⟨by omega, ?_⟩;rw [show t - i=(t - (i+1))+1 by omega]; simpa using h2
theorem Et (hs:ck ρ s w){l:List D}{vs:List Value}(hl:bw ρ w l vs)(n:Nat):Inv ρ w n { env:=uS 0 l,defers:=[]} s { tmps:=vs.toArray++Array.replicate (n - vs.toArray.size) undef,defers:=[]} w:=by
 have key:∀t d,(uS 0 l).get t=some d->∃v,(vs.toArray++Array.replicate (n - vs.toArray.size) undef)[t]? =some v/\aU ρ w d v:=fun t d h=>by
  obtain⟨_,h2⟩:=CG h;simp only [Nat.sub_zero]at h2;obtain⟨v,h3,h4⟩:=hl.get h2;have dM:t < vs.length:=(aj.1 h3).1;refine⟨v, ?_,h4⟩;rw [Array.getElem?_append_left (by simpa using dM)]; simpa using h3
 refine⟨ρ,Kp.refl _ _,⟨⟨fun t d h=> ?_,fun t t' x x' b _ h1 _=> ?_⟩,by simp; omega,rfl⟩,hs⟩
 ·obtain⟨v,h1,h2⟩:=key t d h;cases d <;> first | exact ⟨v,h1,h2⟩ | (simp only [aU]at h2)
 ·obtain⟨v,_,h2⟩:=key t _ h1;simp only [aU]at h2
theorem DT {T:Nat->Option dU}(hT:mC P G X T){f:Nat}{fn:dU}(h:T f=some fn)(args:Array Value)(w:World):(callFunc f args).run P w= .ok (.enter f args) w:=by
 obtain⟨func,A,h1,h2,h3⟩:=hT.ok f fn h;have h2 : func.name ≠ "runtime.NumGoroutine" := by simpa using h2
 unfold mO at h3;split at h3
 ·rename_i c rs hb _;simp [callFunc,h1,h2,hb]
 ·cases h3
theorem Mj {T:Nat->Option dU}(hT:mC P G X T)(hX:∀f k,X f=some k->mA P f k)(hC:dR pn P G C)(Oz:vy pn P G CD)(hL:vw pn P G X L)(hD:qP pn P G X C){f:Nat}{fn:dU}(hf:T f=some fn){l:List D}{vs:List Value}
  (h:nV C CD L fn l s=some (d,s'))(hs:ck ρ s w)(hg:gN pn G ρ w)(hl:bw ρ w l vs):Calls P f vs.toArray w (jW ρ w s' d):=by
 obtain⟨func,A,h1,h2,h3⟩:=hT.ok f fn hf;unfold mO at h3;split at h3
 ·rename_i c rs hb Ye;simp only [aa]at h3; subst h3;refine callsIn_wide.1 (callsIn_of_wp_marks (n:=0) h1 hb trivial ?_);unfold nV at h
  have fin:∀e fr' s1,(e= .normal\/e= .ret)->bX C L (compile P G X { A with nt:=func.ntmps} c A.ks).1 { env:=uS 0 l,defers:=[]} s=some (e,fr',s1)->
    (match leave CD fr'.defers s1 with | some s'' =>(match lu fr'.env s'' rs with | some l=>some (single l,s'') | none=>none) | none=>none)=some (d,s')->c.wpIn Fence.wide 0 P (bodyPostM Fence.wide 0 P func (jW ρ w s' d)) { tmps:=vs.toArray++Array.replicate (func.ntmps - vs.toArray.size) undef,defers:=[]} w:=by
   intro e fr' s1 he hex nD;split at nD
   ·rename_i s2 hle;split at nD
    ·rename_i l2 pC;simp only [aa,ae]at nD;obtain⟨rfl,rfl⟩:=nD;refine wpIn_mono (km (rd:=none) (A:= { A with nt:=func.ntmps}) hC hX hL hD hg c A.ks _ _ _ s e fr' s1 _ w (.inl rfl) rfl hex (Et hs hl func.ntmps)) fun ex a' w' hq=> ?_;obtain⟨hx,ρ1,k1,k2,k3⟩:=hq
     have nD:LeavesInM Fence.wide 0 P func a'.tmps (jW ρ w s2 (single l2)) a'.defers .returning w' :=
      x9 Oz hg fr'.defers a'.defers s1 ρ1 w' k2.defers hle k3 k1 k2.env (fun ρ2 w2 q1 q2 q3=>by
       obtain⟨v,r1,r2⟩:=yv (P:=P) q3 q2 Ye pC;exact⟨v,r1,ρ2,q1,q2,r2⟩)
     rcases he with rfl | rfl <;> cases ex <;> simp only [qX]at hx <;> exact nD
    ·cases nD
   ·cases nD
  split at h
  ·cases h
  ·rename_i e fr' s1 cE hex;refine fin e fr' s1 ?_ hex h;cases e with
   | normal=>exact .inl rfl
   | exit id=>exact (cE id rfl).elim
   | ret=>exact .inr rfl
  ·cases h
 ·cases h3
theorem L6 {T:Nat->Option dU}(hT:mC P G X T)(hX:∀f k,X f=some k->mA P f k)(hC:dR pn P G C)(hL:vw pn P G X L)(hD:qP pn P G X C):vy pn P G (oZ T C L):=by
 refine⟨fun f l s r h args w=> ?_,fun f l s d s' ρ w vs u h hs hg hl=> ?_⟩
 ·unfold oZ at h;split at h
  ·rename_i fn hf; exact DT hT hf args w
  ·cases h
 ·unfold oZ at h;split at h
  ·rename_i fn hf;obtain⟨func,A,h1,h2,h3⟩:=hT.ok f fn hf;unfold mO at h3;split at h3
   ·rename_i c rs hb Ye;simp only [aa]at h3; subst h3;refine callsDIn_of_wp (n:=0) h1 hb trivial ?_;unfold vt at h
    have fin:∀e fr' s1,(e= .normal\/e= .ret)->bX C L (compile P G X { A with nt:=func.ntmps} c A.ks).1 { env:=uS 0 l,defers:=[]} s=some (e,fr',s1)->
      (match fr'.defers with | []=>(match lu fr'.env s1 rs with | some l=>some (single l,s1) | none=>none) | _=>none)=some (d,s')->c.wpIn Fence.wide 0 P (bodyPost P func (jW ρ w s' d)) { tmps:=vs.toArray++Array.replicate (func.ntmps - vs.toArray.size) undef,defers:=[]} w:=by
     intro e fr' s1 he hex nD;split at nD
     ·rename_i hdf;split at nD
      ·rename_i l2 pC;simp only [aa,ae]at nD;obtain⟨rfl,rfl⟩:=nD;refine wpIn_mono (km (rd:=none) (A:= { A with nt:=func.ntmps}) hC hX hL hD hg c A.ks _ _ _ s e fr' s1 _ w (.inl rfl) rfl hex (Et hs hl func.ntmps)) fun ex a' w' hq=> ?_;obtain⟨hx,ρ1,k1,k2,k3⟩:=hq;have Fh:=k2.defers;rw [hdf]at Fh;simp only [ix]at Fh;obtain⟨v,r1,r2⟩:=yv (P:=P) k2.env k3 Ye pC;have nD:a'.defers=[]/\∃v,(results func a'.tmps).run P w' = .ok v w' /\jW ρ w s1 (single l2) (.returned v) w' :=⟨Fh,v,r1,ρ1,k1,k3,r2⟩;rcases he with rfl | rfl <;> cases ex <;> simp only [qX]at hx <;> exact nD
      ·cases nD
     ·cases nD
    split at h
    ·cases h
    ·rename_i e fr' s1 cE hex;refine fin e fr' s1 ?_ hex h;cases e with
     | normal=>exact .inl rfl
     | exit id=>exact (cE id rfl).elim
     | ret=>exact .inr rfl
    ·cases h
   ·cases h3
  ·cases h
theorem yq {T:Nat->Option dU}(hT:mC P G X T)(hX:∀f k,X f=some k->mA P f k)(hD:∀pn C,dR pn P G C->qP pn P G X C):∀n {pn:jn} {H:ay},dR pn P G H->dR pn P G (dJ T H n)/\vw pn P G X (fe T H n)
 | 0,pn,H,hH=>by
  refine⟨⟨fun f l s r h=> ?_,fun f l s d s' ρ w vs h=> ?_,(pa hH.ro 0).1,fun y l s d s' ρ w u vs h=>by simp [dJ]at h,(vI hH.P8 0).1⟩,⟨(pa hH.ro 0).2,fun rd A ρ0 w0 c ks ks' bV ac fr s e fr' s' a w mr Zq hg hc h=> ?_,fun A ρ0 w0 g g' ps ca cb k1 k2 k3 k4 bV x y fr s e fr' s' a w hg xo hx hy nx ny PD h=> ?_⟩⟩
  ·simp [dJ]at h
  ·simp [dJ]at h
  ·simp [fe]at h
  ·simp [fe]at h
 | n+1,pn,H,hH=>by
  obtain⟨U5,ih2⟩:=yq hT hX hD n hH;refine⟨⟨fun f l s r h hy args w=> ?_,fun f l s d s' ρ w vs h hs hg hl=> ?_,(pa hH.ro (n+1)).1,fun y l s d s' ρ w u vs h=> ?_,(vI hH.P8 (n+1)).1⟩,⟨(pa hH.ro (n+1)).2,Rz hX U5 (hD _ _ U5) ih2,fun A ρ0 w0 g g' ps ca cb k1 k2 k3 k4 bV x y fr s e fr' s' a w hg xo hx hy nx ny PD h hI=> ?_⟩⟩
  ·simp only [dJ]at h;split at h
   ·exact hH.enter f l s r h hy args w
   ·split at h
    ·rename_i fn hf; exact DT hT hf args w
    ·exact hH.enter f l s r h hy args w
  ·simp only [dJ,hl.yS]at h;split at h
   ·rename_i fn hf;exact Mj hT hX U5 (L6 hT hX U5 ih2 (hD _ _ U5)) ih2 (hD _ _ U5) hf h hs hg hl
   ·exact hH.calls f l s d s' ρ w vs h hs hg hl
  ·simp only [dJ,yS]at h;exact hH.yF y l s d s' ρ w u vs h
  ·rw [jG]at h;exact Md (A:=A) (fun k l r env e1 e2 e3 e4=>(yq hT hX hD n (NR (A:=A) U5 hX ih2 (hD _ _ U5) hH hx hy nx ny PD e1 e2 e3 e4)).1) hg xo h hI
end Go.Ab
