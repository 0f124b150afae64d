/- Part. -/
import Derived.Test.YthaiegafejbmoaaGreatDoorG15
import Derived.RangeFuncRecord
import Derived.RangeFuncLeaves
set_option linter.unusedSectionVars false
set_option linter.unusedSimpArgs false
set_option linter.unusedVariables false
namespace Go.Ab
open Go
variable [eh]
variable {ρ ρ' ρ0:Gh}{w w' w0:World}{P:Program}{pn:gY}{G:Gl}{X:ig}{A:mT} {s s' :St}{a:Act}{C H:au}{L:gO} {fr fr' :Fr}
theorem St.tR {o k:Nat}{st:Rq}(h:s.nf o k st=true):s.get o=some (.loop k st):=by
 unfold St.nf at h;split at h
 ·rename_i k' st' hg;simp only [aB,bf,iw]at h;rw [hg,h.1,h.2]
 ·cases h
theorem EY (hs:bK ρ s w){l:Nat}(o:Go.Obj)(hp:ρ.own l= .qH):Kr ρ w ρ (w.putObj l o)/\bK ρ s (w.putObj l o):=by
 have hh:∀b,b≠l->(w.putObj l o).heap[b]? =w.heap[b]? :=fun b hb=>World.putObj_heap_other hb;have hK:Kr ρ w ρ (w.putObj l o):=⟨fun b _ hi=>⟨hh b (by rintro rfl; rw [hp]at hi; cases hi),hi⟩,fun _ h=>⟨h,rfl⟩,fun _ _ h=> .inr ⟨h,fun _ hb=>⟨hb,rfl,aq _,rfl⟩⟩⟩;exact⟨hK,hs.bM hK (fun _ _=>kN) rfl (fun b o hb=>⟨hh b (by rintro rfl; rw [hp]at hb; cases hb),rfl,rfl,rfl⟩) (fun b hb=>hs.size b (by simpa using hb))⟩
theorem IQ (hs:bK ρ s w){o k:Nat} {st st' :Rq}(jn:s.get o=some (.loop k st))(h:s.set o (.loop k st')=some s'):
  Kp ρ w ρ (w.putObj (ρ.lp k).1 (.loop (jO (ρ.lp k).2 st')))/\bK ρ s' (w.putObj (ρ.lp k).1 (.loop (jO (ρ.lp k).2 st'))):=by
 obtain⟨h1,h2,h3,h4⟩:=hs.ok _ _ jn;have hh:∀b,b≠(ρ.lp k).1->(w.putObj (ρ.lp k).1 (.loop (jO (ρ.lp k).2 st'))).heap[b]? =w.heap[b]? :=fun b hb=>World.putObj_heap_other hb;have hK:Kp ρ w ρ (w.putObj (ρ.lp k).1 (.loop (jO (ρ.lp k).2 st'))):=⟨rfl,rfl,rfl,by simp,fun b _ hn=>⟨hh b (by rintro rfl; exact hn o h3.1),rfl⟩,fun _ h=>⟨h,rfl⟩,fun _ _ h=> .inr ⟨h,fun _ hb=>⟨hb,rfl,aq _,rfl⟩⟩⟩;obtain rfl:=St.qf h;refine⟨hK,hs.QM hK o (.loop k st') (fun _ _ _ _=>kN) (fun _ _=>rfl) (fun b o' dn _ hb=>⟨hh b (by rintro rfl; rw [h3.1]at hb; exact dn (by simpa using hb.symm)),rfl,rfl,rfl⟩) ⟨h1,h2,h3,World.putObj_heap_same (fR.1 h4).1⟩ (fun b hb=>hs.size b (by simpa using hb)) (hs.lt _ _ jn) (aq _) (St.eS s _ _)⟩
theorem Gs (hs:bK ρ s w){o k:Nat}{st:Rq}(jn:s.get o=some (.loop k st))(h:s.set o .dead=some s')(ob:Go.Obj):
  ∃ρ',Kp ρ w ρ' (w.putObj (ρ.lp k).1 ob)/\bK ρ' s' (w.putObj (ρ.lp k).1 ob):=by
 obtain⟨h1,h2,h3,h4⟩:=hs.ok _ _ jn;have hh:∀b,b≠(ρ.lp k).1->(w.putObj (ρ.lp k).1 ob).heap[b]? =w.heap[b]? :=fun b hb=>World.putObj_heap_other hb;let ρ' :Gh:= { ρ with kd:=fun q=>if q=o then .dead else ρ.kd q}
 have GH:ρ'.kd o= .dead:=bQ rfl;have J1:∀q,q≠o->ρ'.kd q=ρ.kd q:=fun q hq=>aI hq;have hK:Kp ρ w ρ' (w.putObj (ρ.lp k).1 ob):=by
  refine⟨rfl,rfl,rfl,by simp,fun b _ hn=>⟨hh b (by rintro rfl; exact hn o h3.1),rfl⟩,fun q hq=>⟨?_,rfl⟩,fun q sz hq=> ?_⟩
  ·by_cases e:q=o
   ·subst e; exact GH
   ·exact (J1 q e).trans hq
  ·by_cases e:q=o
   ·subst e; exact .inl GH
   ·exact .inr ⟨(J1 q e).trans hq,fun _ hb=>⟨hb,rfl,aq _,rfl⟩⟩
 obtain rfl:=St.qf h;exact⟨ρ',hK,hs.QM hK o .dead (fun _ _ _ _=>kN) (fun q hq=>J1 q hq) (fun b o' dn _ hb=>⟨hh b (by rintro rfl; rw [h3.1]at hb; exact dn (by simpa using hb.symm)),rfl,rfl,rfl⟩) GH (fun b hb=>hs.size b (by simpa using hb)) (hs.lt _ _ jn) (aq _) (St.eS s _ _)⟩
theorem WG (hs:bK ρ s w)(ob:Go.Obj)(p:Nat×Go.Loop):
  ∃ρ',Kp ρ w ρ' (w.alloc ob)/\bK ρ' (s.aZ .dead) (w.alloc ob)/\ρ'.kd s.n= .dead/\ρ'.lp s.n=p/\ρ'.own w.heap.size= .qH:=by
 have hw:(w.alloc ob).heap=w.heap.push ob:=rfl;have hn:s.get s.n=none:=by
  cases h:s.get s.n with
  | none=>rfl
  | some x=>exact absurd (hs.lt _ _ h) (fP _)
 have hf:=hs.no _ hn;let ρ' :Gh:= { ρ with own:=fun b=>if b=w.heap.size then .qH else ρ.own b,kd:=fun q=>if q=s.n then .dead else ρ.kd q,lp:=fun q=>if q=s.n then p else ρ.lp q}
 have hold:∀b,b < w.heap.size->(w.alloc ob).heap[b]? =w.heap[b]? :=fun b hb=>by rw [hw,jd,aI (by omega)]
 have kA:∀b,b < w.heap.size->ρ'.own b=ρ.own b:=fun b hb=>aI (by omega);have dn:∀q,ρ.kd q≠ .fresh->q≠s.n:=by rintro q h rfl; exact h hf
 have hK:Kp ρ w ρ' (w.alloc ob):=by
  refine⟨rfl,rfl,rfl,by rw [hw]; simp,fun b hb _=>⟨hold b hb,kA b hb⟩,fun o ho=> ?_,fun o z ho=> .inr ⟨?_,fun b hb=>⟨(kA b (hs.jG hb)).trans hb,rfl,aq _,rfl⟩⟩⟩
  ·have:=dn o (by rw [ho]; simp);exact⟨(aI this).trans ho,aI this⟩
  ·have:=dn o (by rw [ho]; simp);exact (aI this).trans ho
 refine⟨ρ',hK,hs.QM hK s.n .dead (fun b o tJ _=> ?_) (fun o tJ =>aI tJ) (fun b o _ _ hb=>⟨hold b (hs.jG hb),rfl,rfl,rfl⟩) (bQ rfl) (fun b hb=> ?_) (by simp [St.aZ]) (by simp [St.aZ]) (St.vM s _),bQ rfl,bQ rfl,bQ rfl⟩
 ·by_cases hb:b < w.heap.size
  ·rw [kA b hb]
  ·constructor
   ·intro h;have h:(if b=w.heap.size then Own.qH else ρ.own b)= .obj o:=h;split at h
    ·cases h
    ·exact h
   ·intro h; exact absurd (hs.jG h) hb
 ·rw [hw]at hb;simp only [Array.size_push]at hb;exact (aI (by omega)).trans (hs.size b (by omega))
theorem WH (hs:bK ρ s w){k:Nat}{r:Go.Loop}(hk:ρ.kd k= .dead)(hp:ρ.lp k=(w.heap.size,jO r .ready)):
  ∃ρ',Kp ρ w ρ' (w.alloc (.loop (jO r .ready)))/\bK ρ' (s.aZ (.loop k .ready)) (w.alloc (.loop (jO r .ready))):=by
 have hw:(w.alloc (.loop (jO r .ready))).heap=w.heap.push (.loop (jO r .ready)):=rfl;have hn:s.get s.n=none:=by
  cases h:s.get s.n with
  | none=>rfl
  | some x=>exact absurd (hs.lt _ _ h) (fP _)
 have hf:=hs.no _ hn;let ρ' :Gh:= { ρ with own:=fun b=>if b=w.heap.size then .obj s.n else ρ.own b,kd:=fun q=>if q=s.n then .live 1 else ρ.kd q}
 have hold:∀b,b < w.heap.size->(w.alloc (.loop (jO r .ready))).heap[b]? =w.heap[b]? :=fun b hb=>by rw [hw,jd,aI (by omega)]
 have kA:∀b,b < w.heap.size->ρ'.own b=ρ.own b:=fun b hb=>aI (by omega);have dn:∀q,ρ.kd q≠ .fresh->q≠s.n:=by rintro q h rfl; exact h hf
 have hK:Kp ρ w ρ' (w.alloc (.loop (jO r .ready))):=by
  refine⟨rfl,rfl,rfl,by rw [hw]; simp,fun b hb _=>⟨hold b hb,kA b hb⟩,fun o ho=> ?_,fun o z ho=> .inr ⟨?_,fun b hb=>⟨(kA b (hs.jG hb)).trans hb,rfl,aq _,rfl⟩⟩⟩
  ·exact⟨(aI (dn o (by rw [ho]; simp))).trans ho,rfl⟩
  ·exact (aI (dn o (by rw [ho]; simp))).trans ho
 have oO:ρ'.one s.n w.heap.size:=by
  refine⟨bQ rfl,fun b' h' => ?_⟩;have h' :(if b' =w.heap.size then Own.obj s.n else ρ.own b')= .obj s.n:=h';split at h'
  ·assumption
  ·exact absurd hf (hs.live _ _ h')
 refine⟨ρ',hK,hs.QM hK s.n (.loop k .ready) (fun b o tJ _=> ?_) (fun o tJ =>aI tJ) (fun b o _ _ hb=>⟨hold b (hs.jG hb),rfl,rfl,rfl⟩) ⟨bQ rfl,(aI (dn k (by rw [hk]; simp))).trans hk, ?_, ?_⟩ (fun b hb=> ?_) (by simp [St.aZ]) (by simp [St.aZ]) (St.vM s _)⟩
 ·by_cases hb:b < w.heap.size
  ·rw [kA b hb]
  ·constructor
   ·intro h;have h:(if b=w.heap.size then Own.obj s.n else ρ.own b)= .obj o:=h;split at h
    ·exact absurd (by simpa using h.symm) tJ
    ·exact h
   ·intro h; exact absurd (hs.jG h) hb
 ·show ρ'.one s.n (ρ.lp k).1;rw [hp]; exact oO
 ·show (w.alloc (.loop (jO r .ready))).heap[(ρ.lp k).1]? =some (.loop (jO (ρ.lp k).2 .ready));rw [hp,hw];simp [jO]
 ·rw [hw]at hb;simp only [Array.size_push]at hb;exact (aI (by omega)).trans (hs.size b (by omega))
theorem gn.aaX {k l:Nat}{r:Go.Loop}{e:Env}(h:gn (pn.loop k l r e) G ρ w):gn pn G ρ w:=⟨h.1,h.2.2⟩
theorem BE:∀ {e:Env},e.plain=true->∀ {t:Nat} {d:D},e.get t=some d->(∀x,d≠ .lv x)/\(∀b c,d≠ .iE b c)
 | [],_,t,d,h=>by simp [Env.get]at h
 | (u,q)::r,hp,t,d,h=>by
  rw [cY]at h;simp only [Env.plain]at hp;split at h
  ·simp only [aa]at h; subst h;split at hp
   ·cases hp
   ·cases hp
   ·rename_i h1 h2; exact ⟨fun x e=>h1 x e,fun b c e=>h2 b c e⟩
  ·split at hp
   ·cases hp
   ·cases hp
   ·exact BE hp h
theorem dV.plain {lo:Nat}{e:Env}{tmps:Array Value}{t:Nat}{d:D}(h1:∀x,d≠ .lv x)(h2:∀b c,d≠ .iE b c):dV ρ w lo e tmps t d↔∃v,tmps[t]? =some v/\aR ρ w d v:=by
 cases d <;> first | exact kN | exact absurd rfl (h1 _) | exact absurd rfl (h2 _ _)
def Di (ρ:Gh)(w:World)(e:Env)(tmps:Array Value):Prop:=∀t d,e.get t=some d->∃v,tmps[t]? =some v/\aR ρ w d v
theorem Di.WI {lo:Nat}{e:Env}{tmps:Array Value}(h:Di ρ w e tmps):dW ρ w lo e tmps:=by
 have key:∀t d,e.get t=some d->(∀x,d≠ .lv x)/\(∀b c,d≠ .iE b c):=fun t d hd=>by
  obtain⟨v,_,hr⟩:=h t d hd;refine⟨?_, ?_⟩ <;> · intros; rintro rfl; simp [aR]at hr
 refine⟨fun t d hd=>(dV.plain (key t d hd).1 (key t d hd).2).2 (h t d hd),fun t t' x x' b _ h1 _=>absurd rfl ((key t _ h1).1 x)⟩
theorem Di.bind {tmps:Array Value}:∀(ps:List Nat) (xs:List D) (vs:List Value) (e e' :Env) (tmps:Array Value),pF ps xs e=some e' ->bu ρ w xs vs->(∀t∈ps,t < tmps.size)->Di ρ w e tmps->
  ps.length=vs.length/\Di ρ w e' ((ps.zip vs).foldl (fun t p=>t.setIfInBounds p.1 p.2) tmps)/\((ps.zip vs).foldl (fun t p=>t.setIfInBounds p.1 p.2) tmps).size=tmps.size
 | [],[],vs,e,e',tmps,h,hr,_,hs=>by
  simp only [pF,aa]at h; subst h;simp only [bu]at hr; subst hr;exact⟨rfl,hs,rfl⟩
 | [],_::_,_,_,_,_,h,_,_,_=>by simp [pF]at h
 | _::_,[],_,_,_,_,h,_,_,_=>by simp [pF]at h
 | t::ps,d::xs,vs,e,e',tmps,h,hr,eW,hs=>by
  simp only [pF]at h;simp only [bu]at hr;obtain⟨v,r,rfl,hv,hr⟩:=hr;have ht:=eW t (by simp)
  obtain⟨h1,h2,h3⟩:=Di.bind (tmps:=tmps) ps xs r ((t,d)::e) e' (tmps.setIfInBounds t v) h hr (fun u hu=>by simpa using eW u (by simp [hu])) (fun u q hq=>by
   rw [cY]at hq;split at hq
   ·rename_i eq; subst eq;simp only [aa]at hq; subst hq;exact⟨v,by simp [ht],hv⟩
   ·rename_i dn;obtain⟨z,hz,hrz⟩:=hs u q hq;exact⟨z,by rw [dE,aI dn]; exact hz,hrz⟩)
  refine⟨by simp [h1], ?_, ?_⟩
  ·simpa using h2
  ·simpa using h3
theorem K5 (hC:FJ C)(hL:Vy L)(hH:Ak H){k:Nat}{ps:List Nat}{env:Env}{x y:AC}:Ak (jP k ps env (bN C L x) (bN C L y) H):=by
 intro f l s d s' s1 hs h;unfold jP at h ⊢;split at h
 ·rename_i k' xs;split at h
  ·split at h
   ·exfalso;unfold CB at h;split at h
    ·rename_i fr1 s2 h1;have e:=gv hC hL hs.ro h1;rw [e]at h;split at h
     ·simp only [St.set,hs.ro]at h;cases h
     ·cases h
    ·cases h
   ·cases h
  ·exact hH _ _ _ _ _ _ hs h
 ·exact hH _ _ _ _ _ _ hs h
theorem QW (hC:cm pn P G C)(hX:∀f k,X f=some k->lZ P f k)(hL:vt pn P G X L)(hD:qm pn P G X C)(hH:cm pn P G H){k l:Nat}{r:Go.Loop}{env:Env}{ps:Array Tmp}{ca cb:Code}{k1 k2 k3 k4:List (List Nat)}{x y:AC}
  (hx:compile P G X A ca k1=(x,k2))(hy:compile P G X A cb k3=(y,k4))(nx:x.nd=true)(ny:y.nd=true)(Rc:∀t∈ps.toList,t < A.nt)(YH:r.params=ps)(has:r.assign=ca)(Sp:r.body=cb)(fQ:A.nt<=r.tmps.size):
  cm (pn.loop k l r env) P G (jP k ps.toList env (bN C L x) (bN C L y) H):=by
 have other:∀ {f l s q},jP k ps.toList env (bN C L x) (bN C L y) H f l s=some q->H f l s=some q\/(f=0/\∃xs e,l= .lv (.yl k)::xs/\s.nf (k+1) k .ready=true/\pF ps.toList xs env=some e/\CB k (bN C L y) (bN C L x ⟨e,[]⟩ s)=some q):=by
  intro f l s q h;unfold jP at h;split at h
  ·rename_i k' xs;split at h
   ·rename_i hk;obtain rfl:=ay hk;split at h
    ·rename_i e h1 h2;exact .inr ⟨rfl,xs,e,rfl,h1,h2,h⟩
    ·cases h
   ·exact .inl h
  ·exact .inl h
 refine⟨fun f l s q h hf=> ?_,fun f l s d s' ρ w vs h hs hg hl=> ?_,fun f l s d s' qZ h=> ?_,fun y1 l1 s d s' ρ w u vs h hs hg hu hl=> ?_,K5 hC.ro hL.ro hH.Ls⟩
 ·rcases other h with h | ⟨rfl,xs,e,rfl,_⟩
  ·exact hH.enter f l s q h hf
  ·rcases hf with hf | hf
   ·exact absurd rfl hf
   ·cases hf
 ·rcases other h with h | ⟨rfl,xs,e,rfl,_⟩
  ·exact hH.calls f l s d s' ρ w vs h hs hg.aaX hl
  ·simp [bu,aR]at hl
 ·rcases other h with h | ⟨rfl,xs,e,rfl,_,_,hm⟩
  ·exact hH.ro f l s d s' qZ h
  ·unfold CB at hm;split at hm
   ·rename_i fr1 s1 h1;split at hm
    ·split at hm
     ·rename_i s2 h2;obtain rfl:=gv hC.ro hL.ro qZ h1;simp [St.set,qZ]at h2
     ·cases hm
    ·cases hm
   ·cases hm
 ·rcases other h with h | ⟨_,xs,e,sS,YD,Yx,hm⟩
  ·exact hH.sf y1 l1 s d s' ρ w u vs h hs hg.aaX hu hl
  ·simp only [eN,D.lv.injEq]at sS;obtain⟨rfl,rfl⟩:=sS;obtain⟨Q6,⟨p1,p2,p3⟩,Xr⟩:=hg;simp only [aR]at hu;have lD:=hs.ok _ _ (St.tR YD);obtain⟨o1,o2,o3,o4⟩:=lD;rw [p2]at o3 o4;obtain⟨b1,b2,b3⟩:=Di.bind (tmps:=r.tmps) ps.toList l1 vs env e r.tmps Yx hl (fun t ht=>cC (Rc t ht) fQ) p3;refine⟨l,by rw [hu.2,p2],r.fn,(ps.toList.zip vs).foldl (fun t p=>t.setIfInBounds p.1 p.2) r.tmps,ca,cb, ?_, ?_⟩
   ·have:=run_yield (P:=P) (args:=vs.toArray) o4 (by simp only [jO]; rw [YH]; simpa using b1.symm);rw [this];simp only [jO,YH,has,Sp];have hz:(ps.zip vs.toArray)=(ps.toList.zip vs).toArray:=by
     apply cZ; simp
    rw [hz];simp only [List.foldl_toArray'];done
   ·
    have hgl:gn pn G ρ w:=⟨Q6,Xr⟩;unfold CB at hm;split at hm
    ·rename_i fr1 s1 h1;split at hm
     ·rename_i abw;split at hm
      ·rename_i s2 h2;have hI:Inv ρ w A.nt ⟨e,[]⟩ s { tmps:=(ps.toList.zip vs).foldl (fun t p=>t.setIfInBounds p.1 p.2) r.tmps,defers:=[]} w:=⟨ρ,Kp.refl _ _,⟨b2.WI,by show A.nt<=_; rw [b3]; exact fQ,rfl⟩,hs⟩;refine roundIn_of_wpIn (F:=Fence.wide) trivial (wpIn_mono (jX (rd:=some l) hC hX hL hD hgl ca k1 k2 x ⟨e,[]⟩ s .normal fr1 s1 _ w (.inr nx) hx h1 hI) fun ex a1 w1 hq=> ?_);obtain⟨hex,ρ1,j1,j2,j3⟩:=hq;cases ex <;> simp only [qR]at hex;simp only [Exit.then];have aab :=St.tR abw;obtain⟨q1,q2,q3,q4⟩:=j3.ok _ _ aab;have hlp:ρ1.lp k=(l,r):=(j1.dead k p1).2.trans p2;have hbr:=run_beginRound (P:=P) (by rw [hlp]at q4; exact q4) (by simp [jO]);obtain⟨m1,m2⟩:=IQ j3 aab h2;rw [hlp]at m1 m2;refine⟨_,hbr, ?_⟩;have hwb:w1.putObj l (.loop { jO r .ready with state:= .busy})=w1.putObj l (.loop (jO r .busy)):=rfl;rw [hwb];unfold JE at hm;split at hm
       ·rename_i e2 vK s3 h3;split at hm
        ·rename_i hd2 abx;obtain⟨h4,rfl⟩:=gT hm;refine wpIn_mono (jX (rd:=some l) hC hX hL hD hgl cb k3 k4 y fr1 s2 e2 vK s3 a1 _ (.inr ny) hy h3 ⟨ρ1,j1.trans m1,j2.mono m1,m2⟩) fun ex a2 w2 hq=> ?_;obtain⟨hex,ρ2,n1,n2,n3⟩:=hq;have C8:=St.tR abx;obtain⟨t1,t2,t3,t4⟩:=n3.ok _ _ C8;have OJ:ρ2.lp k=(l,r):=(n1.dead k p1).2.trans p2;obtain⟨g1,g2⟩:=IQ n3 C8 h4;rw [OJ]at t4 g1 g2;have fin:∀(j:Option Code),(jO r (TM e2))= { jO r .busy with state:=if j.isNone then .ready else .done,pending:=j}->j.isNone=pX e2->∃v w',(Instr.endRound l j).run P w2= .ok v w' /\jg ρ w s' (.bool (pX e2)) (.returned v) w' :=by
          intro j hj hn;refine⟨_,_,run_endRound j t4,ρ2,n1.trans ?_, ?_,by rw [hn]; simp [aR]⟩
          ·rw [← hj]; exact g1
          ·rw [← hj]; exact g2
         cases e2 <;> cases ex <;> simp only [qR]at hex
         ·exact fin none rfl rfl
         ·subst hex; exact fin (some (.exit _)) rfl rfl
         ·exact fin (some .ret) rfl rfl
        ·cases hm
       ·cases hm
      ·cases hm
     ·cases hm
    ·cases hm
theorem Qf {C' :Nat->Env->au}{bM:List Nat}{g:Operand} {g' :bO}{ps:Array Tmp}{ca cb:Code}{e:Ex}
  (hC' :∀(k l:Nat) (r:Go.Loop) (env:Env),r.params=ps->r.assign=ca->r.body=cb->A.nt<=r.tmps.size->cm (pn.loop k l r env) P G (C' k env))
  (hg:gn pn G ρ0 w0)(Ay:ew G g=some g')(h:nh C' bM g' fr s=some (e,fr',s'))(hI:Inv ρ0 w0 A.nt fr s a w):
  (Code.rangeFunc g ps ca cb).wpIn Fence.wide 0 P (mi ρ0 w0 A.nt e fr' s') a w:=by
 unfold nh at h;split at h
 ·rename_i gf caps hgv qZ;split at h
  ·rename_i FR;unfold A7 at h;split at h
   ·rename_i d s2 fK;split at h
    ·rename_i k' st jn;split at h
     ·rename_i e1 s3 hk hex iB;simp only [aa,ab]at h;obtain⟨rfl,rfl,rfl⟩:=h;obtain rfl:=ay hk;obtain⟨ρ,C1,hf,hs⟩:=hI;have hv:=bc Ay hf.env (hg.mono C1) hgv;simp only [aR,bu]at hv;obtain⟨va,lb,hv,Lo,Z1⟩:=hv;obtain rfl:va= #[]:=Array.toList_eq_nil_iff.1 Lo;refine wpIn_rangeFunc fun fn _=> ?_;obtain⟨r,hr⟩:∃r:Go.Loop,r= { state:= .ready,pending:=none,fn:=fn,tmps:=a.tmps,params:=ps,assign:=ca,body:=cb,defers:=w.heap.size}:=⟨_,rfl⟩;have hrr:jO r .ready=r:=by rw [hr]; rfl
      obtain⟨ρ1,a1,a2,a3,a4,a5⟩:=WG hs (.deferred (some [])) (w.heap.size+1,r);have aaA:(w.alloc (.deferred (some []))).heap.size=w.heap.size+1:=by
       show (w.heap.push _).size=_; simp
      obtain⟨ρ2,b1,b2⟩:=WH a2 (k:=s.n) (r:=r) a3 (by rw [a4,aaA,hrr]);rw [hrr]at b1 b2;have Ax:=run_enterLoop_outer (P:=P) (w:=w) fn a.tmps ps ca cb;rw [← hr]at Ax;obtain⟨W2,hW2⟩:∃W2,(w.alloc (.deferred (some []))).alloc (.loop r)=W2:=⟨_,rfl⟩;rw [hW2]at b1 b2 Ax;have Xj:ρ2.kd s.n= .dead:=(b1.dead _ a3).1;have OJ:ρ2.lp s.n=(w.heap.size+1,r):=(b1.dead _ a3).2.trans a4;have k02:Kp ρ w ρ2 W2:=a1.trans b1
      have aaz:Di ρ2 W2 (fr.env.bM bM) r.tmps:=fun t q hq=>by
       obtain⟨h1,h2⟩:=BE FR hq;obtain⟨v,z1,z2⟩:=(dV.plain h1 h2).1 (hf.env.slot t q (oM hq));rw [hr]; exact ⟨v,z1,z2.mono k02⟩
      have hC2:=hC' s.n (w.heap.size+1) r (fr.env.bM bM) (by rw [hr]) (by rw [hr]) (by rw [hr]) (by rw [hr]; exact hf.size);have hy:yS (.yl s.n::caps)=false:=rfl;have eg:=hC2.enter _ _ _ _ fK (.inr hy)
      refine⟨w.heap.size+1,[{ target:= .collected w.heap.size,args:= #[]}],W2,{ target:= .fn (.func gf) lb,args:= #[.func (.yield (w.heap.size+1)) #[] #[]]},W2,gf,
       #[.func (.yield (w.heap.size+1)) #[] #[]]++lb,W2,Ax, ?_,fun _ _=>trivial, ?_,fun h=>(by cases h),callsIn_wide.2 ?_⟩
      ·simp only [resolve,hv];simp [Deferred.ofValue,Act.eval]
      ·simp [invoke,eg]
      ·have hv2:bu ρ2 W2 (.yl s.n::caps) (.func (.yield (w.heap.size+1)) #[] #[]::lb.toList):=by
        simp only [bu];refine⟨_,_,rfl, ?_,Z1.mono k02⟩;simp only [aR];exact⟨Xj,by rw [OJ]⟩
       have abr:gn (pn.loop s.n (w.heap.size+1) r (fr.env.bM bM)) G ρ2 W2:=by
        have:=hg.mono (C1.trans k02);exact⟨this.1,⟨Xj,OJ,aaz⟩,this.2⟩
       have UC:=hC2.calls _ _ _ _ _ _ _ _ fK b2 abr hv2;have ez:(Value.func (.yield (w.heap.size+1)) #[] #[]::lb.toList).toArray= #[.func (.yield (w.heap.size+1)) #[] #[]]++lb:=by
        apply cZ; simp
       rw [ez]at UC;refine UC.mono fun en w3 he=> ?_;cases en with
       | panicked _=>exact he.elim
       | outgrown=>exact he.elim
       | returned v=>
        obtain⟨ρ3,q1,q2,q3⟩:=he;have abA:ρ3.lp s.n=(w.heap.size+1,r):=(q1.dead _ Xj).2.trans OJ;have t4:=(q2.ok _ _ jn).2.2.2;obtain⟨ρ4,u1,u2⟩:=Gs q2 jn iB (.loop { jO r st with state:= .exhausted});rw [abA]at t4 u1 u2;have rH:=run_endLoop (P:=P) t4 (by cases st <;> first | (cases hex; done) | simp [jO]);have d1:(w.alloc (.deferred (some []))).heap[w.heap.size]? =some (.deferred (some [])):=World.alloc_heap_new w _;have k14:Kp ρ1 (w.alloc (.deferred (some []))) ρ4 _:=b1.trans (q1.trans u1);obtain⟨d2,d3⟩:=k14.kept w.heap.size (by rw [aaA]; omega) (fun o=>by rw [a5]; simp);have kall:=a1.trans k14
        have WX:Inv ρ0 w0 A.nt { fr with defers:=(.lX,[])::fr.defers} s3 { a with defers:=[{ target:= .collected w.heap.size,args:= #[]}]++a.defers} _:=
         ⟨ρ4,C1.trans kall,⟨hf.env.mono kall,hf.size,.inl ⟨rfl,w.heap.size,a.defers,rfl,C1.size,d3.trans a5,d2.trans d1,fun m hm hb=>fP _ (hf.defers.marks m hm _ hb),hf.defers.mono kall⟩⟩,u2⟩
        refine⟨_,_,rH, ?_⟩;cases st <;> simp only [Ch,aa]at hex
        ·subst hex; exact ⟨trivial,WX⟩
        ·cases hex
        ·subst hex; exact wpIn_exit ⟨rfl,WX⟩
        ·subst hex; exact wpIn_ret ⟨trivial,WX⟩
     ·cases h
    ·cases h
   ·cases h
  ·cases h
 ·cases h
end Go.Ab
namespace Go.Ab
open Go
variable [eh]
variable {ρ ρ' ρ0:Gh}{w w' w0:World}{P:Program}{pn:gY}{G:Gl}{X:ig}{A:mT} {s s' :St}{env:Env}{a:Act}{lo:Nat}{d:D}{C CD:au}{L:gO}{al:Option Nat} {fr fr' :Fr}
theorem rR {t:TypeId}{v u:Value}(h:(Instr.loadAt t v).run P w= .ok u w):((do loadVar t (← asAddr v)):Sem Value).run P w= .ok u w:=by
 cases v with
 | pointer p=>
  cases p with
  | none=>simp [Instr.loadAt,Instr.sureAddr,stuck,Sem.run]at h
  | some q=>simpa [Instr.loadAt,Instr.sureAddr,asAddr] using h
 | _=>simp [Instr.loadAt,Instr.sureAddr,stuck,Sem.run]at h
def CL (tmps:Array Value):ResultVar->Sem Value
 | .tmp t=>pure (tmps.getD t undef)
 | .cell a t=>do loadVar t (← asAddr (tmps.getD a undef))
theorem uY (he:dW ρ w lo env a.tmps)(hs:bK ρ s w):∀(rs:List ResultVar) (rs' :List xl) (l:List D),rs.mapM (Ql P)=some rs' ->jH env s rs' =some l->∃vs,(rs.mapM (CL a.tmps)).run P w= .ok vs w/\bu ρ w l vs
 | [],rs',l,h,h' =>by
  simp at h; subst h;simp only [jH,aa]at h'; subst h';exact⟨[],by simp,by simp [bu]⟩
 | r::rs,rs',l,h,h' =>by
  simp only [jh,aL,aE,ae]at h;obtain⟨x,h1,q,h2,h3⟩:=h;simp only [aa]at h3; subst h3;have cons:∀d l' v,jH env s q=some l' ->(CL a.tmps r).run P w= .ok v w->aR ρ w d v->∃vs,((r::rs).mapM (CL a.tmps)).run P w= .ok vs w/\bu ρ w (d::l') vs:=by
   intro d l' v hl hv hr;obtain⟨vs,g1,g2⟩:=uY he hs rs q l' h2 hl;refine⟨v::vs,by simp [jh,hv,g1], ?_⟩;simp only [bu]; exact ⟨v,vs,rfl,hr,g2⟩
  cases r with
  | tmp t=>
   simp only [Ql,aa]at h1; subst h1;simp only [jH]at h';split at h'
   ·rename_i d l' hd hl;simp only [aa]at h'; subst h';have hg:gn .none (fun _=>none) ρ w:=⟨(fun _ _ h=>by cases h),trivial⟩;exact cons d l' (a.tmps.getD t undef) hl (by simp only [CL,Sem.run_pure]) (bc (x' := .tmp t) rfl he hg hd)
   ·cases h'
  | cell b t=>
   simp only [Ql,aW]at h1;obtain⟨sz,fQ,rfl⟩:=h1;simp only [jH]at h';split at h'
   ·rename_i v mM;split at h'
    ·rename_i d l' hd hl;simp only [aa]at h'; subst h';have td:=he.slot _ _ mM;simp only [dV]at td;obtain⟨b',q',el,q1,q2,q3,q4,q5,q6⟩:=td;obtain⟨hf,_⟩:=q4.flat q6;have g1:=rX hf (D.mH q6) hd;have g2:=run_load (P:=P) (c:=0) (rangeAt_of_block q5) fQ;simp only [fu]at g2;have ht:a.tmps.getD b undef= .pointer (some ⟨b',0,none⟩):=by simp [q1]
     cases sz with
     | some n=>
      obtain⟨g3,g4⟩:=g1;exact cons d l' _ hl (by simp only [CL,ht]; exact rR (g2 g3)) g4
     | none=>
      obtain⟨u,g3,g4,_⟩:=g1;exact cons d l' _ hl (by simp only [CL,ht]; exact rR (g2 u g3)) g4
    ·cases h'
   ·rename_i p qS hp;split at h'
    ·rename_i d l' hd hl;simp only [aa]at h'; subst h';have td:=he.slot _ _ hp;have Lj:aR ρ w p (a.tmps.getD b undef):=by
      cases p <;> first | (simp only [iJ]at hd; cases hd; done) | (simp only [dV]at td; obtain ⟨v,hv,hr⟩:=td; simpa [hv] using hr) | exact absurd rfl (qS _)
     obtain⟨u,g1,g2⟩:=Cx (P:=P) hs fQ hd Lj;exact cons d l' u hl (by simp only [CL]; exact rR g1) g2
    ·cases h'
   ·cases h'
theorem zN (he:dW ρ w lo env a.tmps)(hs:bK ρ s w){fn:Func} {rs' :List xl}{l:List D}(h:fn.results.toList.mapM (Ql P)=some rs') (h' :jH env s rs' =some l):∃v,(results fn a.tmps).run P w= .ok v w/\aR ρ w (single l) v:=by
 obtain⟨vs,g1,g2⟩:=uY he hs _ _ _ h h';have hm:(fn.results.mapM (CL a.tmps)).run P w= .ok vs.toArray w:=by
  rw [Array.mapM_eq_mapM_toList];simp [g1]
 refine⟨if h:vs.toArray.size=1 then vs.toArray[0] else .tuple vs.toArray, ?_, ?_⟩
 ·have:results fn a.tmps=(do let vs ← fn.results.mapM (CL a.tmps); pure (if h:vs.size=1 then vs[0] else .tuple vs)):=by
   unfold results
   congr 1
  rw [this,Sem.run_bind,hm];rfl
 ·have hl:=g2.length;cases l with
  | nil=>simp only [bu]at g2; subst g2; simp [single,aR,bu]
  | cons d l=>
   cases l with
   | nil=>
    simp only [bu]at g2;obtain⟨v,_,rfl,h1,rfl⟩:=g2;simpa [single] using h1
   | cons d2 l=>
    have dn: ¬ vs.toArray.size=1:=by simp; simp at hl; omega
    rw [dif_neg dn];simp only [single,aR];exact⟨_,rfl,by simpa using g2⟩
structure vo (pn:gY)(P:Program)(G:Gl)(C:au):Prop where
 enter:∀f l s r,C f l s=some r->∀(args:Array Value) w,(callFunc f args).run P w= .ok (.enter f args) w
 calls:∀f l s d s' ρ w vs u,C f l s=some (d,s')->bK ρ s w->gn pn G ρ w->bu ρ w l vs->CallsDIn Fence.wide 0 P f vs.toArray u w (fun e u' w' =>u' =u/\jg ρ w s' d e w')
theorem dW.zH {tmps:Array Value}(he:dW ρ w lo env tmps){b:Nat}{ds:List Deferred}(hp:ρ.own b= .qH)(hb:w.heap[b]? =some (.deferred (some ds)))(hK:Kr ρ w ρ (w.putObj b (.deferred none))):dW ρ (w.putObj b (.deferred none)) lo env tmps:=by
 refine⟨fun t d hd=> ?_,he.inj⟩;have:=he.slot t d hd;cases d with
 | lv x=>
  simp only [dV]at *;obtain⟨b',v,el,h1,h2,h3,h4,h5,h6⟩:=this;exact⟨b',v,el,h1,h2,h3,aR.fX hK _ _ h4,(World.putObj_heap_other (by rintro rfl; rw [hb]at h5; cases h5)).trans h5,h6⟩
 | iE a c=>exact this
 | _=>
  simp only [dV]at *;obtain⟨v,h1,h2⟩:=this;exact⟨v,h1,aR.fX hK _ _ h2⟩
theorem gX.zH {lo:Nat}{b:Nat}(hK:Kr ρ w ρ (w.putObj b (.deferred none))):∀ {l:List (D×List D)} {ds:List Deferred},(∀m∈ds,m.target≠ .collected b)->gX ρ w lo l ds->gX ρ (w.putObj b (.deferred none)) lo l ds
 | [],_,_,h=>h
 | (d,l)::r,_,hm,h=>by
  rcases h with ⟨h1,b',t,rfl,h3,h4,h5,h6,h7⟩ | ⟨f,x,y,va,vc,vl,t,h1,rfl,h3,h4,h5,h6⟩
  ·have dn:b' ≠b:=by rintro rfl; exact hm { target:= .collected b',args:= #[]} (by simp) rfl
   exact .inl ⟨h1,b',t,rfl,h3,h4,(World.putObj_heap_other dn).trans h5,h6,gX.zH hK (fun m h=>hm m (by simp [h])) h7⟩
  ·exact .inr ⟨f,x,y,va,vc,vl,t,h1,rfl,bu.fX hK _ _ h3,bu.fX hK _ _ h4,bu.fX hK _ _ h5,gX.zH hK (fun m h=>hm m (by simp [h])) h6⟩
theorem zl (On:vo pn P G CD)(hg:gn pn G ρ0 w0){fn:Func}{tmps:Array Value}{R:Ending->World->Prop}:
  ∀(l:List (D×List D)) (ds:List Deferred) (s:St) (ρ:Gh) (w:World),gX ρ w w0.heap.size l ds->leave CD l s=some s' ->bK ρ s w->Kp ρ0 w0 ρ w->dW ρ w lo env tmps->
   (∀ρ' w',Kp ρ0 w0 ρ' w' ->bK ρ' s' w' ->dW ρ' w' lo env tmps->LeavesInM Fence.wide 0 P fn tmps R [] .returning w')->LeavesInM Fence.wide 0 P fn tmps R ds .returning w
 | [],ds,s,ρ,w,hd,h,hs,hK,he,kU=>by
  simp only [gX]at hd; subst hd;simp only [leave,aa]at h; subst h;exact kU ρ w hK hs he
 | (d,l)::r,ds,s,ρ,w,hd,h,hs,hK,he,kU=>by
  rcases hd with ⟨rfl,b,t,rfl,h3,h4,h5,h6,h7⟩ | ⟨f,x,y,va,vc,vl,t,rfl,rfl,h3,h4,h5,h6⟩
  ·simp only [leave]at h;obtain⟨r1,r2⟩:=EY hs (l:=b) (.deferred none) h4;refine⟨by simp,.inl ⟨b,_,rfl,run_takeDeferred h5, ?_⟩⟩;refine zl On hg r t s ρ _ (h7.zH r1 h6) h r2 ⟨hK.os,hK.tape,hK.output,by rw [World.putObj_size]; exact hK.size,fun b' iS hn=> ?_,hK.dead,hK.live⟩ (he.zH h4 h5 r1) kU;obtain⟨e1,e2⟩:=hK.kept b' iS hn;exact⟨(World.putObj_heap_other (by omega)).trans e1,e2⟩
  ·cases f <;> simp only [leave]at h <;> (try (cases h; done));rename_i g;split at h
   ·rename_i d1 s1 hc;have hi:=On.enter _ _ _ _ hc (va++vl++vc) w;refine⟨by simp,.inr ⟨fun h=>(by cases h),.func g,vc,g,va++vl++vc,rfl,by simpa [invoke] using hi,fun _ _=>trivial, ?_⟩⟩;have:=On.calls _ _ _ _ _ ρ w _ .returning hc hs (hg.mono hK) ((h3.append h5).append h4);have e:(va.toList++vl.toList++vc.toList).toArray=va++vl++vc:=by apply cZ; simp
    rw [e]at this;refine this.mono fun e' u' w' hr=> ?_;obtain⟨rfl,hr⟩:=hr;cases e' with
    | returned v=>
     obtain⟨ρ',k1,k2,k3⟩:=hr;exact zl On hg r t s1 ρ' w' (h6.mono k1) h k2 (hK.trans k1) (he.mono k1) kU
    | panicked _=>exact hr.elim
    | outgrown=>exact hr.elim
   ·cases h
structure nD (P:Program)(G:Gl)(X:ig)(T:Nat->Option dJ):Prop where
 ok : ∀ f fn, T f = some fn → ∃ func A, P.funcs[f]? = some func ∧ (func.name == "runtime.NumGoroutine") = false ∧ nS P G X func A = some fn
theorem DT:∀ {l:List D} {i t:Nat} {d:D},(lW i l).get t=some d->i<=t/\l[t - i]? =some d
 | [],i,t,d,h=>by simp [lW,Env.get]at h
 | x::l,i,t,d,h=>by
  simp only [lW]at h;rw [cY]at h;split at h
  ·rename_i e; subst e; simp only [aa]at h; subst h; simp
  ·rename_i dn;obtain⟨h1,h2⟩:=DT h;refine⟨by omega, ?_⟩;rw [show t - i=(t - (i+1))+1 by omega]; simpa using h2
theorem En (hs:bK ρ s w){l:List D}{vs:List Value}(hl:bu ρ w l vs)(n:Nat):Inv ρ w n { env:=lW 0 l,defers:=[]} s { tmps:=vs.toArray++Array.replicate (n - vs.toArray.size) undef,defers:=[]} w:=by
 have key:∀t d,(lW 0 l).get t=some d->∃v,(vs.toArray++Array.replicate (n - vs.toArray.size) undef)[t]? =some v/\aR ρ w d v:=fun t d h=>by
  obtain⟨_,h2⟩:=DT h;simp only [Nat.sub_zero]at h2;obtain⟨v,h3,h4⟩:=hl.get h2;have eW:t < vs.length:=(aj.1 h3).1;refine⟨v, ?_,h4⟩;rw [Array.getElem?_append_left (by simpa using eW)]; simpa using h3
 refine⟨ρ,Kp.refl _ _,⟨⟨fun t d h=> ?_,fun t t' x x' b _ h1 _=> ?_⟩,by simp; omega,rfl⟩,hs⟩
 ·obtain⟨v,h1,h2⟩:=key t d h;cases d <;> first | exact ⟨v,h1,h2⟩ | (simp only [aR]at h2)
 ·obtain⟨v,_,h2⟩:=key t _ h1;simp only [aR]at h2
theorem DS {T:Nat->Option dJ}(hT:nD P G X T){f:Nat}{fn:dJ}(h:T f=some fn)(args:Array Value)(w:World):(callFunc f args).run P w= .ok (.enter f args) w:=by
 obtain⟨func,A,h1,h2,h3⟩:=hT.ok f fn h;have h2 : func.name ≠ "runtime.NumGoroutine" := by simpa using h2
 unfold nS at h3;split at h3
 ·rename_i c rs hb _;simp [callFunc,h1,h2,hb]
 ·cases h3
theorem Qp {T:Nat->Option dJ}(hT:nD P G X T)(hX:∀f k,X f=some k->lZ P f k)(hC:cm pn P G C)(On:vo pn P G CD)(hL:vt pn P G X L)(hD:qm pn P G X C){f:Nat}{fn:dJ}(hf:T f=some fn){l:List D}{vs:List Value}
  (h:nE C CD L fn l s=some (d,s'))(hs:bK ρ s w)(hg:gn pn G ρ w)(hl:bu ρ w l vs):Calls P f vs.toArray w (jg ρ w s' d):=by
 obtain⟨func,A,h1,h2,h3⟩:=hT.ok f fn hf;unfold nS at h3;split at h3
 ·rename_i c rs hb YK;simp only [aa]at h3; subst h3;refine callsIn_wide.1 (callsIn_of_wp_marks (n:=0) h1 hb trivial ?_);unfold nE at h
  have fin:∀e fr' s1,(e= .normal\/e= .ret)->bN C L (compile P G X { A with nt:=func.ntmps} c A.ks).1 { env:=lW 0 l,defers:=[]} s=some (e,fr',s1)->
    (match leave CD fr'.defers s1 with | some s'' =>(match jH fr'.env s'' rs with | some l=>some (single l,s'') | none=>none) | none=>none)=some (d,s')->c.wpIn Fence.wide 0 P (bodyPostM Fence.wide 0 P func (jg ρ w s' d)) { tmps:=vs.toArray++Array.replicate (func.ntmps - vs.toArray.size) undef,defers:=[]} w:=by
   intro e fr' s1 he hex mM;split at mM
   ·rename_i s2 hle;split at mM
    ·rename_i l2 o8;simp only [aa,ab]at mM;obtain⟨rfl,rfl⟩:=mM;refine wpIn_mono (jX (rd:=none) (A:= { A with nt:=func.ntmps}) hC hX hL hD hg c A.ks _ _ _ s e fr' s1 _ w (.inl rfl) rfl hex (En hs hl func.ntmps)) fun ex a' w' hq=> ?_;obtain⟨hx,ρ1,k1,k2,k3⟩:=hq
     have mM:LeavesInM Fence.wide 0 P func a'.tmps (jg ρ w s2 (single l2)) a'.defers .returning w' :=
      zl On hg fr'.defers a'.defers s1 ρ1 w' k2.defers hle k3 k1 k2.env (fun ρ2 w2 q1 q2 q3=>by
       obtain⟨v,r1,r2⟩:=zN (P:=P) q3 q2 YK o8;exact⟨v,r1,ρ2,q1,q2,r2⟩)
     rcases he with rfl | rfl <;> cases ex <;> simp only [qR]at hx <;> exact mM
    ·cases mM
   ·cases mM
  split at h
  ·cases h
  ·rename_i e fr' s1 dn hex;refine fin e fr' s1 ?_ hex h;cases e with
   | normal=>exact .inl rfl
   | exit id=>exact (dn id rfl).elim
   | ret=>exact .inr rfl
  ·cases h
 ·cases h3
theorem Mh {T:Nat->Option dJ}(hT:nD P G X T)(hX:∀f k,X f=some k->lZ P f k)(hC:cm pn P G C)(hL:vt pn P G X L)(hD:qm pn P G X C):vo pn P G (oE T C L):=by
 refine⟨fun f l s r h args w=> ?_,fun f l s d s' ρ w vs u h hs hg hl=> ?_⟩
 ·unfold oE at h;split at h
  ·rename_i fn hf; exact DS hT hf args w
  ·cases h
 ·unfold oE at h;split at h
  ·rename_i fn hf;obtain⟨func,A,h1,h2,h3⟩:=hT.ok f fn hf;unfold nS at h3;split at h3
   ·rename_i c rs hb YK;simp only [aa]at h3; subst h3;refine callsDIn_of_wp (n:=0) h1 hb trivial ?_;unfold wu at h
    have fin:∀e fr' s1,(e= .normal\/e= .ret)->bN C L (compile P G X { A with nt:=func.ntmps} c A.ks).1 { env:=lW 0 l,defers:=[]} s=some (e,fr',s1)->
      (match fr'.defers with | []=>(match jH fr'.env s1 rs with | some l=>some (single l,s1) | none=>none) | _=>none)=some (d,s')->c.wpIn Fence.wide 0 P (bodyPost P func (jg ρ w s' d)) { tmps:=vs.toArray++Array.replicate (func.ntmps - vs.toArray.size) undef,defers:=[]} w:=by
     intro e fr' s1 he hex mM;split at mM
     ·rename_i hdf;split at mM
      ·rename_i l2 o8;simp only [aa,ab]at mM;obtain⟨rfl,rfl⟩:=mM;refine wpIn_mono (jX (rd:=none) (A:= { A with nt:=func.ntmps}) hC hX hL hD hg c A.ks _ _ _ s e fr' s1 _ w (.inl rfl) rfl hex (En hs hl func.ntmps)) fun ex a' w' hq=> ?_;obtain⟨hx,ρ1,k1,k2,k3⟩:=hq;have Ld:=k2.defers;rw [hdf]at Ld;simp only [gX]at Ld;obtain⟨v,r1,r2⟩:=zN (P:=P) k2.env k3 YK o8;have mM:a'.defers=[]/\∃v,(results func a'.tmps).run P w' = .ok v w' /\jg ρ w s1 (single l2) (.returned v) w' :=⟨Ld,v,r1,ρ1,k1,k3,r2⟩;rcases he with rfl | rfl <;> cases ex <;> simp only [qR]at hx <;> exact mM
      ·cases mM
     ·cases mM
    split at h
    ·cases h
    ·rename_i e fr' s1 dn hex;refine fin e fr' s1 ?_ hex h;cases e with
     | normal=>exact .inl rfl
     | exit id=>exact (dn id rfl).elim
     | ret=>exact .inr rfl
    ·cases h
   ·cases h3
  ·cases h
theorem ym {T:Nat->Option dJ}(hT:nD P G X T)(hX:∀f k,X f=some k->lZ P f k)(hD:∀pn C,cm pn P G C->qm pn P G X C):∀n {pn:gY} {H:au},cm pn P G H->cm pn P G (cV T H n)/\vt pn P G X (eT T H n)
 | 0,pn,H,hH=>by
  refine⟨⟨fun f l s r h=> ?_,fun f l s d s' ρ w vs h=> ?_,(oF hH.ro 0).1,fun y l s d s' ρ w u vs h=>by simp [cV]at h,(vA hH.Ls 0).1⟩,⟨(oF hH.ro 0).2,fun rd A ρ0 w0 c ks ks' bM ac fr s e fr' s' a w lU hnr hg hc h=> ?_,fun A ρ0 w0 g g' ps ca cb k1 k2 k3 k4 bM x y fr s e fr' s' a w hg Ay hx hy nx ny Rc h=> ?_⟩⟩
  ·simp [cV]at h
  ·simp [cV]at h
  ·simp [eT]at h
  ·simp [eT]at h
 | n+1,pn,H,hH=>by
  obtain⟨UW,ih2⟩:=ym hT hX hD n hH;refine⟨⟨fun f l s r h hy args w=> ?_,fun f l s d s' ρ w vs h hs hg hl=> ?_,(oF hH.ro (n+1)).1,fun y l s d s' ρ w u vs h=> ?_,(vA hH.Ls (n+1)).1⟩,⟨(oF hH.ro (n+1)).2,SZ hX UW (hD _ _ UW) ih2,fun A ρ0 w0 g g' ps ca cb k1 k2 k3 k4 bM x y fr s e fr' s' a w hg Ay hx hy nx ny Rc h hI=> ?_⟩⟩
  ·simp only [cV]at h;split at h
   ·exact hH.enter f l s r h hy args w
   ·split at h
    ·rename_i fn hf; exact DS hT hf args w
    ·exact hH.enter f l s r h hy args w
  ·simp only [cV,hl.yS]at h;split at h
   ·rename_i fn hf;exact Qp hT hX UW (Mh hT hX UW ih2 (hD _ _ UW)) ih2 (hD _ _ UW) hf h hs hg hl
   ·exact hH.calls f l s d s' ρ w vs h hs hg hl
  ·simp only [cV,yS]at h;exact hH.sf y l s d s' ρ w u vs h
  ·rw [jy]at h;exact Qf (A:=A) (fun k l r env e1 e2 e3 e4=>(ym hT hX hD n (QW (A:=A) UW hX ih2 (hD _ _ UW) hH hx hy nx ny Rc e1 e2 e3 e4)).1) hg Ay h hI
end Go.Ab
