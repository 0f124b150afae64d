/- Part. -/
import Derived.Test.YtmcdajnpdekocaaGreatDoorG15
import Derived.Defers
set_option linter.unusedSectionVars false
set_option linter.unusedSimpArgs false
set_option linter.unusedVariables false
namespace Go.Ab
open Go
variable [Vals]
variable {ρ ρ' ρ0:Gh}{w w' w0:World}{P:Program}{G:Gl}{X:Exts}{A:Adv} {s s' :St}{env:Env}{a:Act}{lo:Nat}{d:D}{C:zAa}{al:Option Nat} {fr fr' :Fr}
def zDq (ρ:Gh)(w:World)(lo:Nat):List (D×List D)→List Deferred→Prop
 | [],ds=>ds=[]
 | (d,l)::r,ds=>(d= .nilf∧∃b t,ds= { target:= .collected b,args:= #[]}::t∧lo≤b∧ρ.own b= .priv∧w.heap[b]? =some (.deferred (some []))∧(∀m∈t,m.target≠ .collected b)∧zDq ρ w lo r t)∨
   ∃f x y va vc vl t,d= .fn f x y∧ds= { target:= .fn f vc,args:=va++vl}::t∧RepL ρ w x va.toList∧RepL ρ w y vc.toList∧RepL ρ w l vl.toList∧zDq ρ w lo r t
theorem zDq.mono' (hK:Kr ρ w ρ' w')(hd:∀b,ρ.own b= .priv→w.heap[b]? =some (.deferred (some []))→ρ'.own b= .priv∧w'.heap[b]? =some (.deferred (some []))):∀ {l:List (D×List D)} {ds:List Deferred},zDq ρ w lo l ds→zDq ρ' w' lo l ds
 | [],_,h=>h
 | (d,l)::r,_,h=>by
  rcases h with ⟨h1,b,t,h2,h3,h4,h5,h6,h7⟩ | ⟨f,x,y,va,vc,vl,t,h1,h2,h3,h4,h5,h6⟩
  ·obtain⟨k1,k2⟩:=hd b h4 h5
   exact .inl ⟨h1,b,t,h2,h3,k1,k2,h6,zDq.mono' hK hd h7⟩
  ·exact .inr ⟨f,x,y,va,vc,vl,t,h1,h2,RepL.mono' hK _ _ h3,RepL.mono' hK _ _ h4,RepL.mono' hK _ _ h5,zDq.mono' hK hd h6⟩
theorem zDq.mono (hK:Kp ρ w ρ' w'){l:List (D×List D)}{ds:List Deferred}(h:zDq ρ w lo l ds):zDq ρ' w' lo l ds:=
 h.mono' hK.r fun b hp hb=>by
  obtain⟨k1,k2⟩:=hK.kept b (Array.getElem?_eq_some_iff.1 hb).1 (fun o=>by rw [hp]; simp)
  exact⟨k2.trans hp,k1.trans hb⟩
theorem zDq.marks:∀ {l:List (D×List D)} {ds:List Deferred},zDq ρ w lo l ds→∀m∈ds,∀b,m.target= .collected b→b < w.heap.size
 | [],ds,h,m,hm,b,hb=>by simp only [zDq]at h; subst h; cases hm
 | (d,l)::r,ds,h,m,hm,b,hb=>by
  rcases h with ⟨h1,b',t,rfl,h3,h4,h5,h6,h7⟩ | ⟨f,x,y,va,vc,vl,t,h1,rfl,h3,h4,h5,h6⟩
  ·rcases List.mem_cons.1 hm with rfl | hm
   ·simp only [Target.collected.injEq]at hb; subst hb
    exact (Array.getElem?_eq_some_iff.1 h5).1
   ·exact zDq.marks h7 m hm b hb
  ·rcases List.mem_cons.1 hm with rfl | hm
   ·cases hb
   ·exact zDq.marks h6 m hm b hb
structure zRa (ρ:Gh)(w:World)(lo nt:Nat)(fr:Fr)(a:Act):Prop where
 env:EnR ρ w lo fr.env a.tmps
 size:nt≤a.tmps.size
 defers:zDq ρ w lo fr.defers a.defers
theorem zAj (e:Env)(t u:Nat)(d:D):Env.get ((t,d)::e) u=if t=u then some d else e.get u:=by
 simp only [Env.get]
 by_cases h:t=u
 ·rw [T.beq_t h,if_pos h]
 ·rw [T.beq_f h,if_neg h]
theorem SlR.of_res {tmps:Array Value}{t:Nat}{v:Value}(h:zBc ρ w env tmps d v)(ht:tmps[t]? =some v)(hne:∀a c,d= .lptr a c→False):SlR ρ w lo env tmps t d:=by
 cases d <;> simp only [zBc]at h <;> simp only [SlR] <;> first | exact ⟨v,ht,h⟩ | exact h.elim | exact (hne _ _ rfl).elim
theorem EnR.put {tmps:Array Value}{t:Nat}{v:Value}(he:EnR ρ w lo env tmps)(ht:t < tmps.size)(hr:zBc ρ w env tmps d v):EnR ρ w lo ((t,d)::env) (tmps.setIfInBounds t v):=by
 have hnl:∀x,d≠ .lv x:=by rintro x rfl; simp [zBc]at hr
 have hsame:(tmps.setIfInBounds t v)[t]? =some v:=by simp [ht]
 have hoth:∀u,u≠t→(tmps.setIfInBounds t v)[u]? =tmps[u]? :=fun u hu=>by
  rw [Array.getElem?_setIfInBounds,if_neg (fun e=>hu e.symm)]
 have hlv:∀u x,Env.get ((t,d)::env) u=some (.lv x)→u≠t∧env.get u=some (.lv x):=fun u x h=>by
  rw [zAj]at h
  split at h
  ·simp only [Option.some.injEq]at h; exact absurd h (hnl x)
  ·rename_i hne; exact ⟨fun e=>hne e.symm,h⟩
 refine⟨fun u q hq=> ?_,fun u u' x x' b hne h1 h2=> ?_⟩
 ·rw [zAj]at hq
  split at hq
  ·rename_i e; subst e
   simp only [Option.some.injEq]at hq; subst hq
   by_cases hp:∃a c,d= .lptr a c
   ·obtain⟨a,c,rfl⟩:=hp
    simp only [SlR]
    intro x hx
    obtain⟨h1,h2⟩:=hlv a x hx
    simp only [zBc]at hr
    obtain⟨b,h3,h4⟩:=hr x h2
    exact⟨b,by rw [hoth a h1]; exact h3,by rw [hsame,h4]⟩
   ·have hr' :zBc ρ w ((t,d)::env) (tmps.setIfInBounds t v) d v:=by
     cases d <;> first | exact hr | exact absurd ⟨_,_,rfl⟩ hp
    exact .of_res hr' hsame (fun a c e=>hp ⟨a,c,e⟩)
  ·rename_i hne
   have hne:u≠t:=fun e=>hne e.symm
   have:=he.slot u q hq
   cases q with
   | lv x=>simp only [SlR]at *; rw [hoth u hne]; exact this
   | lptr a c=>
    simp only [SlR]at *
    intro x hx
    obtain⟨h1,h2⟩:=hlv a x hx
    rw [hoth a h1,hoth u hne]
    exact this x h2
   | _=>simp only [SlR]at *; rw [hoth u hne]; exact this
 ·obtain⟨g1,g2⟩:=hlv u x h1
  obtain⟨g3,g4⟩:=hlv u' x' h2
  rw [hoth u g1,hoth u' g3]
  exact he.inj u u' x x' b hne g2 g4
theorem zRa.put {nt:Nat}{dst:Option Nat}{v:Value}(h:zRa ρ w lo nt fr a)(hd:∀t,dst=some t→t < nt)(hr:zBc ρ w fr.env a.tmps d v):zRa ρ w lo nt { fr with env:=putD fr.env dst d} (a.put dst v):=by
 cases dst with
 | none=>exact ⟨h.env,h.size,h.defers⟩
 | some t=>exact ⟨h.env.put (Nat.lt_of_lt_of_le (hd t rfl) h.size) hr,by simpa [Act.put] using h.size,h.defers⟩
theorem zRa.mono {nt:Nat}(hK:Kp ρ w ρ' w')(h:zRa ρ w lo nt fr a):zRa ρ' w' lo nt fr a:=⟨h.env.mono hK,h.size,h.defers.mono hK⟩
theorem zBc.undef {tmps:Array Value}:zBc ρ w env tmps (.tup []) undef:=by simp [zBc,Rep,RepL,Go.undef]
def Inv (ρ0:Gh)(w0:World)(nt:Nat)(fr:Fr)(s:St)(a:Act)(w:World):Prop:=∃ρ,Kp ρ0 w0 ρ w∧zRa ρ w w0.heap.size nt fr a∧zPl ρ s w
theorem zOs {ops:Array Oper}{o:Oper}{g:Option (Nat×Bool)}{b:Bool}(he:EnR ρ w lo env a.tmps)
  (hg:(match o.guard with | none=>some none | some (j,b)=>match (ops[j]?).bind (·.dst) with | some t=>some (some (t,b)) | none=>none)=some g)(h:wtD env g=some b):Region.wanted o (yielded ops a.tmps)=b:=by
 unfold Region.wanted
 cases hgd:o.guard with
 | none=>
  simp only [hgd,Option.some.injEq]at hg; subst hg
  simp only [wtD,Option.some.injEq]at h
  exact h
 | some p=>
  obtain⟨j,q⟩:=p
  simp only [hgd]at hg
  split at hg
  ·rename_i t ht
   simp only [Option.some.injEq]at hg; subst hg
   simp only [wtD]at h
   split at h
   ·rename_i c hc
    simp only [Option.some.injEq]at h
    have:=he.slot _ _ hc
    simp only [SlR,Rep]at this
    obtain⟨v,hv,rfl⟩:=this
    simp only [yielded,ht,Option.bind_some,hv]
    subst h
    cases c <;> cases q <;> rfl
   ·rename_i hc
    simp only [Option.some.injEq]at h
    have:=he.slot _ _ hc
    simp only [SlR,Rep,RepL]at this
    obtain⟨v,hv,vs,rfl,_⟩:=this
    simp only [yielded,ht,Option.bind_some,hv]
    subst h
    rfl
   ·cases h
  ·cases hg
theorem yFu {nt:Nat}{r sz b c:Nat} {x v e' :D}{xv:Value}(hf:zRa ρ w lo nt fr a)(hs:zPl ρ s w)(hlv:fr.env.get r=some (.lv x))(hb:a.tmps[r]? =some (.pointer (some ⟨b,0,none⟩)))(hxv:Rep ρ w v xv)(hov:x.over c v=some e')(hl:v.flat.length=sz):
  w.there b c sz∧v.st=true∧Kr ρ w ρ (w.setCells b c xv.cells.toList)∧zPl ρ s (w.setCells b c xv.cells.toList)∧zRa ρ (w.setCells b c xv.cells.toList) lo nt { fr with env:=(r,.lv e')::fr.env} a∧
   (∀ρ0 w0,w0.heap.size=lo→Kp ρ0 w0 ρ w→Kp ρ0 w0 ρ (w.setCells b c xv.cells.toList)):=by
 have hsl:=hf.env.slot _ _ hlv
 simp only [SlR]at hsl
 obtain⟨b',u,el,q1,q2,q3,q4,q5,q6⟩:=hsl
 rw [hb]at q1
 simp only [Option.some.injEq,Value.pointer.injEq,Addr.mk.injEq,and_true]at q1
 subst q1
 obtain⟨u',o1,o2,o3,o4,hst⟩:=zNo q4 q6 hxv hov
 have hxs:=hxv.size hst
 obtain⟨⟨cs',g1,g2⟩,g3,g4,g5,g6,g7⟩:=zBj xv.cells.toList c w u.cells el (0,0) q5 (by simpa using o4)
 have hne:∀b',ρ.own b' ≠ .priv→b' ≠b:=by rintro b' h rfl; exact h q2
 have hKr:Kr ρ w ρ (w.setCells b c xv.cells.toList):=⟨fun b' _ hi=>⟨g3 b' (hne b' (by rw [hi]; simp)),hi⟩,fun _ h=>⟨h,rfl⟩,fun _ _ h=> .inr ⟨h,fun _ hb=>⟨hb,rfl,Nat.le_refl _,rfl⟩⟩⟩
 have hcs:cs' =u'.cells:=Array.ext' (by rw [g2,o3])
 refine⟨fun j hj=> ?_,hst,hKr, ?_,⟨⟨fun t q hq=> ?_,fun t t' y y' bb hne' h1 h2=> ?_⟩,hf.size,hf.defers.mono' hKr fun b' hp hb' =>⟨hp,(g3 b' (by rintro rfl; rw [q5]at hb'; cases hb')).trans hb'⟩⟩,fun ρ0 w0 hlo hK=> ?_⟩
 ·have:c+j < u.cells.size:=by omega
  simp [World.cell?,World.frozen?,q5,this]
 ·refine hs.keep hKr (fun _ _=>Iff.rfl) rfl (fun b' o hb' =>⟨g3 b' (hne b' (by rw [hb']; simp)),rfl,rfl,rfl⟩) (fun b' hb' =>hs.size b' (by omega))
 ·rw [zAj]at hq
  split at hq
  ·rename_i e; subst e
   simp only [Option.some.injEq]at hq; subst hq
   simp only [SlR]
   exact⟨b,u',el,hb,q2,q3,Rep.mono' hKr _ _ o1,by rw [g1,hcs],o2⟩
  ·rename_i hrt
   have:=hf.env.slot t q hq
   cases q with
   | lv y=>
    simp only [SlR]at *
    obtain⟨b2,v2,el2,p1,p2,p3,p4,p5,p6⟩:=this
    have hbb:b2≠b:=by
     rintro rfl
     exact hf.env.inj r t x y b2 hrt hlv hq hb p1
    exact⟨b2,v2,el2,p1,p2,p3,Rep.mono' hKr _ _ p4,by rw [g3 b2 hbb]; exact p5,p6⟩
   | lptr k cc=>
    simp only [SlR]at *
    intro y hy
    rw [zAj]at hy
    split at hy
    ·rename_i e; subst e; exact this x hlv
    ·exact this y hy
   | _=>
    simp only [SlR]at *
    obtain⟨v2,p1,p2⟩:=this
    exact⟨v2,p1,Rep.mono' hKr _ _ p2⟩
 ·have old:∀t y,Env.get ((r,.lv e')::fr.env) t=some (.lv y)→∃y0,fr.env.get t=some (.lv y0):=fun t y h=>by
   rw [zAj]at h
   split at h
   ·rename_i e; subst e; exact ⟨x,hlv⟩
   ·exact⟨y,h⟩
  obtain⟨y0,p1⟩:=old t y h1
  obtain⟨y1,p2⟩:=old t' y' h2
  exact hf.env.inj t t' y0 y1 bb hne' p1 p2
 ·exact⟨g5.trans hK.os,g6.trans hK.tape,g7.trans hK.output,by have:=hK.size; omega,fun b' hb' hno=>by
   obtain⟨h1,h2⟩:=hK.kept b' hb' hno
   exact⟨(g3 b' (by omega)).trans h1,h2⟩,hK.dead,hK.live⟩
theorem lbox_ok {nt r:Nat}{x:D}{u:Value}{e:TypeId}(hf:zRa ρ w lo nt fr a)(hs:zPl ρ s w)(hlo:lo≤w.heap.size)(hr:r < nt)(hu:Rep ρ w x u)(hst:x.st=true)(hno:fr.env.noL r=true):
  ∃ρ',Kp ρ w ρ' (w.alloc (.cells u.cells e))∧zPl ρ' s (w.alloc (.cells u.cells e))∧zRa ρ' (w.alloc (.cells u.cells e)) lo nt { fr with env:=(r,.lv x)::fr.env} (a.put (some r) (.pointer (some ⟨w.heap.size,0,none⟩))):=by
 let ρ' :Gh:= { ρ with own:=fun b=>if b=w.heap.size then .priv else ρ.own b}
 have hw:(w.alloc (.cells u.cells e)).heap=w.heap.push (.cells u.cells e):=rfl
 have hK:Kp ρ w ρ' (w.alloc (.cells u.cells e)):=by
  refine⟨rfl,rfl,rfl,by rw [hw]; simp,fun b hb _=>⟨zAy hw hb, ?_⟩,fun _ h=>⟨h,rfl⟩,fun o z h=> .inr ⟨h,fun b hb=>⟨?_,rfl,Nat.le_refl _,rfl⟩⟩⟩
  ·show (if b=w.heap.size then Own.priv else ρ.own b)=ρ.own b
   rw [if_neg (by omega)]
  ·have:=hs.own_lt hb
   show (if b=w.heap.size then Own.priv else ρ.own b)= .obj o
   rw [if_neg (by omega)]; exact hb
 have hS:zPl ρ' s (w.alloc (.cells u.cells e)):=by
  refine hs.keep hK.r (fun b o=> ?_) rfl (fun b o hb=>⟨zAy hw (hs.own_lt hb),rfl,rfl,rfl⟩) (fun b hb=> ?_)
  ·show ((if b=w.heap.size then Own.priv else ρ.own b)= .obj o)↔_
   split
   ·rename_i e; subst e; rw [hs.size _ (Nat.le_refl _)]; simp
   ·rfl
  ·rw [hw]at hb; simp at hb
   show (if b=w.heap.size then Own.priv else ρ.own b)= .imm
   rw [if_neg (by omega)]; exact hs.size b (by omega)
 have hsz:r < a.tmps.size:=Nat.lt_of_lt_of_le hr hf.size
 have hsame:(a.tmps.setIfInBounds r (.pointer (some ⟨w.heap.size,0,none⟩)))[r]? =some (.pointer (some ⟨w.heap.size,0,none⟩)):=by simp [hsz]
 have hoth:∀t,t≠r→(a.tmps.setIfInBounds r (.pointer (some ⟨w.heap.size,0,none⟩)))[t]? =a.tmps[t]? :=fun t ht=>by
  rw [Array.getElem?_setIfInBounds,if_neg (fun e=>ht e.symm)]
 have hnl:∀(e:Env),e.noL r=true→∀t k c,e.get t=some (.lptr k c)→k≠r:=by
  intro e
  induction e with
  | nil=>intro _ t k c h; simp [Env.get]at h
  | cons p e ih=>
   obtain⟨t0,d0⟩:=p
   intro h t k c hg
   rw [zAj]at hg
   simp only [Env.noL]at h
   split at hg
   ·simp only [Option.some.injEq]at hg; subst hg
    simp only at h
    split at h
    ·cases h
    ·rename_i hb; rintro rfl; rw [Nat.beq_refl]at hb; cases hb
   ·split at h
    ·split at h
     ·cases h
     ·exact ih h t k c hg
    ·exact ih h t k c hg
 have hfm:=hf.mono hK
 have htm:(a.put (some r) (Value.pointer (some ⟨w.heap.size,0,none⟩))).tmps=a.tmps.setIfInBounds r (.pointer (some ⟨w.heap.size,0,none⟩)):=rfl
 refine⟨ρ',hK,hS,⟨⟨fun t q hq=> ?_,fun t t' y y' bb hne h1 h2 h3=> ?_⟩,by simpa [Act.put] using hf.size,hfm.defers⟩⟩
 ·rw [zAj]at hq
  split at hq
  ·rename_i e2; subst e2
   simp only [Option.some.injEq]at hq; subst hq
   simp only [SlR]
   exact⟨w.heap.size,u,e,hsame,by show (if w.heap.size=w.heap.size then Own.priv else _)=_; rw [if_pos rfl],hlo,hu.mono hK,zCu hw,hst⟩
  ·rename_i hne
   have hne:t≠r:=fun e=>hne e.symm
   have:=hfm.env.slot t q hq
   cases q with
   | lv y=>simp only [SlR]at *; rw [htm,hoth t hne]; exact this
   | lptr k c=>
    simp only [SlR]at *
    intro y hy
    have hk:=hnl fr.env hno t k c hq
    rw [zAj,if_neg (fun e=>hk e.symm)]at hy
    rw [htm,hoth k hk,hoth t hne]
    exact this y hy
   | _=>simp only [SlR]at *; rw [htm,hoth t hne]; exact this
 ·have key:∀t y,t≠r→Env.get ((r,.lv x)::fr.env) t=some (.lv y)→fr.env.get t=some (.lv y)∧a.tmps[t]? ≠some (.pointer (some ⟨w.heap.size,0,none⟩)):=fun t y ht h=>by
   rw [zAj,if_neg (fun e=>ht e.symm)]at h
   refine⟨h,fun hp=> ?_⟩
   have:=hf.env.slot t _ h
   simp only [SlR]at this
   obtain⟨b2,v2,el2,p1,p2,p3,p4,p5,p6⟩:=this
   rw [hp]at p1
   simp only [Option.some.injEq,Value.pointer.injEq,Addr.mk.injEq,and_true]at p1
   have:=zNc p5
   omega
  rw [htm]at h3 ⊢
  by_cases ht:t=r
  ·subst ht
   rw [hsame]at h3
   simp only [Option.some.injEq,Value.pointer.injEq,Addr.mk.injEq,and_true]at h3
   subst h3
   rw [hoth t' (fun e=>hne e.symm)]
   exact (key t' y' (fun e=>hne e.symm) h2).2
  ·obtain⟨k1,k2⟩:=key t y ht h1
   rw [hoth t ht]at h3
   by_cases ht' :t' =r
   ·subst ht'
    rw [hsame]
    intro e; rw [← e]at h3; exact k2 h3
   ·obtain⟨k3,_⟩:=key t' y' ht' h2
    rw [hoth t' ht']
    exact hf.env.inj t t' y y' bb hne k1 k3 h3
end Go.Ab
namespace Go.Ab
open Go
variable [Vals]
variable {ρ ρ' ρ0:Gh}{w w' w0:World}{P:Program}{pn:Pins}{G:Gl}{X:Exts}{A:Adv} {s s' :St}{env:Env}{a:Act}{lo:Nat}{d:D}{C:zAa}{al:Option Nat} {fr fr' :Fr}
theorem zEh {o:Oper}{p:AOp}(h:spec P G A o=some p):
  (∃e z,o.op= .alloc e∧zPu P e=some z∧p= .lbox (.c z))∨(∃e x' x,o.op= .box e x' ∧opd G x' =some x∧p= .lbox x)∨
  (∃t x' v' r sz x v,o.op= .store t x' v' ∧zPo P t=some sz∧opd G x' =some x∧opd G v' =some v∧p= .lstore r sz x v)∨
  (∃x' args' tys x l,o.op= .defer { callee:= .value x',args:=args',argTypes:=tys}∧opd G x' =some x∧opds G args' =some l∧p= .defer x l):=by
 unfold spec at h
 split at h
 ·rename_i e ho
  split at h
  ·simp only [Option.map_eq_some_iff]at h
   obtain⟨z,hz,rfl⟩:=h
   exact .inl ⟨e,z,ho,hz,rfl⟩
  ·cases h
 ·rename_i e x ho
  split at h
  ·simp only [Option.map_eq_some_iff]at h
   obtain⟨z,hz,rfl⟩:=h
   exact .inr (.inl ⟨e,x,z,ho,hz,rfl⟩)
  ·cases h
 ·rename_i t x v ho
  split at h
  ·rename_i r hr
   split at h
   ·rename_i sz x1 v1 h1 h2 h3
    simp only [Option.some.injEq]at h; subst h
    exact .inr (.inr (.inl ⟨t,x,v,r,sz,x1,v1,ho,h1,h2,h3,rfl⟩))
   ·cases h
  ·cases h
 ·rename_i x args tys ho
  split at h
  ·rename_i x1 l h1 h2
   simp only [Option.some.injEq]at h; subst h
   exact .inr (.inr (.inr ⟨x,args,tys,x1,l,ho,h1,h2,rfl⟩))
  ·cases h
 ·cases h
theorem opF_okOp {p:AOp}{e:Env}{r:D×St}(h:opF C e s al p=some r):(∀x,p≠ .lbox x)∧(∀r sz x v,p≠ .lstore r sz x v)∧(∀x l,p≠ .defer x l)∧p≠ .bad:=by
 refine⟨?_, ?_, ?_, ?_⟩ <;> · intros; rintro rfl; simp [opF]at h
theorem zUb (P:Program)(G:Gl)(X:Exts)(A:Adv)(ops:Array Oper)(o:Oper):((zPy P G X A ops o).op= .bad∧(zPy P G X A ops o).guard=none)∨((zPy P G X A ops o).dst=o.dst∧(zPy P G X A ops o).op=opB' P G X A o∧(∀t,o.dst=some t→t < A.nt)∧
  ∃g,(match o.guard with | none=>some none | some (j,b)=>match (ops[j]?).bind (·.dst) with | some t=>some (some (t,b)) | none=>none)=some g∧(zPy P G X A ops o).guard=g):=by
 unfold zPy
 split
 ·rename_i g hg
  split
  ·rename_i hd
   refine .inr ⟨rfl,rfl,fun t ht=> ?_,g,hg,rfl⟩
   rw [ht]at hd
   exact Nat.le_of_ble_eq_true hd
  ·exact .inl ⟨rfl,rfl⟩
 ·exact .inl ⟨rfl,rfl⟩
abbrev Rd (r:Option Nat):Fence:= { Fence.wide with round:=r}
theorem zYr {r:Option Nat}{f:FuncId}{args:Array Value}{R:Ending→World→Prop}:CallsIn (Rd r) 0 P f args w R↔Calls P f args w R:=callsIn_wide (n:=0)
theorem zMv {r:Option Nat}{o:Oper}{K:Act→World→Prop}{Q:Exit→Act→World→Prop}(h:r=none∨∀c,o.op≠ .defer c):o.wpIn (Rd r) 0 P a w K Q↔o.uponIn (Rd r) 0 P a K Q ((execOp a.eval o).run P w):=by
 have e:(o.semAt r a.eval).run P w=(execOp a.eval o).run P w:=by
  rcases h with rfl | h
  ·rw [Oper.semAt_none]
  ·rw [Oper.semAt_eq _ _ _ h]
 unfold Oper.wpIn
 rw [show (Rd r).round=r from rfl,e]
 exact⟨fun h=>h.2,fun h=>⟨fun _ _=>trivial,h⟩⟩
theorem zXn {o:Oper}{c:Call}(h:o.op= .defer c){p:AOp}(hp:opB' P G X A o=p):p= .bad∨∃f l,p= .defer f l:=by
 subst hp
 have e:∀q,opB P G X A o=some q→∃f l,q= .defer f l:=by
  intro q hq
  unfold opB at hq
  rw [h]at hq
  obtain⟨ce,ar,ty⟩:=c
  cases ce with
  | value x=>
   simp only [Option.pure_def,Option.bind_eq_bind,Option.bind_eq_some_iff,Option.some.injEq]at hq
   obtain⟨_,_,_,_,rfl⟩:=hq
   exact⟨_,_,rfl⟩
  | _=>cases hq
 unfold opB'
 split
 ·rename_i q hq
  rcases zEh hq with ⟨_,_,ho,_⟩ | ⟨_,_,_,ho,_⟩ | ⟨_,_,_,_,_,_,_,ho,_⟩ | ⟨_,_,_,_,_,ho,_,_,rfl⟩
  ·rw [h]at ho; cases ho
  ·rw [h]at ho; cases ho
  ·rw [h]at ho; cases ho
  ·exact .inr ⟨_,_,rfl⟩
 ·split
  ·rename_i q hq
   obtain⟨f,l,rfl⟩:=e q hq
   exact .inl rfl
  ·exact .inl rfl
theorem zRh {rd:Option Nat}(hC:ClO pn P G C)(hX:∀f k,X f=some k→zQi P f k)(hg:GlOk pn G ρ0 w0){ops:Array Oper}{o:Oper}{ao:zPk}{b:Nat}{K:Act→World→Prop}{Q:Exit→Act→World→Prop}
  (hao:ao.op=(zPy P G X A ops o).op∧ao.dst=(zPy P G X A ops o).dst∧ao.guard=(zPy P G X A ops o).guard)(hrd:rd=none∨ao.op.nd=true)(h:oper C b ao fr s=some (fr',s'))(hI:Inv ρ0 w0 A.nt fr s a w)(hK:∀a' w',Inv ρ0 w0 A.nt fr' s' a' w' →K a' w'):
  if Region.wanted o (yielded ops a.tmps) then o.wpIn (Rd rd) 0 P a w K Q else K (a.put o.dst undef) w:=by
 obtain⟨ρ,hKp,hf,hs⟩:=hI
 have hg:=hg.mono hKp
 rcases zUb P G X A ops o with ⟨d1,d2⟩ | ⟨c1,c3,c4,g,c5,c6⟩
 ·rw [d1,d2]at hao
  unfold oper at h
  rw [hao.1,hao.2.2]at h
  simp [wtD,opF]at h
 rw [c3,c1,c6]at hao
 obtain⟨o1,o2,o3⟩:=hao
 unfold oper at h
 rw [o3]at h
 split at h
 ·rename_i hw
  rw [zOs hf.env c5 hw,if_pos rfl]
  rw [o1]at h
  have hnd:rd=none∨∀c,o.op≠ .defer c:=by
   rcases hrd with h0 | h0
   ·exact .inl h0
   ·refine .inr fun c hc=> ?_
    rcases zXn (P:=P) (G:=G) (X:=X) (A:=A) hc rfl with e | ⟨f,l,e⟩
    ·rw [e]at h; simp [opF]at h
    ·rw [o1,e]at h0; cases h0
  have gen:∀p,ao.op=p→opB' P G X A o=p→(match opF C fr.env s (match ao.al with | some r=>some (b+r) | none=>none) p with | some (d,s')=>some ({ fr with env:=putD fr.env ao.dst d},s') | none=>none)=some (fr',s')→o.wpIn (Rd rd) 0 P a w K Q:=by
   intro p _ hp h
   split at h
   ·rename_i d s2 hop
    simp only [Option.some.injEq,Prod.mk.injEq]at h
    obtain⟨rfl,rfl⟩:=h
    obtain⟨n1,n2,n3,n4⟩:=opF_okOp hop
    have hb:opB P G X A o=some p∧okOp p=true:=by
     unfold opB' at hp
     split at hp
     ·rename_i q hq
      subst hp
      rcases zEh hq with ⟨_,_,_,_,rfl⟩ | ⟨_,_,_,_,_,rfl⟩ | ⟨_,_,_,_,_,_,_,_,_,_,_,rfl⟩ | ⟨_,_,_,_,_,_,_,_,rfl⟩
      ·exact absurd rfl (n1 _)
      ·exact absurd rfl (n1 _)
      ·exact absurd rfl (n2 _ _ _ _)
      ·exact absurd rfl (n3 _ _)
     ·split at hp
      ·rename_i q hq
       split at hp
       ·rename_i hok; subst hp; exact ⟨hq,hok⟩
       ·exact absurd hp.symm n4
      ·exact absurd hp.symm n4
    have hres:=op_ok hf.env hg hs hC hX hb.1 hb.2 hop
    rw [zMv hnd]
    generalize (execOp a.eval o).run P w=res at hres
    unfold OpOk at hres
    split at hres
    ·rename_i v w'
     obtain⟨ρ',k1,k2,k3⟩:=hres
     rw [Oper.uponIn_value]
     refine hK _ _ ⟨ρ',hKp.trans k1, ?_,k2⟩
     rw [o2]
     exact (hf.mono k1).put c4 k3
    ·rename_i w'
     obtain⟨ρ',k1,k2,rfl⟩:=hres
     rw [Oper.uponIn_skip]
     refine hK _ _ ⟨ρ',hKp.trans k1, ?_,k2⟩
     rw [o2]
     exact (hf.mono k1).put c4 zBc.undef
    ·rename_i f args w'
     obtain⟨rfl,hc⟩:=hres
     refine⟨fun hd=>(by cases hd),zYr.2 (hc.mono fun e w'' hr=> ?_)⟩
     cases e with
     | returned v=>
      obtain⟨ρ',k1,k2,k3⟩:=hr
      refine hK _ _ ⟨ρ',hKp.trans k1, ?_,k2⟩
      rw [o2]
      exact (hf.mono k1).put c4 (.of_rep k3)
     | panicked _=>exact hr.elim
     | outgrown=>exact hr.elim
    ·rename_i l fn tm asg bd w'
     obtain⟨rfl,hc⟩:=hres
     refine⟨fun hd=>(by cases hd),hc.mono fun e w'' hr=> ?_⟩
     cases e with
     | returned v=>
      obtain⟨ρ',k1,k2,k3⟩:=hr
      refine hK _ _ ⟨ρ',hKp.trans k1, ?_,k2⟩
      rw [o2]
      exact (hf.mono k1).put c4 (.of_rep k3)
     | panicked _=>exact hr.elim
     | outgrown=>exact hr.elim
    ·exact hres.elim
   ·cases h
  split at h
  ·
   rename_i f' args hop
   have hop' :opB' P G X A o= .defer f' args:=hop
   have hsp:spec P G A o=some (.defer f' args):=by
    unfold opB' at hop'
    split at hop'
    ·rename_i q hq; rw [hq,hop']
    ·split at hop'
     ·split at hop'
      ·rename_i hok; subst hop'; cases hok
      ·cases hop'
     ·cases hop'
   rcases zEh hsp with ⟨_,_,_,_,h0⟩ | ⟨_,_,_,_,_,h0⟩ | ⟨_,_,_,_,_,_,_,_,_,_,_,h0⟩ | ⟨x',args',tys,x,l,ho,hx,hl,h0⟩
   ·cases h0
   ·cases h0
   ·cases h0
   ·simp only [AOp.defer.injEq]at h0
    obtain⟨rfl,rfl⟩:=h0
    split at h
    ·rename_i g x1 y1 l1 hfv hlv
     simp only [Option.some.injEq,Prod.mk.injEq]at h
     obtain⟨rfl,rfl⟩:=h
     have hv:=opR hx hf.env hg hfv
     have hr:=zEm hf.env hg _ _ l1 hl hlv
     simp only [Rep]at hv
     obtain⟨va,vc,hv,hxa,hya⟩:=hv
     have hrun:(execOp a.eval o).run P w= .ok (.defer { target:= .fn g vc,args:=va++args'.map a.eval}) w:=by
      simp [execOp,ho,resolve,hv,Deferred.ofValue]
     rw [zMv hnd]
     rw [hrun,Oper.uponIn_defer]
     refine hK _ _ ⟨ρ,hKp, ?_,hs⟩
     have:=hf.put (dst:=o.dst) (v:=undef) (d:= .tup []) c4 zBc.undef
     rw [o2]
     refine⟨?_, ?_, ?_⟩
     ·cases hd:o.dst <;> simpa [Act.put,putD,hd] using this.env
     ·cases hd:o.dst <;> simpa [Act.put,putD,hd] using this.size
     ·have e1:(({ a with defers:= { target:= .fn g vc,args:=va++args'.map a.eval}::a.defers}:Act).put o.dst undef).defers= { target:= .fn g vc,args:=va++args'.map a.eval}::a.defers:=by cases o.dst <;> rfl
      rw [e1]
      exact .inr ⟨g,x1,y1,va,vc,args'.map a.eval,a.defers,rfl,rfl,hxa,hya,by simpa using hr,hf.defers⟩
    ·cases h
  ·
   rename_i x hop
   have hop' :opB' P G X A o= .lbox x:=hop
   have hsp:spec P G A o=some (.lbox x):=by
    unfold opB' at hop'
    split at hop'
    ·rename_i q hq; rw [hq,hop']
    ·split at hop'
     ·split at hop'
      ·rename_i hok; subst hop'; cases hok
      ·cases hop'
     ·cases hop'
   split at h
   ·rename_i r v hd hv
    split at h
    ·rename_i hc
     simp only [Option.some.injEq,Prod.mk.injEq]at h
     obtain⟨rfl,rfl⟩:=h
     simp only [Bool.and_eq_true]at hc
     have hd' :o.dst=some r:=by rw [← o2]; exact hd
     have fin:∀e u,Rep ρ w v u→(execOp a.eval o).run P w= .ok (.value (.pointer (some ⟨w.heap.size,0,none⟩))) (w.alloc (.cells u.cells e))→o.wpIn (Rd rd) 0 P a w K Q:=by
      intro e u hu hrun
      obtain⟨ρ',k1,k2,k3⟩:=lbox_ok (e:=e) hf hs hKp.size (c4 r hd') hu hc.2 hc.1
      rw [zMv hnd]
      rw [hrun,Oper.uponIn_value,hd']
      exact hK _ _ ⟨ρ',hKp.trans k1,k3,k2⟩
     rcases zEh hsp with ⟨e,z,ho,hz,h0⟩ | ⟨e,x',x1,ho,hx,h0⟩ | ⟨_,_,_,_,_,_,_,_,_,_,_,h0⟩ | ⟨_,_,_,_,_,_,_,_,h0⟩
     ·simp only [AOp.lbox.injEq]at h0; subst h0
      simp only [Opd.ev,Option.some.injEq]at hv; subst hv
      obtain⟨zv,z1,z2,z3⟩:=zCi (w:=w) hz
      refine fin e zv (zCg _ _ z2) ?_
      simp [execOp,ho,Instr.alloc,z1,newVar,newRow,newObj]
      rfl
     ·simp only [AOp.lbox.injEq]at h0; subst h0
      refine fin e (a.eval x') (opR hx hf.env hg hv) ?_
      simp [execOp,ho,Instr.box,newVar,newRow,newObj]
      rfl
     ·cases h0
     ·cases h0
    ·cases h
   ·cases h
  ·
   rename_i r sz x v hop
   have hop' :opB' P G X A o= .lstore r sz x v:=hop
   have hsp:spec P G A o=some (.lstore r sz x v):=by
    unfold opB' at hop'
    split at hop'
    ·rename_i q hq; rw [hq,hop']
    ·split at hop'
     ·split at hop'
      ·rename_i hok; subst hop'; cases hok
      ·cases hop'
     ·cases hop'
   rcases zEh hsp with ⟨_,_,_,_,h0⟩ | ⟨_,_,_,_,_,h0⟩ | ⟨t,x',v',r1,sz1,x1,v1,ho,hsz,hx,hv,h0⟩ | ⟨_,_,_,_,_,_,_,_,h0⟩
   ·cases h0
   ·cases h0
   ·simp only [AOp.lstore.injEq]at h0
    obtain⟨rfl,rfl,rfl,rfl⟩:=h0
    split at h
    ·rename_i r' c dv hxp hdv
     split at h
     ·rename_i e hre hrl hsz2
      split at h
      ·rename_i e' hov
       simp only [Option.some.injEq,Prod.mk.injEq]at h
       obtain⟨rfl,rfl⟩:=h
       obtain rfl:=Nat.eq_of_beq_eq_true hre
       obtain⟨b1,h1,h2⟩:=zCw hx hf.env hg hxp e hrl
       have hdvr:=opR hv hf.env hg hdv
       obtain⟨k1,k2,k3,k4,k5,k6⟩:=yFu hf hs hrl h1 hdvr hov (Nat.eq_of_beq_eq_true hsz2)
       have hrun:(execOp a.eval o).run P w= .ok .skip (w.setCells b1 c (a.eval v').cells.toList):=by
        simp only [execOp,ho,h2]
        rw [Sem.run_bind,zLx (P:=P) hsz hdvr k2 (Nat.eq_of_beq_eq_true hsz2) k1]; rfl
       rw [zMv hnd]
       rw [hrun,Oper.uponIn_skip]
       refine hK _ _ ⟨ρ,k6 ρ0 w0 rfl hKp, ?_,k4⟩
       rw [o2]
       exact k5.put c4 zBc.undef
      ·cases h
     ·cases h
    ·cases h
   ·cases h0
  ·exact gen _ o1 rfl h
 ·rename_i hw
  rw [zOs hf.env c5 hw,if_neg (by simp)]
  simp only [Option.some.injEq,Prod.mk.injEq]at h
  obtain⟨rfl,rfl⟩:=h
  refine hK _ _ ⟨ρ,hKp, ?_,hs⟩
  rw [o2]
  exact hf.put c4 zBc.undef
 ·cases h
end Go.Ab
