/- Part. -/
import Derived.Test.YtdkejjahldkkoaaGreatDoorG17
import Derived.Deep.Slices
import Derived.ChangeArms
set_option linter.unusedSectionVars false
set_option linter.unusedSimpArgs false
set_option linter.unusedVariables false
namespace Go.Ab
open Go
variable [eW]
def T.beq:T Obj->T Obj->Bool
 | .nil,.nil=>true
 | .node o l r,.node o' l' r' =>(match o,o' with
  | none,none=>true
  | some x,some y=>Obj.beq x y
  | _,_=>false) && (T.beq l l' && T.beq r r')
 | _,_=>false
theorem T.aV:∀a:T Obj,T.beq a a=true
 | .nil=>rfl
 | .node o l r=>by
  simp only [T.beq,T.aV l,T.aV r,lG];cases o with
  | none=>rfl
  | some x=>exact Obj.aV x
theorem T.beq_eq:∀(a b:T Obj),T.beq a b=true->a=b
 | .nil,.nil,_=>rfl
 | .node o l r,.node o' l' r',h=>by
  simp only [T.beq,aA]at h;obtain⟨h1,h2,h3⟩:=h;rw [T.beq_eq _ _ h2,T.beq_eq _ _ h3]
  cases o <;> cases o' <;> simp only at h1 <;> first
   | rfl
   | (cases h1; done)
   | rw [Obj.beq_eq _ _ h1]
 | .nil,.node _ _ _,h=>by simp [T.beq]at h
 | .node _ _ _,.nil,h=>by simp [T.beq]at h
def St.beq (s s' :St):Bool:=Nat.beq s.n s'.n && (s.ro==s'.ro && (s.lk==s'.lk && T.beq s.h s'.h))
theorem St.beq_eq (s s' :St)(h:St.beq s s' =true):s=s' :=by
 cases s; cases s';simp only [St.beq,aA,iS,ij]at h;obtain⟨rfl,rfl,rfl,h⟩:=h;rw [T.beq_eq _ _ h]
theorem St.aV (s:St):St.beq s s=true:=by simp [St.beq,T.aV]
mutual
def D.im:D->Bool
 | .ptr _ _=>false
 | .jK _ _ _ _=>false
 | .sl _ _ _ _=>false
 | .mp _=>false
 | .lv _=>false
 | .yl _=>false
 | .jE e _=>e.im
 | .vs _ _ l=>D.Le l
 | .fn _ a c=>D.Le a && D.Le c
 | .ig _ d=>d.im
 | .agg l=>D.Le l
 | .gJ l=>D.Le l
 | _=>true
def D.Le:List D->Bool
 | []=>true
 | d::l=>d.im && D.Le l
end
mutual
def D.pl:D->Bool
 | .ptr _ _=>false
 | .jK _ _ _ _=>false
 | .sl _ _ _ _=>false
 | .mp _=>false
 | .yl _=>false
 | .jE _ _=>false
 | .vs nl _ _=>nl
 | .fn _ a c=>D.XF a && D.XF c
 | .ig _ d=>d.pl
 | .agg l=>D.XF l
 | .gJ l=>D.XF l
 | _=>true
def D.XF:List D->Bool
 | []=>true
 | d::l=>d.pl && D.XF l
end
section
variable {ρ ρ' :Gh} {w w' :World}{P:Program}{pn:iO}{G:Gl}{s:St}{C:au}
mutual
theorem aS.pl:∀(d:D) (v:Value),d.pl=true->aS ρ w d v->aS ρ' w' d v
 | .bool _,_,_,r=>by simpa only [aS] using r
 | .int _ _,_,_,r=>by simpa only [aS] using r
 | .str _,_,_,r=>by simpa only [aS] using r
 | .cT,_,_,r=>by simpa only [aS] using r
 | .ptr _ _,_,h,_=>by simp [D.pl]at h
 | .jK _ _ _ _,_,h,_=>by simp [D.pl]at h
 | .jE _ _,_,h,_=>by simp [D.pl]at h
 | .vs nl sz l,_,h,r=>by
  simp only [D.pl]at h; subst h;simp only [aS]at *;rcases r with r | ⟨r,_⟩
  ·exact .inl r
  ·cases r
 | .sl _ _ _ _,_,h,_=>by simp [D.pl]at h
 | .qz,_,_,r=>by simpa only [aS] using r
 | .mp _,_,h,_=>by simp [D.pl]at h
 | .fn f a c,_,h,r=>by
  simp only [D.pl,aA]at h;simp only [aS]at *;obtain⟨va,vc,h1,h2,h3⟩:=r;exact⟨va,vc,h1,br.pl a _ h.1 h2,br.pl c _ h.2 h3⟩
 | .mf,_,_,r=>by simpa only [aS] using r
 | .ig t d,_,h,r=>by
  simp only [D.pl]at h;simp only [aS]at *;obtain⟨u,h1,h2⟩:=r;exact⟨u,h1,aS.pl d u h h2⟩
 | .nv,_,_,r=>by simpa only [aS] using r
 | .agg l,_,h,r=>by
  simp only [D.pl]at h;simp only [aS]at *;obtain⟨vs,h1,h2,h3⟩:=r;exact⟨vs,h1,br.pl l _ h h2,h3⟩
 | .gJ l,_,h,r=>by
  simp only [D.pl]at h;simp only [aS]at *;obtain⟨vs,h1,h2⟩:=r;exact⟨vs,h1,br.pl l _ h h2⟩
 | .lv _,_,_,r=>by simp only [aS]at r
 | .iI _ _,_,_,r=>by simp only [aS]at r
 | .sint _ _ _ _,_,_,r=>by simpa only [aS] using r
 | .pz _ _ _ _,_,_,r=>by simpa only [aS] using r
 | .rN _,_,_,r=>by simpa only [aS] using r
 | .yl _,_,h,_=>by simp [D.pl]at h
theorem br.pl:∀(l:List D) (vs:List Value),D.XF l=true->br ρ w l vs->br ρ' w' l vs
 | [],_,_,r=>by simpa only [br] using r
 | d::l,_,h,r=>by
  simp only [D.XF,aA]at h;simp only [br]at *;obtain⟨v,t,h1,h2,h3⟩:=r;exact⟨v,t,h1,aS.pl d v h.1 h2,br.pl l t h.2 h3⟩
end
def xG (ρ:Gh)(w:World) (ρ' :Gh) (w' :World):Prop:=∀b,b < w.heap.size->ρ.own b= .zC->ρ'.own b= .zC/\w'.heap[b]? =w.heap[b]?
mutual
theorem aS.im (h:xG ρ w ρ' w'):∀(d:D) (v:Value),d.im=true->aS ρ w d v->aS ρ' w' d v
 | .bool _,_,_,r=>by simpa only [aS] using r
 | .int _ _,_,_,r=>by simpa only [aS] using r
 | .str _,_,_,r=>by simpa only [aS] using r
 | .cT,_,_,r=>by simpa only [aS] using r
 | .ptr _ _,_,h,_=>by simp [D.im]at h
 | .jK _ _ _ _,_,h,_=>by simp [D.im]at h
 | .jE e c,_,hi,r=>by
  simp only [D.im]at hi;simp only [aS]at *;obtain⟨b,x,u,h1,h2,h3,h4,h5⟩:=r;obtain⟨k1,k2⟩:=h b (h3.lt h4.1) h1;exact⟨b,x,u,k1,aS.im h e u hi h2,h3.of_heap k2,h4,h5⟩
 | .vs nl sz l,_,hi,r=>by
  simp only [D.im]at hi;simp only [aS]at *;rcases r with r | ⟨r1,ad,cap,r2,r3,r4⟩
  ·exact .inl r
  ·refine .inr ⟨r1,ad,cap,r2,r3, ?_⟩;rcases r4 with r4 | ⟨b,x,r0,r4,r5⟩
   ·exact .inl r4
   ·cases l with
    | nil=>exact .inl rfl
    | cons d l=>
     have hb:b < w.heap.size:=by
      simp only [fX]at r5;obtain⟨⟨v,_,e1,e2,e3,_⟩,_⟩:=r5;exact e3.lt (by omega)
     obtain⟨k1,k2⟩:=h b hb r4;exact .inr ⟨b,x,r0,k1,fX.im h sz b k2 x (d::l) hi r5⟩
 | .sl _ _ _ _,_,h,_=>by simp [D.im]at h
 | .qz,_,_,r=>by simpa only [aS] using r
 | .mp _,_,h,_=>by simp [D.im]at h
 | .fn f a c,_,hi,r=>by
  simp only [D.im,aA]at hi;simp only [aS]at *;obtain⟨va,vc,h1,h2,h3⟩:=r;exact⟨va,vc,h1,br.im h a _ hi.1 h2,br.im h c _ hi.2 h3⟩
 | .mf,_,_,r=>by simpa only [aS] using r
 | .ig t d,_,hi,r=>by
  simp only [D.im]at hi;simp only [aS]at *;obtain⟨u,h1,h2⟩:=r;exact⟨u,h1,aS.im h d u hi h2⟩
 | .nv,_,_,r=>by simpa only [aS] using r
 | .agg l,_,hi,r=>by
  simp only [D.im]at hi;simp only [aS]at *;obtain⟨vs,h1,h2,h3⟩:=r;exact⟨vs,h1,br.im h l _ hi h2,h3⟩
 | .gJ l,_,hi,r=>by
  simp only [D.im]at hi;simp only [aS]at *;obtain⟨vs,h1,h2⟩:=r;exact⟨vs,h1,br.im h l _ hi h2⟩
 | .lv _,_,_,r=>by simp only [aS]at r
 | .iI _ _,_,_,r=>by simp only [aS]at r
 | .sint _ _ _ _,_,_,r=>by simpa only [aS] using r
 | .pz _ _ _ _,_,_,r=>by simpa only [aS] using r
 | .rN _,_,_,r=>by simpa only [aS] using r
 | .yl _,_,h,_=>by simp [D.im]at h
theorem br.im (h:xG ρ w ρ' w'):∀(l:List D) (vs:List Value),D.Le l=true->br ρ w l vs->br ρ' w' l vs
 | [],_,_,r=>by simpa only [br] using r
 | d::l,_,hi,r=>by
  simp only [D.Le,aA]at hi;simp only [br]at *;obtain⟨v,t,h1,h2,h3⟩:=r;exact⟨v,t,h1,aS.im h d v hi.1 h2,br.im h l t hi.2 h3⟩
theorem fX.im (h:xG ρ w ρ' w')(sz b:Nat)(hb:w'.heap[b]? =w.heap[b]?):∀(x:Nat) (l:List D),D.Le l=true->fX ρ w sz b x l->fX ρ' w' sz b x l
 | _,[],_,_=>by simp only [fX]
 | x,d::l,hi,r=>by
  simp only [D.Le,aA]at hi;simp only [fX]at *;obtain⟨⟨v,h1,h2,h3,h4,h6⟩,h5⟩:=r;exact⟨⟨v,aS.im h d v hi.1 h1,h2,h3,h4.of_heap hb,h6⟩,fX.im h sz b hb (x+sz) l hi.2 h5⟩
end
def st0:St:=⟨0,.nil,[],false⟩
def alone (C:au):au:=fun f l s=>match D.Le l with
 | true=>match C f l st0 with
  | some (d,_)=>match d.pl with
   | true=>some (d,s)
   | false=>none
  | none=>none
 | false=>none
theorem Jc {C:au}:zJ (alone C):=by
 intro f l s d s' s1 hs h;unfold alone at h ⊢;split at h
 ·split at h
  ·split at h
   ·simp only [aa,ab]at h;obtain⟨rfl,rfl⟩:=h;exact⟨rfl,rfl⟩
   ·cases h
  ·cases h
 ·cases h
theorem Oo (hC:c9 .none P G C)(hG:∀g d,G g=some d->d.im=true):c9 .none P G (alone C):=by
 refine⟨fun f l s r h hy args w=> ?_,fun f l s d s' ρ w vs h hs hg hr=> ?_,fun f l s d s' _ h=> ?_,fun y l s d s' ρ w u vs h=>by simp [alone,D.Le,D.im]at h,Jc⟩
 ·unfold alone at h;split at h
  ·split at h
   ·rename_i h1; exact hC.enter f l st0 _ h1 hy args w
   ·cases h
  ·cases h
 ·unfold alone at h;split at h
  ·rename_i PN;split at h
   ·rename_i d1 s1 h1;split at h
    ·rename_i KN;simp only [aa,ab]at h;obtain⟨rfl,rfl⟩:=h;let ρ0:Gh:= { ρ with own:=fun b=>match ρ.own b with | .obj _=> .qG | x=>x,kd:=fun _=> .fresh}
     have Ft:∀b o,ρ0.own b≠ .obj o:=fun b o=>by
      show (match ρ.own b with | .obj _=>Own.qG | x=>x)≠ .obj o;split
      ·simp
      ·rename_i h; exact fun e=>h o e
     have Yj:∀b,ρ.own b= .zC->ρ0.own b= .zC:=fun b hb=>by
      show (match ρ.own b with | .obj _=>Own.qG | x=>x)= .zC;rw [hb]
     have hS:xG ρ w ρ0 w:=fun b _ hb=>⟨Yj b hb,rfl⟩;have BD:bZ ρ0 st0 w:=by
      refine⟨fun o x hx=> ?_,fun o x hx=> ?_,fun o _=>rfl,fun b o hb=>absurd hb (Ft b o),fun b hb=>Yj b (hs.size b hb)⟩
      ·simp [st0,St.get,T.get]at hx
      ·simp [st0,St.get,T.get]at hx
     have hg0:gF .none G ρ0 w:=⟨fun g d hd=>aS.im hS (.jE d 0) _ (by simp only [D.im]; exact hG g d hd) (hg.1 g d hd),trivial⟩;refine (hC.calls f l st0 d1 s1 ρ0 w vs h1 BD hg0 (br.im hS l vs PN hr)).mono fun e w' he=> ?_;cases e with
     | panicked _=>exact he
     | outgrown=>exact he
     | returned v=>
      obtain⟨ρ1,k1,k2,k3⟩:=he;have rE:∀b,b < w.heap.size->w'.heap[b]? =w.heap[b]? :=fun b hb=>(k1.kept b hb (Ft b)).1;let ρ2:Gh:= { ρ with own:=fun b=>if b < w.heap.size then ρ.own b else .zC}
      have lE:∀b,b < w.heap.size->ρ2.own b=ρ.own b:=fun b hb=>bJ hb;have DW :∀b, ¬ b < w.heap.size->ρ2.own b= .zC:=fun b hb=>aJ hb;have hK:Kp ρ w ρ2 w' :=by
       refine⟨k1.os,k1.tape,k1.output,k1.size,fun b hb _=>⟨rE b hb,lE b hb⟩,fun _ h=>⟨h,rfl⟩,fun o sz ho=> .inr ⟨ho,fun b hb=>⟨?_,rfl,an _,rfl⟩⟩⟩;rw [lE b (hs.jN hb)]; exact hb
      refine⟨ρ2,hK,hs.bR hK.r (fun b o=> ?_) rfl (fun b o hb=>⟨rE b (hs.jN hb),rfl,rfl,rfl⟩) (fun b hb=>DW b (by have:=k1.size; omega)),aS.pl _ _ KN k3⟩;by_cases hb:b < w.heap.size
      ·rw [lE b hb]
      ·rw [DW b hb,hs.size b (by omega)]
    ·cases h
   ·cases h
  ·cases h
 ·unfold alone at h;split at h
  ·split at h
   ·split at h
    ·simp only [aa,ab]at h; exact h.2.symm
    ·cases h
   ·cases h
  ·cases h
end
end Go.Ab
namespace Go.Ab
open Go
variable [eW]
inductive Pat where
 | any | tok (d:D) | obj
structure eS where
 f:Nat
 pat:List Pat
 cls:List (List (Option D)×D)
 res:D
def Pat.fits:Pat->D->Bool
 | .any,_=>true
 | .tok t,d=>D.beq t d
 | .obj,d=>match d with
  | .ptr _ _=>true
  | _=>false
def subst:List (Option D)->List D->List D
 | some d::r,_::l=>d::subst r l
 | none::r,x::l=>x::subst r l
 | _,l=>l
def OX (C:au)(f:Nat)(l:List D)(s s1:St):List (List (Option D)×D)->Bool
 | []=>true
 | (c,r)::rest=>match C f (subst c l) s with
  | some (d,s2)=>D.beq d r && (St.beq s2 s1 && OX C f l s s1 rest)
  | none=>false
def abj (C:au)(e:eS)(l:List D)(s:St):Option (D×St):=
 match e.cls with
 | []=>none
 | (c,_)::_=>match C e.f (subst c l) s with
  | some (_,s1)=>match OX C e.f l s s1 e.cls with
   | true=>some (e.res,s1)
   | false=>none
  | none=>none
section
variable {α:Type}
end
def uR (T:Nat->Option dS)(l:List Nat)(f:Nat):Option dS:=match pX f l with
 | true=>none
 | false=>T f
theorem nT.uR {P:Program}{G:Gl}{X:iJ}{T:Nat->Option dS}{l:List Nat}(h:nT P G X T):nT P G X (uR T l):=⟨fun f fn hf=>by
 unfold Ab.uR at hf;split at hf
 ·cases hf
 ·exact h.ok f fn hf⟩
theorem nT.node {P:Program}{G:Gl}{X:iJ}{S T:Nat->Option dS}{m:Nat}(hS:nT P G X S)(hT:nT P G X T):nT P G X (fun n=>bif Nat.blt n m then S n else T n):=⟨fun f fn hf=>by
 cases hb:Nat.blt f m <;> simp only [hb,cond]at hf
 ·exact hT.ok f fn hf
 ·exact hS.ok f fn hf⟩
theorem nT.no {P:Program}{G:Gl}{X:iJ}:nT P G X (fun _=>none):=⟨fun f fn hf=>by cases hf⟩
def fD:au:=fun _ _ _=>none
theorem KE {P:Program}{pn:iO}{G:Gl}:c9 pn P G fD:=⟨fun f l s r h=>by simp [fD]at h,fun f l s d s' ρ w vs h=>by simp [fD]at h,fun f l s d s' _ h=>by simp [fD]at h,fun y l s d s' ρ w u vs h=>by simp [fD]at h,fun f l s d s' s1 hs h=>by simp [fD]at h⟩
theorem wD {P:Program}{pn:iO}{G:Gl}{X:iJ}{T:Nat->Option dS}{H:au}(hm:P.follows .mixedOrders=true)(hT:nT P G X T)(hX:∀f k,X f=some k->my P f k)(hH:c9 pn P G H)(n:Nat):c9 pn P G (dH T H n):=
 (yw hT hX (fun _ _ hC=>Oa hm hC hX) n hH).1
section
variable {α:Type}
end
def isTrue:Option (D×St)->Bool
 | some (.bool true,_)=>true
 | _=>false
def tH:Gh:=⟨fun _=> .zC,fun _=>0,fun _=>0,fun _=>0,fun _=> .fresh,fun _=>(0,{ state:= .exhausted,pending:=none,fn:=0,tmps:= #[],params:= #[],assign:= .skip,body:= .skip,defers:=0})⟩
end Go.Ab
namespace Go.Ab
open Go
variable {C C' :au} {L L' :ic}{T:Nat->Option dS}{H:au}
def Ak (C C' :au):Prop:=∀f l s r,C f l s=some r->C' f l s=some r
def WO (L L' :ic):Prop:=∀k a fr s r,L k a fr s=some r->L' k a fr s=some r
theorem Nr (h:Ak C C'){e:Env}{s:St}{al:Option Nat}{p:eN}{r:D×St}(hr:cB C e s al p=some r):cB C' e s al p=some r:=by
 cases p
 case call ro f args=>
  simp only [cB]at hr ⊢;split at hr
  ·rename_i l hl;cases ro with
   | false=>simp only at hr ⊢; exact h _ _ _ _ hr
   | true=>
    simp only at hr ⊢;split at hr
    ·rename_i d s1 h1;rw [h _ _ _ _ h1]; exact hr
    ·cases hr
  ·cases hr
 case pe f args=>
  simp only [cB]at hr ⊢;split at hr
  ·exact h _ _ _ _ hr
  ·exact h _ _ _ _ hr
  ·cases hr
 case invoke tG x args=>
  simp only [cB]at hr ⊢;split at hr
  ·rename_i t v l hx hl;split at hr
   ·rename_i f r0 hf;split at hr
    ·rename_i u hu;try simp only [hu]
     exact h _ _ _ _ hr
    ·cases hr
   ·cases hr
  ·cases hr
 all_goals exact hr
theorem oD (h:Ak C C'){b:Nat}{o:bj}{fr:Fr}{s:St}{r:Fr×St}(hr:oper C b o fr s=some r):oper C' b o fr s=some r:=by
 unfold oper at hr ⊢;split at hr
 ·split at hr
  ·exact hr
  ·exact hr
  ·exact hr
  ·rename_i op h1 h2 h3;split at hr
   ·rename_i d s1 om;rw [Nr h om]; exact hr
   ·cases hr
 ·exact hr
 ·cases hr
theorem qV (h:Ak C C'){b:Nat}:∀ {l:List bj} {fr:Fr} {s:St} {r:Fr×St},opers C b l fr s=some r->opers C' b l fr s=some r
 | [],_,_,_,hr=>hr
 | o::l,fr,s,r,hr=>by
  simp only [opers]at hr ⊢;split at hr
  ·rename_i h1; rw [oD h h1]; exact qV h hr
  ·cases hr
theorem pC (h:Ak C C'){b:Nat}:∀ {l:List (bj×List Nat)} {acc:List Fp} {fr:Fr} {s:St} {r:Fr×St},iy C b l acc fr s=some r->iy C' b l acc fr s=some r
 | [],_,_,_,_,hr=>hr
 | (o,q)::l,acc,fr,s,r,hr=>by
  simp only [iy]at hr ⊢;split at hr
  ·split at hr
   ·rename_i h1;rw [oD h h1];split at hr
    ·rename_i h2;simp only [h2]; exact pC h hr
    ·cases hr
   ·cases hr
  ·cases hr
theorem vt (h:Ak C C'){b k:Nat}:Ak (lV b k C) (lV b k C'):=by
 cases k with
 | zero=>exact h
 | succ k=>
  intro f l s r hr;simp only [lV]at hr ⊢;split at hr
  ·exact h _ _ _ _ hr
  ·split at hr
   ·rename_i h1; rw [h _ _ _ _ h1]; exact hr
   ·cases hr
theorem cS (h:Ak C C')(hL:WO L L'):∀ {a:AC} {fr:Fr} {s:St} {r:Ex×Fr×St},bW C L a fr s=some r->bW C' L' a fr s=some r
 | .skip,_,_,_,hr=>hr
 | .Aa ops,fr,s,r,hr=>by
  simp only [bW]at hr ⊢;split at hr
  ·rename_i h1; rw [qV h h1]; exact hr
  ·cases hr
 | .yO k ops,fr,s,r,hr=>by
  simp only [bW]at hr ⊢;split at hr
  ·cases hr
  ·split at hr
   ·rename_i h1; rw [pC (vt h) h1]; exact hr
   ·cases hr
 | .seq a b,fr,s,r,hr=>by
  simp only [bW]at hr ⊢;split at hr
  ·rename_i h1; rw [cS h hL h1]; exact cS h hL hr
  ·rename_i hn;rw [cS h hL hr];split
   ·rename_i h2;simp only [aa]at h2; subst h2;exact absurd hr (hn _ _)
   ·rfl
 | .cond c a b,fr,s,r,hr=>by
  simp only [bW]at hr ⊢;split at hr
  ·exact cS h hL hr
  ·exact cS h hL hr
  ·cases hr
 | .block id a,fr,s,r,hr=>by
  simp only [bW]at hr ⊢;split at hr
  ·rename_i h1; rw [cS h hL h1]; exact hr
  ·rename_i hn;rw [cS h hL hr];split
   ·rename_i h2;simp only [aa]at h2; subst h2;exact absurd hr (hn _ _ _)
   ·rfl
 | .loop bR a,fr,s,r,hr=>by
  simp only [bW]at hr ⊢;exact hL _ _ _ _ _ hr
 | .iA bR g ps x y,fr,s,r,hr=>by
  simp only [bW]at hr ⊢;exact hL _ _ _ _ _ hr
 | .exit id,_,_,_,hr=>hr
 | .ret,_,_,_,hr=>hr
 | .bad,_,_,_,hr=>by simp [bW]at hr
theorem mI (h:Ak C C'):∀ {l:List (D×List D)} {s s' :St},leave C l s=some s' ->leave C' l s=some s'
 | [],_,_,hr=>hr
 | (f,l)::q,s,s',hr=>by
  unfold leave at hr ⊢;split at hr
  ·rename_i hh; cases hh
  ·rename_i hh;simp only [ey,ab]at hh;obtain⟨⟨rfl,rfl⟩,rfl⟩:=hh;split at hr
   ·rename_i h1;simp only [h _ _ _ _ h1]; exact mI h hr
   ·cases hr
  ·rename_i hh;simp only [ey,ab]at hh;obtain⟨⟨rfl,rfl⟩,rfl⟩:=hh;exact mI h hr
  ·cases hr
theorem yt {CD CD' :au}(h:Ak C C')(hD:Ak CD CD')(hL:WO L L'){fn:dS}{args:List D}{s:St}{r:D×St}(hr:nS C CD L fn args s=some r):nS C' CD' L' fn args s=some r:=by
 unfold nS at hr ⊢;split at hr
 ·cases hr
 ·rename_i e fr s1 cC h1;rw [cS h hL h1];split at hr
  ·rename_i s2 h2;cases e with
   | exit i=>exact absurd rfl (cC i)
   | normal=>simp only [mI hD h2]; exact hr
   | ret=>simp only [mI hD h2]; exact hr
  ·cases hr
 ·cases hr
theorem tO (h:Ak C C')(hL:WO L L'):Ak (pa T C L) (pa T C' L'):=by
 intro f l s r hr;unfold pa at hr ⊢;split at hr
 ·rename_i fn hf;unfold vU at hr ⊢;split at hr
  ·cases hr
  ·rename_i e fr s1 cC h1;rw [cS h hL h1];cases e with
   | exit i=>exact absurd rfl (cC i)
   | normal=>exact hr
   | ret=>exact hr
  ·cases hr
 ·cases hr
abbrev LeE (x y:Fr->St->Option (Ex×Fr×St)):Prop:=∀fr s r,x fr s=some r->y fr s=some r
theorem qK {k:Nat}{ps:List Nat}{e:Env} {x x' y y' :Fr->St->Option (Ex×Fr×St)} {H H' :au}(hx:LeE x x')(hy:LeE y y')(hH:Ak H H'):Ak (jX k ps e x y H) (jX k ps e x' y' H'):=by
 intro f l s r hr;unfold jX at hr ⊢;split at hr
 ·split at hr
  ·split at hr
   ·rename_i e1 h1 h2;try simp only [h1,h2]
    unfold Cp at hr ⊢;split at hr
    ·rename_i fr1 s1 h3;rw [hx _ _ _ h3];split at hr
     ·rename_i h4;simp only [h4];split at hr
      ·rename_i s2 h5;try simp only [h5]
       unfold Ks at hr ⊢;split at hr
       ·rename_i h6;rw [hy _ _ _ h6]; exact hr
       ·cases hr
      ·cases hr
     ·cases hr
    ·cases hr
   ·cases hr
  ·exact hH _ _ _ _ hr
 ·exact hH _ _ _ _ hr
theorem wC {C C' :Nat->Env->au}(h:∀k e,Ak (C k e) (C' k e)){bR:List Nat}{g:bP}{fr:Fr}{s:St}{r:Ex×Fr×St}(hr:nK C bR g fr s=some r):nK C' bR g fr s=some r:=by
 unfold nK at hr ⊢;split at hr
 ·rename_i gf caps h1 h2;split at hr
  ·rename_i h3;try simp only [h3]
   unfold Bx at hr;split at hr
   ·rename_i d s1 h4;rw [h _ _ _ _ _ _ h4]; exact hr
   ·cases hr
  ·cases hr
 ·cases hr
theorem mN:∀n {H H' :au},Ak H H' ->Ak (dH T H n) (dH T H' n)/\WO (fc T H n) (fc T H' n)
 | 0,H,H',hH=>⟨fun f l s r hr=>by simp [dH]at hr,fun k a fr s r hr=>by simp [fc]at hr⟩
 | n+1,H,H',hH=>by
  obtain⟨i1,i2⟩:=mN n hH;refine⟨fun f l s r hr=> ?_,fun k a fr s r hr=> ?_⟩
  ·rw [dH]at hr ⊢;split at hr
   ·exact hH _ _ _ _ hr
   ·split at hr
    ·exact yt i1 (tO i1 i2) i2 hr
    ·exact hH _ _ _ _ hr
  ·cases hb:a.il with
   | true=>
    cases a <;> first | (cases hb; done) | skip
    rw [jH]at hr ⊢;exact wC (fun k e=>(mN n (qK (fun _ _ _ h=>cS i1 i2 h) (fun _ _ _ h=>cS i1 i2 h) hH)).1) hr
   | false=>
    rw [iC _ _ _ _ hb]at hr ⊢;split at hr
    ·rename_i h1;rw [cS i1 i2 h1];exact i2 _ _ _ _ _ hr
    ·rename_i hn;rw [cS i1 i2 hr];split
     ·rename_i h2;simp only [aa]at h2; subst h2;exact absurd hr (hn _ _)
     ·rfl
theorem qC:∀n {H:au},Ak (dH T H n) (dH T H (n+1))/\WO (fc T H n) (fc T H (n+1))
 | 0,H=>⟨fun f l s r hr=>by simp [dH]at hr,fun k a fr s r hr=>by simp [fc]at hr⟩
 | n+1,H=>by
  obtain⟨i1,i2⟩:=qC n (H:=H);refine⟨fun f l s r hr=> ?_,fun k a fr s r hr=> ?_⟩
  ·rw [dH]at hr ⊢;split at hr
   ·exact hr
   ·split at hr
    ·exact yt i1 (tO i1 i2) i2 hr
    ·exact hr
  ·cases hb:a.il with
   | true=>
    cases a <;> first | (cases hb; done) | skip
    rw [jH]at hr ⊢;refine wC (fun k e f l s r h=> ?_) hr;exact (qC n).1 f l s r ((mN n (qK (fun _ _ _ h=>cS i1 i2 h) (fun _ _ _ h=>cS i1 i2 h) (fun _ _ _ _ h=>h))).1 f l s r h)
   | false=>
    rw [iC _ _ _ _ hb]at hr ⊢;split at hr
    ·rename_i h1;rw [cS i1 i2 h1];exact i2 _ _ _ _ _ hr
    ·rename_i hn;rw [cS i1 i2 hr];split
     ·rename_i h2;simp only [aa]at h2; subst h2;exact absurd hr (hn _ _)
     ·rfl
theorem gT {n m:Nat}(h:n<=m):Ak (dH T H n) (dH T H m)/\WO (fc T H n) (fc T H m):=by
 induction h with
 | refl=>exact ⟨fun _ _ _ _ h=>h,fun _ _ _ _ _ h=>h⟩
 | step _ ih=>exact ⟨fun f l s r hr=>(qC _).1 f l s r (ih.1 f l s r hr),fun k a fr s r hr=>(qC _).2 k a fr s r (ih.2 k a fr s r hr)⟩
def Ev (T:Nat->Option dS)(H:au)(f:Nat)(l:List D)(s:St)(r:D×St):Prop:=∃n,dH T H n f l s=some r
def rr (T:Nat->Option dS)(H:au)(a:AC)(fr:Fr)(s:St)(r:Ex×Fr×St):Prop:=∃n,bW (dH T H n) (fc T H n) a fr s=some r
def PO (T:Nat->Option dS)(H:au)(b:Nat)(l:List bj)(fr:Fr)(s:St)(r:Fr×St):Prop:=∃n,opers (dH T H n) b l fr s=some r
def marks:List (D×List D)->Bool
 | []=>true
 | (d,_)::r=>match d with
  | .mf=>marks r
  | _=>false
theorem rG {C:au}{s:St}:∀ {l:List (D×List D)},marks l=true->leave C l s=some s
 | [],_=>rfl
 | (d,q)::r,h=>by
  simp only [marks]at h;split at h
  ·simp only [leave]; exact rG h
  ·cases h
theorem Ev.mk {f:Nat}{fn:dS}{l:List D}{s:St}{e:Ex}{fr:Fr}{s1:St}{rs:List D}(hT:T f=some fn)(hx:rr T H fn.body { env:=uo 0 l,defers:=[]} s (e,fr,s1))(he:∀i,e≠ .exit i)(hd:marks fr.defers=true)(hr:kY fr.env s1 fn.results=some rs)(hy:yS l=false:=by rfl):Ev T H f l s (single rs,s1):=by
 obtain⟨n,hn⟩:=hx;refine⟨n+1, ?_⟩;rw [dH,hT,hy];simp only [nS,hn];cases e with
 | exit i=>exact absurd rfl (he i)
 | normal=>simp only [rG hd,hr]
 | ret=>simp only [rG hd,hr]
theorem rr.seq {a b:AC}{fr fr1:Fr}{s s1:St}{r:Ex×Fr×St}(h1:rr T H a fr s (.normal,fr1,s1))(h2:rr T H b fr1 s1 r):rr T H (.seq a b) fr s r:=by
 obtain⟨n,hn⟩:=h1;obtain⟨m,hm⟩:=h2;refine⟨max n m, ?_⟩;have l1:=gT (T:=T) (H:=H) (du n m);have l2:=gT (T:=T) (H:=H) (dF n m);rw [bW,cS l1.1 l1.2 hn];exact cS l2.1 l2.2 hm
theorem rr.aao {a b:AC}{fr fr1:Fr}{s s1:St}{e:Ex}(h1:rr T H a fr s (e,fr1,s1))(he:e≠ .normal):rr T H (.seq a b) fr s (e,fr1,s1):=by
 obtain⟨n,hn⟩:=h1;refine⟨n, ?_⟩;rw [bW,hn];cases e with
 | normal=>exact absurd rfl he
 | exit i=>rfl
 | ret=>rfl
theorem rr.aar {c:bP}{a b:AC}{fr:Fr}{s:St}{r:Ex×Fr×St}(hc:c.ev fr.env=some (.bool true))(h:rr T H a fr s r):rr T H (.cond c a b) fr s r:=by
 obtain⟨n,hn⟩:=h;exact⟨n,by rw [bW,hc]; exact hn⟩
theorem rr.aaY {c:bP}{a b:AC}{fr:Fr}{s:St}{r:Ex×Fr×St}(hc:c.ev fr.env=some (.bool false))(h:rr T H b fr s r):rr T H (.cond c a b) fr s r:=by
 obtain⟨n,hn⟩:=h;exact⟨n,by rw [bW,hc]; exact hn⟩
theorem rr.skip {fr:Fr}{s:St}:rr T H .skip fr s (.normal,fr,s):=⟨0,rfl⟩
theorem rr.ret {fr:Fr}{s:St}:rr T H .ret fr s (.ret,fr,s):=⟨0,rfl⟩
theorem rr.exit {i:Nat}{fr:Fr}{s:St}:rr T H (.exit i) fr s (.exit i,fr,s):=⟨0,rfl⟩
theorem rr.Aa {l:List bj}{fr fr1:Fr}{s s1:St}(h:PO T H 0 l fr s (fr1,s1)):rr T H (.Aa l) fr s (.normal,fr1,s1):=by
 obtain⟨n,hn⟩:=h;exact⟨n,by rw [bW,hn]⟩
theorem rr.block {id:Nat}{a:AC}{fr fr1:Fr}{s s1:St}{e:Ex}(h:rr T H a fr s (e,fr1,s1))(he:e≠ .exit id):rr T H (.block id a) fr s (e,fr1,s1):=by
 obtain⟨n,hn⟩:=h;refine⟨n, ?_⟩;rw [bW,hn];cases e with
 | normal=>rfl
 | ret=>rfl
 | exit i=>
  have:Nat.beq i id=false:=by
   cases hb:Nat.beq i id with
   | false=>rfl
   | true=>exact absurd (by rw [aF hb]) he
  simp only [this]
theorem rr.VB {id:Nat}{a:AC}{fr fr1:Fr}{s s1:St}(h:rr T H a fr s (.exit id,fr1,s1)):rr T H (.block id a) fr s (.normal,fr1,s1):=by
 obtain⟨n,hn⟩:=h;refine⟨n, ?_⟩;rw [bW,hn];simp only [az]
theorem rr.again {k:List Nat}{a:AC}{fr fr1:Fr}{s s1:St}{r:Ex×Fr×St}(h1:rr T H a { fr with env:=fr.env.bR k} s (.normal,fr1,s1))(h2:rr T H (.loop k a) fr1 s1 r)(hb:a.il=false:=by rfl):rr T H (.loop k a) fr s r:=by
 obtain⟨n,hn⟩:=h1;obtain⟨m,hm⟩:=h2;refine⟨max n m+1, ?_⟩;have l1:=gT (T:=T) (H:=H) (du n m);have l2:=gT (T:=T) (H:=H) (dF n m);rw [bW,iC _ _ _ _ hb,cS l1.1 l1.2 hn];rw [bW]at hm;exact l2.2 _ _ _ _ _ hm
theorem rr.stop {k:List Nat}{a:AC}{fr fr1:Fr}{s s1:St}{e:Ex}(h:rr T H a { fr with env:=fr.env.bR k} s (e,fr1,s1))(he:e≠ .normal)(hb:a.il=false:=by rfl):rr T H (.loop k a) fr s (e,fr1,s1):=by
 obtain⟨n,hn⟩:=h;refine⟨n+1, ?_⟩;rw [bW,iC _ _ _ _ hb,hn];cases e with
 | normal=>exact absurd rfl he
 | exit i=>rfl
 | ret=>rfl
theorem PO.nil {b:Nat}{fr:Fr}{s:St}:PO T H b [] fr s (fr,s):=⟨0,rfl⟩
theorem PO.cons {b:Nat}{o:bj}{l:List bj}{fr fr1:Fr}{s s1:St}{r:Fr×St}(h1:oper fD b o fr s=some (fr1,s1))(h2:PO T H b l fr1 s1 r):PO T H b (o::l) fr s r:=by
 obtain⟨n,hn⟩:=h2;refine⟨n, ?_⟩;rw [opers,oD (C' :=dH T H n) (fun f l s r h=>by simp [fD]at h) h1];exact hn
theorem PO.call {b:Nat}{o:bj}{l:List bj}{fr fr1:Fr}{s s1:St}{r:Fr×St}{f:Nat}{x:List D}{q:D×St}(hq:Ev T H f x s q)(h1:∀C:au,C f x s=some q->oper C b o fr s=some (fr1,s1))(h2:PO T H b l fr1 s1 r):PO T H b (o::l) fr s r:=by
 obtain⟨n,hn⟩:=hq;obtain⟨m,hm⟩:=h2;refine⟨max n m, ?_⟩;have l1:=gT (T:=T) (H:=H) (du n m);have l2:=gT (T:=T) (H:=H) (dF n m);rw [opers,h1 _ (l1.1 _ _ _ _ hn)];exact qV l2.1 hm
end Go.Ab
namespace Go.Ab
open Go
variable {T:Nat->Option dS}{H:au}{b:Nat}{fr fr1:Fr}{s s1:St}{a c:AC}{l:List bj}
def Wp (T:Nat->Option dS)(H:au)(a:AC)(fr:Fr)(s:St)(Q:Ex->Fr->St->Prop):Prop:=∃e fr' s',rr T H a fr s (e,fr',s')/\Q e fr' s'
def SD (T:Nat->Option dS)(H:au)(b:Nat)(l:List bj)(fr:Fr)(s:St)(Q:Fr->St->Prop):Prop:=∃fr' s',PO T H b l fr s (fr',s')/\Q fr' s'
theorem wp_seq {Q:Ex->Fr->St->Prop}(h:Wp T H a fr s fun e f1 s1=>match e with | .normal=>Wp T H c f1 s1 Q | e=>Q e f1 s1):Wp T H (.seq a c) fr s Q:=by
 obtain⟨e,f1,s1,h1,h2⟩:=h;cases e with
 | normal=>obtain ⟨e2,f2,s2,h3,h4⟩:=h2; exact ⟨e2,f2,s2,.seq h1 h3,h4⟩
 | exit i=>exact ⟨_,f1,s1,.aao h1 (by simp),h2⟩
 | ret=>exact ⟨_,f1,s1,.aao h1 (by simp),h2⟩
theorem Ww {Q:Ex->Fr->St->Prop}(h:SD T H 0 l fr s (Q .normal)):Wp T H (.Aa l) fr s Q:=by
 obtain⟨f1,s1,h1,h2⟩:=h;exact⟨_,f1,s1,.Aa h1,h2⟩
theorem uu {o:bj}{f:Nat}{x:List D}{q:D×St}{Q:Fr->St->Prop}(hq:Ev T H f x s q)(h1:∀C:au,C f x s=some q->oper C b o fr s=some (fr1,s1))(h2:SD T H b l fr1 s1 Q):SD T H b (o::l) fr s Q:=by
 obtain⟨f2,s2,h3,h4⟩:=h2;exact⟨f2,s2,.call hq h1 h3,h4⟩
theorem OI {o:bj}{Q:Fr->St->Prop}(h1:oper fD b o fr s=some (fr1,s1))(h2:SD T H b l fr1 s1 Q):SD T H b (o::l) fr s Q:=by
 obtain⟨f2,s2,h3,h4⟩:=h2;exact⟨f2,s2,.cons h1 h3,h4⟩
theorem wp_cond {k:bP}{v:Bool}{Q:Ex->Fr->St->Prop}(hc:k.ev fr.env=some (.bool v))(h:if v=true then Wp T H a fr s Q else Wp T H c fr s Q):Wp T H (.cond k a c) fr s Q:=by
 cases v with
 | true=>obtain ⟨e,f1,s1,h1,h2⟩:=h; exact ⟨e,f1,s1,.aar hc h1,h2⟩
 | false=>obtain ⟨e,f1,s1,h1,h2⟩:=h; exact ⟨e,f1,s1,.aaY hc h1,h2⟩
theorem wp_skip {Q:Ex->Fr->St->Prop}(h:Q .normal fr s):Wp T H .skip fr s Q:=⟨_,_,_,.skip,h⟩
theorem wp_ret {Q:Ex->Fr->St->Prop}(h:Q .ret fr s):Wp T H .ret fr s Q:=⟨_,_,_,.ret,h⟩
theorem wp_exit {i:Nat}{Q:Ex->Fr->St->Prop}(h:Q (.exit i) fr s):Wp T H (.exit i) fr s Q:=⟨_,_,_,.exit,h⟩
theorem wp_block {id:Nat}{Q:Ex->Fr->St->Prop}(h:Wp T H a fr s fun e f1 s1=>match e with | .exit i=>if i=id then Q .normal f1 s1 else Q (.exit i) f1 s1 | e=>Q e f1 s1):Wp T H (.block id a) fr s Q:=by
 obtain⟨e,f1,s1,h1,h2⟩:=h;cases e with
 | normal=>exact ⟨_,f1,s1,.block h1 (by simp),h2⟩
 | ret=>exact ⟨_,f1,s1,.block h1 (by simp),h2⟩
 | exit i=>
  by_cases hi:i=id
  ·subst hi;simp only [ep]at h2;exact⟨_,f1,s1,.VB h1,h2⟩
  ·simp only [aJ hi]at h2;exact⟨_,f1,s1,.block h1 (by simpa using hi),h2⟩
theorem wp_loop {k:List Nat}{Q:Ex->Fr->St->Prop}(I:Nat->Fr->St->Prop)(hI:∀n fr s,I n fr s->Wp T H a { fr with env:=fr.env.bR k} s fun e f1 s1=>match e with | .normal=>∃m,m < n/\I m f1 s1 | e=>Q e f1 s1)(hb:a.il=false:=by rfl):
  ∀n fr s,I n fr s->Wp T H (.loop k a) fr s Q:=by
 intro n;induction n using Nat.strongRecOn with
 | ind n ih=>
  intro fr s h;obtain⟨e,f1,s1,h1,h2⟩:=hI n fr s h;cases e with
  | normal=>
   obtain⟨m,hm,h3⟩:=h2;obtain⟨e2,f2,s2,h4,h5⟩:=ih m hm f1 s1 h3;exact⟨e2,f2,s2,.again h1 h4 hb,h5⟩
  | exit i=>exact ⟨_,f1,s1,.stop h1 (by simp) hb,h2⟩
  | ret=>exact ⟨_,f1,s1,.stop h1 (by simp) hb,h2⟩
theorem Wp.mono {Q Q' :Ex->Fr->St->Prop}(h:Wp T H a fr s Q)(hQ:∀e f1 s1,Q e f1 s1->Q' e f1 s1):Wp T H a fr s Q' :=by
 obtain⟨e,f1,s1,h1,h2⟩:=h;exact⟨e,f1,s1,h1,hQ _ _ _ h2⟩
theorem Dx {f:Nat}{fn:dS}{x:List D}{R:D->St->Prop}(hT:T f=some fn)
  (h:Wp T H fn.body { env:=uo 0 x,defers:=[]} s fun e f1 s1=>(∀i,e≠ .exit i)/\marks f1.defers=true/\∃rs,kY f1.env s1 fn.results=some rs/\R (single rs) s1)(hy:yS x=false:=by rfl):∃d s1,Ev T H f x s (d,s1)/\R d s1:=by
 obtain⟨e,f1,s1,h1,h2,h3,rs,h4,h5⟩:=h;exact⟨_,s1,.mk hT h1 h2 h3 h4 hy,h5⟩
end Go.Ab
namespace Go.Ab
open Go
inductive Sh where
 | bool | int (k:IntKind) | str
 | slice (sz:Nat) (one:Bool) (e:Sh)
 | st (l:List Sh)
def R9 (one:Bool)(l:List D):D:=match one with
 | true=>l.headD .cT
 | false=> .agg l
variable [eW]
variable {H:Type}{enc:TypeId×Value->H}{P:Program}{w:World}
theorem br.len {ρ:Gh}:∀ {ds:List D} {vs:List Value},br ρ w ds vs->ds.length=vs.length
 | [],vs,h=>by simp only [br]at h; subst h; rfl
 | d::l,vs,h=>by
  simp only [br]at h;obtain⟨v,r,rfl,_,h2⟩:=h;simp [br.len h2]
theorem br.app {ρ:Gh}:∀ {a b:List D} {u v:List Value},br ρ w a u->br ρ w b v->br ρ w (a++b) (u++v)
 | [],b,u,v,h,k=>by simp only [br]at h; subst h; simpa using k
 | d::l,b,u,v,h,k=>by
  simp only [br]at h;obtain⟨x,r,rfl,h1,h2⟩:=h;simp only [iL,br];exact⟨x,_,rfl,h1,br.app h2 k⟩
theorem br.lit {ρ:Gh}{d:D}{v:Value}(h:aS ρ w d v):br ρ w [d] [v]:=by
 simp only [br];exact⟨v,[],rfl,h,rfl⟩
theorem br.inv1 {ρ:Gh}{d:D}{vs:List Value}(h:br ρ w [d] vs):∃v,vs=[v]/\aS ρ w d v:=by
 simp only [br]at h;obtain⟨v,r,rfl,h1,rfl⟩:=h;exact⟨v,rfl,h1⟩
end Go.Ab
namespace Go.Ab
open Go
mutual
def qg:Sh->List D->Prop
 | .bool,ds=>∃b,ds=[.bool b]
 | .int k,ds=>∃n,ds=[.int k n]/\(Lit.int k n).wf=true
 | .str,ds=>∃s,ds=[.str s]/\s.length<=reachBytes
 | .slice sz one e,ds=>∃nl L,ds=[.vs nl sz L]/\(nl=true->L=[])/\L.length<=reachBytes/\∀d,d∈L->∃l,d=R9 one l/\qg e l
 | .st fs,ds=>BV fs ds
def BV:List Sh->List D->Prop
 | [],ds=>ds=[]
 | s::r,ds=>∃a b,ds=a++b/\qg s a/\BV r b
end
mutual
def ql (P:Program):Sh->TypeId->Prop
 | .bool,t=>P.underlying t=some .bool
 | .int k,t=>P.underlying t=some (.int k)
 | .str,t=>P.underlying t=some .string
 | .slice sz one e,t=>∃u,P.underlying t=some (.slice u)/\P.cellsOf u=sz/\0 < sz/\(one=true->sz=1)/\0 < P.bytesOf u/\ql P e u
 | .st fs,t=>∃fl,P.underlying t=some (.struct fl)/\qP P fs fl.toList 0 (P.cellsOf t)
def qP (P:Program):List Sh->List Field->Nat->Nat->Prop
 | [],[],off,n=>off=n
 | s::r,f::fl,off,n=>f.offset=off/\ql P s f.type/\qP P r fl (off+P.cellsOf f.type) n
 | _,_,_,_=>False
end
section
variable {H:Type}{P:Program}
theorem se {e:TypeId}{d:DataW H}{b:Nat}:∀ {l:List (DataW H)},d∈l->b∈d.weights P e->b∈DataW.weightsAll P e l
 | [],h,_=>by cases h
 | x::r,h,hb=>by
  unfold DataW.weightsAll;rw [bK];rcases bS.1 h with rfl | h
  ·exact .inl hb
  ·exact .inr (se h hb)
theorem nN {t:TypeId}{d:DataW H}{b:Nat}:∀ {i:Nat} {ts:List TypeId} {l:List (DataW H)},ts[i]? =some t->l[i]? =some d->b∈d.weights P t->b∈DataW.weightsEach P ts l
 | _,[],_,h,_,_=>by simp at h
 | _,_::_,[],_,h,_=>by simp at h
 | 0,t' ::ts,x::r,h1,h2,hb=>by
  simp only [aQ,aa]at h1 h2;subst h1; subst h2;unfold DataW.weightsEach;exact bK.2 (.inl hb)
 | i+1,t' ::ts,x::r,h1,h2,hb=>by
  unfold DataW.weightsEach;exact bK.2 (.inr (nN (by simpa using h1) (by simpa using h2) hb))
end
variable [eW]
variable {H:Type}{enc:TypeId×Value->H}{P:Program}{w:World}
mutual
theorem vx:∀(s:Sh) (n:Nat) (t:TypeId) (cs:List Value) (x:DataW H×List MemPlace),ql P s t->DataW.trod enc P w 0 (fun _=>true) true n t cs=some x->(∀b∈x.1.weights P t,b<=reachBytes)->∃ds,br tH w ds cs/\qg s ds/\ds.all D.sc=true
 | .bool,n,t,cs,x,hs,h,_=>by
  simp only [ql]at hs;obtain⟨b,rfl,_⟩:=DataW.trod_bool hs h;exact⟨[.bool b],br.lit (by simp [aS]),⟨b,rfl⟩,rfl⟩
 | .int k,n,t,cs,x,hs,h,_=>by
  simp only [ql]at hs;obtain⟨m,rfl,_,hw⟩:=DataW.trod_int hs h;exact⟨[.int k m],br.lit (by simp [aS]),⟨m,rfl,hw⟩,rfl⟩
 | .str,n,t,cs,x,hs,h,hw=>by
  simp only [ql]at hs;obtain⟨b,rfl,rfl,hl⟩:=DataW.trod_string hs h;exact⟨[.str b.data.toList],br.lit (by simp [aS]),⟨_,rfl,hw _ (by simp [DataW.weights])⟩,rfl⟩
 | .slice sz one e,n,t,cs,x,hs,h,hw=>by
  simp only [ql]at hs;obtain⟨u,hu,hc,h0,nM,O4,he⟩:=hs;rcases Deep.open_slice hu h with ⟨rfl,rfl⟩ | ⟨a,len,cap,m,n',Df,Pl,rfl,hb,hl,hm,hmm,rfl,hx⟩
  ·exact⟨[.vs true sz []],br.lit (by simp [aS]),⟨true,[],rfl,fun _=>rfl,by simp,fun d hd=>by cases hd⟩,rfl⟩
  ·have hmc:m=cap:=by rw [hmm]; rfl
   subst hmc;have yv:DataW.weights P t (.slice ((List.range len).map Df) ((List.range (m - len)).map fun j=>Df (len+j)))=(((List.range len).map Df).length+((List.range (m - len)).map fun j=>Df (len+j)).length) * P.bytesOf u::(DataW.weightsAll P u ((List.range len).map Df)++DataW.weightsAll P u ((List.range (m - len)).map fun j=>Df (len+j))):=by
    simp only [DataW.weights,hu]
   simp only [yv,bS,bK]at hw;have hlr:len<=reachBytes:=by
    have h1:=hw _ (.inl rfl);rw [aH,pR]at h1;have h2:len<=(len+((List.range (m - len)).map fun j=>Df (len+j)).length) * P.bytesOf u:=cU (Nat.le_add_right _ _) (Nat.le_mul_of_pos_right _ O4);omega
   have key:∀i,i < len->∃d l v,d=R9 one l/\qg e l/\aS tH w d v/\v.cells.size=sz/\d.st=true/\∀j,j < sz->w.cell? ((a.add (i * sz)).add j)=v.cells[j]? :=by
    intro i hi;obtain⟨cs',h1,h2⟩:=hx i (by omega);rw [hc]at h1;obtain⟨_,hlen,lC⟩:=World.cells?_some h1;obtain⟨l,g1,g2,g3⟩:=vx e n' u cs' _ he h2 (fun b jm =>hw b (.inr (.inl (se (jO.2 ⟨i,mg.2 hi,rfl⟩) jm))));have tV:=g1.len;cases one with
    | false=>
     refine⟨.agg l,l,.agg cs'.toArray,rfl,g2, ?_,by simp [Value.cells,hlen],by simp [D.st,g3],fun j hj=> ?_⟩
     ·simp only [aS]; exact ⟨_,rfl,by simpa using g1,g3⟩
     ·rw [lC j hj]; simp [Value.cells]
    | true=>
     have h1:=nM rfl;subst h1
     match l,tV with
     | [d],tV=>
      obtain⟨v,rfl,hv⟩:=g1.inv1;simp only [gQ,List.all_nil,lG]at g3;obtain⟨_,hvc⟩:=hv.sc g3;refine⟨d,[d],v,rfl,g2,hv,by rw [hvc]; rfl,D.L8 g3,fun j hj=> ?_⟩;rw [lC j hj,hvc]; simp
     | [],tV=>simp [hlen]at tV
     | _::_::_,tV=>simp [hlen]at tV
   have build:∀k,k<=len->∃L:List D,L.length=k/\(∀d,d∈L->∃l,d=R9 one l/\qg e l)/\
     ∀i d,L[i]? =some d->∃v,aS tH w d v/\v.cells.size=sz/\d.st=true/\∀j,j < sz->w.cell? ((a.add (i * sz)).add j)=v.cells[j]? :=by
    intro k;induction k with
    | zero=>intro _; exact ⟨[],rfl,fun d hd=>(by cases hd),fun i d hd=>by simp at hd⟩
    | succ k ih=>
     intro hk;obtain⟨L,l1,l2,l3⟩:=ih (by omega);obtain⟨d,l,v,k1,k2,k3,k4,k5,k6⟩:=key k (by omega);refine⟨L++ [d],by simp [l1],fun q hq=> ?_,fun i q hq=> ?_⟩
     ·rcases bK.1 hq with hq | hq
      ·exact l2 q hq
      ·simp only [cG]at hq; subst hq; exact ⟨l,k1,k2⟩
     ·rcases aG i L.length with hi | hi
      ·rw [aO hi]at hq; exact l3 i q hq
      ·rw [aT hi]at hq;have:i - L.length=0:=by
        rcases ec (i - L.length) with h | h
        ·exact h
        ·rw [eJ (by simp; omega)]at hq; cases hq
       rw [this]at hq;simp only [aQ,aa]at hq; subst hq;have:i=k:=by omega
       subst this;exact⟨v,k3,k4,k5,k6⟩
   obtain⟨L,l1,l2,l3⟩:=build len (an _);refine⟨[.vs false sz L],br.lit ?_,⟨false,L,rfl,fun h=>(by cases h),by omega,l2⟩,rfl⟩;simp only [aS];refine .inr ⟨trivial,a,m,by rw [l1],by omega, ?_⟩;by_cases hL:L=[]
   ·exact .inl hL
   ·right
    have KH:0 < len:=by
     rcases ec len with h | h
     ·exact absurd (ef (l1.trans h)) hL
     ·exact h
    have N4:a.spot=none:=by
     obtain⟨d,l,v,k1,k2,k3,k4,k5,k6⟩:=key 0 (by omega);have:=k6 0 h0;simp only [oy,Addr.add,ep]at this;rw [cz (by omega)]at this;unfold World.cell? at this;split at this
     ·split at this
      ·cases this
      ·rename_i hh; simpa using hh
     ·cases this
    refine⟨a.block,a.off,by cases a; simp only [Addr.mk.injEq,true_and]; exact N4,rfl, ?_⟩
    have acd:∀q j,((a.add q).add j)=⟨a.block,a.off+q+j,none⟩:=fun q j=>by
     cases a;simp only at N4;subst N4;rw [Addr.add_mid,Addr.add_mid]
    refine fX.of h0 _ _ fun i d hd=> ?_;obtain⟨v,v1,v2,v3,v4⟩:=l3 i d hd;refine⟨v,v1,v2,fun j hj=> ?_,v3⟩;rw [v2]at hj;have:=v4 j hj;rw [acd]at this;exact this
 | .st fs,n,t,cs,x,hs,h,hw=>by
  simp only [ql]at hs;obtain⟨fl,hu,hf⟩:=hs;obtain⟨xs,n',rfl,rfl,hlen,hxs,hg⟩:=DataW.trod_struct hu h
  have Wq :∀(i:Nat) (f:Field),fl.toList[i]? =some f->∃y,DataW.trod enc P w 0 (fun _=>true) true n' f.type ((cs.drop f.offset).take (P.cellsOf f.type))=some y/\∀b∈y.1.weights P f.type,b<=reachBytes:=fun i f hi=>by
   have hi' :fl[i]? =some f:=by simpa using hi
   rw [hg i f hi'];have:i < fl.size:=by
    rcases aG i fl.size with h | h
    ·exact h
    ·rw [cw h]at hi'; cases hi'
   have yb :xs[i]? =some (xs[i]'(by omega)):=ae (by omega);refine⟨_,yb,fun b hb=>hw b ?_⟩;show b∈DataW.weights P t (.agg (xs.map (·.1)));unfold DataW.weights;rw [hu];exact nN (i:=i) (by rw [aE,hi]; rfl) (by rw [aE,yb]; rfl) hb
  obtain⟨ds,g1,g2,g3⟩:=xQ fs fl.toList 0 (P.cellsOf t) n' cs hf hlen (fun i f hi=>Wq i f hi);exact⟨ds,by simpa using g1,g2,g3⟩
theorem xQ:∀(fs:List Sh) (fl:List Field) (off N n:Nat) (cs:List Value),qP P fs fl off N->cs.length=N->(∀(i:Nat) (f:Field),fl[i]? =some f->∃y:DataW H×List MemPlace,DataW.trod enc P w 0 (fun _=>true) true n f.type ((cs.drop f.offset).take (P.cellsOf f.type))=some y/\∀b∈y.1.weights P f.type,b<=reachBytes)->
  ∃ds,br tH w ds (cs.drop off)/\BV fs ds/\ds.all D.sc=true
 | [],fl,off,N,n,cs,hs,hl,_=>by
  cases fl with
  | nil=>
   simp only [qP]at hs;refine⟨[], ?_,rfl,rfl⟩;rw [dI (by omega)];simp [br]
  | cons _ _=>simp [qP]at hs
 | s::r,fl,off,N,n,cs,hs,hl,hg=>by
  cases fl with
  | nil=>simp [qP]at hs
  | cons f fl=>
   simp only [qP]at hs;obtain⟨h1,h2,h3⟩:=hs;obtain⟨y,hy,hyw⟩:=hg 0 f rfl;obtain⟨a,a1,a2,a3⟩:=vx s n f.type _ y h2 hy hyw;obtain⟨b,b1,b2,b3⟩:=xQ r fl (off+P.cellsOf f.type) N n cs h3 hl (fun i g hi=>hg (i+1) g (by simpa using hi));refine⟨a++b, ?_,⟨a,b,rfl,a2,b2⟩,by simp [a3,b3]⟩;have:=br.app a1 b1;rw [h1]at this;rwa [show List.take (P.cellsOf f.type) (List.drop off cs)++List.drop (off+P.cellsOf f.type) cs=List.drop off cs by rw [← List.drop_drop]; exact gK _ _]at this
end
theorem GB {t u:TypeId}{sz:Nat}{one:Bool}{e:Sh}{v:Value}{d:DataW H}{ps:List MemPlace}{base:Nat}(hs:ql P (.slice sz one e) t)(hu:P.underlying t=some (.slice u))(hv:Value.okWide P w .any base t v)
  (h:DataW.Trod enc P w 0 (fun _=>true) true t v d ps)(hw:∀b∈d.weights P t,b<=reachBytes):∃nl L,aS tH w (.vs nl sz L) v/\qg (.slice sz one e) [.vs nl sz L]:=by
 obtain⟨n,h⟩:=h;have hc:∃a k c,v= .slice a k c:=by
  simp only [Value.okWide,hu,Cell.okWide]at hv;unfold Cell.ok at hv;rw [hu]at hv
  split at hv <;> first
   | (rename_i h1 _; simp at h1; done)
   | exact ⟨_,_,_,rfl⟩
   | (simp_all; done)
   | exact hv.elim
 obtain⟨a,k,c,rfl⟩:=hc;obtain⟨ds,g1,g2,g3⟩:=vx _ n t _ _ hs h hw;have qN:(Value.slice a k c).cells.toList=[.slice a k c]:=rfl;rw [qN]at g1;simp only [qg]at g2;obtain⟨nl,L,rfl,q0,q1,q2⟩:=g2;obtain⟨v',CL,g1⟩:=g1.inv1;simp only [ey,iv]at CL;subst CL;exact⟨nl,L,g1,by simp only [qg]; exact ⟨nl,L,rfl,q0,q1,q2⟩⟩
end Go.Ab
