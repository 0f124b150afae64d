/- Part. -/
import Derived.Test.YtjaldhgmboeffaaGreatDoorG18
import Derived.Deep.Slices
import Derived.ChangeArms
set_option linter.unusedSimpArgs false
set_option linter.unusedVariables false
set_option linter.unusedSectionVars false
namespace Go.Ab
open Go
variable [eV]
def T.beq:T Obj->T Obj->Bool
 | .nil,.nil=>true
 | .node o l r,.node o' l' r' =>(match o,o' with
  | none,none=>true
  | some x,some y=>Obj.beq x y
  | _,_=>false) && (T.beq l l' && T.beq r r')
 | _,_=>false
theorem T.aW:∀a:T Obj,T.beq a a=true
 | .nil=>rfl
 | .node o l r=>by
  simp only [T.beq,T.aW l,T.aW r,lJ];cases o with
  | none=>rfl
  | some x=>exact Obj.aW x
theorem T.beq_eq:∀(a b:T Obj),T.beq a b=true->a=b
 | .nil,.nil,_=>rfl
 | .node o l r,.node o' l' r',h=>by
  simp only [T.beq,aB]at h;obtain⟨h1,h2,h3⟩:=h;rw [T.beq_eq _ _ h2,T.beq_eq _ _ h3]
  cases o <;> cases o' <;> simp only at h1 <;> first
   | rfl
   | (cases h1; done)
   | rw [Obj.beq_eq _ _ h1]
 | .nil,.node _ _ _,h=>by simp [T.beq]at h
 | .node _ _ _,.nil,h=>by simp [T.beq]at h
def St.beq (s s' :St):Bool:=Nat.beq s.n s'.n && (s.ro==s'.ro && (s.lk==s'.lk && T.beq s.h s'.h))
theorem St.beq_eq (s s' :St)(h:St.beq s s' =true):s=s' :=by
 cases s; cases s';simp only [St.beq,aB,iQ,ib]at h;obtain⟨rfl,rfl,rfl,h⟩:=h;rw [T.beq_eq _ _ h]
theorem St.aW (s:St):St.beq s s=true:=by simp [St.beq,T.aW]
mutual
def D.im:D->Bool
 | .ptr _ _=>false
 | .jI _ _ _ _=>false
 | .sl _ _ _ _=>false
 | .mp _=>false
 | .lv _=>false
 | .yl _=>false
 | .jD e _=>e.im
 | .vs _ _ l=>D.Ld l
 | .fn _ a c=>D.Ld a && D.Ld c
 | .ia _ d=>d.im
 | .agg l=>D.Ld l
 | .gK l=>D.Ld l
 | _=>true
def D.Ld:List D->Bool
 | []=>true
 | d::l=>d.im && D.Ld l
end
mutual
def D.pl:D->Bool
 | .ptr _ _=>false
 | .jI _ _ _ _=>false
 | .sl _ _ _ _=>false
 | .mp _=>false
 | .yl _=>false
 | .jD _ _=>false
 | .vs nl _ _=>nl
 | .fn _ a c=>D.WA a && D.WA c
 | .ia _ d=>d.pl
 | .agg l=>D.WA l
 | .gK l=>D.WA l
 | _=>true
def D.WA:List D->Bool
 | []=>true
 | d::l=>d.pl && D.WA l
end
section
variable {ρ ρ' :Gh} {w w' :World}{P:Program}{pn:jn}{G:Gl}{s:St}{C:ay}
mutual
theorem aU.pl:∀(d:D) (v:Value),d.pl=true->aU ρ w d v->aU ρ' w' d v
 | .bool _,_,_,r=>by simpa only [aU] using r
 | .int _ _,_,_,r=>by simpa only [aU] using r
 | .str _,_,_,r=>by simpa only [aU] using r
 | .cz,_,_,r=>by simpa only [aU] using r
 | .ptr _ _,_,h,_=>by simp [D.pl]at h
 | .jI _ _ _ _,_,h,_=>by simp [D.pl]at h
 | .jD _ _,_,h,_=>by simp [D.pl]at h
 | .vs nl sz l,_,h,r=>by
  simp only [D.pl]at h; subst h;simp only [aU]at *;rcases r with r | ⟨r,_⟩
  ·exact .inl r
  ·cases r
 | .sl _ _ _ _,_,h,_=>by simp [D.pl]at h
 | .qz,_,_,r=>by simpa only [aU] using r
 | .mp _,_,h,_=>by simp [D.pl]at h
 | .fn f a c,_,h,r=>by
  simp only [D.pl,aB]at h;simp only [aU]at *;obtain⟨va,vc,h1,h2,h3⟩:=r;exact⟨va,vc,h1,bw.pl a _ h.1 h2,bw.pl c _ h.2 h3⟩
 | .mw,_,_,r=>by simpa only [aU] using r
 | .ia t d,_,h,r=>by
  simp only [D.pl]at h;simp only [aU]at *;obtain⟨u,h1,h2⟩:=r;exact⟨u,h1,aU.pl d u h h2⟩
 | .ow,_,_,r=>by simpa only [aU] using r
 | .agg l,_,h,r=>by
  simp only [D.pl]at h;simp only [aU]at *;obtain⟨vs,h1,h2,h3⟩:=r;exact⟨vs,h1,bw.pl l _ h h2,h3⟩
 | .gK l,_,h,r=>by
  simp only [D.pl]at h;simp only [aU]at *;obtain⟨vs,h1,h2⟩:=r;exact⟨vs,h1,bw.pl l _ h h2⟩
 | .lv _,_,_,r=>by simp only [aU]at r
 | .iG _ _,_,_,r=>by simp only [aU]at r
 | .sint _ _ _ _,_,_,r=>by simpa only [aU] using r
 | .pj _ _ _ _,_,_,r=>by simpa only [aU] using r
 | .rl _,_,_,r=>by simpa only [aU] using r
 | .yl _,_,h,_=>by simp [D.pl]at h
theorem bw.pl:∀(l:List D) (vs:List Value),D.WA l=true->bw ρ w l vs->bw ρ' w' l vs
 | [],_,_,r=>by simpa only [bw] using r
 | d::l,_,h,r=>by
  simp only [D.WA,aB]at h;simp only [bw]at *;obtain⟨v,t,h1,h2,h3⟩:=r;exact⟨v,t,h1,aU.pl d v h.1 h2,bw.pl l t h.2 h3⟩
end
def xc (ρ:Gh)(w:World) (ρ' :Gh) (w' :World):Prop:=∀b,b < w.heap.size->ρ.own b= .zO->ρ'.own b= .zO/\w'.heap[b]? =w.heap[b]?
mutual
theorem aU.im (h:xc ρ w ρ' w'):∀(d:D) (v:Value),d.im=true->aU ρ w d v->aU ρ' w' d v
 | .bool _,_,_,r=>by simpa only [aU] using r
 | .int _ _,_,_,r=>by simpa only [aU] using r
 | .str _,_,_,r=>by simpa only [aU] using r
 | .cz,_,_,r=>by simpa only [aU] using r
 | .ptr _ _,_,h,_=>by simp [D.im]at h
 | .jI _ _ _ _,_,h,_=>by simp [D.im]at h
 | .jD e c,_,hi,r=>by
  simp only [D.im]at hi;simp only [aU]at *;obtain⟨b,x,u,h1,h2,h3,h4,h5⟩:=r;obtain⟨k1,k2⟩:=h b (h3.lt h4.1) h1;exact⟨b,x,u,k1,aU.im h e u hi h2,h3.of_heap k2,h4,h5⟩
 | .vs nl sz l,_,hi,r=>by
  simp only [D.im]at hi;simp only [aU]at *;rcases r with r | ⟨r1,ad,cap,r2,r3,r4⟩
  ·exact .inl r
  ·refine .inr ⟨r1,ad,cap,r2,r3, ?_⟩;rcases r4 with r4 | ⟨b,x,r0,r4,r5⟩
   ·exact .inl r4
   ·cases l with
    | nil=>exact .inl rfl
    | cons d l=>
     have hb:b < w.heap.size:=by
      simp only [gy]at r5;obtain⟨⟨v,_,e1,e2,e3,_⟩,_⟩:=r5;exact e3.lt (by omega)
     obtain⟨k1,k2⟩:=h b hb r4;exact .inr ⟨b,x,r0,k1,gy.im h sz b k2 x (d::l) hi r5⟩
 | .sl _ _ _ _,_,h,_=>by simp [D.im]at h
 | .qz,_,_,r=>by simpa only [aU] using r
 | .mp _,_,h,_=>by simp [D.im]at h
 | .fn f a c,_,hi,r=>by
  simp only [D.im,aB]at hi;simp only [aU]at *;obtain⟨va,vc,h1,h2,h3⟩:=r;exact⟨va,vc,h1,bw.im h a _ hi.1 h2,bw.im h c _ hi.2 h3⟩
 | .mw,_,_,r=>by simpa only [aU] using r
 | .ia t d,_,hi,r=>by
  simp only [D.im]at hi;simp only [aU]at *;obtain⟨u,h1,h2⟩:=r;exact⟨u,h1,aU.im h d u hi h2⟩
 | .ow,_,_,r=>by simpa only [aU] using r
 | .agg l,_,hi,r=>by
  simp only [D.im]at hi;simp only [aU]at *;obtain⟨vs,h1,h2,h3⟩:=r;exact⟨vs,h1,bw.im h l _ hi h2,h3⟩
 | .gK l,_,hi,r=>by
  simp only [D.im]at hi;simp only [aU]at *;obtain⟨vs,h1,h2⟩:=r;exact⟨vs,h1,bw.im h l _ hi h2⟩
 | .lv _,_,_,r=>by simp only [aU]at r
 | .iG _ _,_,_,r=>by simp only [aU]at r
 | .sint _ _ _ _,_,_,r=>by simpa only [aU] using r
 | .pj _ _ _ _,_,_,r=>by simpa only [aU] using r
 | .rl _,_,_,r=>by simpa only [aU] using r
 | .yl _,_,h,_=>by simp [D.im]at h
theorem bw.im (h:xc ρ w ρ' w'):∀(l:List D) (vs:List Value),D.Ld l=true->bw ρ w l vs->bw ρ' w' l vs
 | [],_,_,r=>by simpa only [bw] using r
 | d::l,_,hi,r=>by
  simp only [D.Ld,aB]at hi;simp only [bw]at *;obtain⟨v,t,h1,h2,h3⟩:=r;exact⟨v,t,h1,aU.im h d v hi.1 h2,bw.im h l t hi.2 h3⟩
theorem gy.im (h:xc ρ w ρ' w')(sz b:Nat)(hb:w'.heap[b]? =w.heap[b]?):∀(x:Nat) (l:List D),D.Ld l=true->gy ρ w sz b x l->gy ρ' w' sz b x l
 | _,[],_,_=>by simp only [gy]
 | x,d::l,hi,r=>by
  simp only [D.Ld,aB]at hi;simp only [gy]at *;obtain⟨⟨v,h1,h2,h3,h4,h6⟩,h5⟩:=r;exact⟨⟨v,aU.im h d v hi.1 h1,h2,h3,h4.of_heap hb,h6⟩,gy.im h sz b hb (x+sz) l hi.2 h5⟩
end
def st0:St:=⟨0,.nil,[],false⟩
def alone (C:ay):ay:=fun f l s=>match D.Ld l with
 | true=>match C f l st0 with
  | some (d,_)=>match d.pl with
   | true=>some (d,s)
   | false=>none
  | none=>none
 | false=>none
theorem J5 {C:ay}:zn (alone C):=by
 intro f l s d s' s1 hs h;unfold alone at h ⊢;split at h
 ·split at h
  ·split at h
   ·simp only [aa,ae]at h;obtain⟨rfl,rfl⟩:=h;exact⟨rfl,rfl⟩
   ·cases h
  ·cases h
 ·cases h
theorem Nx (hC:dR .none P G C)(hG:∀g d,G g=some d->d.im=true):dR .none P G (alone C):=by
 refine⟨fun f l s r h hy args w=> ?_,fun f l s d s' ρ w vs h hs hg hr=> ?_,fun f l s d s' _ h=> ?_,fun y l s d s' ρ w u vs h=>by simp [alone,D.Ld,D.im]at h,J5⟩
 ·unfold alone at h;split at h
  ·split at h
   ·rename_i h1; exact hC.enter f l st0 _ h1 hy args w
   ·cases h
  ·cases h
 ·unfold alone at h;split at h
  ·rename_i Py;split at h
   ·rename_i d1 s1 h1;split at h
    ·rename_i I3;simp only [aa,ae]at h;obtain⟨rfl,rfl⟩:=h;let ρ0:Gh:= { ρ with own:=fun b=>match ρ.own b with | .obj _=> .qu | x=>x,kd:=fun _=> .fresh}
     have Fs:∀b o,ρ0.own b≠ .obj o:=fun b o=>by
      show (match ρ.own b with | .obj _=>Own.qu | x=>x)≠ .obj o;split
      ·simp
      ·rename_i h; exact fun e=>h o e
     have aaK:∀b,ρ.own b= .zO->ρ0.own b= .zO:=fun b hb=>by
      show (match ρ.own b with | .obj _=>Own.qu | x=>x)= .zO;rw [hb]
     have hS:xc ρ w ρ0 w:=fun b _ hb=>⟨aaK b hb,rfl⟩;have Az:ck ρ0 st0 w:=by
      refine⟨fun o x hx=> ?_,fun o x hx=> ?_,fun o _=>rfl,fun b o hb=>absurd hb (Fs b o),fun b hb=>aaK b (hs.size b hb)⟩
      ·simp [st0,St.get,T.get]at hx
      ·simp [st0,St.get,T.get]at hx
     have hg0:gN .none G ρ0 w:=⟨fun g d hd=>aU.im hS (.jD d 0) _ (by simp only [D.im]; exact hG g d hd) (hg.1 g d hd),trivial⟩;refine (hC.calls f l st0 d1 s1 ρ0 w vs h1 Az hg0 (bw.im hS l vs Py hr)).mono fun e w' he=> ?_;cases e with
     | panicked _=>exact he
     | outgrown=>exact he
     | returned v=>
      obtain⟨ρ1,k1,k2,k3⟩:=he;have rB:∀b,b < w.heap.size->w'.heap[b]? =w.heap[b]? :=fun b hb=>(k1.kept b hb (Fs b)).1;let ρ2:Gh:= { ρ with own:=fun b=>if b < w.heap.size then ρ.own b else .zO}
      have lC:∀b,b < w.heap.size->ρ2.own b=ρ.own b:=fun b hb=>bT hb;have DL :∀b, ¬ b < w.heap.size->ρ2.own b= .zO:=fun b hb=>aK hb;have hK:Kp ρ w ρ2 w' :=by
       refine⟨k1.os,k1.tape,k1.output,k1.size,fun b hb _=>⟨rB b hb,lC b hb⟩,fun _ h=>⟨h,rfl⟩,fun o sz ho=> .inr ⟨ho,fun b hb=>⟨?_,rfl,aq _,rfl⟩⟩⟩;rw [lC b (hs.jJ hb)]; exact hb
      refine⟨ρ2,hK,hs.bV hK.r (fun b o=> ?_) rfl (fun b o hb=>⟨rB b (hs.jJ hb),rfl,rfl,rfl⟩) (fun b hb=>DL b (by have:=k1.size; omega)),aU.pl _ _ I3 k3⟩;by_cases hb:b < w.heap.size
      ·rw [lC b hb]
      ·rw [DL b hb,hs.size b (by omega)]
    ·cases h
   ·cases h
  ·cases h
 ·unfold alone at h;split at h
  ·split at h
   ·split at h
    ·simp only [aa,ae]at h; exact h.2.symm
    ·cases h
   ·cases h
  ·cases h
end
end Go.Ab
namespace Go.Ab
open Go
variable [eV]
inductive Pat where
 | any | tok (d:D) | obj
structure eU where
 f:Nat
 pat:List Pat
 cls:List (List (Option D)×D)
 res:D
def Pat.fits:Pat->D->Bool
 | .any,_=>true
 | .tok t,d=>D.beq t d
 | .obj,d=>match d with
  | .ptr _ _=>true
  | _=>false
def subst:List (Option D)->List D->List D
 | some d::r,_::l=>d::subst r l
 | none::r,x::l=>x::subst r l
 | _,l=>l
def OU (C:ay)(f:Nat)(l:List D)(s s1:St):List (List (Option D)×D)->Bool
 | []=>true
 | (c,r)::rest=>match C f (subst c l) s with
  | some (d,s2)=>D.beq d r && (St.beq s2 s1 && OU C f l s s1 rest)
  | none=>false
def aa8 (C:ay)(e:eU)(l:List D)(s:St):Option (D×St):=
 match e.cls with
 | []=>none
 | (c,_)::_=>match C e.f (subst c l) s with
  | some (_,s1)=>match OU C e.f l s s1 e.cls with
   | true=>some (e.res,s1)
   | false=>none
  | none=>none
section
variable {α:Type}
end
def uj (T:Nat->Option dU)(l:List Nat)(f:Nat):Option dU:=match p8 f l with
 | true=>none
 | false=>T f
theorem mC.uj {P:Program}{G:Gl}{X:iw}{T:Nat->Option dU}{l:List Nat}(h:mC P G X T):mC P G X (uj T l):=⟨fun f fn hf=>by
 unfold Ab.uj at hf;split at hf
 ·cases hf
 ·exact h.ok f fn hf⟩
theorem mC.node {P:Program}{G:Gl}{X:iw}{S T:Nat->Option dU}{m:Nat}(hS:mC P G X S)(hT:mC P G X T):mC P G X (fun n=>bif Nat.blt n m then S n else T n):=⟨fun f fn hf=>by
 cases hb:Nat.blt f m <;> simp only [hb,cond]at hf
 ·exact hT.ok f fn hf
 ·exact hS.ok f fn hf⟩
theorem mC.leaf {P : Program} {G : Gl} {X : iw} {i : Nat} {func : Func} {A : nA} {af : Option dU} (h : P.funcs[i]? = some func) (hn : (func.name == "runtime.NumGoroutine") = false) (ha : mO P G X func A = af) : mC P G X (fun n => bif Nat.beq n i then af else none) := ⟨fun f fn hf => by
 cases hb:Nat.beq f i <;> simp only [hb,cond]at hf
 ·cases hf
 ·obtain rfl:=aD hb;exact⟨func,A,h,hn,ha.trans hf⟩⟩
theorem mC.no {P:Program}{G:Gl}{X:iw}:mC P G X (fun _=>none):=⟨fun f fn hf=>by cases hf⟩
def fF:ay:=fun _ _ _=>none
theorem Kt {P:Program}{pn:jn}{G:Gl}:dR pn P G fF:=⟨fun f l s r h=>by simp [fF]at h,fun f l s d s' ρ w vs h=>by simp [fF]at h,fun f l s d s' _ h=>by simp [fF]at h,fun y l s d s' ρ w u vs h=>by simp [fF]at h,fun f l s d s' s1 hs h=>by simp [fF]at h⟩
theorem wy {P:Program}{pn:jn}{G:Gl}{X:iw}{T:Nat->Option dU}{H:ay}(hm:P.follows .mixedOrders=true)(hT:mC P G X T)(hX:∀f k,X f=some k->mA P f k)(hH:dR pn P G H)(n:Nat):dR pn P G (dJ T H n):=
 (yq hT hX (fun _ _ hC=>Ny hm hC hX) n hH).1
section
variable {α:Type}
end
def isTrue:Option (D×St)->Bool
 | some (.bool true,_)=>true
 | _=>false
def vM:Gh:=⟨fun _=> .zO,fun _=>0,fun _=>0,fun _=>0,fun _=> .fresh,fun _=>(0,{ state:= .exhausted,pending:=none,fn:=0,tmps:= #[],params:= #[],assign:= .skip,body:= .skip,defers:=0})⟩
end Go.Ab
namespace Go.Ab
open Go
variable {C C' :ay} {L L' :h9}{T:Nat->Option dU}{H:ay}
def zD (C C' :ay):Prop:=∀f l s r,C f l s=some r->C' f l s=some r
def XN (L L' :h9):Prop:=∀k a fr s r,L k a fr s=some r->L' k a fr s=some r
theorem L7 (h:zD C C'){e:Env}{s:St}{al:Option Nat}{p:eQ}{r:D×St}(hr:cC C e s al p=some r):cC C' e s al p=some r:=by
 cases p
 case call ro f args=>
  simp only [cC]at hr ⊢;split at hr
  ·rename_i l hl;cases ro with
   | false=>simp only at hr ⊢; exact h _ _ _ _ hr
   | true=>
    simp only at hr ⊢;split at hr
    ·rename_i d s1 h1;rw [h _ _ _ _ h1]; exact hr
    ·cases hr
  ·cases hr
 case oU f args=>
  simp only [cC]at hr ⊢;split at hr
  ·exact h _ _ _ _ hr
  ·exact h _ _ _ _ hr
  ·cases hr
 case invoke sU x args=>
  simp only [cC]at hr ⊢;split at hr
  ·rename_i t v l hx hl;split at hr
   ·rename_i f r0 hf;split at hr
    ·rename_i u hu;try simp only [hu]
     exact h _ _ _ _ hr
    ·cases hr
   ·cases hr
  ·cases hr
 all_goals exact hr
theorem oD (h:zD C C'){b:Nat}{o:bg}{fr:Fr}{s:St}{r:Fr×St}(hr:oper C b o fr s=some r):oper C' b o fr s=some r:=by
 unfold oper at hr ⊢;split at hr
 ·split at hr
  ·exact hr
  ·exact hr
  ·exact hr
  ·rename_i op h1 h2 h3;split at hr
   ·rename_i d s1 oq;rw [L7 h oq]; exact hr
   ·cases hr
 ·exact hr
 ·cases hr
theorem qL (h:zD C C'){b:Nat}:∀ {l:List bg} {fr:Fr} {s:St} {r:Fr×St},opers C b l fr s=some r->opers C' b l fr s=some r
 | [],_,_,_,hr=>hr
 | o::l,fr,s,r,hr=>by
  simp only [opers]at hr ⊢;split at hr
  ·rename_i h1; rw [oD h h1]; exact qL h hr
  ·cases hr
theorem pM (h:zD C C'){b:Nat}:∀ {l:List (bg×List Nat)} {acc:List Fp} {fr:Fr} {s:St} {r:Fr×St},iz C b l acc fr s=some r->iz C' b l acc fr s=some r
 | [],_,_,_,_,hr=>hr
 | (o,q)::l,acc,fr,s,r,hr=>by
  simp only [iz]at hr ⊢;split at hr
  ·split at hr
   ·rename_i h1;rw [oD h h1];split at hr
    ·rename_i h2;simp only [h2]; exact pM h hr
    ·cases hr
   ·cases hr
  ·cases hr
theorem vX (h:zD C C'){b k:Nat}:zD (lY b k C) (lY b k C'):=by
 cases k with
 | zero=>exact h
 | succ k=>
  intro f l s r hr;simp only [lY]at hr ⊢;split at hr
  ·exact h _ _ _ _ hr
  ·split at hr
   ·rename_i h1; rw [h _ _ _ _ h1]; exact hr
   ·cases hr
theorem cT (h:zD C C')(hL:XN L L'):∀ {a:AC} {fr:Fr} {s:St} {r:Ex×Fr×St},bX C L a fr s=some r->bX C' L' a fr s=some r
 | .skip,_,_,_,hr=>hr
 | .sn ops,fr,s,r,hr=>by
  simp only [bX]at hr ⊢;split at hr
  ·rename_i h1; rw [qL h h1]; exact hr
  ·cases hr
 | .wY k ops,fr,s,r,hr=>by
  simp only [bX]at hr ⊢;split at hr
  ·cases hr
  ·split at hr
   ·rename_i h1; rw [pM (vX h) h1]; exact hr
   ·cases hr
 | .seq a b,fr,s,r,hr=>by
  simp only [bX]at hr ⊢;split at hr
  ·rename_i h1; rw [cT h hL h1]; exact cT h hL hr
  ·rename_i hn;rw [cT h hL hr];split
   ·rename_i h2;simp only [aa]at h2; subst h2;exact absurd hr (hn _ _)
   ·rfl
 | .cond c a b,fr,s,r,hr=>by
  simp only [bX]at hr ⊢;split at hr
  ·exact cT h hL hr
  ·exact cT h hL hr
  ·cases hr
 | .block id a,fr,s,r,hr=>by
  simp only [bX]at hr ⊢;split at hr
  ·rename_i h1; rw [cT h hL h1]; exact hr
  ·rename_i hn;rw [cT h hL hr];split
   ·rename_i h2;simp only [aa]at h2; subst h2;exact absurd hr (hn _ _ _)
   ·rfl
 | .loop bV a,fr,s,r,hr=>by
  simp only [bX]at hr ⊢;exact hL _ _ _ _ _ hr
 | .iK bV g ps x y,fr,s,r,hr=>by
  simp only [bX]at hr ⊢;exact hL _ _ _ _ _ hr
 | .exit id,_,_,_,hr=>hr
 | .ret,_,_,_,hr=>hr
 | .bad,_,_,_,hr=>by simp [bX]at hr
theorem mI (h:zD C C'):∀ {l:List (D×List D)} {s s' :St},leave C l s=some s' ->leave C' l s=some s'
 | [],_,_,hr=>hr
 | (f,l)::q,s,s',hr=>by
  unfold leave at hr ⊢;split at hr
  ·rename_i hh; cases hh
  ·rename_i hh;simp only [eC,ae]at hh;obtain⟨⟨rfl,rfl⟩,rfl⟩:=hh;split at hr
   ·rename_i h1;simp only [h _ _ _ _ h1]; exact mI h hr
   ·cases hr
  ·rename_i hh;simp only [eC,ae]at hh;obtain⟨⟨rfl,rfl⟩,rfl⟩:=hh;exact mI h hr
  ·cases hr
theorem yt {CD CD' :ay}(h:zD C C')(hD:zD CD CD')(hL:XN L L'){fn:dU}{args:List D}{s:St}{r:D×St}(hr:nV C CD L fn args s=some r):nV C' CD' L' fn args s=some r:=by
 unfold nV at hr ⊢;split at hr
 ·cases hr
 ·rename_i e fr s1 cE h1;rw [cT h hL h1];split at hr
  ·rename_i s2 h2;cases e with
   | exit i=>exact absurd rfl (cE i)
   | normal=>simp only [mI hD h2]; exact hr
   | ret=>simp only [mI hD h2]; exact hr
  ·cases hr
 ·cases hr
theorem tp (h:zD C C')(hL:XN L L'):zD (oZ T C L) (oZ T C' L'):=by
 intro f l s r hr;unfold oZ at hr ⊢;split at hr
 ·rename_i fn hf;unfold vt at hr ⊢;split at hr
  ·cases hr
  ·rename_i e fr s1 cE h1;rw [cT h hL h1];cases e with
   | exit i=>exact absurd rfl (cE i)
   | normal=>exact hr
   | ret=>exact hr
  ·cases hr
 ·cases hr
abbrev LeE (x y:Fr->St->Option (Ex×Fr×St)):Prop:=∀fr s r,x fr s=some r->y fr s=some r
theorem qx {k:Nat}{ps:List Nat}{e:Env} {x x' y y' :Fr->St->Option (Ex×Fr×St)} {H H' :ay}(hx:LeE x x')(hy:LeE y y')(hH:zD H H'):zD (jZ k ps e x y H) (jZ k ps e x' y' H'):=by
 intro f l s r hr;unfold jZ at hr ⊢;split at hr
 ·split at hr
  ·split at hr
   ·rename_i e1 h1 h2;try simp only [h1,h2]
    unfold B4 at hr ⊢;split at hr
    ·rename_i fr1 s1 h3;rw [hx _ _ _ h3];split at hr
     ·rename_i h4;simp only [h4];split at hr
      ·rename_i s2 h5;try simp only [h5]
       unfold Kx at hr ⊢;split at hr
       ·rename_i h6;rw [hy _ _ _ h6]; exact hr
       ·cases hr
      ·cases hr
     ·cases hr
    ·cases hr
   ·cases hr
  ·exact hH _ _ _ _ hr
 ·exact hH _ _ _ _ hr
theorem v7 {C C' :Nat->Env->ay}(h:∀k e,zD (C k e) (C' k e)){bV:List Nat}{g:bP}{fr:Fr}{s:St}{r:Ex×Fr×St}(hr:nM C bV g fr s=some r):nM C' bV g fr s=some r:=by
 unfold nM at hr ⊢;split at hr
 ·rename_i gf caps h1 h2;split at hr
  ·rename_i h3;try simp only [h3]
   unfold Ad at hr;split at hr
   ·rename_i d s1 h4;rw [h _ _ _ _ _ _ h4]; exact hr
   ·cases hr
  ·cases hr
 ·cases hr
theorem mU:∀n {H H' :ay},zD H H' ->zD (dJ T H n) (dJ T H' n)/\XN (fe T H n) (fe T H' n)
 | 0,H,H',hH=>⟨fun f l s r hr=>by simp [dJ]at hr,fun k a fr s r hr=>by simp [fe]at hr⟩
 | n+1,H,H',hH=>by
  obtain⟨i1,i2⟩:=mU n hH;refine⟨fun f l s r hr=> ?_,fun k a fr s r hr=> ?_⟩
  ·rw [dJ]at hr ⊢;split at hr
   ·exact hH _ _ _ _ hr
   ·split at hr
    ·exact yt i1 (tp i1 i2) i2 hr
    ·exact hH _ _ _ _ hr
  ·cases hb:a.ig with
   | true=>
    cases a <;> first | (cases hb; done) | skip
    rw [jG]at hr ⊢;exact v7 (fun k e=>(mU n (qx (fun _ _ _ h=>cT i1 i2 h) (fun _ _ _ h=>cT i1 i2 h) hH)).1) hr
   | false=>
    rw [iB _ _ _ _ hb]at hr ⊢;split at hr
    ·rename_i h1;rw [cT i1 i2 h1];exact i2 _ _ _ _ _ hr
    ·rename_i hn;rw [cT i1 i2 hr];split
     ·rename_i h2;simp only [aa]at h2; subst h2;exact absurd hr (hn _ _)
     ·rfl
theorem qO:∀n {H:ay},zD (dJ T H n) (dJ T H (n+1))/\XN (fe T H n) (fe T H (n+1))
 | 0,H=>⟨fun f l s r hr=>by simp [dJ]at hr,fun k a fr s r hr=>by simp [fe]at hr⟩
 | n+1,H=>by
  obtain⟨i1,i2⟩:=qO n (H:=H);refine⟨fun f l s r hr=> ?_,fun k a fr s r hr=> ?_⟩
  ·rw [dJ]at hr ⊢;split at hr
   ·exact hr
   ·split at hr
    ·exact yt i1 (tp i1 i2) i2 hr
    ·exact hr
  ·cases hb:a.ig with
   | true=>
    cases a <;> first | (cases hb; done) | skip
    rw [jG]at hr ⊢;refine v7 (fun k e f l s r h=> ?_) hr;exact (qO n).1 f l s r ((mU n (qx (fun _ _ _ h=>cT i1 i2 h) (fun _ _ _ h=>cT i1 i2 h) (fun _ _ _ _ h=>h))).1 f l s r h)
   | false=>
    rw [iB _ _ _ _ hb]at hr ⊢;split at hr
    ·rename_i h1;rw [cT i1 i2 h1];exact i2 _ _ _ _ _ hr
    ·rename_i hn;rw [cT i1 i2 hr];split
     ·rename_i h2;simp only [aa]at h2; subst h2;exact absurd hr (hn _ _)
     ·rfl
theorem gU {n m:Nat}(h:n<=m):zD (dJ T H n) (dJ T H m)/\XN (fe T H n) (fe T H m):=by
 induction h with
 | refl=>exact ⟨fun _ _ _ _ h=>h,fun _ _ _ _ _ h=>h⟩
 | step _ ih=>exact ⟨fun f l s r hr=>(qO _).1 f l s r (ih.1 f l s r hr),fun k a fr s r hr=>(qO _).2 k a fr s r (ih.2 k a fr s r hr)⟩
def Ev (T:Nat->Option dU)(H:ay)(f:Nat)(l:List D)(s:St)(r:D×St):Prop:=∃n,dJ T H n f l s=some r
def qZ (T:Nat->Option dU)(H:ay)(a:AC)(fr:Fr)(s:St)(r:Ex×Fr×St):Prop:=∃n,bX (dJ T H n) (fe T H n) a fr s=some r
def Pz (T:Nat->Option dU)(H:ay)(b:Nat)(l:List bg)(fr:Fr)(s:St)(r:Fr×St):Prop:=∃n,opers (dJ T H n) b l fr s=some r
def marks:List (D×List D)->Bool
 | []=>true
 | (d,_)::r=>match d with
  | .mw=>marks r
  | _=>false
theorem rY {C:ay}{s:St}:∀ {l:List (D×List D)},marks l=true->leave C l s=some s
 | [],_=>rfl
 | (d,q)::r,h=>by
  simp only [marks]at h;split at h
  ·simp only [leave]; exact rY h
  ·cases h
theorem Ev.mk {f:Nat}{fn:dU}{l:List D}{s:St}{e:Ex}{fr:Fr}{s1:St}{rs:List D}(hT:T f=some fn)(hx:qZ T H fn.body { env:=uS 0 l,defers:=[]} s (e,fr,s1))(he:∀i,e≠ .exit i)(hd:marks fr.defers=true)(hr:lu fr.env s1 fn.results=some rs)(hy:yS l=false:=by rfl):Ev T H f l s (single rs,s1):=by
 obtain⟨n,hn⟩:=hx;refine⟨n+1, ?_⟩;rw [dJ,hT,hy];simp only [nV,hn];cases e with
 | exit i=>exact absurd rfl (he i)
 | normal=>simp only [rY hd,hr]
 | ret=>simp only [rY hd,hr]
theorem qZ.seq {a b:AC}{fr fr1:Fr}{s s1:St}{r:Ex×Fr×St}(h1:qZ T H a fr s (.normal,fr1,s1))(h2:qZ T H b fr1 s1 r):qZ T H (.seq a b) fr s r:=by
 obtain⟨n,hn⟩:=h1;obtain⟨m,hm⟩:=h2;refine⟨max n m, ?_⟩;have l1:=gU (T:=T) (H:=H) (dh n m);have l2:=gU (T:=T) (H:=H) (dG n m);rw [bX,cT l1.1 l1.2 hn];exact cT l2.1 l2.2 hm
theorem qZ.Ys {a b:AC}{fr fr1:Fr}{s s1:St}{e:Ex}(h1:qZ T H a fr s (e,fr1,s1))(he:e≠ .normal):qZ T H (.seq a b) fr s (e,fr1,s1):=by
 obtain⟨n,hn⟩:=h1;refine⟨n, ?_⟩;rw [bX,hn];cases e with
 | normal=>exact absurd rfl he
 | exit i=>rfl
 | ret=>rfl
theorem qZ.aai {c:bP}{a b:AC}{fr:Fr}{s:St}{r:Ex×Fr×St}(hc:c.ev fr.env=some (.bool true))(h:qZ T H a fr s r):qZ T H (.cond c a b) fr s r:=by
 obtain⟨n,hn⟩:=h;exact⟨n,by rw [bX,hc]; exact hn⟩
theorem qZ.Yx {c:bP}{a b:AC}{fr:Fr}{s:St}{r:Ex×Fr×St}(hc:c.ev fr.env=some (.bool false))(h:qZ T H b fr s r):qZ T H (.cond c a b) fr s r:=by
 obtain⟨n,hn⟩:=h;exact⟨n,by rw [bX,hc]; exact hn⟩
theorem qZ.skip {fr:Fr}{s:St}:qZ T H .skip fr s (.normal,fr,s):=⟨0,rfl⟩
theorem qZ.ret {fr:Fr}{s:St}:qZ T H .ret fr s (.ret,fr,s):=⟨0,rfl⟩
theorem qZ.exit {i:Nat}{fr:Fr}{s:St}:qZ T H (.exit i) fr s (.exit i,fr,s):=⟨0,rfl⟩
theorem qZ.sn {l:List bg}{fr fr1:Fr}{s s1:St}(h:Pz T H 0 l fr s (fr1,s1)):qZ T H (.sn l) fr s (.normal,fr1,s1):=by
 obtain⟨n,hn⟩:=h;exact⟨n,by rw [bX,hn]⟩
theorem qZ.block {id:Nat}{a:AC}{fr fr1:Fr}{s s1:St}{e:Ex}(h:qZ T H a fr s (e,fr1,s1))(he:e≠ .exit id):qZ T H (.block id a) fr s (e,fr1,s1):=by
 obtain⟨n,hn⟩:=h;refine⟨n, ?_⟩;rw [bX,hn];cases e with
 | normal=>rfl
 | ret=>rfl
 | exit i=>
  have:Nat.beq i id=false:=by
   cases hb:Nat.beq i id with
   | false=>rfl
   | true=>exact absurd (by rw [aD hb]) he
  simp only [this]
theorem qZ.V8 {id:Nat}{a:AC}{fr fr1:Fr}{s s1:St}(h:qZ T H a fr s (.exit id,fr1,s1)):qZ T H (.block id a) fr s (.normal,fr1,s1):=by
 obtain⟨n,hn⟩:=h;refine⟨n, ?_⟩;rw [bX,hn];simp only [aA]
theorem qZ.again {k:List Nat}{a:AC}{fr fr1:Fr}{s s1:St}{r:Ex×Fr×St}(h1:qZ T H a { fr with env:=fr.env.bV k} s (.normal,fr1,s1))(h2:qZ T H (.loop k a) fr1 s1 r)(hb:a.ig=false:=by rfl):qZ T H (.loop k a) fr s r:=by
 obtain⟨n,hn⟩:=h1;obtain⟨m,hm⟩:=h2;refine⟨max n m+1, ?_⟩;have l1:=gU (T:=T) (H:=H) (dh n m);have l2:=gU (T:=T) (H:=H) (dG n m);rw [bX,iB _ _ _ _ hb,cT l1.1 l1.2 hn];rw [bX]at hm;exact l2.2 _ _ _ _ _ hm
theorem qZ.stop {k:List Nat}{a:AC}{fr fr1:Fr}{s s1:St}{e:Ex}(h:qZ T H a { fr with env:=fr.env.bV k} s (e,fr1,s1))(he:e≠ .normal)(hb:a.ig=false:=by rfl):qZ T H (.loop k a) fr s (e,fr1,s1):=by
 obtain⟨n,hn⟩:=h;refine⟨n+1, ?_⟩;rw [bX,iB _ _ _ _ hb,hn];cases e with
 | normal=>exact absurd rfl he
 | exit i=>rfl
 | ret=>rfl
theorem Pz.nil {b:Nat}{fr:Fr}{s:St}:Pz T H b [] fr s (fr,s):=⟨0,rfl⟩
theorem Pz.cons {b:Nat}{o:bg}{l:List bg}{fr fr1:Fr}{s s1:St}{r:Fr×St}(h1:oper fF b o fr s=some (fr1,s1))(h2:Pz T H b l fr1 s1 r):Pz T H b (o::l) fr s r:=by
 obtain⟨n,hn⟩:=h2;refine⟨n, ?_⟩;rw [opers,oD (C' :=dJ T H n) (fun f l s r h=>by simp [fF]at h) h1];exact hn
theorem Pz.call {b:Nat}{o:bg}{l:List bg}{fr fr1:Fr}{s s1:St}{r:Fr×St}{f:Nat}{x:List D}{q:D×St}(hq:Ev T H f x s q)(h1:∀C:ay,C f x s=some q->oper C b o fr s=some (fr1,s1))(h2:Pz T H b l fr1 s1 r):Pz T H b (o::l) fr s r:=by
 obtain⟨n,hn⟩:=hq;obtain⟨m,hm⟩:=h2;refine⟨max n m, ?_⟩;have l1:=gU (T:=T) (H:=H) (dh n m);have l2:=gU (T:=T) (H:=H) (dG n m);rw [opers,h1 _ (l1.1 _ _ _ _ hn)];exact qL l2.1 hm
end Go.Ab
namespace Go.Ab
open Go
variable {T:Nat->Option dU}{H:ay}{b:Nat}{fr fr1:Fr}{s s1:St}{a c:AC}{l:List bg}
def Wp (T:Nat->Option dU)(H:ay)(a:AC)(fr:Fr)(s:St)(Q:Ex->Fr->St->Prop):Prop:=∃e fr' s',qZ T H a fr s (e,fr',s')/\Q e fr' s'
def VC (T:Nat->Option dU)(H:ay)(b:Nat)(l:List bg)(fr:Fr)(s:St)(Q:Fr->St->Prop):Prop:=∃fr' s',Pz T H b l fr s (fr',s')/\Q fr' s'
theorem wp_seq {Q:Ex->Fr->St->Prop}(h:Wp T H a fr s fun e f1 s1=>match e with | .normal=>Wp T H c f1 s1 Q | e=>Q e f1 s1):Wp T H (.seq a c) fr s Q:=by
 obtain⟨e,f1,s1,h1,h2⟩:=h;cases e with
 | normal=>obtain ⟨e2,f2,s2,h3,h4⟩:=h2; exact ⟨e2,f2,s2,.seq h1 h3,h4⟩
 | exit i=>exact ⟨_,f1,s1,.Ys h1 (by simp),h2⟩
 | ret=>exact ⟨_,f1,s1,.Ys h1 (by simp),h2⟩
theorem Wy {Q:Ex->Fr->St->Prop}(h:VC T H 0 l fr s (Q .normal)):Wp T H (.sn l) fr s Q:=by
 obtain⟨f1,s1,h1,h2⟩:=h;exact⟨_,f1,s1,.sn h1,h2⟩
theorem tV {o:bg}{f:Nat}{x:List D}{q:D×St}{Q:Fr->St->Prop}(hq:Ev T H f x s q)(h1:∀C:ay,C f x s=some q->oper C b o fr s=some (fr1,s1))(h2:VC T H b l fr1 s1 Q):VC T H b (o::l) fr s Q:=by
 obtain⟨f2,s2,h3,h4⟩:=h2;exact⟨f2,s2,.call hq h1 h3,h4⟩
theorem On {o:bg}{Q:Fr->St->Prop}(h1:oper fF b o fr s=some (fr1,s1))(h2:VC T H b l fr1 s1 Q):VC T H b (o::l) fr s Q:=by
 obtain⟨f2,s2,h3,h4⟩:=h2;exact⟨f2,s2,.cons h1 h3,h4⟩
theorem wp_cond {k:bP}{v:Bool}{Q:Ex->Fr->St->Prop}(hc:k.ev fr.env=some (.bool v))(h:if v=true then Wp T H a fr s Q else Wp T H c fr s Q):Wp T H (.cond k a c) fr s Q:=by
 cases v with
 | true=>obtain ⟨e,f1,s1,h1,h2⟩:=h; exact ⟨e,f1,s1,.aai hc h1,h2⟩
 | false=>obtain ⟨e,f1,s1,h1,h2⟩:=h; exact ⟨e,f1,s1,.Yx hc h1,h2⟩
theorem wp_skip {Q:Ex->Fr->St->Prop}(h:Q .normal fr s):Wp T H .skip fr s Q:=⟨_,_,_,.skip,h⟩
theorem wp_ret {Q:Ex->Fr->St->Prop}(h:Q .ret fr s):Wp T H .ret fr s Q:=⟨_,_,_,.ret,h⟩
theorem wp_exit {i:Nat}{Q:Ex->Fr->St->Prop}(h:Q (.exit i) fr s):Wp T H (.exit i) fr s Q:=⟨_,_,_,.exit,h⟩
theorem wp_block {id:Nat}{Q:Ex->Fr->St->Prop}(h:Wp T H a fr s fun e f1 s1=>match e with | .exit i=>if i=id then Q .normal f1 s1 else Q (.exit i) f1 s1 | e=>Q e f1 s1):Wp T H (.block id a) fr s Q:=by
 obtain⟨e,f1,s1,h1,h2⟩:=h;cases e with
 | normal=>exact ⟨_,f1,s1,.block h1 (by simp),h2⟩
 | ret=>exact ⟨_,f1,s1,.block h1 (by simp),h2⟩
 | exit i=>
  by_cases hi:i=id
  ·subst hi;simp only [eu]at h2;exact⟨_,f1,s1,.V8 h1,h2⟩
  ·simp only [aK hi]at h2;exact⟨_,f1,s1,.block h1 (by simpa using hi),h2⟩
theorem wp_loop {k:List Nat}{Q:Ex->Fr->St->Prop}(I:Nat->Fr->St->Prop)(hI:∀n fr s,I n fr s->Wp T H a { fr with env:=fr.env.bV k} s fun e f1 s1=>match e with | .normal=>∃m,m < n/\I m f1 s1 | e=>Q e f1 s1)(hb:a.ig=false:=by rfl):
  ∀n fr s,I n fr s->Wp T H (.loop k a) fr s Q:=by
 intro n;induction n using Nat.strongRecOn with
 | ind n ih=>
  intro fr s h;obtain⟨e,f1,s1,h1,h2⟩:=hI n fr s h;cases e with
  | normal=>
   obtain⟨m,hm,h3⟩:=h2;obtain⟨e2,f2,s2,h4,h5⟩:=ih m hm f1 s1 h3;exact⟨e2,f2,s2,.again h1 h4 hb,h5⟩
  | exit i=>exact ⟨_,f1,s1,.stop h1 (by simp) hb,h2⟩
  | ret=>exact ⟨_,f1,s1,.stop h1 (by simp) hb,h2⟩
theorem Wp.mono {Q Q' :Ex->Fr->St->Prop}(h:Wp T H a fr s Q)(hQ:∀e f1 s1,Q e f1 s1->Q' e f1 s1):Wp T H a fr s Q' :=by
 obtain⟨e,f1,s1,h1,h2⟩:=h;exact⟨e,f1,s1,h1,hQ _ _ _ h2⟩
theorem EC {f:Nat}{fn:dU}{x:List D}{R:D->St->Prop}(hT:T f=some fn)
  (h:Wp T H fn.body { env:=uS 0 x,defers:=[]} s fun e f1 s1=>(∀i,e≠ .exit i)/\marks f1.defers=true/\∃rs,lu f1.env s1 fn.results=some rs/\R (single rs) s1)(hy:yS x=false:=by rfl):∃d s1,Ev T H f x s (d,s1)/\R d s1:=by
 obtain⟨e,f1,s1,h1,h2,h3,rs,h4,h5⟩:=h;exact⟨_,s1,.mk hT h1 h2 h3 h4 hy,h5⟩
end Go.Ab
namespace Go.Ab
open Go
inductive Sh where
 | bool | int (k:IntKind) | str
 | slice (sz:Nat) (one:Bool) (e:Sh)
 | st (l:List Sh)
def Rf (one:Bool)(l:List D):D:=match one with
 | true=>l.headD .cz
 | false=> .agg l
variable [eV]
variable {H:Type}{enc:TypeId×Value->H}{P:Program}{w:World}
theorem bw.len {ρ:Gh}:∀ {ds:List D} {vs:List Value},bw ρ w ds vs->ds.length=vs.length
 | [],vs,h=>by simp only [bw]at h; subst h; rfl
 | d::l,vs,h=>by
  simp only [bw]at h;obtain⟨v,r,rfl,_,h2⟩:=h;simp [bw.len h2]
theorem bw.app {ρ:Gh}:∀ {a b:List D} {u v:List Value},bw ρ w a u->bw ρ w b v->bw ρ w (a++b) (u++v)
 | [],b,u,v,h,k=>by simp only [bw]at h; subst h; simpa using k
 | d::l,b,u,v,h,k=>by
  simp only [bw]at h;obtain⟨x,r,rfl,h1,h2⟩:=h;simp only [iJ,bw];exact⟨x,_,rfl,h1,bw.app h2 k⟩
theorem bw.lit {ρ:Gh}{d:D}{v:Value}(h:aU ρ w d v):bw ρ w [d] [v]:=by
 simp only [bw];exact⟨v,[],rfl,h,rfl⟩
theorem bw.inv1 {ρ:Gh}{d:D}{vs:List Value}(h:bw ρ w [d] vs):∃v,vs=[v]/\aU ρ w d v:=by
 simp only [bw]at h;obtain⟨v,r,rfl,h1,rfl⟩:=h;exact⟨v,rfl,h1⟩
end Go.Ab
