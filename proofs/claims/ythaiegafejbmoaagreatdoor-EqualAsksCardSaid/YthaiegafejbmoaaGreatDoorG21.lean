/- Part. -/
import Derived.Test.YthaiegafejbmoaaGreatDoorG20
import Derived.Deep.Slices
import Derived.ChangeArms
import Derived.OpenShut
import Derived.LaidLaws
set_option linter.unusedSectionVars false
set_option linter.unusedSimpArgs false
set_option linter.unusedVariables false
namespace Go.Ab
open Go
variable [eh]
def T.beq:T Obj->T Obj->Bool
 | .nil,.nil=>true
 | .node o l r,.node o' l' r' =>(match o,o' with
  | none,none=>true
  | some x,some y=>Obj.beq x y
  | _,_=>false) && (T.beq l l' && T.beq r r')
 | _,_=>false
theorem T.a8:∀a:T Obj,T.beq a a=true
 | .nil=>rfl
 | .node o l r=>by
  simp only [T.beq,T.a8 l,T.a8 r,mD];cases o with
  | none=>rfl
  | some x=>exact Obj.a8 x
theorem T.beq_eq:∀(a b:T Obj),T.beq a b=true->a=b
 | .nil,.nil,_=>rfl
 | .node o l r,.node o' l' r',h=>by
  simp only [T.beq,aB]at h;obtain⟨h1,h2,h3⟩:=h;rw [T.beq_eq _ _ h2,T.beq_eq _ _ h3]
  cases o <;> cases o' <;> simp only at h1 <;> first
   | rfl
   | (cases h1; done)
   | rw [Obj.beq_eq _ _ h1]
 | .nil,.node _ _ _,h=>by simp [T.beq]at h
 | .node _ _ _,.nil,h=>by simp [T.beq]at h
def St.beq (s s' :St):Bool:=Nat.beq s.n s'.n && (s.ro==s'.ro && (s.lk==s'.lk && T.beq s.h s'.h))
theorem St.beq_eq (s s' :St)(h:St.beq s s' =true):s=s' :=by
 cases s; cases s';simp only [St.beq,aB,iw,gA]at h;obtain⟨rfl,rfl,rfl,h⟩:=h;rw [T.beq_eq _ _ h]
theorem St.a8 (s:St):St.beq s s=true:=by simp [St.beq,T.a8]
mutual
def D.im:D->Bool
 | .ptr _ _=>false
 | .jN _ _ _ _=>false
 | .sl _ _ _ _=>false
 | .mp _=>false
 | .lv _=>false
 | .yl _=>false
 | .jJ e _=>e.im
 | .vs _ _ l=>D.Lr l
 | .fn _ a c=>D.Lr a && D.Lr c
 | .eM _ d=>d.im
 | .agg l=>D.Lr l
 | .gW l=>D.Lr l
 | _=>true
def D.Lr:List D->Bool
 | []=>true
 | d::l=>d.im && D.Lr l
end
mutual
def D.pl:D->Bool
 | .ptr _ _=>false
 | .jN _ _ _ _=>false
 | .sl _ _ _ _=>false
 | .mp _=>false
 | .yl _=>false
 | .jJ _ _=>false
 | .vs nl _ _=>nl
 | .fn _ a c=>D.X2 a && D.X2 c
 | .eM _ d=>d.pl
 | .agg l=>D.X2 l
 | .gW l=>D.X2 l
 | _=>true
def D.X2:List D->Bool
 | []=>true
 | d::l=>d.pl && D.X2 l
end
section
variable {ρ ρ' :Gh} {w w' :World}{P:Program}{pn:gY}{G:Gl}{s:St}{C:au}
mutual
theorem aR.pl:∀(d:D) (v:Value),d.pl=true->aR ρ w d v->aR ρ' w' d v
 | .bool _,_,_,r=>by simpa only [aR] using r
 | .int _ _,_,_,r=>by simpa only [aR] using r
 | .str _,_,_,r=>by simpa only [aR] using r
 | .dU,_,_,r=>by simpa only [aR] using r
 | .ptr _ _,_,h,_=>by simp [D.pl]at h
 | .jN _ _ _ _,_,h,_=>by simp [D.pl]at h
 | .jJ _ _,_,h,_=>by simp [D.pl]at h
 | .vs nl sz l,_,h,r=>by
  simp only [D.pl]at h; subst h;simp only [aR]at *;rcases r with r | ⟨r,_⟩
  ·exact .inl r
  ·cases r
 | .sl _ _ _ _,_,h,_=>by simp [D.pl]at h
 | .qD,_,_,r=>by simpa only [aR] using r
 | .mp _,_,h,_=>by simp [D.pl]at h
 | .fn f a c,_,h,r=>by
  simp only [D.pl,aB]at h;simp only [aR]at *;obtain⟨va,vc,h1,h2,h3⟩:=r;exact⟨va,vc,h1,bu.pl a _ h.1 h2,bu.pl c _ h.2 h3⟩
 | .lX,_,_,r=>by simpa only [aR] using r
 | .eM t d,_,h,r=>by
  simp only [D.pl]at h;simp only [aR]at *;obtain⟨u,h1,h2⟩:=r;exact⟨u,h1,aR.pl d u h h2⟩
 | .jc,_,_,r=>by simpa only [aR] using r
 | .agg l,_,h,r=>by
  simp only [D.pl]at h;simp only [aR]at *;obtain⟨vs,h1,h2,h3⟩:=r;exact⟨vs,h1,bu.pl l _ h h2,h3⟩
 | .gW l,_,h,r=>by
  simp only [D.pl]at h;simp only [aR]at *;obtain⟨vs,h1,h2⟩:=r;exact⟨vs,h1,bu.pl l _ h h2⟩
 | .lv _,_,_,r=>by simp only [aR]at r
 | .iE _ _,_,_,r=>by simp only [aR]at r
 | .sint _ _ _ _,_,_,r=>by simpa only [aR] using r
 | .pa _ _ _ _,_,_,r=>by simpa only [aR] using r
 | .rY _,_,_,r=>by simpa only [aR] using r
 | .yl _,_,h,_=>by simp [D.pl]at h
theorem bu.pl:∀(l:List D) (vs:List Value),D.X2 l=true->bu ρ w l vs->bu ρ' w' l vs
 | [],_,_,r=>by simpa only [bu] using r
 | d::l,_,h,r=>by
  simp only [D.X2,aB]at h;simp only [bu]at *;obtain⟨v,t,h1,h2,h3⟩:=r;exact⟨v,t,h1,aR.pl d v h.1 h2,bu.pl l t h.2 h3⟩
end
def xD (ρ:Gh)(w:World) (ρ' :Gh) (w' :World):Prop:=∀b,b < w.heap.size->ρ.own b= .za->ρ'.own b= .za/\w'.heap[b]? =w.heap[b]?
mutual
theorem aR.im (h:xD ρ w ρ' w'):∀(d:D) (v:Value),d.im=true->aR ρ w d v->aR ρ' w' d v
 | .bool _,_,_,r=>by simpa only [aR] using r
 | .int _ _,_,_,r=>by simpa only [aR] using r
 | .str _,_,_,r=>by simpa only [aR] using r
 | .dU,_,_,r=>by simpa only [aR] using r
 | .ptr _ _,_,h,_=>by simp [D.im]at h
 | .jN _ _ _ _,_,h,_=>by simp [D.im]at h
 | .jJ e c,_,hi,r=>by
  simp only [D.im]at hi;simp only [aR]at *;obtain⟨b,x,u,h1,h2,h3,h4,h5⟩:=r;obtain⟨k1,k2⟩:=h b (h3.lt h4.1) h1;exact⟨b,x,u,k1,aR.im h e u hi h2,h3.of_heap k2,h4,h5⟩
 | .vs nl sz l,_,hi,r=>by
  simp only [D.im]at hi;simp only [aR]at *;rcases r with r | ⟨r1,ad,cap,r2,r3,r4⟩
  ·exact .inl r
  ·refine .inr ⟨r1,ad,cap,r2,r3, ?_⟩;rcases r4 with r4 | ⟨b,x,r0,r4,r5⟩
   ·exact .inl r4
   ·cases l with
    | nil=>exact .inl rfl
    | cons d l=>
     have hb:b < w.heap.size:=by
      simp only [fJ]at r5;obtain⟨⟨v,_,e1,e2,e3,_⟩,_⟩:=r5;exact e3.lt (by omega)
     obtain⟨k1,k2⟩:=h b hb r4;exact .inr ⟨b,x,r0,k1,fJ.im h sz b k2 x (d::l) hi r5⟩
 | .sl _ _ _ _,_,h,_=>by simp [D.im]at h
 | .qD,_,_,r=>by simpa only [aR] using r
 | .mp _,_,h,_=>by simp [D.im]at h
 | .fn f a c,_,hi,r=>by
  simp only [D.im,aB]at hi;simp only [aR]at *;obtain⟨va,vc,h1,h2,h3⟩:=r;exact⟨va,vc,h1,bu.im h a _ hi.1 h2,bu.im h c _ hi.2 h3⟩
 | .lX,_,_,r=>by simpa only [aR] using r
 | .eM t d,_,hi,r=>by
  simp only [D.im]at hi;simp only [aR]at *;obtain⟨u,h1,h2⟩:=r;exact⟨u,h1,aR.im h d u hi h2⟩
 | .jc,_,_,r=>by simpa only [aR] using r
 | .agg l,_,hi,r=>by
  simp only [D.im]at hi;simp only [aR]at *;obtain⟨vs,h1,h2,h3⟩:=r;exact⟨vs,h1,bu.im h l _ hi h2,h3⟩
 | .gW l,_,hi,r=>by
  simp only [D.im]at hi;simp only [aR]at *;obtain⟨vs,h1,h2⟩:=r;exact⟨vs,h1,bu.im h l _ hi h2⟩
 | .lv _,_,_,r=>by simp only [aR]at r
 | .iE _ _,_,_,r=>by simp only [aR]at r
 | .sint _ _ _ _,_,_,r=>by simpa only [aR] using r
 | .pa _ _ _ _,_,_,r=>by simpa only [aR] using r
 | .rY _,_,_,r=>by simpa only [aR] using r
 | .yl _,_,h,_=>by simp [D.im]at h
theorem bu.im (h:xD ρ w ρ' w'):∀(l:List D) (vs:List Value),D.Lr l=true->bu ρ w l vs->bu ρ' w' l vs
 | [],_,_,r=>by simpa only [bu] using r
 | d::l,_,hi,r=>by
  simp only [D.Lr,aB]at hi;simp only [bu]at *;obtain⟨v,t,h1,h2,h3⟩:=r;exact⟨v,t,h1,aR.im h d v hi.1 h2,bu.im h l t hi.2 h3⟩
theorem fJ.im (h:xD ρ w ρ' w')(sz b:Nat)(hb:w'.heap[b]? =w.heap[b]?):∀(x:Nat) (l:List D),D.Lr l=true->fJ ρ w sz b x l->fJ ρ' w' sz b x l
 | _,[],_,_=>by simp only [fJ]
 | x,d::l,hi,r=>by
  simp only [D.Lr,aB]at hi;simp only [fJ]at *;obtain⟨⟨v,h1,h2,h3,h4,h6⟩,h5⟩:=r;exact⟨⟨v,aR.im h d v hi.1 h1,h2,h3,h4.of_heap hb,h6⟩,fJ.im h sz b hb (x+sz) l hi.2 h5⟩
end
def kX:St:=⟨0,.nil,[],false⟩
def alone (C:au):au:=fun f l s=>match D.Lr l with
 | true=>match C f l kX with
  | some (d,_)=>match d.pl with
   | true=>some (d,s)
   | false=>none
  | none=>none
 | false=>none
theorem Jd {C:au}:Ak (alone C):=by
 intro f l s d s' s1 hs h;unfold alone at h ⊢;split at h
 ·split at h
  ·split at h
   ·simp only [aa,ab]at h;obtain⟨rfl,rfl⟩:=h;exact⟨rfl,rfl⟩
   ·cases h
  ·cases h
 ·cases h
theorem LY (hC:cm .none P G C)(hG:∀g d,G g=some d->d.im=true):cm .none P G (alone C):=by
 refine⟨fun f l s r h hy args w=> ?_,fun f l s d s' ρ w vs h hs hg hr=> ?_,fun f l s d s' _ h=> ?_,fun y l s d s' ρ w u vs h=>by simp [alone,D.Lr,D.im]at h,Jd⟩
 ·unfold alone at h;split at h
  ·split at h
   ·rename_i h1; exact hC.enter f l kX _ h1 hy args w
   ·cases h
  ·cases h
 ·unfold alone at h;split at h
  ·rename_i Q7;split at h
   ·rename_i d1 s1 h1;split at h
    ·rename_i FR;simp only [aa,ab]at h;obtain⟨rfl,rfl⟩:=h;let ρ0:Gh:= { ρ with own:=fun b=>match ρ.own b with | .obj _=> .qH | x=>x,kd:=fun _=> .fresh}
     have FQ:∀b o,ρ0.own b≠ .obj o:=fun b o=>by
      show (match ρ.own b with | .obj _=>Own.qH | x=>x)≠ .obj o;split
      ·simp
      ·rename_i h; exact fun e=>h o e
     have aag:∀b,ρ.own b= .za->ρ0.own b= .za:=fun b hb=>by
      show (match ρ.own b with | .obj _=>Own.qH | x=>x)= .za;rw [hb]
     have hS:xD ρ w ρ0 w:=fun b _ hb=>⟨aag b hb,rfl⟩;have jQ:bK ρ0 kX w:=by
      refine⟨fun o x hx=> ?_,fun o x hx=> ?_,fun o _=>rfl,fun b o hb=>absurd hb (FQ b o),fun b hb=>aag b (hs.size b hb)⟩
      ·simp [kX,St.get,T.get]at hx
      ·simp [kX,St.get,T.get]at hx
     have hg0:gn .none G ρ0 w:=⟨fun g d hd=>aR.im hS (.jJ d 0) _ (by simp only [D.im]; exact hG g d hd) (hg.1 g d hd),trivial⟩;refine (hC.calls f l kX d1 s1 ρ0 w vs h1 jQ hg0 (bu.im hS l vs Q7 hr)).mono fun e w' he=> ?_;cases e with
     | panicked _=>exact he
     | outgrown=>exact he
     | returned v=>
      obtain⟨ρ1,k1,k2,k3⟩:=he;have rL:∀b,b < w.heap.size->w'.heap[b]? =w.heap[b]? :=fun b hb=>(k1.kept b hb (FQ b)).1;let ρ2:Gh:= { ρ with own:=fun b=>if b < w.heap.size then ρ.own b else .za}
      have kA:∀b,b < w.heap.size->ρ2.own b=ρ.own b:=fun b hb=>bQ hb;have Ei :∀b, ¬ b < w.heap.size->ρ2.own b= .za:=fun b hb=>aI hb;have hK:Kp ρ w ρ2 w' :=by
       refine⟨k1.os,k1.tape,k1.output,k1.size,fun b hb _=>⟨rL b hb,kA b hb⟩,fun _ h=>⟨h,rfl⟩,fun o sz ho=> .inr ⟨ho,fun b hb=>⟨?_,rfl,aq _,rfl⟩⟩⟩;rw [kA b (hs.jG hb)]; exact hb
      refine⟨ρ2,hK,hs.bM hK.r (fun b o=> ?_) rfl (fun b o hb=>⟨rL b (hs.jG hb),rfl,rfl,rfl⟩) (fun b hb=>Ei b (by have:=k1.size; omega)),aR.pl _ _ FR k3⟩;by_cases hb:b < w.heap.size
      ·rw [kA b hb]
      ·rw [Ei b hb,hs.size b (by omega)]
    ·cases h
   ·cases h
  ·cases h
 ·unfold alone at h;split at h
  ·split at h
   ·split at h
    ·simp only [aa,ab]at h; exact h.2.symm
    ·cases h
   ·cases h
  ·cases h
end
end Go.Ab
namespace Go.Ab
open Go
variable [eh]
inductive Pat where
 | any | tok (d:D) | obj
structure dY where
 f:Nat
 pat:List Pat
 cls:List (List (Option D)×D)
 res:D
def Pat.fits:Pat->D->Bool
 | .any,_=>true
 | .tok t,d=>D.beq t d
 | .obj,d=>match d with
  | .ptr _ _=>true
  | _=>false
def subst:List (Option D)->List D->List D
 | some d::r,_::l=>d::subst r l
 | none::r,x::l=>x::subst r l
 | _,l=>l
def LW (C:au)(f:Nat)(l:List D)(s s1:St):List (List (Option D)×D)->Bool
 | []=>true
 | (c,r)::rest=>match C f (subst c l) s with
  | some (d,s2)=>D.beq d r && (St.beq s2 s1 && LW C f l s s1 rest)
  | none=>false
def ab8 (C:au)(e:dY)(l:List D)(s:St):Option (D×St):=
 match e.cls with
 | []=>none
 | (c,_)::_=>match C e.f (subst c l) s with
  | some (_,s1)=>match LW C e.f l s s1 e.cls with
   | true=>some (e.res,s1)
   | false=>none
  | none=>none
section
variable {α:Type}
end
def qP (T:Nat->Option dJ)(l:List Nat)(f:Nat):Option dJ:=match pM f l with
 | true=>none
 | false=>T f
theorem nD.qP {P:Program}{G:Gl}{X:ig}{T:Nat->Option dJ}{l:List Nat}(h:nD P G X T):nD P G X (qP T l):=⟨fun f fn hf=>by
 unfold Ab.qP at hf;split at hf
 ·cases hf
 ·exact h.ok f fn hf⟩
theorem nD.node {P:Program}{G:Gl}{X:ig}{S T:Nat->Option dJ}{m:Nat}(hS:nD P G X S)(hT:nD P G X T):nD P G X (fun n=>bif Nat.blt n m then S n else T n):=⟨fun f fn hf=>by
 cases hb:Nat.blt f m <;> simp only [hb,cond]at hf
 ·exact hT.ok f fn hf
 ·exact hS.ok f fn hf⟩
theorem nD.no {P:Program}{G:Gl}{X:ig}:nD P G X (fun _=>none):=⟨fun f fn hf=>by cases hf⟩
def fm:au:=fun _ _ _=>none
theorem Kx {P:Program}{pn:gY}{G:Gl}:cm pn P G fm:=⟨fun f l s r h=>by simp [fm]at h,fun f l s d s' ρ w vs h=>by simp [fm]at h,fun f l s d s' _ h=>by simp [fm]at h,fun y l s d s' ρ w u vs h=>by simp [fm]at h,fun f l s d s' s1 hs h=>by simp [fm]at h⟩
theorem rv {P:Program}{pn:gY}{G:Gl}{X:ig}{T:Nat->Option dJ}{H:au}(hm:P.follows .mixedOrders=true)(hT:nD P G X T)(hX:∀f k,X f=some k->lZ P f k)(hH:cm pn P G H)(n:Nat):cm pn P G (cV T H n):=
 (ym hT hX (fun _ _ hC=>NW hm hC hX) n hH).1
section
variable {α:Type}
end
def isTrue:Option (D×St)->Bool
 | some (.bool true,_)=>true
 | _=>false
def AM:Gh:=⟨fun _=> .za,fun _=>0,fun _=>0,fun _=>0,fun _=> .fresh,fun _=>(0,{ state:= .exhausted,pending:=none,fn:=0,tmps:= #[],params:= #[],assign:= .skip,body:= .skip,defers:=0})⟩
end Go.Ab
namespace Go.Ab
open Go
variable {C C' :au} {L L' :gO}{T:Nat->Option dJ}{H:au}
def At (C C' :au):Prop:=∀f l s r,C f l s=some r->C' f l s=some r
def Vt (L L' :gO):Prop:=∀k a fr s r,L k a fr s=some r->L' k a fr s=some r
theorem PW (h:At C C'){e:Env}{s:St}{al:Option Nat}{p:eE}{r:D×St}(hr:cg C e s al p=some r):cg C' e s al p=some r:=by
 cases p
 case call ro f args=>
  simp only [cg]at hr ⊢;split at hr
  ·rename_i l hl;cases ro with
   | false=>simp only at hr ⊢; exact h _ _ _ _ hr
   | true=>
    simp only at hr ⊢;split at hr
    ·rename_i d s1 h1;rw [h _ _ _ _ h1]; exact hr
    ·cases hr
  ·cases hr
 case oG f args=>
  simp only [cg]at hr ⊢;split at hr
  ·exact h _ _ _ _ hr
  ·exact h _ _ _ _ hr
  ·cases hr
 case invoke pC x args=>
  simp only [cg]at hr ⊢;split at hr
  ·rename_i t v l hx hl;split at hr
   ·rename_i f r0 hf;split at hr
    ·rename_i u hu;try simp only [hu]
     exact h _ _ _ _ hr
    ·cases hr
   ·cases hr
  ·cases hr
 all_goals exact hr
theorem nZ (h:At C C'){b:Nat}{o:bz}{fr:Fr}{s:St}{r:Fr×St}(hr:oper C b o fr s=some r):oper C' b o fr s=some r:=by
 unfold oper at hr ⊢;split at hr
 ·split at hr
  ·exact hr
  ·exact hr
  ·exact hr
  ·rename_i op h1 h2 h3;split at hr
   ·rename_i d s1 nK;rw [PW h nK]; exact hr
   ·cases hr
 ·exact hr
 ·cases hr
theorem qE (h:At C C'){b:Nat}:∀ {l:List bz} {fr:Fr} {s:St} {r:Fr×St},opers C b l fr s=some r->opers C' b l fr s=some r
 | [],_,_,_,hr=>hr
 | o::l,fr,s,r,hr=>by
  simp only [opers]at hr ⊢;split at hr
  ·rename_i h1; rw [nZ h h1]; exact qE h hr
  ·cases hr
theorem pf (h:At C C'){b:Nat}:∀ {l:List (bz×List Nat)} {acc:List Fp} {fr:Fr} {s:St} {r:Fr×St},gZ C b l acc fr s=some r->gZ C' b l acc fr s=some r
 | [],_,_,_,_,hr=>hr
 | (o,q)::l,acc,fr,s,r,hr=>by
  simp only [gZ]at hr ⊢;split at hr
  ·split at hr
   ·rename_i h1;rw [nZ h h1];split at hr
    ·rename_i h2;simp only [h2]; exact pf h hr
    ·cases hr
   ·cases hr
  ·cases hr
theorem vC (h:At C C'){b k:Nat}:At (lA b k C) (lA b k C'):=by
 cases k with
 | zero=>exact h
 | succ k=>
  intro f l s r hr;simp only [lA]at hr ⊢;split at hr
  ·exact h _ _ _ _ hr
  ·split at hr
   ·rename_i h1; rw [h _ _ _ _ h1]; exact hr
   ·cases hr
theorem cB (h:At C C')(hL:Vt L L'):∀ {a:AC} {fr:Fr} {s:St} {r:Ex×Fr×St},bN C L a fr s=some r->bN C' L' a fr s=some r
 | .skip,_,_,_,hr=>hr
 | .AL ops,fr,s,r,hr=>by
  simp only [bN]at hr ⊢;split at hr
  ·rename_i h1; rw [qE h h1]; exact hr
  ·cases hr
 | .yF k ops,fr,s,r,hr=>by
  simp only [bN]at hr ⊢;split at hr
  ·cases hr
  ·split at hr
   ·rename_i h1; rw [pf (vC h) h1]; exact hr
   ·cases hr
 | .seq a b,fr,s,r,hr=>by
  simp only [bN]at hr ⊢;split at hr
  ·rename_i h1; rw [cB h hL h1]; exact cB h hL hr
  ·rename_i hn;rw [cB h hL hr];split
   ·rename_i h2;simp only [aa]at h2; subst h2;exact absurd hr (hn _ _)
   ·rfl
 | .cond c a b,fr,s,r,hr=>by
  simp only [bN]at hr ⊢;split at hr
  ·exact cB h hL hr
  ·exact cB h hL hr
  ·cases hr
 | .block id a,fr,s,r,hr=>by
  simp only [bN]at hr ⊢;split at hr
  ·rename_i h1; rw [cB h hL h1]; exact hr
  ·rename_i hn;rw [cB h hL hr];split
   ·rename_i h2;simp only [aa]at h2; subst h2;exact absurd hr (hn _ _ _)
   ·rfl
 | .loop bM a,fr,s,r,hr=>by
  simp only [bN]at hr ⊢;exact hL _ _ _ _ _ hr
 | .iF bM g ps x y,fr,s,r,hr=>by
  simp only [bN]at hr ⊢;exact hL _ _ _ _ _ hr
 | .exit id,_,_,_,hr=>hr
 | .ret,_,_,_,hr=>hr
 | .bad,_,_,_,hr=>by simp [bN]at hr
theorem my (h:At C C'):∀ {l:List (D×List D)} {s s' :St},leave C l s=some s' ->leave C' l s=some s'
 | [],_,_,hr=>hr
 | (f,l)::q,s,s',hr=>by
  unfold leave at hr ⊢;split at hr
  ·rename_i hh; cases hh
  ·rename_i hh;simp only [eN,ab]at hh;obtain⟨⟨rfl,rfl⟩,rfl⟩:=hh;split at hr
   ·rename_i h1;simp only [h _ _ _ _ h1]; exact my h hr
   ·cases hr
  ·rename_i hh;simp only [eN,ab]at hh;obtain⟨⟨rfl,rfl⟩,rfl⟩:=hh;exact my h hr
  ·cases hr
theorem zU {CD CD' :au}(h:At C C')(hD:At CD CD')(hL:Vt L L'){fn:dJ}{args:List D}{s:St}{r:D×St}(hr:nE C CD L fn args s=some r):nE C' CD' L' fn args s=some r:=by
 unfold nE at hr ⊢;split at hr
 ·cases hr
 ·rename_i e fr s1 dn h1;rw [cB h hL h1];split at hr
  ·rename_i s2 h2;cases e with
   | exit i=>exact absurd rfl (dn i)
   | normal=>simp only [my hD h2]; exact hr
   | ret=>simp only [my hD h2]; exact hr
  ·cases hr
 ·cases hr
theorem tz (h:At C C')(hL:Vt L L'):At (oE T C L) (oE T C' L'):=by
 intro f l s r hr;unfold oE at hr ⊢;split at hr
 ·rename_i fn hf;unfold wu at hr ⊢;split at hr
  ·cases hr
  ·rename_i e fr s1 dn h1;rw [cB h hL h1];cases e with
   | exit i=>exact absurd rfl (dn i)
   | normal=>exact hr
   | ret=>exact hr
  ·cases hr
 ·cases hr
abbrev LeE (x y:Fr->St->Option (Ex×Fr×St)):Prop:=∀fr s r,x fr s=some r->y fr s=some r
theorem qQ {k:Nat}{ps:List Nat}{e:Env} {x x' y y' :Fr->St->Option (Ex×Fr×St)} {H H' :au}(hx:LeE x x')(hy:LeE y y')(hH:At H H'):At (jP k ps e x y H) (jP k ps e x' y' H'):=by
 intro f l s r hr;unfold jP at hr ⊢;split at hr
 ·split at hr
  ·split at hr
   ·rename_i e1 h1 h2;try simp only [h1,h2]
    unfold CB at hr ⊢;split at hr
    ·rename_i fr1 s1 h3;rw [hx _ _ _ h3];split at hr
     ·rename_i h4;simp only [h4];split at hr
      ·rename_i s2 h5;try simp only [h5]
       unfold JE at hr ⊢;split at hr
       ·rename_i h6;rw [hy _ _ _ h6]; exact hr
       ·cases hr
      ·cases hr
     ·cases hr
    ·cases hr
   ·cases hr
  ·exact hH _ _ _ _ hr
 ·exact hH _ _ _ _ hr
theorem xc {C C' :Nat->Env->au}(h:∀k e,At (C k e) (C' k e)){bM:List Nat}{g:bO}{fr:Fr}{s:St}{r:Ex×Fr×St}(hr:nh C bM g fr s=some r):nh C' bM g fr s=some r:=by
 unfold nh at hr ⊢;split at hr
 ·rename_i gf caps h1 h2;split at hr
  ·rename_i h3;try simp only [h3]
   unfold A7 at hr;split at hr
   ·rename_i d s1 h4;rw [h _ _ _ _ _ _ h4]; exact hr
   ·cases hr
  ·cases hr
 ·cases hr
theorem mn:∀n {H H' :au},At H H' ->At (cV T H n) (cV T H' n)/\Vt (eT T H n) (eT T H' n)
 | 0,H,H',hH=>⟨fun f l s r hr=>by simp [cV]at hr,fun k a fr s r hr=>by simp [eT]at hr⟩
 | n+1,H,H',hH=>by
  obtain⟨i1,i2⟩:=mn n hH;refine⟨fun f l s r hr=> ?_,fun k a fr s r hr=> ?_⟩
  ·rw [cV]at hr ⊢;split at hr
   ·exact hH _ _ _ _ hr
   ·split at hr
    ·exact zU i1 (tz i1 i2) i2 hr
    ·exact hH _ _ _ _ hr
  ·cases hb:a.iD with
   | true=>
    cases a <;> first | (cases hb; done) | skip
    rw [jy]at hr ⊢;exact xc (fun k e=>(mn n (qQ (fun _ _ _ h=>cB i1 i2 h) (fun _ _ _ h=>cB i1 i2 h) hH)).1) hr
   | false=>
    rw [ib _ _ _ _ hb]at hr ⊢;split at hr
    ·rename_i h1;rw [cB i1 i2 h1];exact i2 _ _ _ _ _ hr
    ·rename_i hn;rw [cB i1 i2 hr];split
     ·rename_i h2;simp only [aa]at h2; subst h2;exact absurd hr (hn _ _)
     ·rfl
theorem qu:∀n {H:au},At (cV T H n) (cV T H (n+1))/\Vt (eT T H n) (eT T H (n+1))
 | 0,H=>⟨fun f l s r hr=>by simp [cV]at hr,fun k a fr s r hr=>by simp [eT]at hr⟩
 | n+1,H=>by
  obtain⟨i1,i2⟩:=qu n (H:=H);refine⟨fun f l s r hr=> ?_,fun k a fr s r hr=> ?_⟩
  ·rw [cV]at hr ⊢;split at hr
   ·exact hr
   ·split at hr
    ·exact zU i1 (tz i1 i2) i2 hr
    ·exact hr
  ·cases hb:a.iD with
   | true=>
    cases a <;> first | (cases hb; done) | skip
    rw [jy]at hr ⊢;refine xc (fun k e f l s r h=> ?_) hr;exact (qu n).1 f l s r ((mn n (qQ (fun _ _ _ h=>cB i1 i2 h) (fun _ _ _ h=>cB i1 i2 h) (fun _ _ _ _ h=>h))).1 f l s r h)
   | false=>
    rw [ib _ _ _ _ hb]at hr ⊢;split at hr
    ·rename_i h1;rw [cB i1 i2 h1];exact i2 _ _ _ _ _ hr
    ·rename_i hn;rw [cB i1 i2 hr];split
     ·rename_i h2;simp only [aa]at h2; subst h2;exact absurd hr (hn _ _)
     ·rfl
theorem fV {n m:Nat}(h:n<=m):At (cV T H n) (cV T H m)/\Vt (eT T H n) (eT T H m):=by
 induction h with
 | refl=>exact ⟨fun _ _ _ _ h=>h,fun _ _ _ _ _ h=>h⟩
 | step _ ih=>exact ⟨fun f l s r hr=>(qu _).1 f l s r (ih.1 f l s r hr),fun k a fr s r hr=>(qu _).2 k a fr s r (ih.2 k a fr s r hr)⟩
def Ev (T:Nat->Option dJ)(H:au)(f:Nat)(l:List D)(s:St)(r:D×St):Prop:=∃n,cV T H n f l s=some r
def qX (T:Nat->Option dJ)(H:au)(a:AC)(fr:Fr)(s:St)(r:Ex×Fr×St):Prop:=∃n,bN (cV T H n) (eT T H n) a fr s=some r
def QY (T:Nat->Option dJ)(H:au)(b:Nat)(l:List bz)(fr:Fr)(s:St)(r:Fr×St):Prop:=∃n,opers (cV T H n) b l fr s=some r
def marks:List (D×List D)->Bool
 | []=>true
 | (d,_)::r=>match d with
  | .lX=>marks r
  | _=>false
theorem rP {C:au}{s:St}:∀ {l:List (D×List D)},marks l=true->leave C l s=some s
 | [],_=>rfl
 | (d,q)::r,h=>by
  simp only [marks]at h;split at h
  ·simp only [leave]; exact rP h
  ·cases h
theorem Ev.mk {f:Nat}{fn:dJ}{l:List D}{s:St}{e:Ex}{fr:Fr}{s1:St}{rs:List D}(hT:T f=some fn)(hx:qX T H fn.body { env:=lW 0 l,defers:=[]} s (e,fr,s1))(he:∀i,e≠ .exit i)(hd:marks fr.defers=true)(hr:jH fr.env s1 fn.results=some rs)(hy:yS l=false:=by rfl):Ev T H f l s (single rs,s1):=by
 obtain⟨n,hn⟩:=hx;refine⟨n+1, ?_⟩;rw [cV,hT,hy];simp only [nE,hn];cases e with
 | exit i=>exact absurd rfl (he i)
 | normal=>simp only [rP hd,hr]
 | ret=>simp only [rP hd,hr]
theorem qX.seq {a b:AC}{fr fr1:Fr}{s s1:St}{r:Ex×Fr×St}(h1:qX T H a fr s (.normal,fr1,s1))(h2:qX T H b fr1 s1 r):qX T H (.seq a b) fr s r:=by
 obtain⟨n,hn⟩:=h1;obtain⟨m,hm⟩:=h2;refine⟨max n m, ?_⟩;have l1:=fV (T:=T) (H:=H) (cO n m);have l2:=fV (T:=T) (H:=H) (cU n m);rw [bN,cB l1.1 l1.2 hn];exact cB l2.1 l2.2 hm
theorem qX.aaP {a b:AC}{fr fr1:Fr}{s s1:St}{e:Ex}(h1:qX T H a fr s (e,fr1,s1))(he:e≠ .normal):qX T H (.seq a b) fr s (e,fr1,s1):=by
 obtain⟨n,hn⟩:=h1;refine⟨n, ?_⟩;rw [bN,hn];cases e with
 | normal=>exact absurd rfl he
 | exit i=>rfl
 | ret=>rfl
theorem qX.Zw {c:bO}{a b:AC}{fr:Fr}{s:St}{r:Ex×Fr×St}(hc:c.ev fr.env=some (.bool true))(h:qX T H a fr s r):qX T H (.cond c a b) fr s r:=by
 obtain⟨n,hn⟩:=h;exact⟨n,by rw [bN,hc]; exact hn⟩
theorem qX.Zv {c:bO}{a b:AC}{fr:Fr}{s:St}{r:Ex×Fr×St}(hc:c.ev fr.env=some (.bool false))(h:qX T H b fr s r):qX T H (.cond c a b) fr s r:=by
 obtain⟨n,hn⟩:=h;exact⟨n,by rw [bN,hc]; exact hn⟩
theorem qX.skip {fr:Fr}{s:St}:qX T H .skip fr s (.normal,fr,s):=⟨0,rfl⟩
theorem qX.ret {fr:Fr}{s:St}:qX T H .ret fr s (.ret,fr,s):=⟨0,rfl⟩
theorem qX.exit {i:Nat}{fr:Fr}{s:St}:qX T H (.exit i) fr s (.exit i,fr,s):=⟨0,rfl⟩
theorem qX.AL {l:List bz}{fr fr1:Fr}{s s1:St}(h:QY T H 0 l fr s (fr1,s1)):qX T H (.AL l) fr s (.normal,fr1,s1):=by
 obtain⟨n,hn⟩:=h;exact⟨n,by rw [bN,hn]⟩
theorem qX.block {id:Nat}{a:AC}{fr fr1:Fr}{s s1:St}{e:Ex}(h:qX T H a fr s (e,fr1,s1))(he:e≠ .exit id):qX T H (.block id a) fr s (e,fr1,s1):=by
 obtain⟨n,hn⟩:=h;refine⟨n, ?_⟩;rw [bN,hn];cases e with
 | normal=>rfl
 | ret=>rfl
 | exit i=>
  have:Nat.beq i id=false:=by
   cases hb:Nat.beq i id with
   | false=>rfl
   | true=>exact absurd (by rw [ay hb]) he
  simp only [this]
theorem qX.VD {id:Nat}{a:AC}{fr fr1:Fr}{s s1:St}(h:qX T H a fr s (.exit id,fr1,s1)):qX T H (.block id a) fr s (.normal,fr1,s1):=by
 obtain⟨n,hn⟩:=h;refine⟨n, ?_⟩;rw [bN,hn];simp only [aA]
theorem qX.again {k:List Nat}{a:AC}{fr fr1:Fr}{s s1:St}{r:Ex×Fr×St}(h1:qX T H a { fr with env:=fr.env.bM k} s (.normal,fr1,s1))(h2:qX T H (.loop k a) fr1 s1 r)(hb:a.iD=false:=by rfl):qX T H (.loop k a) fr s r:=by
 obtain⟨n,hn⟩:=h1;obtain⟨m,hm⟩:=h2;refine⟨max n m+1, ?_⟩;have l1:=fV (T:=T) (H:=H) (cO n m);have l2:=fV (T:=T) (H:=H) (cU n m);rw [bN,ib _ _ _ _ hb,cB l1.1 l1.2 hn];rw [bN]at hm;exact l2.2 _ _ _ _ _ hm
theorem qX.stop {k:List Nat}{a:AC}{fr fr1:Fr}{s s1:St}{e:Ex}(h:qX T H a { fr with env:=fr.env.bM k} s (e,fr1,s1))(he:e≠ .normal)(hb:a.iD=false:=by rfl):qX T H (.loop k a) fr s (e,fr1,s1):=by
 obtain⟨n,hn⟩:=h;refine⟨n+1, ?_⟩;rw [bN,ib _ _ _ _ hb,hn];cases e with
 | normal=>exact absurd rfl he
 | exit i=>rfl
 | ret=>rfl
theorem QY.nil {b:Nat}{fr:Fr}{s:St}:QY T H b [] fr s (fr,s):=⟨0,rfl⟩
theorem QY.cons {b:Nat}{o:bz}{l:List bz}{fr fr1:Fr}{s s1:St}{r:Fr×St}(h1:oper fm b o fr s=some (fr1,s1))(h2:QY T H b l fr1 s1 r):QY T H b (o::l) fr s r:=by
 obtain⟨n,hn⟩:=h2;refine⟨n, ?_⟩;rw [opers,nZ (C' :=cV T H n) (fun f l s r h=>by simp [fm]at h) h1];exact hn
theorem QY.call {b:Nat}{o:bz}{l:List bz}{fr fr1:Fr}{s s1:St}{r:Fr×St}{f:Nat}{x:List D}{q:D×St}(hq:Ev T H f x s q)(h1:∀C:au,C f x s=some q->oper C b o fr s=some (fr1,s1))(h2:QY T H b l fr1 s1 r):QY T H b (o::l) fr s r:=by
 obtain⟨n,hn⟩:=hq;obtain⟨m,hm⟩:=h2;refine⟨max n m, ?_⟩;have l1:=fV (T:=T) (H:=H) (cO n m);have l2:=fV (T:=T) (H:=H) (cU n m);rw [opers,h1 _ (l1.1 _ _ _ _ hn)];exact qE l2.1 hm
end Go.Ab
namespace Go.Ab
open Go
variable {T:Nat->Option dJ}{H:au}{b:Nat}{fr fr1:Fr}{s s1:St}{a c:AC}{l:List bz}
def Wp (T:Nat->Option dJ)(H:au)(a:AC)(fr:Fr)(s:St)(Q:Ex->Fr->St->Prop):Prop:=∃e fr' s',qX T H a fr s (e,fr',s')/\Q e fr' s'
def Ug (T:Nat->Option dJ)(H:au)(b:Nat)(l:List bz)(fr:Fr)(s:St)(Q:Fr->St->Prop):Prop:=∃fr' s',QY T H b l fr s (fr',s')/\Q fr' s'
theorem wp_seq {Q:Ex->Fr->St->Prop}(h:Wp T H a fr s fun e f1 s1=>match e with | .normal=>Wp T H c f1 s1 Q | e=>Q e f1 s1):Wp T H (.seq a c) fr s Q:=by
 obtain⟨e,f1,s1,h1,h2⟩:=h;cases e with
 | normal=>obtain ⟨e2,f2,s2,h3,h4⟩:=h2; exact ⟨e2,f2,s2,.seq h1 h3,h4⟩
 | exit i=>exact ⟨_,f1,s1,.aaP h1 (by simp),h2⟩
 | ret=>exact ⟨_,f1,s1,.aaP h1 (by simp),h2⟩
theorem Yj {Q:Ex->Fr->St->Prop}(h:Ug T H 0 l fr s (Q .normal)):Wp T H (.AL l) fr s Q:=by
 obtain⟨f1,s1,h1,h2⟩:=h;exact⟨_,f1,s1,.AL h1,h2⟩
theorem vj {o:bz}{f:Nat}{x:List D}{q:D×St}{Q:Fr->St->Prop}(hq:Ev T H f x s q)(h1:∀C:au,C f x s=some q->oper C b o fr s=some (fr1,s1))(h2:Ug T H b l fr1 s1 Q):Ug T H b (o::l) fr s Q:=by
 obtain⟨f2,s2,h3,h4⟩:=h2;exact⟨f2,s2,.call hq h1 h3,h4⟩
theorem QR {o:bz}{Q:Fr->St->Prop}(h1:oper fm b o fr s=some (fr1,s1))(h2:Ug T H b l fr1 s1 Q):Ug T H b (o::l) fr s Q:=by
 obtain⟨f2,s2,h3,h4⟩:=h2;exact⟨f2,s2,.cons h1 h3,h4⟩
theorem wp_cond {k:bO}{v:Bool}{Q:Ex->Fr->St->Prop}(hc:k.ev fr.env=some (.bool v))(h:if v=true then Wp T H a fr s Q else Wp T H c fr s Q):Wp T H (.cond k a c) fr s Q:=by
 cases v with
 | true=>obtain ⟨e,f1,s1,h1,h2⟩:=h; exact ⟨e,f1,s1,.Zw hc h1,h2⟩
 | false=>obtain ⟨e,f1,s1,h1,h2⟩:=h; exact ⟨e,f1,s1,.Zv hc h1,h2⟩
theorem wp_skip {Q:Ex->Fr->St->Prop}(h:Q .normal fr s):Wp T H .skip fr s Q:=⟨_,_,_,.skip,h⟩
theorem wp_ret {Q:Ex->Fr->St->Prop}(h:Q .ret fr s):Wp T H .ret fr s Q:=⟨_,_,_,.ret,h⟩
theorem wp_exit {i:Nat}{Q:Ex->Fr->St->Prop}(h:Q (.exit i) fr s):Wp T H (.exit i) fr s Q:=⟨_,_,_,.exit,h⟩
theorem wp_block {id:Nat}{Q:Ex->Fr->St->Prop}(h:Wp T H a fr s fun e f1 s1=>match e with | .exit i=>if i=id then Q .normal f1 s1 else Q (.exit i) f1 s1 | e=>Q e f1 s1):Wp T H (.block id a) fr s Q:=by
 obtain⟨e,f1,s1,h1,h2⟩:=h;cases e with
 | normal=>exact ⟨_,f1,s1,.block h1 (by simp),h2⟩
 | ret=>exact ⟨_,f1,s1,.block h1 (by simp),h2⟩
 | exit i=>
  by_cases hi:i=id
  ·subst hi;simp only [ei]at h2;exact⟨_,f1,s1,.VD h1,h2⟩
  ·simp only [aI hi]at h2;exact⟨_,f1,s1,.block h1 (by simpa using hi),h2⟩
theorem wp_loop {k:List Nat}{Q:Ex->Fr->St->Prop}(I:Nat->Fr->St->Prop)(hI:∀n fr s,I n fr s->Wp T H a { fr with env:=fr.env.bM k} s fun e f1 s1=>match e with | .normal=>∃m,m < n/\I m f1 s1 | e=>Q e f1 s1)(hb:a.iD=false:=by rfl):
  ∀n fr s,I n fr s->Wp T H (.loop k a) fr s Q:=by
 intro n;induction n using Nat.strongRecOn with
 | ind n ih=>
  intro fr s h;obtain⟨e,f1,s1,h1,h2⟩:=hI n fr s h;cases e with
  | normal=>
   obtain⟨m,hm,h3⟩:=h2;obtain⟨e2,f2,s2,h4,h5⟩:=ih m hm f1 s1 h3;exact⟨e2,f2,s2,.again h1 h4 hb,h5⟩
  | exit i=>exact ⟨_,f1,s1,.stop h1 (by simp) hb,h2⟩
  | ret=>exact ⟨_,f1,s1,.stop h1 (by simp) hb,h2⟩
theorem Wp.mono {Q Q' :Ex->Fr->St->Prop}(h:Wp T H a fr s Q)(hQ:∀e f1 s1,Q e f1 s1->Q' e f1 s1):Wp T H a fr s Q' :=by
 obtain⟨e,f1,s1,h1,h2⟩:=h;exact⟨e,f1,s1,h1,hQ _ _ _ h2⟩
theorem DW {f:Nat}{fn:dJ}{x:List D}{R:D->St->Prop}(hT:T f=some fn)
  (h:Wp T H fn.body { env:=lW 0 x,defers:=[]} s fun e f1 s1=>(∀i,e≠ .exit i)/\marks f1.defers=true/\∃rs,jH f1.env s1 fn.results=some rs/\R (single rs) s1)(hy:yS x=false:=by rfl):∃d s1,Ev T H f x s (d,s1)/\R d s1:=by
 obtain⟨e,f1,s1,h1,h2,h3,rs,h4,h5⟩:=h;exact⟨_,s1,.mk hT h1 h2 h3 h4 hy,h5⟩
end Go.Ab
namespace Go.Ab
open Go
inductive Sh where
 | bool | int (k:IntKind) | str
 | slice (sz:Nat) (one:Bool) (e:Sh)
 | st (l:List Sh)
def mkE (one:Bool)(l:List D):D:=match one with
 | true=>l.headD .dU
 | false=> .agg l
variable [eh]
variable {H:Type}{enc:TypeId×Value->H}{P:Program}{w:World}
theorem bu.len {ρ:Gh}:∀ {ds:List D} {vs:List Value},bu ρ w ds vs->ds.length=vs.length
 | [],vs,h=>by simp only [bu]at h; subst h; rfl
 | d::l,vs,h=>by
  simp only [bu]at h;obtain⟨v,r,rfl,_,h2⟩:=h;simp [bu.len h2]
theorem bu.app {ρ:Gh}:∀ {a b:List D} {u v:List Value},bu ρ w a u->bu ρ w b v->bu ρ w (a++b) (u++v)
 | [],b,u,v,h,k=>by simp only [bu]at h; subst h; simpa using k
 | d::l,b,u,v,h,k=>by
  simp only [bu]at h;obtain⟨x,r,rfl,h1,h2⟩:=h;simp only [gz,bu];exact⟨x,_,rfl,h1,bu.app h2 k⟩
theorem bu.lit {ρ:Gh}{d:D}{v:Value}(h:aR ρ w d v):bu ρ w [d] [v]:=by
 simp only [bu];exact⟨v,[],rfl,h,rfl⟩
end Go.Ab
namespace Go.Ab
open Go
section
variable {H:Type}{P:Program}
end
variable [eh]
variable {H:Type}{enc:TypeId×Value->H}{P:Program}{w:World}
end Go.Ab
namespace Go.Ab
open Go
section
variable {H:Type}{enc:TypeId×Value->H}{P:Program}{w:World}{base:Nat}{spare:Nat->Bool}{held:Bool}{fuel t e n:Nat}{cs:List Value}{k:IntKind}{p:List MemPlace}
theorem Qm (ht:P.underlying t=some (.array n e))(he:P.underlying e=some (.int k))(hc:P.cellsOf e=1)(hct:P.cellsOf t=n){Z:List Int}
  (h:DataW.trod enc P w base spare held fuel t cs=some (.agg (Z.map fun z=> .lit (.int k z)),p)):cs=Z.map (Value.int k):=by
 obtain⟨xs,m,rfl,hx,hl,hn,hg⟩:=DataW.trod_array ht h;simp only [ab,DataW.agg.injEq]at hx;have hzx:Z.length=xs.length:=by have:=congrArg List.length hx.1; simpa using this
 refine iQ fun i=> ?_;by_cases hi:i < n
 ·have h1:=hg i hi;have Bj :xs[i]? =some (xs[i]'(by omega)):=ak (by omega);have O4 :Z[i]? =some (Z[i]'(by omega)):=ak (by omega);rw [hc,lf,Bj]at h1;obtain⟨v,e1,e2,_⟩:=DataW.trod_int he h1;have e3:=congrArg (fun l=>l[i]?) hx.1;simp only [aO,Bj,O4,dh,e2,aa,DataW.lit.injEq,Lit.int.injEq,true_and]at e3;rw [aO,O4,dh,e3];have e4:(cs.drop i)[0]? =some (.int k v):=by
   have:=congrArg (fun l=>l[0]?) e1;simpa using this
  rw [cS]at e4;simpa using e4
 ·rw [dK (by omega),dK (by rw [aY]; omega)]
def HZ (k:IntKind)(Z:List (Int×Int)):List Value:=Z.flatMap fun z=> [.int k z.1,.int k z.2]
theorem D2:∀(Z:List (Int×Int)) (cs:List Value),cs.length=2 * Z.length->(∀i z,Z[i]? =some z->(cs.drop (i * 2)).take 2=[.int k z.1,.int k z.2])->cs=HZ k Z
 | [],cs,hl,_=>by
  have:cs=[]:=List.eq_nil_of_length_eq_zero (by simpa using hl);subst this; rfl
 | z::Z,cs,hl,h=>by
  have h0:=h 0 z rfl;rw [nF,iu]at h0
  have hr:=D2 Z (cs.drop 2) (by rw [km,hl,aT]; omega) fun i z' hz=>by
   have:=h (i+1) z' (by simpa using hz);rw [List.drop_drop,show 2+i * 2=(i+1) * 2 by omega];exact this
  have:cs=cs.take 2++cs.drop 2:=(l8 2 cs).symm;rw [this,h0,hr]; rfl
theorem KO {f0 f1:Field}(ht:P.underlying t=some (.array n e))(he:P.underlying e=some (.struct #[f0,f1]))(o0:f0.offset=0)(o1:f1.offset=1)(c0:P.cellsOf f0.type=1)(c1:P.cellsOf f1.type=1)(k0:P.underlying f0.type=some (.int k))(k1:P.underlying f1.type=some (.int k))(hc:P.cellsOf e=2)(hct:P.cellsOf t=2 * n){Z:List (Int×Int)}
  (h:DataW.trod enc P w base spare held fuel t cs=some (.agg (Z.map fun z=> .agg [.lit (.int k z.1),.lit (.int k z.2)]),p)):cs=HZ k Z:=by
 obtain⟨xs,m,rfl,hx,hl,hn,hg⟩:=DataW.trod_array ht h;simp only [ab,DataW.agg.injEq]at hx;have hzx:Z.length=xs.length:=by have:=congrArg List.length hx.1; simpa using this
 refine D2 Z cs (by omega) fun i z hz=> ?_;have hi:i < n:=by have:=(aj.mp hz).1; omega
 have h1:=hg i hi;have Bj :xs[i]? =some (xs[i]'(by omega)):=ak (by omega);rw [hc,Bj]at h1;obtain⟨ys,m',rfl,hy,hly,hny,hgy⟩:=DataW.trod_struct he h1;have e3:=congrArg (fun l=>l[i]?) hx.1;simp only [aO,Bj,hz,dh,hy,aa,DataW.agg.injEq]at e3;have O3:ys.length=2:=hny
 obtain⟨y0,y1,rfl⟩:∃a b,ys=[a,b]:=by
  match ys,O3 with
  | [a,b],_=>exact ⟨a,b,rfl⟩
 simp only [bT,eH,eN,ix]at e3;have g0:=hgy 0 f0 rfl;have g1:=hgy 1 f1 rfl;rw [o0,c0]at g0;rw [o1,c1]at g1;obtain⟨v0,a1,a2,_⟩:=DataW.trod_int k0 g0;obtain⟨v1,b1,b2,_⟩:=DataW.trod_int k1 g1;rw [a2,b2]at e3;simp only [DataW.lit.injEq,Lit.int.injEq,true_and]at e3;rw [hc]at hly
 obtain⟨u0,u1,hu⟩:∃a b,(cs.drop (i * 2)).take 2=[a,b]:=by
  match (cs.drop (i * 2)).take 2,hly with
  | [a,b],_=>exact ⟨a,b,rfl⟩
 rw [hu]at a1 b1 ⊢;simp only [iu,fZ,oz,nA,eN,ix]at a1 b1;rw [a1,b1,e3.1,e3.2]
end
section
variable [eh]
theorem BI {ρ:Gh}{w:World}{k:IntKind}:∀Z:List Int,bu ρ w (Z.map (D.int k)) (Z.map (Value.int k))
 | []=>by simp [bu]
 | z::Z=>by
  simp only [bT,bu];exact⟨_,_,rfl,by simp [aR],BI Z⟩
theorem D4 {w:World}{g:Nat}{k:IntKind}{Z:List Int}{cs:Array Value}{ty:TypeId}{fz:Nat×Nat}(hh:w.heap[g]? =some (.cells cs ty fz))(hc:cs.toList=Z.map (Value.int k))(hz:Z≠ []):aR AM w (.jJ (.agg (Z.map (D.int k))) 0) (.pointer (some ⟨g,0,none⟩)):=by
 simp only [aR];have hs:cs.size=Z.length:=by rw [← Array.length_toList,hc,aY]
 have fN:(Z.map (D.int k)).all D.sc=true:=by
  rw [c9]; intro d hd; obtain ⟨z,_,rfl⟩:=lI.1 hd; rfl
 refine⟨g,0,.agg cs,rfl,⟨cs,rfl,by rw [hc]; exact BI Z,fN⟩,fun j hj=> ?_,⟨?_, ?_⟩,rfl⟩
 ·simp only [World.cell?,hh,Value.cells,aU,Option.isSome_none,cR,gS]
 ·simp only [Value.cells,hs];exact fh.2 hz
 ·simp only [D.st]; exact fN
theorem T5 {P:Program}{C:au}{G:Gl}{pn:gY}(hC:cm pn P G C){f:Nat}{l:List D}{w:World}{vs:List Value}(hj:pn.J AM w)(hg:∀g d,G g=some d->aR AM w (.jJ d 0) (.pointer (some ⟨g,0,none⟩)))(h:isTrue (C f l kX)=true)(hr:bu AM w l vs):
  Calls P f vs.toArray w fun e w' =>e= .returned (.bool true)/\(w'.os=w.os/\w'.tape=w.tape/\w'.output=w.output/\w.heap.size<=w'.heap.size/\∀b,b < w.heap.size->w'.heap[b]? =w.heap[b]?):=by
 unfold isTrue at h;split at h
 ·rename_i s' h1;have jQ:bK AM kX w:=by
   refine⟨fun o x hx=> ?_,fun o x hx=> ?_,fun o _=>rfl,fun b o hb=>(by cases hb),fun b hb=>rfl⟩
   ·simp [kX,St.get,T.get]at hx
   ·simp [kX,St.get,T.get]at hx
  refine (hC.calls f l kX _ _ AM w vs h1 jQ ⟨hg,hj⟩ hr).mono fun e w' he=> ?_;cases e with
  | returned v=>
   obtain⟨ρ',k1,k2,k3⟩:=he;simp only [aR]at k3;exact⟨by rw [k3],k1.os,k1.tape,k1.output,k1.size,fun b hb=>(k1.kept b hb (fun o h=>by cases h)).1⟩
  | panicked _=>exact he.elim
  | outgrown=>exact he.elim
 ·cases h
end
end Go.Ab
