/- Part. -/
import Derived.Test.YtmcdajnpdekocaaGreatDoorG23
set_option linter.unusedSectionVars false
set_option linter.unusedSimpArgs false
set_option linter.unusedVariables false
namespace Go.Ab
open Go
variable [Vals]
def T.beq:T Obj→T Obj→Bool
 | .nil,.nil=>true
 | .node o l r,.node o' l' r' =>(match o,o' with
  | none,none=>true
  | some x,some y=>Obj.beq x y
  | _,_=>false) && (T.beq l l' && T.beq r r')
 | _,_=>false
theorem T.beq_rfl:∀a:T Obj,T.beq a a=true
 | .nil=>rfl
 | .node o l r=>by
  simp only [T.beq,T.beq_rfl l,T.beq_rfl r,Bool.and_true]
  cases o with
  | none=>rfl
  | some x=>exact Obj.beq_rfl x
theorem T.beq_eq:∀(a b:T Obj),T.beq a b=true→a=b
 | .nil,.nil,_=>rfl
 | .node o l r,.node o' l' r',h=>by
  simp only [T.beq,Bool.and_eq_true]at h
  obtain⟨h1,h2,h3⟩:=h
  rw [T.beq_eq _ _ h2,T.beq_eq _ _ h3]
  cases o <;> cases o' <;> simp only at h1 <;> first
   | rfl
   | (cases h1; done)
   | rw [Obj.beq_eq _ _ h1]
 | .nil,.node _ _ _,h=>by simp [T.beq]at h
 | .node _ _ _,.nil,h=>by simp [T.beq]at h
def St.beq (s s' :St):Bool:=Nat.beq s.n s'.n && (s.ro==s'.ro && (s.lk==s'.lk && T.beq s.h s'.h))
theorem St.beq_eq (s s' :St)(h:St.beq s s' =true):s=s' :=by
 cases s; cases s'
 simp only [St.beq,Bool.and_eq_true,Nat.beq_eq,beq_iff_eq]at h
 obtain⟨rfl,rfl,rfl,h⟩:=h
 rw [T.beq_eq _ _ h]
theorem St.beq_rfl (s:St):St.beq s s=true:=by simp [St.beq,T.beq_rfl]
mutual
def D.im:D→Bool
 | .ptr _ _=>false
 | .eptr _ _ _ _=>false
 | .sl _ _ _ _=>false
 | .mp _=>false
 | .lv _=>false
 | .yl _=>false
 | .vptr e _=>e.im
 | .vs _ _ l=>D.ims l
 | .fn _ a c=>D.ims a && D.ims c
 | .ifc _ d=>d.im
 | .agg l=>D.ims l
 | .tup l=>D.ims l
 | _=>true
def D.ims:List D→Bool
 | []=>true
 | d::l=>d.im && D.ims l
end
mutual
def D.pl:D→Bool
 | .ptr _ _=>false
 | .eptr _ _ _ _=>false
 | .sl _ _ _ _=>false
 | .mp _=>false
 | .yl _=>false
 | .vptr _ _=>false
 | .vs nl _ _=>nl
 | .fn _ a c=>D.pls a && D.pls c
 | .ifc _ d=>d.pl
 | .agg l=>D.pls l
 | .tup l=>D.pls l
 | _=>true
def D.pls:List D→Bool
 | []=>true
 | d::l=>d.pl && D.pls l
end
section
variable {ρ ρ' :Gh} {w w' :World}{P:Program}{pn:Pins}{G:Gl}{s:St}{C:zAa}
mutual
theorem Rep.pl:∀(d:D) (v:Value),d.pl=true→Rep ρ w d v→Rep ρ' w' d v
 | .bool _,_,_,r=>by simpa only [Rep] using r
 | .int _ _,_,_,r=>by simpa only [Rep] using r
 | .str _,_,_,r=>by simpa only [Rep] using r
 | .nilp,_,_,r=>by simpa only [Rep] using r
 | .ptr _ _,_,h,_=>by simp [D.pl]at h
 | .eptr _ _ _ _,_,h,_=>by simp [D.pl]at h
 | .vptr _ _,_,h,_=>by simp [D.pl]at h
 | .vs nl sz l,_,h,r=>by
  simp only [D.pl]at h; subst h
  simp only [Rep]at *
  rcases r with r | ⟨r,_⟩
  ·exact .inl r
  ·cases r
 | .sl _ _ _ _,_,h,_=>by simp [D.pl]at h
 | .nilm,_,_,r=>by simpa only [Rep] using r
 | .mp _,_,h,_=>by simp [D.pl]at h
 | .fn f a c,_,h,r=>by
  simp only [D.pl,Bool.and_eq_true]at h
  simp only [Rep]at *
  obtain⟨va,vc,h1,h2,h3⟩:=r
  exact⟨va,vc,h1,RepL.pl a _ h.1 h2,RepL.pl c _ h.2 h3⟩
 | .nilf,_,_,r=>by simpa only [Rep] using r
 | .ifc t d,_,h,r=>by
  simp only [D.pl]at h
  simp only [Rep]at *
  obtain⟨u,h1,h2⟩:=r
  exact⟨u,h1,Rep.pl d u h h2⟩
 | .nili,_,_,r=>by simpa only [Rep] using r
 | .agg l,_,h,r=>by
  simp only [D.pl]at h
  simp only [Rep]at *
  obtain⟨vs,h1,h2,h3⟩:=r
  exact⟨vs,h1,RepL.pl l _ h h2,h3⟩
 | .tup l,_,h,r=>by
  simp only [D.pl]at h
  simp only [Rep]at *
  obtain⟨vs,h1,h2⟩:=r
  exact⟨vs,h1,RepL.pl l _ h h2⟩
 | .lv _,_,_,r=>by simp only [Rep]at r
 | .lptr _ _,_,_,r=>by simp only [Rep]at r
 | .sint _ _ _ _,_,_,r=>by simpa only [Rep] using r
 | .sstr _ _ _ _,_,_,r=>by simpa only [Rep] using r
 | .sbool _,_,_,r=>by simpa only [Rep] using r
 | .yl _,_,h,_=>by simp [D.pl]at h
theorem RepL.pl:∀(l:List D) (vs:List Value),D.pls l=true→RepL ρ w l vs→RepL ρ' w' l vs
 | [],_,_,r=>by simpa only [RepL] using r
 | d::l,_,h,r=>by
  simp only [D.pls,Bool.and_eq_true]at h
  simp only [RepL]at *
  obtain⟨v,t,h1,h2,h3⟩:=r
  exact⟨v,t,h1,Rep.pl d v h.1 h2,RepL.pl l t h.2 h3⟩
end
def zNg (ρ:Gh)(w:World) (ρ' :Gh) (w' :World):Prop:=∀b,b < w.heap.size→ρ.own b= .imm→ρ'.own b= .imm∧w'.heap[b]? =w.heap[b]?
mutual
theorem Rep.im (h:zNg ρ w ρ' w'):∀(d:D) (v:Value),d.im=true→Rep ρ w d v→Rep ρ' w' d v
 | .bool _,_,_,r=>by simpa only [Rep] using r
 | .int _ _,_,_,r=>by simpa only [Rep] using r
 | .str _,_,_,r=>by simpa only [Rep] using r
 | .nilp,_,_,r=>by simpa only [Rep] using r
 | .ptr _ _,_,h,_=>by simp [D.im]at h
 | .eptr _ _ _ _,_,h,_=>by simp [D.im]at h
 | .vptr e c,_,hi,r=>by
  simp only [D.im]at hi
  simp only [Rep]at *
  obtain⟨b,x,u,h1,h2,h3,h4,h5⟩:=r
  obtain⟨k1,k2⟩:=h b (h3.lt h4.1) h1
  exact⟨b,x,u,k1,Rep.im h e u hi h2,h3.of_heap k2,h4,h5⟩
 | .vs nl sz l,_,hi,r=>by
  simp only [D.im]at hi
  simp only [Rep]at *
  rcases r with r | ⟨r1,ad,cap,r2,r3,r4⟩
  ·exact .inl r
  ·refine .inr ⟨r1,ad,cap,r2,r3, ?_⟩
   rcases r4 with r4 | ⟨b,x,r0,r4,r5⟩
   ·exact .inl r4
   ·cases l with
    | nil=>exact .inl rfl
    | cons d l=>
     have hb:b < w.heap.size:=by
      simp only [RepE]at r5
      obtain⟨⟨v,_,e1,e2,e3,_⟩,_⟩:=r5
      exact e3.lt (by omega)
     obtain⟨k1,k2⟩:=h b hb r4
     exact .inr ⟨b,x,r0,k1,RepE.im h sz b k2 x (d::l) hi r5⟩
 | .sl _ _ _ _,_,h,_=>by simp [D.im]at h
 | .nilm,_,_,r=>by simpa only [Rep] using r
 | .mp _,_,h,_=>by simp [D.im]at h
 | .fn f a c,_,hi,r=>by
  simp only [D.im,Bool.and_eq_true]at hi
  simp only [Rep]at *
  obtain⟨va,vc,h1,h2,h3⟩:=r
  exact⟨va,vc,h1,RepL.im h a _ hi.1 h2,RepL.im h c _ hi.2 h3⟩
 | .nilf,_,_,r=>by simpa only [Rep] using r
 | .ifc t d,_,hi,r=>by
  simp only [D.im]at hi
  simp only [Rep]at *
  obtain⟨u,h1,h2⟩:=r
  exact⟨u,h1,Rep.im h d u hi h2⟩
 | .nili,_,_,r=>by simpa only [Rep] using r
 | .agg l,_,hi,r=>by
  simp only [D.im]at hi
  simp only [Rep]at *
  obtain⟨vs,h1,h2,h3⟩:=r
  exact⟨vs,h1,RepL.im h l _ hi h2,h3⟩
 | .tup l,_,hi,r=>by
  simp only [D.im]at hi
  simp only [Rep]at *
  obtain⟨vs,h1,h2⟩:=r
  exact⟨vs,h1,RepL.im h l _ hi h2⟩
 | .lv _,_,_,r=>by simp only [Rep]at r
 | .lptr _ _,_,_,r=>by simp only [Rep]at r
 | .sint _ _ _ _,_,_,r=>by simpa only [Rep] using r
 | .sstr _ _ _ _,_,_,r=>by simpa only [Rep] using r
 | .sbool _,_,_,r=>by simpa only [Rep] using r
 | .yl _,_,h,_=>by simp [D.im]at h
theorem RepL.im (h:zNg ρ w ρ' w'):∀(l:List D) (vs:List Value),D.ims l=true→RepL ρ w l vs→RepL ρ' w' l vs
 | [],_,_,r=>by simpa only [RepL] using r
 | d::l,_,hi,r=>by
  simp only [D.ims,Bool.and_eq_true]at hi
  simp only [RepL]at *
  obtain⟨v,t,h1,h2,h3⟩:=r
  exact⟨v,t,h1,Rep.im h d v hi.1 h2,RepL.im h l t hi.2 h3⟩
theorem RepE.im (h:zNg ρ w ρ' w')(sz b:Nat)(hb:w'.heap[b]? =w.heap[b]?):∀(x:Nat) (l:List D),D.ims l=true→RepE ρ w sz b x l→RepE ρ' w' sz b x l
 | _,[],_,_=>by simp only [RepE]
 | x,d::l,hi,r=>by
  simp only [D.ims,Bool.and_eq_true]at hi
  simp only [RepE]at *
  obtain⟨⟨v,h1,h2,h3,h4,h6⟩,h5⟩:=r
  exact⟨⟨v,Rep.im h d v hi.1 h1,h2,h3,h4.of_heap hb,h6⟩,RepE.im h sz b hb (x+sz) l hi.2 h5⟩
end
def st0:St:=⟨0,.nil,[],false⟩
def alone (C:zAa):zAa:=fun f l s=>match D.ims l with
 | true=>match C f l st0 with
  | some (d,_)=>match d.pl with
   | true=>some (d,s)
   | false=>none
  | none=>none
 | false=>none
theorem yHm {C:zAa}:RoX (alone C):=by
 intro f l s d s' s1 hs h
 unfold alone at h ⊢
 split at h
 ·split at h
  ·split at h
   ·simp only [Option.some.injEq,Prod.mk.injEq]at h
    obtain⟨rfl,rfl⟩:=h
    exact⟨rfl,rfl⟩
   ·cases h
  ·cases h
 ·cases h
theorem alone_ok (hC:ClO .none P G C)(hG:∀g d,G g=some d→d.im=true):ClO .none P G (alone C):=by
 refine⟨fun f l s r h hy args w=> ?_,fun f l s d s' ρ w vs h hs hg hr=> ?_,fun f l s d s' _ h=> ?_,fun y l s d s' ρ w u vs h=>by simp [alone,D.ims,D.im]at h,yHm⟩
 ·unfold alone at h
  split at h
  ·split at h
   ·rename_i h1; exact hC.enter f l st0 _ h1 hy args w
   ·cases h
  ·cases h
 ·unfold alone at h
  split at h
  ·rename_i him
   split at h
   ·rename_i d1 s1 h1
    split at h
    ·rename_i hpl
     simp only [Option.some.injEq,Prod.mk.injEq]at h
     obtain⟨rfl,rfl⟩:=h
     let ρ0:Gh:= { ρ with own:=fun b=>match ρ.own b with | .obj _=> .priv | x=>x,kd:=fun _=> .fresh}
     have hno:∀b o,ρ0.own b≠ .obj o:=fun b o=>by
      show (match ρ.own b with | .obj _=>Own.priv | x=>x)≠ .obj o
      split
      ·simp
      ·rename_i h; exact fun e=>h o e
     have himm:∀b,ρ.own b= .imm→ρ0.own b= .imm:=fun b hb=>by
      show (match ρ.own b with | .obj _=>Own.priv | x=>x)= .imm
      rw [hb]
     have hS:zNg ρ w ρ0 w:=fun b _ hb=>⟨himm b hb,rfl⟩
     have hs0:zPl ρ0 st0 w:=by
      refine⟨fun o x hx=> ?_,fun o x hx=> ?_,fun o _=>rfl,fun b o hb=>absurd hb (hno b o),fun b hb=>himm b (hs.size b hb)⟩
      ·simp [st0,St.get,T.get]at hx
      ·simp [st0,St.get,T.get]at hx
     have hg0:GlOk .none G ρ0 w:=⟨fun g d hd=>Rep.im hS (.vptr d 0) _ (by simp only [D.im]; exact hG g d hd) (hg.1 g d hd),trivial⟩
     refine (hC.calls f l st0 d1 s1 ρ0 w vs h1 hs0 hg0 (RepL.im hS l vs him hr)).mono fun e w' he=> ?_
     cases e with
     | panicked _=>exact he
     | outgrown=>exact he
     | returned v=>
      obtain⟨ρ1,k1,k2,k3⟩:=he
      have hsame:∀b,b < w.heap.size→w'.heap[b]? =w.heap[b]? :=fun b hb=>(k1.kept b hb (hno b)).1
      let ρ2:Gh:= { ρ with own:=fun b=>if b < w.heap.size then ρ.own b else .imm}
      have hown:∀b,b < w.heap.size→ρ2.own b=ρ.own b:=fun b hb=>if_pos hb
      have hown' :∀b, ¬ b < w.heap.size→ρ2.own b= .imm:=fun b hb=>if_neg hb
      have hK:Kp ρ w ρ2 w' :=by
       refine⟨k1.os,k1.tape,k1.output,k1.size,fun b hb _=>⟨hsame b hb,hown b hb⟩,fun _ h=>⟨h,rfl⟩,fun o sz ho=> .inr ⟨ho,fun b hb=>⟨?_,rfl,Nat.le_refl _,rfl⟩⟩⟩
       rw [hown b (hs.own_lt hb)]; exact hb
      refine⟨ρ2,hK,hs.keep hK.r (fun b o=> ?_) rfl (fun b o hb=>⟨hsame b (hs.own_lt hb),rfl,rfl,rfl⟩) (fun b hb=>hown' b (by have:=k1.size; omega)),Rep.pl _ _ hpl k3⟩
      by_cases hb:b < w.heap.size
      ·rw [hown b hb]
      ·rw [hown' b hb,hs.size b (by omega)]
    ·cases h
   ·cases h
  ·cases h
 ·unfold alone at h
  split at h
  ·split at h
   ·split at h
    ·simp only [Option.some.injEq,Prod.mk.injEq]at h; exact h.2.symm
    ·cases h
   ·cases h
  ·cases h
end
end Go.Ab
namespace Go.Ab
open Go
variable [Vals]
inductive Pat where
 | any | tok (d:D) | obj
structure Ent where
 f:Nat
 pat:List Pat
 cls:List (List (Option D)×D)
 res:D
def Pat.fits:Pat→D→Bool
 | .any,_=>true
 | .tok t,d=>D.beq t d
 | .obj,d=>match d with
  | .ptr _ _=>true
  | _=>false
def subst:List (Option D)→List D→List D
 | some d::r,_::l=>d::subst r l
 | none::r,x::l=>x::subst r l
 | _,l=>l
def allCls (C:zAa)(f:Nat)(l:List D)(s s1:St):List (List (Option D)×D)→Bool
 | []=>true
 | (c,r)::rest=>match C f (subst c l) s with
  | some (d,s2)=>D.beq d r && (St.beq s2 s1 && allCls C f l s s1 rest)
  | none=>false
def mergeD (C:zAa)(e:Ent)(l:List D)(s:St):Option (D×St):=
 match e.cls with
 | []=>none
 | (c,_)::_=>match C e.f (subst c l) s with
  | some (_,s1)=>match allCls C e.f l s s1 e.cls with
   | true=>some (e.res,s1)
   | false=>none
  | none=>none
section
variable {α:Type}
end
def without (T:Nat→Option AFn)(l:List Nat)(f:Nat):Option AFn:=match memN f l with
 | true=>none
 | false=>T f
theorem zQk.without {P:Program}{G:Gl}{X:Exts}{T:Nat→Option AFn}{l:List Nat}(h:zQk P G X T):zQk P G X (without T l):=⟨fun f fn hf=>by
 unfold Ab.without at hf
 split at hf
 ·cases hf
 ·exact h.ok f fn hf⟩
theorem zQk.node {P:Program}{G:Gl}{X:Exts}{S T:Nat→Option AFn}{m:Nat}(hS:zQk P G X S)(hT:zQk P G X T):zQk P G X (fun n=>bif Nat.blt n m then S n else T n):=⟨fun f fn hf=>by
 cases hb:Nat.blt f m <;> simp only [hb,cond]at hf
 ·exact hT.ok f fn hf
 ·exact hS.ok f fn hf⟩
theorem zQk.leaf {P : Program} {G : Gl} {X : Exts} {i : Nat} {func : Func} {A : Adv} {af : Option AFn} (h : P.funcs[i]? = some func) (hn : (func.name == "runtime.NumGoroutine") = false) (ha : zEe P G X func A = af) : zQk P G X (fun n => bif Nat.beq n i then af else none) := ⟨fun f fn hf => by
 cases hb:Nat.beq f i <;> simp only [hb,cond]at hf
 ·cases hf
 ·obtain rfl:=Nat.eq_of_beq_eq_true hb
  exact⟨func,A,h,hn,ha.trans hf⟩⟩
theorem zQk.no {P:Program}{G:Gl}{X:Exts}:zQk P G X (fun _=>none):=⟨fun f fn hf=>by cases hf⟩
def zAq:zAa:=fun _ _ _=>none
theorem yFo {P:Program}{pn:Pins}{G:Gl}:ClO pn P G zAq:=⟨fun f l s r h=>by simp [zAq]at h,fun f l s d s' ρ w vs h=>by simp [zAq]at h,fun f l s d s' _ h=>by simp [zAq]at h,fun y l s d s' ρ w u vs h=>by simp [zAq]at h,fun f l s d s' s1 hs h=>by simp [zAq]at h⟩
theorem zLh {P:Program}{pn:Pins}{G:Gl}{X:Exts}{T:Nat→Option AFn}{H:zAa}(hm:P.follows .mixedOrders=true)(hT:zQk P G X T)(hX:∀f k,X f=some k→zQi P f k)(hH:ClO pn P G H)(n:Nat):ClO pn P G (zPn T H n):=
 (zOc hT hX (fun _ _ hC=>drawn_ok hm hC hX) n hH).1
section
variable {α:Type}
end
def isTrue:Option (D×St)→Bool
 | some (.bool true,_)=>true
 | _=>false
def rho0:Gh:=⟨fun _=> .imm,fun _=>0,fun _=>0,fun _=>0,fun _=> .fresh,fun _=>(0,{ state:= .exhausted,pending:=none,fn:=0,tmps:= #[],params:= #[],assign:= .skip,body:= .skip,defers:=0})⟩
end Go.Ab
namespace Go.Ab
open Go
variable {C C' :zAa} {L L' :zBl}{T:Nat→Option AFn}{H:zAa}
def LeC (C C' :zAa):Prop:=∀f l s r,C f l s=some r→C' f l s=some r
def LeL (L L' :zBl):Prop:=∀k a fr s r,L k a fr s=some r→L' k a fr s=some r
theorem opF_mono (h:LeC C C'){e:Env}{s:St}{al:Option Nat}{p:AOp}{r:D×St}(hr:opF C e s al p=some r):opF C' e s al p=some r:=by
 cases p
 case call ro f args=>
  simp only [opF]at hr ⊢
  split at hr
  ·rename_i l hl
   cases ro with
   | false=>simp only at hr ⊢; exact h _ _ _ _ hr
   | true=>
    simp only at hr ⊢
    split at hr
    ·rename_i d s1 h1
     rw [h _ _ _ _ h1]; exact hr
    ·cases hr
  ·cases hr
 case callv f args=>
  simp only [opF]at hr ⊢
  split at hr
  ·exact h _ _ _ _ hr
  ·exact h _ _ _ _ hr
  ·cases hr
 case invoke tbl x args=>
  simp only [opF]at hr ⊢
  split at hr
  ·rename_i t v l hx hl
   split at hr
   ·rename_i f r0 hf
    split at hr
    ·rename_i u hu
     try simp only [hu]
     exact h _ _ _ _ hr
    ·cases hr
   ·cases hr
  ·cases hr
 all_goals exact hr
theorem zEb (h:LeC C C'){b:Nat}{o:zPk}{fr:Fr}{s:St}{r:Fr×St}(hr:oper C b o fr s=some r):oper C' b o fr s=some r:=by
 unfold oper at hr ⊢
 split at hr
 ·split at hr
  ·exact hr
  ·exact hr
  ·exact hr
  ·rename_i op h1 h2 h3
   split at hr
   ·rename_i d s1 hop
    rw [opF_mono h hop]; exact hr
   ·cases hr
 ·exact hr
 ·cases hr
theorem zFv (h:LeC C C'){b:Nat}:∀ {l:List zPk} {fr:Fr} {s:St} {r:Fr×St},opers C b l fr s=some r→opers C' b l fr s=some r
 | [],_,_,_,hr=>hr
 | o::l,fr,s,r,hr=>by
  simp only [opers]at hr ⊢
  split at hr
  ·rename_i h1; rw [zEb h h1]; exact zFv h hr
  ·cases hr
theorem zEu (h:LeC C C'){b:Nat}:∀ {l:List (zPk×List Nat)} {acc:List Fp} {fr:Fr} {s:St} {r:Fr×St},zBk C b l acc fr s=some r→zBk C' b l acc fr s=some r
 | [],_,_,_,_,hr=>hr
 | (o,q)::l,acc,fr,s,r,hr=>by
  simp only [zBk]at hr ⊢
  split at hr
  ·split at hr
   ·rename_i h1
    rw [zEb h h1]
    split at hr
    ·rename_i h2
     simp only [h2]; exact zEu h hr
    ·cases hr
   ·cases hr
  ·cases hr
theorem zKl (h:LeC C C'){b k:Nat}:LeC (cutC b k C) (cutC b k C'):=by
 cases k with
 | zero=>exact h
 | succ k=>
  intro f l s r hr
  simp only [cutC]at hr ⊢
  split at hr
  ·exact h _ _ _ _ hr
  ·split at hr
   ·rename_i h1; rw [h _ _ _ _ h1]; exact hr
   ·cases hr
theorem exM (h:LeC C C')(hL:LeL L L'):∀ {a:AC} {fr:Fr} {s:St} {r:Ex×Fr×St},zAe C L a fr s=some r→zAe C' L' a fr s=some r
 | .skip,_,_,_,hr=>hr
 | .reg ops,fr,s,r,hr=>by
  simp only [zAe]at hr ⊢
  split at hr
  ·rename_i h1; rw [zFv h h1]; exact hr
  ·cases hr
 | .dreg k ops,fr,s,r,hr=>by
  simp only [zAe]at hr ⊢
  split at hr
  ·cases hr
  ·split at hr
   ·rename_i h1; rw [zEu (zKl h) h1]; exact hr
   ·cases hr
 | .seq a b,fr,s,r,hr=>by
  simp only [zAe]at hr ⊢
  split at hr
  ·rename_i h1; rw [exM h hL h1]; exact exM h hL hr
  ·rename_i hn
   rw [exM h hL hr]
   split
   ·rename_i h2
    simp only [Option.some.injEq]at h2; subst h2
    exact absurd hr (hn _ _)
   ·rfl
 | .cond c a b,fr,s,r,hr=>by
  simp only [zAe]at hr ⊢
  split at hr
  ·exact exM h hL hr
  ·exact exM h hL hr
  ·cases hr
 | .block id a,fr,s,r,hr=>by
  simp only [zAe]at hr ⊢
  split at hr
  ·rename_i h1; rw [exM h hL h1]; exact hr
  ·rename_i hn
   rw [exM h hL hr]
   split
   ·rename_i h2
    simp only [Option.some.injEq]at h2; subst h2
    exact absurd hr (hn _ _ _)
   ·rfl
 | .loop keep a,fr,s,r,hr=>by
  simp only [zAe]at hr ⊢
  exact hL _ _ _ _ _ hr
 | .rangef keep g ps x y,fr,s,r,hr=>by
  simp only [zAe]at hr ⊢
  exact hL _ _ _ _ _ hr
 | .exit id,_,_,_,hr=>hr
 | .ret,_,_,_,hr=>hr
 | .bad,_,_,_,hr=>by simp [zAe]at hr
theorem zDh (h:LeC C C'):∀ {l:List (D×List D)} {s s' :St},leave C l s=some s' →leave C' l s=some s'
 | [],_,_,hr=>hr
 | (f,l)::q,s,s',hr=>by
  unfold leave at hr ⊢
  split at hr
  ·rename_i hh; cases hh
  ·rename_i hh
   simp only [List.cons.injEq,Prod.mk.injEq]at hh
   obtain⟨⟨rfl,rfl⟩,rfl⟩:=hh
   split at hr
   ·rename_i h1
    simp only [h _ _ _ _ h1]; exact zDh h hr
   ·cases hr
  ·rename_i hh
   simp only [List.cons.injEq,Prod.mk.injEq]at hh
   obtain⟨⟨rfl,rfl⟩,rfl⟩:=hh
   exact zDh h hr
  ·cases hr
theorem zLz {CD CD' :zAa}(h:LeC C C')(hD:LeC CD CD')(hL:LeL L L'){fn:AFn}{args:List D}{s:St}{r:D×St}(hr:zQf C CD L fn args s=some r):zQf C' CD' L' fn args s=some r:=by
 unfold zQf at hr ⊢
 split at hr
 ·cases hr
 ·rename_i e fr s1 hne h1
  rw [exM h hL h1]
  split at hr
  ·rename_i s2 h2
   cases e with
   | exit i=>exact absurd rfl (hne i)
   | normal=>simp only [zDh hD h2]; exact hr
   | ret=>simp only [zDh hD h2]; exact hr
  ·cases hr
 ·cases hr
theorem zIh (h:LeC C C')(hL:LeL L L'):LeC (zQj T C L) (zQj T C' L'):=by
 intro f l s r hr
 unfold zQj at hr ⊢
 split at hr
 ·rename_i fn hf
  unfold zLo at hr ⊢
  split at hr
  ·cases hr
  ·rename_i e fr s1 hne h1
   rw [exM h hL h1]
   cases e with
   | exit i=>exact absurd rfl (hne i)
   | normal=>exact hr
   | ret=>exact hr
  ·cases hr
 ·cases hr
abbrev LeE (x y:Fr→St→Option (Ex×Fr×St)):Prop:=∀fr s r,x fr s=some r→y fr s=some r
theorem zFt {k:Nat}{ps:List Nat}{e:Env} {x x' y y' :Fr→St→Option (Ex×Fr×St)} {H H' :zAa}(hx:LeE x x')(hy:LeE y y')(hH:LeC H H'):LeC (zPv k ps e x y H) (zPv k ps e x' y' H'):=by
 intro f l s r hr
 unfold zPv at hr ⊢
 split at hr
 ·split at hr
  ·split at hr
   ·rename_i e1 h1 h2
    try simp only [h1,h2]
    unfold midR at hr ⊢
    split at hr
    ·rename_i fr1 s1 h3
     rw [hx _ _ _ h3]
     split at hr
     ·rename_i h4
      simp only [h4]
      split at hr
      ·rename_i s2 h5
       try simp only [h5]
       unfold endR at hr ⊢
       split at hr
       ·rename_i h6
        rw [hy _ _ _ h6]; exact hr
       ·cases hr
      ·cases hr
     ·cases hr
    ·cases hr
   ·cases hr
  ·exact hH _ _ _ _ hr
 ·exact hH _ _ _ _ hr
theorem zKt {C C' :Nat→Env→zAa}(h:∀k e,LeC (C k e) (C' k e)){keep:List Nat}{g:Opd}{fr:Fr}{s:St}{r:Ex×Fr×St}(hr:zEy C keep g fr s=some r):zEy C' keep g fr s=some r:=by
 unfold zEy at hr ⊢
 split at hr
 ·rename_i gf caps h1 h2
  split at hr
  ·rename_i h3
   try simp only [h3]
   unfold zXe at hr
   split at hr
   ·rename_i d s1 h4
    rw [h _ _ _ _ _ _ h4]; exact hr
   ·cases hr
  ·cases hr
 ·cases hr
theorem zDj:∀n {H H' :zAa},LeC H H' →LeC (zPn T H n) (zPn T H' n)∧LeL (zPq T H n) (zPq T H' n)
 | 0,H,H',hH=>⟨fun f l s r hr=>by simp [zPn]at hr,fun k a fr s r hr=>by simp [zPq]at hr⟩
 | n+1,H,H',hH=>by
  obtain⟨i1,i2⟩:=zDj n hH
  refine⟨fun f l s r hr=> ?_,fun k a fr s r hr=> ?_⟩
  ·rw [zPn]at hr ⊢
   split at hr
   ·exact hH _ _ _ _ hr
   ·split at hr
    ·exact zLz i1 (zIh i1 i2) i2 hr
    ·exact hH _ _ _ _ hr
  ·cases hb:a.isRangef with
   | true=>
    cases a <;> first | (cases hb; done) | skip
    rw [zBs]at hr ⊢
    exact zKt (fun k e=>(zDj n (zFt (fun _ _ _ h=>exM i1 i2 h) (fun _ _ _ h=>exM i1 i2 h) hH)).1) hr
   | false=>
    rw [zBb _ _ _ _ hb]at hr ⊢
    split at hr
    ·rename_i h1
     rw [exM i1 i2 h1]
     exact i2 _ _ _ _ _ hr
    ·rename_i hn
     rw [exM i1 i2 hr]
     split
     ·rename_i h2
      simp only [Option.some.injEq]at h2; subst h2
      exact absurd hr (hn _ _)
     ·rfl
theorem zFx:∀n {H:zAa},LeC (zPn T H n) (zPn T H (n+1))∧LeL (zPq T H n) (zPq T H (n+1))
 | 0,H=>⟨fun f l s r hr=>by simp [zPn]at hr,fun k a fr s r hr=>by simp [zPq]at hr⟩
 | n+1,H=>by
  obtain⟨i1,i2⟩:=zFx n (H:=H)
  refine⟨fun f l s r hr=> ?_,fun k a fr s r hr=> ?_⟩
  ·rw [zPn]at hr ⊢
   split at hr
   ·exact hr
   ·split at hr
    ·exact zLz i1 (zIh i1 i2) i2 hr
    ·exact hr
  ·cases hb:a.isRangef with
   | true=>
    cases a <;> first | (cases hb; done) | skip
    rw [zBs]at hr ⊢
    refine zKt (fun k e f l s r h=> ?_) hr
    exact (zFx n).1 f l s r ((zDj n (zFt (fun _ _ _ h=>exM i1 i2 h) (fun _ _ _ h=>exM i1 i2 h) (fun _ _ _ _ h=>h))).1 f l s r h)
   | false=>
    rw [zBb _ _ _ _ hb]at hr ⊢
    split at hr
    ·rename_i h1
     rw [exM i1 i2 h1]
     exact i2 _ _ _ _ _ hr
    ·rename_i hn
     rw [exM i1 i2 hr]
     split
     ·rename_i h2
      simp only [Option.some.injEq]at h2; subst h2
      exact absurd hr (hn _ _)
     ·rfl
theorem zAx {n m:Nat}(h:n≤m):LeC (zPn T H n) (zPn T H m)∧LeL (zPq T H n) (zPq T H m):=by
 induction h with
 | refl=>exact ⟨fun _ _ _ _ h=>h,fun _ _ _ _ _ h=>h⟩
 | step _ ih=>exact ⟨fun f l s r hr=>(zFx _).1 f l s r (ih.1 f l s r hr),fun k a fr s r hr=>(zFx _).2 k a fr s r (ih.2 k a fr s r hr)⟩
def Ev (T:Nat→Option AFn)(H:zAa)(f:Nat)(l:List D)(s:St)(r:D×St):Prop:=∃n,zPn T H n f l s=some r
def Ex' (T:Nat→Option AFn)(H:zAa)(a:AC)(fr:Fr)(s:St)(r:Ex×Fr×St):Prop:=∃n,zAe (zPn T H n) (zPq T H n) a fr s=some r
def Op' (T:Nat→Option AFn)(H:zAa)(b:Nat)(l:List zPk)(fr:Fr)(s:St)(r:Fr×St):Prop:=∃n,opers (zPn T H n) b l fr s=some r
def marks:List (D×List D)→Bool
 | []=>true
 | (d,_)::r=>match d with
  | .nilf=>marks r
  | _=>false
theorem zGp {C:zAa}{s:St}:∀ {l:List (D×List D)},marks l=true→leave C l s=some s
 | [],_=>rfl
 | (d,q)::r,h=>by
  simp only [marks]at h
  split at h
  ·simp only [leave]; exact zGp h
  ·cases h
theorem Ev.mk {f:Nat}{fn:AFn}{l:List D}{s:St}{e:Ex}{fr:Fr}{s1:St}{rs:List D}(hT:T f=some fn)(hx:Ex' T H fn.body { env:=env0 0 l,defers:=[]} s (e,fr,s1))(he:∀i,e≠ .exit i)(hd:marks fr.defers=true)(hr:resD fr.env s1 fn.results=some rs)(hy:yS l=false:=by rfl):Ev T H f l s (single rs,s1):=by
 obtain⟨n,hn⟩:=hx
 refine⟨n+1, ?_⟩
 rw [zPn,hT,hy]
 simp only [zQf,hn]
 cases e with
 | exit i=>exact absurd rfl (he i)
 | normal=>simp only [zGp hd,hr]
 | ret=>simp only [zGp hd,hr]
theorem Ex'.seq {a b:AC}{fr fr1:Fr}{s s1:St}{r:Ex×Fr×St}(h1:Ex' T H a fr s (.normal,fr1,s1))(h2:Ex' T H b fr1 s1 r):Ex' T H (.seq a b) fr s r:=by
 obtain⟨n,hn⟩:=h1
 obtain⟨m,hm⟩:=h2
 refine⟨max n m, ?_⟩
 have l1:=zAx (T:=T) (H:=H) (Nat.le_max_left n m)
 have l2:=zAx (T:=T) (H:=H) (Nat.le_max_right n m)
 rw [zAe,exM l1.1 l1.2 hn]
 exact exM l2.1 l2.2 hm
theorem Ex'.seqx {a b:AC}{fr fr1:Fr}{s s1:St}{e:Ex}(h1:Ex' T H a fr s (e,fr1,s1))(he:e≠ .normal):Ex' T H (.seq a b) fr s (e,fr1,s1):=by
 obtain⟨n,hn⟩:=h1
 refine⟨n, ?_⟩
 rw [zAe,hn]
 cases e with
 | normal=>exact absurd rfl he
 | exit i=>rfl
 | ret=>rfl
theorem Ex'.condT {c:Opd}{a b:AC}{fr:Fr}{s:St}{r:Ex×Fr×St}(hc:c.ev fr.env=some (.bool true))(h:Ex' T H a fr s r):Ex' T H (.cond c a b) fr s r:=by
 obtain⟨n,hn⟩:=h
 exact⟨n,by rw [zAe,hc]; exact hn⟩
theorem Ex'.condF {c:Opd}{a b:AC}{fr:Fr}{s:St}{r:Ex×Fr×St}(hc:c.ev fr.env=some (.bool false))(h:Ex' T H b fr s r):Ex' T H (.cond c a b) fr s r:=by
 obtain⟨n,hn⟩:=h
 exact⟨n,by rw [zAe,hc]; exact hn⟩
theorem Ex'.skip {fr:Fr}{s:St}:Ex' T H .skip fr s (.normal,fr,s):=⟨0,rfl⟩
theorem Ex'.ret {fr:Fr}{s:St}:Ex' T H .ret fr s (.ret,fr,s):=⟨0,rfl⟩
theorem Ex'.exit {i:Nat}{fr:Fr}{s:St}:Ex' T H (.exit i) fr s (.exit i,fr,s):=⟨0,rfl⟩
theorem Ex'.reg {l:List zPk}{fr fr1:Fr}{s s1:St}(h:Op' T H 0 l fr s (fr1,s1)):Ex' T H (.reg l) fr s (.normal,fr1,s1):=by
 obtain⟨n,hn⟩:=h
 exact⟨n,by rw [zAe,hn]⟩
theorem Ex'.block {id:Nat}{a:AC}{fr fr1:Fr}{s s1:St}{e:Ex}(h:Ex' T H a fr s (e,fr1,s1))(he:e≠ .exit id):Ex' T H (.block id a) fr s (e,fr1,s1):=by
 obtain⟨n,hn⟩:=h
 refine⟨n, ?_⟩
 rw [zAe,hn]
 cases e with
 | normal=>rfl
 | ret=>rfl
 | exit i=>
  have:Nat.beq i id=false:=by
   cases hb:Nat.beq i id with
   | false=>rfl
   | true=>exact absurd (by rw [Nat.eq_of_beq_eq_true hb]) he
  simp only [this]
theorem Ex'.blockx {id:Nat}{a:AC}{fr fr1:Fr}{s s1:St}(h:Ex' T H a fr s (.exit id,fr1,s1)):Ex' T H (.block id a) fr s (.normal,fr1,s1):=by
 obtain⟨n,hn⟩:=h
 refine⟨n, ?_⟩
 rw [zAe,hn]
 simp only [Nat.beq_refl]
theorem Ex'.again {k:List Nat}{a:AC}{fr fr1:Fr}{s s1:St}{r:Ex×Fr×St}(h1:Ex' T H a { fr with env:=fr.env.keep k} s (.normal,fr1,s1))(h2:Ex' T H (.loop k a) fr1 s1 r)(hb:a.isRangef=false:=by rfl):Ex' T H (.loop k a) fr s r:=by
 obtain⟨n,hn⟩:=h1
 obtain⟨m,hm⟩:=h2
 refine⟨max n m+1, ?_⟩
 have l1:=zAx (T:=T) (H:=H) (Nat.le_max_left n m)
 have l2:=zAx (T:=T) (H:=H) (Nat.le_max_right n m)
 rw [zAe,zBb _ _ _ _ hb,exM l1.1 l1.2 hn]
 rw [zAe]at hm
 exact l2.2 _ _ _ _ _ hm
theorem Ex'.stop {k:List Nat}{a:AC}{fr fr1:Fr}{s s1:St}{e:Ex}(h:Ex' T H a { fr with env:=fr.env.keep k} s (e,fr1,s1))(he:e≠ .normal)(hb:a.isRangef=false:=by rfl):Ex' T H (.loop k a) fr s (e,fr1,s1):=by
 obtain⟨n,hn⟩:=h
 refine⟨n+1, ?_⟩
 rw [zAe,zBb _ _ _ _ hb,hn]
 cases e with
 | normal=>exact absurd rfl he
 | exit i=>rfl
 | ret=>rfl
theorem Op'.nil {b:Nat}{fr:Fr}{s:St}:Op' T H b [] fr s (fr,s):=⟨0,rfl⟩
theorem Op'.cons {b:Nat}{o:zPk}{l:List zPk}{fr fr1:Fr}{s s1:St}{r:Fr×St}(h1:oper zAq b o fr s=some (fr1,s1))(h2:Op' T H b l fr1 s1 r):Op' T H b (o::l) fr s r:=by
 obtain⟨n,hn⟩:=h2
 refine⟨n, ?_⟩
 rw [opers,zEb (C' :=zPn T H n) (fun f l s r h=>by simp [zAq]at h) h1]
 exact hn
theorem Op'.call {b:Nat}{o:zPk}{l:List zPk}{fr fr1:Fr}{s s1:St}{r:Fr×St}{f:Nat}{x:List D}{q:D×St}(hq:Ev T H f x s q)(h1:∀C:zAa,C f x s=some q→oper C b o fr s=some (fr1,s1))(h2:Op' T H b l fr1 s1 r):Op' T H b (o::l) fr s r:=by
 obtain⟨n,hn⟩:=hq
 obtain⟨m,hm⟩:=h2
 refine⟨max n m, ?_⟩
 have l1:=zAx (T:=T) (H:=H) (Nat.le_max_left n m)
 have l2:=zAx (T:=T) (H:=H) (Nat.le_max_right n m)
 rw [opers,h1 _ (l1.1 _ _ _ _ hn)]
 exact zFv l2.1 hm
end Go.Ab
namespace Go.Ab
open Go
variable {T:Nat→Option AFn}{H:zAa}{b:Nat}{fr fr1:Fr}{s s1:St}{a c:AC}{l:List zPk}
def Wp (T:Nat→Option AFn)(H:zAa)(a:AC)(fr:Fr)(s:St)(Q:Ex→Fr→St→Prop):Prop:=∃e fr' s',Ex' T H a fr s (e,fr',s')∧Q e fr' s'
def WpO (T:Nat→Option AFn)(H:zAa)(b:Nat)(l:List zPk)(fr:Fr)(s:St)(Q:Fr→St→Prop):Prop:=∃fr' s',Op' T H b l fr s (fr',s')∧Q fr' s'
theorem wp_seq {Q:Ex→Fr→St→Prop}(h:Wp T H a fr s fun e f1 s1=>match e with | .normal=>Wp T H c f1 s1 Q | e=>Q e f1 s1):Wp T H (.seq a c) fr s Q:=by
 obtain⟨e,f1,s1,h1,h2⟩:=h
 cases e with
 | normal=>obtain ⟨e2,f2,s2,h3,h4⟩:=h2; exact ⟨e2,f2,s2,.seq h1 h3,h4⟩
 | exit i=>exact ⟨_,f1,s1,.seqx h1 (by simp),h2⟩
 | ret=>exact ⟨_,f1,s1,.seqx h1 (by simp),h2⟩
theorem wp_reg {Q:Ex→Fr→St→Prop}(h:WpO T H 0 l fr s (Q .normal)):Wp T H (.reg l) fr s Q:=by
 obtain⟨f1,s1,h1,h2⟩:=h
 exact⟨_,f1,s1,.reg h1,h2⟩
theorem zIt {o:zPk}{f:Nat}{x:List D}{q:D×St}{Q:Fr→St→Prop}(hq:Ev T H f x s q)(h1:∀C:zAa,C f x s=some q→oper C b o fr s=some (fr1,s1))(h2:WpO T H b l fr1 s1 Q):WpO T H b (o::l) fr s Q:=by
 obtain⟨f2,s2,h3,h4⟩:=h2
 exact⟨f2,s2,.call hq h1 h3,h4⟩
theorem yIc {o:zPk}{Q:Fr→St→Prop}(h1:oper zAq b o fr s=some (fr1,s1))(h2:WpO T H b l fr1 s1 Q):WpO T H b (o::l) fr s Q:=by
 obtain⟨f2,s2,h3,h4⟩:=h2
 exact⟨f2,s2,.cons h1 h3,h4⟩
theorem wp_cond {k:Opd}{v:Bool}{Q:Ex→Fr→St→Prop}(hc:k.ev fr.env=some (.bool v))(h:if v=true then Wp T H a fr s Q else Wp T H c fr s Q):Wp T H (.cond k a c) fr s Q:=by
 cases v with
 | true=>obtain ⟨e,f1,s1,h1,h2⟩:=h; exact ⟨e,f1,s1,.condT hc h1,h2⟩
 | false=>obtain ⟨e,f1,s1,h1,h2⟩:=h; exact ⟨e,f1,s1,.condF hc h1,h2⟩
theorem wp_skip {Q:Ex→Fr→St→Prop}(h:Q .normal fr s):Wp T H .skip fr s Q:=⟨_,_,_,.skip,h⟩
theorem wp_ret {Q:Ex→Fr→St→Prop}(h:Q .ret fr s):Wp T H .ret fr s Q:=⟨_,_,_,.ret,h⟩
theorem wp_exit {i:Nat}{Q:Ex→Fr→St→Prop}(h:Q (.exit i) fr s):Wp T H (.exit i) fr s Q:=⟨_,_,_,.exit,h⟩
theorem wp_block {id:Nat}{Q:Ex→Fr→St→Prop}(h:Wp T H a fr s fun e f1 s1=>match e with | .exit i=>if i=id then Q .normal f1 s1 else Q (.exit i) f1 s1 | e=>Q e f1 s1):Wp T H (.block id a) fr s Q:=by
 obtain⟨e,f1,s1,h1,h2⟩:=h
 cases e with
 | normal=>exact ⟨_,f1,s1,.block h1 (by simp),h2⟩
 | ret=>exact ⟨_,f1,s1,.block h1 (by simp),h2⟩
 | exit i=>
  by_cases hi:i=id
  ·subst hi
   simp only [if_true]at h2
   exact⟨_,f1,s1,.blockx h1,h2⟩
  ·simp only [if_neg hi]at h2
   exact⟨_,f1,s1,.block h1 (by simpa using hi),h2⟩
theorem wp_loop {k:List Nat}{Q:Ex→Fr→St→Prop}(I:Nat→Fr→St→Prop)(hI:∀n fr s,I n fr s→Wp T H a { fr with env:=fr.env.keep k} s fun e f1 s1=>match e with | .normal=>∃m,m < n∧I m f1 s1 | e=>Q e f1 s1)(hb:a.isRangef=false:=by rfl):
  ∀n fr s,I n fr s→Wp T H (.loop k a) fr s Q:=by
 intro n
 induction n using Nat.strongRecOn with
 | ind n ih=>
  intro fr s h
  obtain⟨e,f1,s1,h1,h2⟩:=hI n fr s h
  cases e with
  | normal=>
   obtain⟨m,hm,h3⟩:=h2
   obtain⟨e2,f2,s2,h4,h5⟩:=ih m hm f1 s1 h3
   exact⟨e2,f2,s2,.again h1 h4 hb,h5⟩
  | exit i=>exact ⟨_,f1,s1,.stop h1 (by simp) hb,h2⟩
  | ret=>exact ⟨_,f1,s1,.stop h1 (by simp) hb,h2⟩
theorem Wp.mono {Q Q' :Ex→Fr→St→Prop}(h:Wp T H a fr s Q)(hQ:∀e f1 s1,Q e f1 s1→Q' e f1 s1):Wp T H a fr s Q' :=by
 obtain⟨e,f1,s1,h1,h2⟩:=h
 exact⟨e,f1,s1,h1,hQ _ _ _ h2⟩
theorem zWg {f:Nat}{fn:AFn}{x:List D}{R:D→St→Prop}(hT:T f=some fn)
  (h:Wp T H fn.body { env:=env0 0 x,defers:=[]} s fun e f1 s1=>(∀i,e≠ .exit i)∧marks f1.defers=true∧∃rs,resD f1.env s1 fn.results=some rs∧R (single rs) s1)(hy:yS x=false:=by rfl):∃d s1,Ev T H f x s (d,s1)∧R d s1:=by
 obtain⟨e,f1,s1,h1,h2,h3,rs,h4,h5⟩:=h
 exact⟨_,s1,.mk hT h1 h2 h3 h4 hy,h5⟩
end Go.Ab
