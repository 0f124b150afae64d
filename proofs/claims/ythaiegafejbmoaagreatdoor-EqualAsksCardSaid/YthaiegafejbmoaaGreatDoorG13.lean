/- Part. -/
import Derived.Test.YthaiegafejbmoaaGreatDoorG12
set_option linter.unusedSectionVars false
set_option linter.unusedSimpArgs false
set_option linter.unusedVariables false
namespace Go.Ab
open Go
mutual
theorem D.a8:∀d:D,D.beq d d=true
 | .bool _=>by simp [D.beq]
 | .int _ _=>by simp [D.beq]
 | .str _=>by simp [D.beq]
 | .dU=>by simp [D.beq]
 | .ptr _ _=>by simp [D.beq]
 | .jN _ _ _ _=>by simp [D.beq]
 | .jJ e c=>by simp [D.beq,D.a8 e]
 | .vs n z l=>by simp [D.beq,D.bU l]
 | .sl _ _ _ _=>by simp [D.beq]
 | .qD=>by simp [D.beq]
 | .mp _=>by simp [D.beq]
 | .fn f x y=>by simp [D.beq,D.bU x,D.bU y]
 | .lX=>by simp [D.beq]
 | .eM t d=>by simp [D.beq,D.a8 d]
 | .jc=>by simp [D.beq]
 | .agg l=>by simp [D.beq,D.bU l]
 | .gW l=>by simp [D.beq,D.bU l]
 | .sint _ _ _ _=>by simp [D.beq]
 | .pa _ _ _ _=>by simp [D.beq]
 | .rY _=>by simp [D.beq]
 | .yl _=>by simp [D.beq]
 | .lv d=>by simp [D.beq,D.a8 d]
 | .iE _ _=>by simp [D.beq]
theorem D.bU:∀l:List D,D.fC l l=true
 | []=>rfl
 | d::l=>by simp only [D.fC,D.a8 d,D.bU l,dS]
end
theorem A8:∀l,wS l l=true
 | []=>rfl
 | (n,k,v)::l=>by simp only [wS,aA,D.a8,A8 l,dS]
theorem Obj.a8 (x:Obj):Obj.beq x x=true:=by
 cases x <;> simp [Obj.beq,D.a8,D.bU,A8]
theorem wK (l:List D):∀rg,cK l l rg=true
 | []=>rfl
 | (_,c,n)::r=>by simp only [cK,D.bU,wK l r,dS]
theorem bC (rg:List (Nat×Nat×Nat))(x:Obj):cQ rg x x=true:=by
 unfold cQ;split
 ·simp [wK]
 ·exact Obj.a8 _
theorem bH (rg:List (Nat×Nat×Nat))(s:St):∀l,dG rg s s l=false
 | []=>rfl
 | o::r=>by
  simp only [dG];cases h:s.get o with
  | none=>simp only [bH rg s r]
  | some x=>simp only [bC,bH rg s r]
theorem w7 (acc:List Fp)(s s1:St):∀l,cF acc s s l=cF acc s1 s1 l
 | []=>rfl
 | i::r=>by
  simp only [cF,bH,w7 acc s s1 r]
theorem Po (acc:List Fp)(s s1:St)(o:bz)(l:List Nat):lost acc s s o l=lost acc s1 s1 o l:=by
 simp only [lost,w7 acc s s1]
variable {s s' s1:St}{C:au}{L:gO}{e:Env}{al:Option Nat}{d:D}
theorem Ak.ro (h:Ak C):FJ C:=fun f l s d s' hr hc=>(h f l s d s' s ⟨rfl,rfl,hr,hr,fun _ _ h=>h⟩ hc).1
section
variable (hs:Sb s s1)
include hs
theorem rQ {sz:Option Nat}{p d:D}(h:iJ s sz p=some d):iJ s1 sz p=some d:=by
 unfold iJ at *
 repeat' split at h
 all_goals first
  | (cases h; done)
  | (have k:=hs.get _ _ (by assumption); simp only [*]; done)
  | (simp only [*]; done)
  | exact h
  | (simp only [aa,ab]at h; obtain ⟨rfl,rfl⟩:=h; first | rfl | (simp only [*]; done) | (have k:=hs.get _ _ (by assumption); simp only [*]; done))
  | trace_state
theorem uG {p:D}{r:Nat×List D}(h:items s p=some r):items s1 p=some r:=by
 unfold items at *
 repeat' split at h
 all_goals first
  | (cases h; done)
  | (have k:=hs.get _ _ (by assumption); simp only [*]; done)
  | (simp only [*]; done)
  | exact h
  | (simp only [aa,ab]at h; obtain ⟨rfl,rfl⟩:=h; first | rfl | (simp only [*]; done) | (have k:=hs.get _ _ (by assumption); simp only [*]; done))
  | trace_state
theorem Cw {k:Nat}{p:D}{r:Nat}(h:pJ s k p=some r):pJ s1 k p=some r:=by
 unfold pJ at *
 repeat' split at h
 all_goals first
  | (cases h; done)
  | (have k:=hs.get _ _ (by assumption); simp only [*]; done)
  | (simp only [*]; done)
  | exact h
  | (simp only [aa,ab]at h; obtain ⟨rfl,rfl⟩:=h; first | rfl | (simp only [*]; done) | (have k:=hs.get _ _ (by assumption); simp only [*]; done))
  | trace_state
theorem J7 {sz i:Nat}{p d:D}(h:mY s sz p i=some d):mY s1 sz p i=some d:=by
 unfold mY at *
 repeat' split at h
 all_goals first
  | (cases h; done)
  | (have k:=hs.get _ _ (by assumption); simp only [*]; done)
  | (simp only [*]; done)
  | exact h
  | (simp only [aa,ab]at h; obtain ⟨rfl,rfl⟩:=h; first | rfl | (simp only [*]; done) | (have k:=hs.get _ _ (by assumption); simp only [*]; done))
  | trace_state
theorem WK {a b:D}{r:Bool}(h:Q0 s a b=some r):Q0 s1 a b=some r:=by
 unfold Q0 at *;split at h
 ·split at h
  ·rename_i h1 h2;simp only [hs.get _ _ h1,hs.get _ _ h2]; exact h
  ·cases h
 ·cases h
theorem Qj {v:D}{r:Recv}{d:D}(h:qb s v r=some d):qb s1 v r=some d:=by
 unfold qb at *
 repeat' split at h
 all_goals first
  | (cases h; done)
  | (have k:=rQ hs h; simp only [*]; done)
  | (simp only [*]; done)
  | exact h
  | trace_state
theorem Bb {sz:Nat}{p:D}{l:List D}(h:iA s sz p l=some s'):iA s1 sz p l=some s1:=by
 unfold iA at *;simp only [pN hs.ro,pN hs.Va]at h ⊢
 repeat' split at h
 all_goals first
  | (cases h; done)
  | (have k:=hs.get _ _ (by assumption); simp only [*]; done)
  | (simp only [*]; done)
  | exact h
  | (simp only [aa,ab]at h; obtain ⟨rfl,rfl⟩:=h; first | rfl | (simp only [*]; done) | (have k:=hs.get _ _ (by assumption); simp only [*]; done))
  | trace_state
theorem yi {sz ty:Nat}{x:D}{l:List D}(h:ff s al sz ty x l=some (d,s')):ff s1 al sz ty x l=some (d,s1):=by
 unfold ff at *;simp only [pN hs.ro,Bv hs.ro,pN hs.Va,Bv hs.Va]at h ⊢
 repeat' split at h
 all_goals first
  | (cases h; done)
  | (have k:=hs.get _ _ (by assumption); simp only [*]; done)
  | (simp only [*]; done)
  | exact h
  | (simp only [aa,ab]at h; obtain ⟨rfl,rfl⟩:=h; first | rfl | (simp only [*]; done) | (have k:=hs.get _ _ (by assumption); simp only [*]; done))
  | trace_state
theorem R6 {k:Ext}{l:List D}(h:DY s k l=some (d,s')):DY s1 k l=some (d,s1):=by
 unfold DY at *;simp only [oe hs.ro,oe hs.Va,nY]at h ⊢
 repeat' split at h
 all_goals first
  | (cases h; done)
  | (have k:=rQ hs (by assumption); simp only [*]; done)
  | (simp only [*]; done)
  | exact h
  | (simp only [aa,ab]at h; obtain ⟨rfl,rfl⟩:=h; first | rfl | (simp only [*]; done) | (have k:=rQ hs (by assumption); simp only [*]; done))
  | trace_state
theorem CF {x y:Option D}(h:pw s x=some (d,s'))(hx:∀d,x=some d->y=some d):pw s1 y=some (d,s1):=by
 cases x with
 | none=>cases h
 | some v=>
  simp only [pw,aa,ab]at h;rw [hx v rfl,h.1]; rfl
end
theorem Sb.rd (hs:Sb s s1):Sb { s with ro:=true} { s1 with ro:=true}:=⟨hs.n,hs.lk,rfl,rfl,hs.get⟩
theorem X0 (hs:Sb s s1)(hC:Ak C){p:eE}(h:cg C e s al p=some (d,s')):cg C e s1 al p=some (d,s1):=by
 cases p <;> simp only [cg,pN hs.ro,Bv hs.ro,oe hs.ro,pN hs.Va,Bv hs.Va,oe hs.Va,nY]at h ⊢
 all_goals
  (repeat' split at h)
  all_goals first
   | (cases h; done)
   | (((try simp only [*])); exact CF hs h fun _ h=>h)
   | (((try simp only [*])); exact CF hs h fun _ h=>rQ hs h)
   | (((try simp only [*])); exact CF hs h fun _ h=>J7 hs h)
   | (((try simp only [*])); exact (hC _ _ _ _ _ _ hs h).2)
   | (((try simp only [*])); exact yi hs h)
   | (((try simp only [*])); exact R6 hs h)
   | (simp only [aa,ab]at h; obtain ⟨rfl,rfl⟩:=h; first
     | rfl
     | (simp only [*]; done)
     | (have k:=hs.get _ _ (by assumption); simp only [*]; done)
     | (have k:=(hC _ _ _ _ _ _ hs.rd (by assumption)).2; simp only [k]; done)
     | (have k:=uG hs (by assumption); simp only [*]; done)
     | (have k:=WK hs (by assumption); simp only [*]; done)
     | (have k:=Cw hs (by assumption); simp only [*]; done)
     | (have k:=Cw hs (by assumption); have k2:=Bb hs (by assumption); simp only [*]; done)
     | (have k:=Cw hs (by assumption); have k2:=uG hs (by assumption); have k2:=Bb hs (by assumption); simp only [*]; done))
   | (have k:=uG hs (by assumption); (try simp only [*]); exact CF hs h fun _ h=>h)
   | (have k:=uG hs (by assumption); (try simp only [*]); exact yi hs h)
   | (have k:=Qj hs (by assumption); (try simp only [*]); exact (hC _ _ _ _ _ _ hs h).2)
theorem Iw (hs:Sb s s1)(hC:Ak C){b:Nat}{o:bz} {fr fr' :Fr}(h:oper C b o fr s=some (fr',s)):oper C b o fr s1=some (fr',s1):=by
 unfold oper at h ⊢;split at h
 ·rename_i hw;try simp only [hw]
  split at h
  ·split at h
   ·rename_i h1 h2;simp only [aa,ab]at h;simp only [h1,h2,h.1]
   ·cases h
  ·split at h
   ·rename_i h1 h2;split at h
    ·rename_i h3;simp only [aa,ab]at h;simp only [h1,h2,h3,h.1]
    ·cases h
   ·cases h
  ·split at h
   ·rename_i h1 h2;split at h
    ·rename_i h3 h4 h5;split at h
     ·rename_i h6;simp only [aa,ab]at h;simp only [h1,h2,h3,h4,h5,h6,h.1]
     ·cases h
    ·cases h
   ·cases h
  ·rename_i n1 n2 n3;split at h
   ·rename_i h1;simp only [aa,ab]at h;obtain⟨rfl,rfl⟩:=h;have k:=X0 hs hC h1
    cases hp:o.op <;> simp only [hp]at k n1 n2 n3 ⊢ <;> first
     | (rw [k]; done)
     | exact absurd rfl (n1 _ _)
     | exact absurd rfl (n2 _)
     | exact absurd rfl (n3 _ _ _ _)
   ·cases h
 ·rename_i hw;simp only [aa,ab]at h;simp only [hw,h.1]
 ·cases h
theorem EN (hs:Sb s s1)(hC:Ak C){b:Nat}:∀ {l:List bz} {fr fr' :Fr},opers C b l fr s=some (fr',s)->opers C b l fr s1=some (fr',s1)
 | [],fr,fr',h=>by
  simp only [opers,aa,ab]at h ⊢; exact ⟨h.1,trivial⟩
 | o::r,fr,fr',h=>by
  simp only [opers]at h ⊢;split at h
  ·rename_i h1;have e9:=(xS hC.ro hs.ro h1).symm; subst e9;rw [Iw hs hC h1];exact EN hs hC h
  ·cases h
theorem T.yv:∀t:T Obj,T.diff t t=[]
 | .nil=>rfl
 | .node o l r=>by
  simp only [T.diff,T.yv l,T.yv r,eH,de];cases o with
  | none=>rfl
  | some x=>simp only [Obj.a8]
theorem Sc (s s1:St){b:Nat}{e:Env}{o:bz}:JM s s b e o=JM s1 s1 b e o:=by
 simp only [JM,T.yv]
theorem A3 (hs:Sb s s1)(hC:Ak C){b:Nat}:∀ {l:List (bz×List Nat)} {acc:List Fp} {fr fr' :Fr},gZ C b l acc fr s=some (fr',s)->gZ C b l acc fr s1=some (fr',s1)
 | [],_,fr,fr',h=>by
  simp only [gZ,aa,ab]at h ⊢; exact ⟨h.1,trivial⟩
 | (o,q)::r,acc,fr,fr',h=>by
  simp only [gZ]at h ⊢;split at h
  ·rename_i h0;try simp only [h0]
   split at h
   ·rename_i h1;have e9:=(xS hC.ro hs.ro h1).symm; subst e9;rw [Iw hs hC h1];rw [Po acc _ s1]at h;rw [Sc s s1]at h;simp only;split at h
    ·rename_i h2;try simp only [h2]
     exact A3 hs hC h
    ·cases h
   ·cases h
  ·cases h
def Jb (L:gO):Prop:=∀k a fr s e fr' s' s1,Sb s s1->L k a fr s=some (e,fr',s')->s' =s/\L k a fr s1=some (e,fr',s1)
theorem Jb.ro (h:Jb L):Vy L:=fun k a fr s e fr' s' hr hc=>(h k a fr s e fr' s' s ⟨rfl,rfl,hr,hr,fun _ _ h=>h⟩ hc).1
theorem j9 (hs:Sb s s1)(hC:Ak C)(hL:Jb L):∀ {a:AC} {fr fr' :Fr} {e:Ex},bN C L a fr s=some (e,fr',s)->bN C L a fr s1=some (e,fr',s1)
 | .skip,fr,fr',e,h=>by
  simp only [bN,aa,ab]at h ⊢; exact ⟨h.1,h.2.1,trivial⟩
 | .AL ops,fr,fr',e,h=>by
  simp only [bN]at h ⊢;split at h
  ·rename_i h1;simp only [aa,ab]at h;obtain⟨rfl,rfl,e9⟩:=h;have e9:=e9.symm; subst e9;rw [EN hs hC h1]
  ·cases h
 | .yF k ops,fr,fr',e,h=>by
  simp only [bN]at h ⊢;split at h
  ·cases h
  ·rename_i hk;split at h
   ·rename_i h1;simp only [aa,ab]at h;obtain⟨rfl,rfl,e9⟩:=h;have e9:=e9.symm; subst e9;have FP:k=0:=by
     rw [hs.ro,fO]at hk;rcases eV k with h | h
     ·exact h
     ·have:Nat.blt 0 k=true:=ax h;rw [this]at hk; cases hk
    subst FP;have k:=A3 (s:=s) hs hC h1;rw [← hs.n]at k;rw [show (s1.ro && Nat.blt 0 0)=false by rw [Bool.and_eq_false_iff]; exact .inr rfl];show (match gZ C s1.n ops [] fr s1 with | some (fr',s')=>some (Ex.normal,fr',s') | none=>none)=_;rw [k]
   ·cases h
 | .seq a b,fr,fr',e,h=>by
  simp only [bN]at h ⊢;split at h
  ·rename_i h1;have e9:=(gv hC.ro hL.ro hs.ro h1).symm; subst e9;rw [j9 hs hC hL h1];exact j9 hs hC hL h
  ·rename_i h1;rw [j9 hs hC hL h];split
   ·rename_i h2;simp only [aa,ab]at h2;obtain⟨rfl,rfl,rfl⟩:=h2;exact absurd h (h1 _ _)
   ·rfl
 | .cond c a b,fr,fr',e,h=>by
  simp only [bN]at h ⊢;split at h
  ·rename_i h1; (try simp only [h1]); exact j9 hs hC hL h
  ·rename_i h1; (try simp only [h1]); exact j9 hs hC hL h
  ·cases h
 | .block id a,fr,fr',e,h=>by
  simp only [bN]at h ⊢;split at h
  ·rename_i h1;have e9:=(gv hC.ro hL.ro hs.ro h1).symm; subst e9;rw [j9 hs hC hL h1];split at h
   ·rename_i h2;simp only [aa,ab]at h;obtain⟨rfl,rfl,_⟩:=h;simp only [h2]
   ·rename_i h2;simp only [aa,ab]at h;obtain⟨rfl,rfl,_⟩:=h;simp only [h2]
  ·rename_i h1;rw [j9 hs hC hL h];split
   ·rename_i h2;simp only [aa,ab]at h2;obtain⟨rfl,rfl,rfl⟩:=h2;exact absurd h (h1 _ _ _)
   ·rfl
 | .loop bM a,fr,fr',e,h=>by
  simp only [bN]at h ⊢;exact (hL _ _ _ _ _ _ _ _ hs h).2
 | .iF bM g ps x y,fr,fr',e,h=>by
  simp only [bN]at h ⊢;exact (hL _ _ _ _ _ _ _ _ hs h).2
 | .exit id,fr,fr',e,h=>by
  simp only [bN,aa,ab]at h ⊢; exact ⟨h.1,h.2.1,trivial⟩
 | .ret,fr,fr',e,h=>by
  simp only [bN,aa,ab]at h ⊢; exact ⟨h.1,h.2.1,trivial⟩
 | .bad,fr,fr',e,h=>by simp [bN]at h
theorem Pe (hs:Sb s s1)(hC:Ak C)(l:List (D×List D)):leave C l s=some s->leave C l s1=some s1:=by
 induction l with
 | nil=>intro h; rfl
 | cons q r ih=>
  obtain⟨f,l⟩:=q;intro h;cases f with
  | fn g a b=>
   cases g with
   | func f=>
    simp only [leave]at h ⊢;split at h
    ·rename_i d s2 h1;obtain⟨e9,k⟩:=hC _ _ _ _ _ _ hs h1;rw [e9]at h;simp only [k];exact ih h
    ·cases h
   | _=>simp [leave]at h
  | lX=>simp only [leave]at h ⊢; exact ih h
  | _=>simp [leave]at h
theorem uU (hs:Sb s s1){e:Env}:∀ {l:List xl} {r:List D},jH e s l=some r->jH e s1 l=some r
 | [],r,h=>h
 | .tmp t::q,r,h=>by
  simp only [jH]at h ⊢;split at h
  ·rename_i h1 h2;rw [h1,uU hs h2]; exact h
  ·cases h
 | .cell a sz::q,r,h=>by
  simp only [jH]at h ⊢;split at h
  ·rename_i h1;try simp only [h1]
   split at h
   ·rename_i h2 h3;rw [h2,uU hs h3]; exact h
   ·cases h
  ·rename_i p h1 h2;split at h
   ·rename_i h3 h4;rw [rQ hs h3,uU hs h4];exact h
   ·cases h
  ·cases h
theorem Qr {CD:au}(hs:Sb s s1)(hC:Ak C)(On:Ak CD)(hL:Jb L){fn:dJ}{args:List D}(h:nE C CD L fn args s=some (d,s)):nE C CD L fn args s1=some (d,s1):=by
 unfold nE at h ⊢;split at h
 ·cases h
 ·rename_i h0 h1;have e9:=(gv hC.ro hL.ro hs.ro h1).symm; subst e9;rw [j9 hs hC hL h1];split at h
  ·rename_i h2;have e9:=(uJ On.ro hs.ro h2).symm; subst e9;split at h
   ·rename_i h3;simp only [aa,ab]at h;obtain⟨rfl,_⟩:=h;split
    ·rename_i h4;simp only [aa,ab]at h4;obtain⟨rfl,rfl,rfl⟩:=h4;exact (h0 _ rfl).elim
    ·rename_i h4;simp only [aa,ab]at h4;obtain⟨rfl,rfl,rfl⟩:=h4;rw [Pe hs On _ h2];simp only [uU hs h3]
    ·rename_i h4; cases h4
   ·cases h
  ·cases h
 ·cases h
theorem Mi {T:Nat->Option dJ}(hC:Ak C)(hL:Jb L):Ak (oE T C L):=by
 intro f l s d s' s1 hs h;have hr:=Dz (T:=T) hC.ro hL.ro f l s d s' hs.ro h;subst hr;refine⟨rfl, ?_⟩;unfold oE at h ⊢;split at h
 ·rename_i fn hf;try simp only [hf]
  unfold wu at h ⊢;split at h
  ·cases h
  ·rename_i h0 h1;have e9:=(gv hC.ro hL.ro hs.ro h1).symm; subst e9;rw [j9 hs hC hL h1];split at h
   ·rename_i h2;split at h
    ·rename_i h3;simp only [aa,ab]at h;obtain⟨rfl,_⟩:=h;split
     ·rename_i h4;simp only [aa,ab]at h4;obtain⟨rfl,rfl,rfl⟩:=h4;exact (h0 _ rfl).elim
     ·rename_i h4;simp only [aa,ab]at h4;obtain⟨rfl,rfl,rfl⟩:=h4;simp only [h2,uU hs h3]
     ·rename_i h4; cases h4
    ·cases h
   ·cases h
  ·cases h
 ·cases h
theorem vA {T:Nat->Option dJ}{H:au}(hH:Ak H):∀n,Ak (cV T H n)/\Jb (eT T H n)
 | 0=>⟨fun f l s d s' _ _ h=>by simp [cV]at h,fun k a fr s e fr' s' _ _ h=>by simp [eT]at h⟩
 | n+1=>by
  obtain⟨i1,i2⟩:=vA (T:=T) hH n;refine⟨fun f l s d s' s1 hs h=> ?_,fun k a fr s e fr' s' s1 hs h=> ?_⟩
  ·have hr:=(oF (T:=T) hH.ro (n+1)).1 _ _ _ _ _ hs.ro h;subst hr;refine⟨rfl, ?_⟩;simp only [cV]at h ⊢;split at h
   ·exact (hH _ _ _ _ _ _ hs h).2
   ·split at h
    ·exact Qr hs i1 (Mi i1 i2) i2 h
    ·exact (hH _ _ _ _ _ _ hs h).2
  ·have hr:=(oF (T:=T) hH.ro (n+1)).2 _ _ _ _ _ _ _ hs.ro h;subst hr;refine⟨rfl, ?_⟩;cases hb:a.iD with
   | true=>
    cases a <;> first | (cases hb; done) | skip
    rw [jy,BG hs.ro]at h; cases h
   | false=>
    rw [ib _ _ _ _ hb]at h ⊢;split at h
    ·rename_i h1;have e9:=(gv i1.ro i2.ro hs.ro h1).symm; subst e9;rw [j9 hs i1 i2 h1];exact (i2 _ _ _ _ _ _ _ _ hs h).2
    ·rename_i h1;rw [j9 hs i1 i2 h];split
     ·rename_i h2;simp only [aa,ab]at h2;obtain⟨rfl,rfl,rfl⟩:=h2;exact absurd h (h1 _ _)
     ·rfl
theorem lL (o:Nat):∀(k b:Nat) (h:T Obj),(pT k b h).get o=if b<=o/\o < b+k then none else h.get o
 | 0,b,h=>by
  rw [aI (by omega)]; rfl
 | k+1,b,h=>by
  simp only [pT];rw [lL o k (b+1),T.pj];by_cases h1:b+1<=o/\o < b+1+k
  ·rw [bQ h1,bQ (by omega)]
  ·rw [aI h1];by_cases h2:o=b
   ·rw [bQ h2,bQ (by omega)]
   ·rw [aI h2,aI (by omega)]
def De (C:au)(b hi:Nat):Prop:=∀f l s s2 d s',s.ro=true->s2.ro=true->s2.n=s.n->s2.lk=s.lk->(∀o,o < b\/hi<=o->s2.get o=s.get o)->C f l s=some (d,s')->C f l s2=some (d,s2)
theorem NK (hC:Ak C)(b k:Nat):De (lA b k C) b (b+k):=by
 intro f l s s2 d s' hr FT hn hl hg h;cases k with
 | zero=>exact (hC f l s d s' s2 ⟨hn,hl,hr,FT,fun o x hx=>by rw [hg o (by omega)]; exact hx⟩ h).2
 | succ k=>
  simp only [lA,hr,FT]at h ⊢;split at h
  ·rename_i d1 s3 h1;simp only [aa,ab]at h;obtain⟨rfl,_⟩:=h
   have:=(hC f l ⟨s.n,pT (k+1) b s.h,s.lk,true⟩ _ _ ⟨s2.n,pT (k+1) b s2.h,s2.lk,true⟩ ⟨hn,hl,rfl,rfl,fun o x hx=>by
    simp only [St.get]at hx hg ⊢;rw [lL]at hx ⊢;by_cases ho:b<=o/\o < b+(k+1)
    ·rw [bQ ho]at hx; cases hx
    ·rw [aI ho]at hx ⊢;rw [hg o (by omega)]; exact hx⟩ h1).2
   simp only [this]
  ·cases h
theorem NL (hC:Ak C)(b k:Nat):Ak (lA b k C):=by
 intro f l s d s' s1 hs h;cases k with
 | zero=>exact hC f l s d s' s1 hs h
 | succ k=>
  simp only [lA,hs.ro,hs.Va]at h ⊢;split at h
  ·rename_i d1 s3 h1;simp only [aa,ab]at h;obtain⟨rfl,rfl⟩:=h
   have:=(hC f l ⟨s.n,pT (k+1) b s.h,s.lk,true⟩ _ _ ⟨s1.n,pT (k+1) b s1.h,s1.lk,true⟩ ⟨hs.n,hs.lk,rfl,rfl,fun o x hx=>by
    have hg:=hs.get o x;simp only [St.get]at hx hg ⊢;rw [lL]at hx ⊢;by_cases ho:b<=o/\o < b+(k+1)
    ·rw [bQ ho]at hx; cases hx
    ·rw [aI ho]at hx ⊢;exact hg hx⟩ h1).2
   simp only [this];exact⟨trivial,trivial⟩
  ·cases h
theorem yq (hC:Ak C){b k f:Nat}{l:List D}(h:lA b k C f l s=some (d,s')):C f l s=some (d,s'):=by
 cases k with
 | zero=>exact h
 | succ k=>
  cases hr:s.ro with
  | false=>simp only [lA,hr]at h; exact h
  | true=>
   simp only [lA,hr]at h;split at h
   ·rename_i d1 s3 h1;simp only [aa,ab]at h;obtain⟨rfl,rfl⟩:=h
    exact (hC f l ⟨s.n,pT (k+1) b s.h,s.lk,true⟩ _ _ s ⟨rfl,rfl,rfl,hr,fun o x hx=>by
     simp only [St.get]at hx ⊢;rw [lL]at hx;split at hx
     ·cases hx
     ·exact hx⟩ h1).2
   ·cases h
theorem RW (hC:FJ C)(b k:Nat):FJ (lA b k C):=by
 intro f l s d s' hr h;cases k with
 | zero=>exact hC f l s d s' hr h
 | succ k=>
  simp only [lA,hr]at h;split at h
  ·simp only [aa,ab]at h; exact h.2.symm
  ·cases h
end Go.Ab
namespace Go.Ab
open Go
variable [eh]
variable {ρ ρ' :Gh} {w w' :World}{P:Program}{pn:gY}{G:Gl}{X:ig}{A:mT} {s s' :St}{env:Env}{a:Act}{lo:Nat}{d:D}{C:au}{al:Option Nat}
theorem Pa (hs:bK ρ s w){o:Nat}{x:Obj}(ho:s.get o=some x):∃ρ',Kp ρ w ρ' w/\bK ρ' (s.bn o .dead) w/\(∀b,ρ'.own b=ρ.own b)/\ρ'.kd o= .dead/\∀q,q≠o->ρ'.kd q=ρ.kd q:=by
 let ρ1:Gh:= { ρ with kd:=fun q=>if q=o then .dead else ρ.kd q}
 have kM:∀q,q≠o->ρ1.kd q=ρ.kd q:=fun q hq=>by simp [ρ1,hq]
 have hK:Kp ρ w ρ1 w:=by
  refine⟨rfl,rfl,rfl,aq _,fun b hb hn=>⟨rfl,rfl⟩,fun q hq=> ?_,fun q z hq=> ?_⟩
  ·simp only [ρ1]; split
   ·exact⟨rfl,trivial⟩
   ·exact⟨hq,trivial⟩
  ·by_cases SD:q=o
   ·exact .inl (by simp [ρ1,SD])
   ·exact .inr ⟨by rw [kM q SD]; exact hq,fun b hb=>⟨hb,rfl,aq _,rfl⟩⟩
 exact⟨ρ1,hK,hs.QM hK o .dead (fun b q hq _=>kN) kM (fun b q hq _ hb=>⟨rfl,rfl,rfl,rfl⟩) (by simp [oC,ρ1]) (fun b hb=>hs.size b (by omega)) (hs.lt _ _ ho) (aq _) (St.eS s o _),fun _=>rfl,by simp [ρ1],kM⟩
theorem Fg {t e:TypeId}{n:Nat}{ad:Addr}(hu:P.underlying t=some (.array n e))(fQ:dC P e=some 1)(hn:0 < n):
  (Instr.sliceAt t (.pointer (some ad)) none none none).run P w= .ok (.slice (some (ad.add (0 * 1))) n n) w:=by
 have hb:(Instr.sliceBounds false n n none none none).run P w= .ok (0,n,n) w:=by
  unfold Instr.sliceBounds; simp
 simp only [Instr.sliceAt,Sem.run_bind,run_underlying hu,Result.andThen_ok,Instr.sureAddr,hb,fD fQ,Sem.run_pure];rw [aI (by omega)];rfl
section
variable (he:dW ρ w lo env a.tmps)(hg:gn pn G ρ w)(hs:bK ρ s w)
include he hg hs
theorem Kz {t e:TypeId}{n:Nat} {x' :Operand}{x:bO}(hx:ew G x' =some x)(hu:P.underlying t=some (.array n e))(fQ:dC P e=some 1)(h:cg C env s al (.yj n x)=some (d,s')){o:Oper}
  (ho:o.op= .slice t x' none none none):eP P ρ w env a.tmps d s' ((execOp a.eval o).run P w):=by
 simp only [cg]at h;split at h
 ·rename_i ob hp;have hv:=bc hx he hg hp;split at h
  ·rename_i ty v lD;split at h
   ·rename_i qx;have qx:=ay qx;split at h
    ·rename_i s1 iB;split at h
     ·rename_i k s2 hm;simp only [aa,ab]at h;obtain⟨rfl,rfl⟩:=h;obtain⟨b,u,g1,g2,g3,g4,g5,g6⟩:=hs.ok _ _ lD;simp only [aR,Gh.at,g1]at hv;obtain⟨b',h1,h3⟩:=hv;obtain rfl:=g2.2 b' h1;have hus:u.cells.size=n:=by rw [g3.size g6]; exact qx
      have hn:0 < n:=by omega
      have qz:s1=s.bn ob .dead:=St.qf iB;subst qz;obtain⟨ρ1,j1,j2,j3,j4,j5⟩:=Pa hs lD;have hk:k=s.n/\s2=(s.bn ob .dead).aZ (.arr 1 ty v.flat 0):=by
       unfold St.mk' at hm;split at hm
       ·cases hm
       ·simp only [aa,ab]at hm; exact ⟨hm.1.symm,hm.2.symm⟩
      obtain⟨rfl,rfl⟩:=hk;have acy:ob < s.n:=hs.lt _ _ lD;have kA:ρ1.own b' = .obj ob:=by rw [j3]; exact h1
      have H6:ρ1.kd s.n= .fresh:=j2.no s.n (by
       cases hq:(s.bn ob .dead).get s.n with
       | none=>rfl
       | some y=>have:=j2.lt _ _ hq; exact absurd this (fP _))
      have hbs:b' < w.heap.size:=hs.jG h1;obtain⟨f1,f2⟩:=g3.flat g6
      obtain⟨n1,n2⟩:=zJ (w' :=w) (b:=b') (k:=s.n) (z:=1) (sh:=0) (ex:=n) (cp:=n) (x:= .arr 1 ty v.flat 0) (s' :=(s.bn ob .dead).aZ (.arr 1 ty v.flat 0)) j2
       (fun o' h' => .inr (by rw [kA]at h'; simp only [Own.obj.injEq]at h'; subst h'; exact j4)) (.inr ⟨ob,kA⟩) (.inl H6) (fun b'' dn _=>rfl) (aq _) (fun b'' iS =>by omega) rfl rfl rfl (fun hK=>by
        refine⟨by omega,by simp [Gh.put],by omega,⟨b',by simp [Gh.put],by simp [Gh.put,qx],fun b'' q1 q2=> ?_⟩,fun b'' q1=> ?_, ?_⟩
        ·by_cases lh:b'' =b'
         ·exact lh
         ·simp only [Gh.put,aI lh]at q1;exact absurd H6 (j2.live _ _ q1)
        ·by_cases lh:b'' =b'
         ·subst lh;have l9:∀j,w.cell? ⟨b'',j,none⟩=u.cells[j]? :=fun j=>dX g4;refine⟨by simp [Gh.put,qx],by simp [Gh.put],by simp [Gh.put],fun j hj=> ?_,⟨_,_,g4⟩,fun _ i dd a1 a2 a3=> ?_⟩
          ·simp only [Gh.put,ei,lf]at hj;exact⟨by rw [l9]; simp; omega,by simp [World.frozen?,g4]⟩
          ·simp only [Gh.put,ei]at a1 a2 ⊢;obtain⟨y,y1,y2⟩:=bu.get f1 a3;refine⟨y,(y2.mono j1).mono hK, ?_,fun q hq=> ?_⟩
           ·have:=(y2.sc (c9.1 (D.mH g6) dd (bG a3))).2;rw [this]; rfl
           ·have h2:=(y2.sc (c9.1 (D.mH g6) dd (bG a3))).2;rw [h2]at hq ⊢;have vP:q=0:=by simpa using hq
            subst vP;rw [l9];simp only [Nat.sub_zero,lf,fu];simpa using y1
         ·simp only [Gh.put,aI lh]at q1;exact absurd H6 (j2.live _ _ q1)
        ·rw [gL];intro q hq;have hqs:=c9.1 (D.mH g6) q hq;exact⟨by cases q <;> simp_all [D.flat,D.sc],D.Vc hqs⟩)
       (mf _) (Nat.le_succ _) (fun o=>T.pj _ _ _ _)
      have hr:(execOp a.eval o).run P w= .ok (.value (.slice (some (Addr.add ⟨b',0,none⟩ (0 * 1))) n n)) w:=by
       simp only [execOp,ho];rw [h3];rw [Sem.run_bind,show Option.map a.eval none=none from rfl,Fg hu fQ hn]; rfl
      rw [hr];refine .val (j1.trans n1) n2 ?_;simp only [aR,Gh.at,Gh.put,ei];exact⟨b',by simp,by simp,by simp,aq _,0,n,by simp [Addr.add_mid],aq _,.inr (by simp),by simp⟩
     ·cases h
    ·cases h
   ·cases h
  ·cases h
 ·cases h
end
end Go.Ab
