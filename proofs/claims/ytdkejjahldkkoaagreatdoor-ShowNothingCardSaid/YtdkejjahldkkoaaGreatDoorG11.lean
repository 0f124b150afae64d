/- Part. -/
import Derived.Test.YtdkejjahldkkoaaGreatDoorG10
set_option linter.unusedSectionVars false
set_option linter.unusedSimpArgs false
set_option linter.unusedVariables false
namespace Go.Ab
open Go
mutual
theorem D.aV:∀d:D,D.beq d d=true
 | .bool _=>by simp [D.beq]
 | .int _ _=>by simp [D.beq]
 | .str _=>by simp [D.beq]
 | .cT=>by simp [D.beq]
 | .ptr _ _=>by simp [D.beq]
 | .jK _ _ _ _=>by simp [D.beq]
 | .jE e c=>by simp [D.beq,D.aV e]
 | .vs n z l=>by simp [D.beq,D.bV l]
 | .sl _ _ _ _=>by simp [D.beq]
 | .qz=>by simp [D.beq]
 | .mp _=>by simp [D.beq]
 | .fn f x y=>by simp [D.beq,D.bV x,D.bV y]
 | .mf=>by simp [D.beq]
 | .ig t d=>by simp [D.beq,D.aV d]
 | .nv=>by simp [D.beq]
 | .agg l=>by simp [D.beq,D.bV l]
 | .gJ l=>by simp [D.beq,D.bV l]
 | .sint _ _ _ _=>by simp [D.beq]
 | .pz _ _ _ _=>by simp [D.beq]
 | .rN _=>by simp [D.beq]
 | .yl _=>by simp [D.beq]
 | .lv d=>by simp [D.beq,D.aV d]
 | .iI _ _=>by simp [D.beq]
theorem D.bV:∀l:List D,D.fv l l=true
 | []=>rfl
 | d::l=>by simp only [D.fv,D.aV d,D.bV l,fk]
end
theorem BB:∀l,wE l l=true
 | []=>rfl
 | (n,k,v)::l=>by simp only [wE,az,D.aV,BB l,fk]
theorem Obj.aV (x:Obj):Obj.beq x x=true:=by
 cases x <;> simp [Obj.beq,D.aV,D.bV,BB]
theorem wY (l:List D):∀rg,cL l l rg=true
 | []=>rfl
 | (_,c,n)::r=>by simp only [cL,D.bV,wY l r,fk]
theorem bu (rg:List (Nat×Nat×Nat))(x:Obj):cP rg x x=true:=by
 unfold cP;split
 ·simp [wY]
 ·exact Obj.aV _
theorem bC (rg:List (Nat×Nat×Nat))(s:St):∀l,dE rg s s l=false
 | []=>rfl
 | o::r=>by
  simp only [dE];cases h:s.get o with
  | none=>simp only [bC rg s r]
  | some x=>simp only [bu,bC rg s r]
theorem wA (acc:List Fp)(s s1:St):∀l,cJ acc s s l=cJ acc s1 s1 l
 | []=>rfl
 | i::r=>by
  simp only [cJ,bC,wA acc s s1 r]
theorem Mw (acc:List Fp)(s s1:St)(o:bj)(l:List Nat):lost acc s s o l=lost acc s1 s1 o l:=by
 simp only [lost,wA acc s s1]
variable {s s' s1:St}{C:au}{L:ic}{e:Env}{al:Option Nat}{d:D}
theorem zJ.ro (h:zJ C):Fq C:=fun f l s d s' hr hc=>(h f l s d s' s ⟨rfl,rfl,hr,hr,fun _ _ h=>h⟩ hc).1
section
variable (hs:Sb s s1)
include hs
theorem rA {sz:Option Nat}{p d:D}(h:iR s sz p=some d):iR s1 sz p=some d:=by
 unfold iR at *
 repeat' split at h
 all_goals first
  | (cases h; done)
  | (have k:=hs.get _ _ (by assumption); simp only [*]; done)
  | (simp only [*]; done)
  | exact h
  | (simp only [aa,ab]at h; obtain ⟨rfl,rfl⟩:=h; first | rfl | (simp only [*]; done) | (have k:=hs.get _ _ (by assumption); simp only [*]; done))
  | trace_state
theorem uI {p:D}{r:Nat×List D}(h:items s p=some r):items s1 p=some r:=by
 unfold items at *
 repeat' split at h
 all_goals first
  | (cases h; done)
  | (have k:=hs.get _ _ (by assumption); simp only [*]; done)
  | (simp only [*]; done)
  | exact h
  | (simp only [aa,ab]at h; obtain ⟨rfl,rfl⟩:=h; first | rfl | (simp only [*]; done) | (have k:=hs.get _ _ (by assumption); simp only [*]; done))
  | trace_state
theorem Cz {k:Nat}{p:D}{r:Nat}(h:o7 s k p=some r):o7 s1 k p=some r:=by
 unfold o7 at *
 repeat' split at h
 all_goals first
  | (cases h; done)
  | (have k:=hs.get _ _ (by assumption); simp only [*]; done)
  | (simp only [*]; done)
  | exact h
  | (simp only [aa,ab]at h; obtain ⟨rfl,rfl⟩:=h; first | rfl | (simp only [*]; done) | (have k:=hs.get _ _ (by assumption); simp only [*]; done))
  | trace_state
theorem KF {sz i:Nat}{p d:D}(h:j8 s sz p i=some d):j8 s1 sz p i=some d:=by
 unfold j8 at *
 repeat' split at h
 all_goals first
  | (cases h; done)
  | (have k:=hs.get _ _ (by assumption); simp only [*]; done)
  | (simp only [*]; done)
  | exact h
  | (simp only [aa,ab]at h; obtain ⟨rfl,rfl⟩:=h; first | rfl | (simp only [*]; done) | (have k:=hs.get _ _ (by assumption); simp only [*]; done))
  | trace_state
theorem WV {a b:D}{r:Bool}(h:PR s a b=some r):PR s1 a b=some r:=by
 unfold PR at *;split at h
 ·split at h
  ·rename_i h1 h2;simp only [hs.get _ _ h1,hs.get _ _ h2]; exact h
  ·cases h
 ·cases h
theorem LM {v:D}{r:Recv}{d:D}(h:rW s v r=some d):rW s1 v r=some d:=by
 unfold rW at *
 repeat' split at h
 all_goals first
  | (cases h; done)
  | (have k:=rA hs h; simp only [*]; done)
  | (simp only [*]; done)
  | exact h
  | trace_state
theorem A7 {sz:Nat}{p:D}{l:List D}(h:iP s sz p l=some s'):iP s1 sz p l=some s1:=by
 unfold iP at *;simp only [pS hs.ro,pS hs.Tk]at h ⊢
 repeat' split at h
 all_goals first
  | (cases h; done)
  | (have k:=hs.get _ _ (by assumption); simp only [*]; done)
  | (simp only [*]; done)
  | exact h
  | (simp only [aa,ab]at h; obtain ⟨rfl,rfl⟩:=h; first | rfl | (simp only [*]; done) | (have k:=hs.get _ _ (by assumption); simp only [*]; done))
  | trace_state
theorem y7 {sz ty:Nat}{x:D}{l:List D}(h:fF s al sz ty x l=some (d,s')):fF s1 al sz ty x l=some (d,s1):=by
 unfold fF at *;simp only [pS hs.ro,AM hs.ro,pS hs.Tk,AM hs.Tk]at h ⊢
 repeat' split at h
 all_goals first
  | (cases h; done)
  | (have k:=hs.get _ _ (by assumption); simp only [*]; done)
  | (simp only [*]; done)
  | exact h
  | (simp only [aa,ab]at h; obtain ⟨rfl,rfl⟩:=h; first | rfl | (simp only [*]; done) | (have k:=hs.get _ _ (by assumption); simp only [*]; done))
  | trace_state
theorem Rs {k:Ext}{l:List D}(h:Db s k l=some (d,s')):Db s1 k l=some (d,s1):=by
 unfold Db at *;simp only [oH hs.ro,oH hs.Tk,oC]at h ⊢
 repeat' split at h
 all_goals first
  | (cases h; done)
  | (have k:=rA hs (by assumption); simp only [*]; done)
  | (simp only [*]; done)
  | exact h
  | (simp only [aa,ab]at h; obtain ⟨rfl,rfl⟩:=h; first | rfl | (simp only [*]; done) | (have k:=rA hs (by assumption); simp only [*]; done))
  | trace_state
theorem Ch {x y:Option D}(h:nk s x=some (d,s'))(hx:∀d,x=some d->y=some d):nk s1 y=some (d,s1):=by
 cases x with
 | none=>cases h
 | some v=>
  simp only [nk,aa,ab]at h;rw [hx v rfl,h.1]; rfl
end
theorem Sb.rd (hs:Sb s s1):Sb { s with ro:=true} { s1 with ro:=true}:=⟨hs.n,hs.lk,rfl,rfl,hs.get⟩
theorem Wn (hs:Sb s s1)(hC:zJ C){p:eN}(h:cB C e s al p=some (d,s')):cB C e s1 al p=some (d,s1):=by
 cases p <;> simp only [cB,pS hs.ro,AM hs.ro,oH hs.ro,pS hs.Tk,AM hs.Tk,oH hs.Tk,oC]at h ⊢
 all_goals
  (repeat' split at h)
  all_goals first
   | (cases h; done)
   | (((try simp only [*])); exact Ch hs h fun _ h=>h)
   | (((try simp only [*])); exact Ch hs h fun _ h=>rA hs h)
   | (((try simp only [*])); exact Ch hs h fun _ h=>KF hs h)
   | (((try simp only [*])); exact (hC _ _ _ _ _ _ hs h).2)
   | (((try simp only [*])); exact y7 hs h)
   | (((try simp only [*])); exact Rs hs h)
   | (simp only [aa,ab]at h; obtain ⟨rfl,rfl⟩:=h; first
     | rfl
     | (simp only [*]; done)
     | (have k:=hs.get _ _ (by assumption); simp only [*]; done)
     | (have k:=(hC _ _ _ _ _ _ hs.rd (by assumption)).2; simp only [k]; done)
     | (have k:=uI hs (by assumption); simp only [*]; done)
     | (have k:=WV hs (by assumption); simp only [*]; done)
     | (have k:=Cz hs (by assumption); simp only [*]; done)
     | (have k:=Cz hs (by assumption); have k2:=A7 hs (by assumption); simp only [*]; done)
     | (have k:=Cz hs (by assumption); have k2:=uI hs (by assumption); have k2:=A7 hs (by assumption); simp only [*]; done))
   | (have k:=uI hs (by assumption); (try simp only [*]); exact Ch hs h fun _ h=>h)
   | (have k:=uI hs (by assumption); (try simp only [*]); exact y7 hs h)
   | (have k:=LM hs (by assumption); (try simp only [*]); exact (hC _ _ _ _ _ _ hs h).2)
theorem Ie (hs:Sb s s1)(hC:zJ C){b:Nat}{o:bj} {fr fr' :Fr}(h:oper C b o fr s=some (fr',s)):oper C b o fr s1=some (fr',s1):=by
 unfold oper at h ⊢;split at h
 ·rename_i hw;try simp only [hw]
  split at h
  ·split at h
   ·rename_i h1 h2;simp only [aa,ab]at h;simp only [h1,h2,h.1]
   ·cases h
  ·split at h
   ·rename_i h1 h2;split at h
    ·rename_i h3;simp only [aa,ab]at h;simp only [h1,h2,h3,h.1]
    ·cases h
   ·cases h
  ·split at h
   ·rename_i h1 h2;split at h
    ·rename_i h3 h4 h5;split at h
     ·rename_i h6;simp only [aa,ab]at h;simp only [h1,h2,h3,h4,h5,h6,h.1]
     ·cases h
    ·cases h
   ·cases h
  ·rename_i n1 n2 n3;split at h
   ·rename_i h1;simp only [aa,ab]at h;obtain⟨rfl,rfl⟩:=h;have k:=Wn hs hC h1
    cases hp:o.op <;> simp only [hp]at k n1 n2 n3 ⊢ <;> first
     | (rw [k]; done)
     | exact absurd rfl (n1 _ _)
     | exact absurd rfl (n2 _)
     | exact absurd rfl (n3 _ _ _ _)
   ·cases h
 ·rename_i hw;simp only [aa,ab]at h;simp only [hw,h.1]
 ·cases h
theorem E9 (hs:Sb s s1)(hC:zJ C){b:Nat}:∀ {l:List bj} {fr fr' :Fr},opers C b l fr s=some (fr',s)->opers C b l fr s1=some (fr',s1)
 | [],fr,fr',h=>by
  simp only [opers,aa,ab]at h ⊢; exact ⟨h.1,trivial⟩
 | o::r,fr,fr',h=>by
  simp only [opers]at h ⊢;split at h
  ·rename_i h1;have e9:=(xu hC.ro hs.ro h1).symm; subst e9;rw [Ie hs hC h1];exact E9 hs hC h
  ·cases h
theorem T.zk:∀t:T Obj,T.diff t t=[]
 | .nil=>rfl
 | .node o l r=>by
  simp only [T.diff,T.zk l,T.zk r,ed,dY];cases o with
  | none=>rfl
  | some x=>simp only [Obj.aV]
theorem RS (s s1:St){b:Nat}{e:Env}{o:bj}:Jf s s b e o=Jf s1 s1 b e o:=by
 simp only [Jf,T.zk]
theorem AV (hs:Sb s s1)(hC:zJ C){b:Nat}:∀ {l:List (bj×List Nat)} {acc:List Fp} {fr fr' :Fr},iy C b l acc fr s=some (fr',s)->iy C b l acc fr s1=some (fr',s1)
 | [],_,fr,fr',h=>by
  simp only [iy,aa,ab]at h ⊢; exact ⟨h.1,trivial⟩
 | (o,q)::r,acc,fr,fr',h=>by
  simp only [iy]at h ⊢;split at h
  ·rename_i h0;try simp only [h0]
   split at h
   ·rename_i h1;have e9:=(xu hC.ro hs.ro h1).symm; subst e9;rw [Ie hs hC h1];rw [Mw acc _ s1]at h;rw [RS s s1]at h;simp only;split at h
    ·rename_i h2;try simp only [h2]
     exact AV hs hC h
    ·cases h
   ·cases h
  ·cases h
def Js (L:ic):Prop:=∀k a fr s e fr' s' s1,Sb s s1->L k a fr s=some (e,fr',s')->s' =s/\L k a fr s1=some (e,fr',s1)
theorem Js.ro (h:Js L):Xu L:=fun k a fr s e fr' s' hr hc=>(h k a fr s e fr' s' s ⟨rfl,rfl,hr,hr,fun _ _ h=>h⟩ hc).1
theorem kD (hs:Sb s s1)(hC:zJ C)(hL:Js L):∀ {a:AC} {fr fr' :Fr} {e:Ex},bW C L a fr s=some (e,fr',s)->bW C L a fr s1=some (e,fr',s1)
 | .skip,fr,fr',e,h=>by
  simp only [bW,aa,ab]at h ⊢; exact ⟨h.1,h.2.1,trivial⟩
 | .Aa ops,fr,fr',e,h=>by
  simp only [bW]at h ⊢;split at h
  ·rename_i h1;simp only [aa,ab]at h;obtain⟨rfl,rfl,e9⟩:=h;have e9:=e9.symm; subst e9;rw [E9 hs hC h1]
  ·cases h
 | .yO k ops,fr,fr',e,h=>by
  simp only [bW]at h ⊢;split at h
  ·cases h
  ·rename_i hk;split at h
   ·rename_i h1;simp only [aa,ab]at h;obtain⟨rfl,rfl,e9⟩:=h;have e9:=e9.symm; subst e9;have Nb:k=0:=by
     rw [hs.ro,fM]at hk;rcases ec k with h | h
     ·exact h
     ·have:Nat.blt 0 k=true:=aq h;rw [this]at hk; cases hk
    subst Nb;have k:=AV (s:=s) hs hC h1;rw [← hs.n]at k;rw [show (s1.ro && Nat.blt 0 0)=false by rw [Bool.and_eq_false_iff]; exact .inr rfl];show (match iy C s1.n ops [] fr s1 with | some (fr',s')=>some (Ex.normal,fr',s') | none=>none)=_;rw [k]
   ·cases h
 | .seq a b,fr,fr',e,h=>by
  simp only [bW]at h ⊢;split at h
  ·rename_i h1;have e9:=(gH hC.ro hL.ro hs.ro h1).symm; subst e9;rw [kD hs hC hL h1];exact kD hs hC hL h
  ·rename_i h1;rw [kD hs hC hL h];split
   ·rename_i h2;simp only [aa,ab]at h2;obtain⟨rfl,rfl,rfl⟩:=h2;exact absurd h (h1 _ _)
   ·rfl
 | .cond c a b,fr,fr',e,h=>by
  simp only [bW]at h ⊢;split at h
  ·rename_i h1; (try simp only [h1]); exact kD hs hC hL h
  ·rename_i h1; (try simp only [h1]); exact kD hs hC hL h
  ·cases h
 | .block id a,fr,fr',e,h=>by
  simp only [bW]at h ⊢;split at h
  ·rename_i h1;have e9:=(gH hC.ro hL.ro hs.ro h1).symm; subst e9;rw [kD hs hC hL h1];split at h
   ·rename_i h2;simp only [aa,ab]at h;obtain⟨rfl,rfl,_⟩:=h;simp only [h2]
   ·rename_i h2;simp only [aa,ab]at h;obtain⟨rfl,rfl,_⟩:=h;simp only [h2]
  ·rename_i h1;rw [kD hs hC hL h];split
   ·rename_i h2;simp only [aa,ab]at h2;obtain⟨rfl,rfl,rfl⟩:=h2;exact absurd h (h1 _ _ _)
   ·rfl
 | .loop bR a,fr,fr',e,h=>by
  simp only [bW]at h ⊢;exact (hL _ _ _ _ _ _ _ _ hs h).2
 | .iA bR g ps x y,fr,fr',e,h=>by
  simp only [bW]at h ⊢;exact (hL _ _ _ _ _ _ _ _ hs h).2
 | .exit id,fr,fr',e,h=>by
  simp only [bW,aa,ab]at h ⊢; exact ⟨h.1,h.2.1,trivial⟩
 | .ret,fr,fr',e,h=>by
  simp only [bW,aa,ab]at h ⊢; exact ⟨h.1,h.2.1,trivial⟩
 | .bad,fr,fr',e,h=>by simp [bW]at h
theorem ML (hs:Sb s s1)(hC:zJ C)(l:List (D×List D)):leave C l s=some s->leave C l s1=some s1:=by
 induction l with
 | nil=>intro h; rfl
 | cons q r ih=>
  obtain⟨f,l⟩:=q;intro h;cases f with
  | fn g a b=>
   cases g with
   | func f=>
    simp only [leave]at h ⊢;split at h
    ·rename_i d s2 h1;obtain⟨e9,k⟩:=hC _ _ _ _ _ _ hs h1;rw [e9]at h;simp only [k];exact ih h
    ·cases h
   | _=>simp [leave]at h
  | mf=>simp only [leave]at h ⊢; exact ih h
  | _=>simp [leave]at h
theorem uc (hs:Sb s s1){e:Env}:∀ {l:List xb} {r:List D},kY e s l=some r->kY e s1 l=some r
 | [],r,h=>h
 | .tmp t::q,r,h=>by
  simp only [kY]at h ⊢;split at h
  ·rename_i h1 h2;rw [h1,uc hs h2]; exact h
  ·cases h
 | .cell a sz::q,r,h=>by
  simp only [kY]at h ⊢;split at h
  ·rename_i h1;try simp only [h1]
   split at h
   ·rename_i h2 h3;rw [h2,uc hs h3]; exact h
   ·cases h
  ·rename_i p h1 h2;split at h
   ·rename_i h3 h4;rw [rA hs h3,uc hs h4];exact h
   ·cases h
  ·cases h
theorem O0 {CD:au}(hs:Sb s s1)(hC:zJ C)(Na:zJ CD)(hL:Js L){fn:dS}{args:List D}(h:nS C CD L fn args s=some (d,s)):nS C CD L fn args s1=some (d,s1):=by
 unfold nS at h ⊢;split at h
 ·cases h
 ·rename_i h0 h1;have e9:=(gH hC.ro hL.ro hs.ro h1).symm; subst e9;rw [kD hs hC hL h1];split at h
  ·rename_i h2;have e9:=(uH Na.ro hs.ro h2).symm; subst e9;split at h
   ·rename_i h3;simp only [aa,ab]at h;obtain⟨rfl,_⟩:=h;split
    ·rename_i h4;simp only [aa,ab]at h4;obtain⟨rfl,rfl,rfl⟩:=h4;exact (h0 _ rfl).elim
    ·rename_i h4;simp only [aa,ab]at h4;obtain⟨rfl,rfl,rfl⟩:=h4;rw [ML hs Na _ h2];simp only [uc hs h3]
    ·rename_i h4; cases h4
   ·cases h
  ·cases h
 ·cases h
theorem LS {T:Nat->Option dS}(hC:zJ C)(hL:Js L):zJ (pa T C L):=by
 intro f l s d s' s1 hs h;have hr:=EO (T:=T) hC.ro hL.ro f l s d s' hs.ro h;subst hr;refine⟨rfl, ?_⟩;unfold pa at h ⊢;split at h
 ·rename_i fn hf;try simp only [hf]
  unfold vU at h ⊢;split at h
  ·cases h
  ·rename_i h0 h1;have e9:=(gH hC.ro hL.ro hs.ro h1).symm; subst e9;rw [kD hs hC hL h1];split at h
   ·rename_i h2;split at h
    ·rename_i h3;simp only [aa,ab]at h;obtain⟨rfl,_⟩:=h;split
     ·rename_i h4;simp only [aa,ab]at h4;obtain⟨rfl,rfl,rfl⟩:=h4;exact (h0 _ rfl).elim
     ·rename_i h4;simp only [aa,ab]at h4;obtain⟨rfl,rfl,rfl⟩:=h4;simp only [h2,uc hs h3]
     ·rename_i h4; cases h4
    ·cases h
   ·cases h
  ·cases h
 ·cases h
theorem wu {T:Nat->Option dS}{H:au}(hH:zJ H):∀n,zJ (dH T H n)/\Js (fc T H n)
 | 0=>⟨fun f l s d s' _ _ h=>by simp [dH]at h,fun k a fr s e fr' s' _ _ h=>by simp [fc]at h⟩
 | n+1=>by
  obtain⟨i1,i2⟩:=wu (T:=T) hH n;refine⟨fun f l s d s' s1 hs h=> ?_,fun k a fr s e fr' s' s1 hs h=> ?_⟩
  ·have hr:=(oU (T:=T) hH.ro (n+1)).1 _ _ _ _ _ hs.ro h;subst hr;refine⟨rfl, ?_⟩;simp only [dH]at h ⊢;split at h
   ·exact (hH _ _ _ _ _ _ hs h).2
   ·split at h
    ·exact O0 hs i1 (LS i1 i2) i2 h
    ·exact (hH _ _ _ _ _ _ hs h).2
  ·have hr:=(oU (T:=T) hH.ro (n+1)).2 _ _ _ _ _ _ _ hs.ro h;subst hr;refine⟨rfl, ?_⟩;cases hb:a.il with
   | true=>
    cases a <;> first | (cases hb; done) | skip
    rw [jH,Bl hs.ro]at h; cases h
   | false=>
    rw [iC _ _ _ _ hb]at h ⊢;split at h
    ·rename_i h1;have e9:=(gH i1.ro i2.ro hs.ro h1).symm; subst e9;rw [kD hs i1 i2 h1];exact (i2 _ _ _ _ _ _ _ _ hs h).2
    ·rename_i h1;rw [kD hs i1 i2 h];split
     ·rename_i h2;simp only [aa,ab]at h2;obtain⟨rfl,rfl,rfl⟩:=h2;exact absurd h (h1 _ _)
     ·rfl
theorem qh (o:Nat):∀(k b:Nat) (h:T Obj),(sT k b h).get o=if b<=o/\o < b+k then none else h.get o
 | 0,b,h=>by
  rw [aJ (by omega)]; rfl
 | k+1,b,h=>by
  simp only [sT];rw [qh o k (b+1),T.pI];by_cases h1:b+1<=o/\o < b+1+k
  ·rw [bJ h1,bJ (by omega)]
  ·rw [aJ h1];by_cases h2:o=b
   ·rw [bJ h2,bJ (by omega)]
   ·rw [aJ h2,aJ (by omega)]
def Ew (C:au)(b hi:Nat):Prop:=∀f l s s2 d s',s.ro=true->s2.ro=true->s2.n=s.n->s2.lk=s.lk->(∀o,o < b\/hi<=o->s2.get o=s.get o)->C f l s=some (d,s')->C f l s2=some (d,s2)
theorem M3 (hC:zJ C)(b k:Nat):Ew (lV b k C) b (b+k):=by
 intro f l s s2 d s' hr xe hn hl hg h;cases k with
 | zero=>exact (hC f l s d s' s2 ⟨hn,hl,hr,xe,fun o x hx=>by rw [hg o (by omega)]; exact hx⟩ h).2
 | succ k=>
  simp only [lV,hr,xe]at h ⊢;split at h
  ·rename_i d1 s3 h1;simp only [aa,ab]at h;obtain⟨rfl,_⟩:=h
   have:=(hC f l ⟨s.n,sT (k+1) b s.h,s.lk,true⟩ _ _ ⟨s2.n,sT (k+1) b s2.h,s2.lk,true⟩ ⟨hn,hl,rfl,rfl,fun o x hx=>by
    simp only [St.get]at hx hg ⊢;rw [qh]at hx ⊢;by_cases ho:b<=o/\o < b+(k+1)
    ·rw [bJ ho]at hx; cases hx
    ·rw [aJ ho]at hx ⊢;rw [hg o (by omega)]; exact hx⟩ h1).2
   simp only [this]
  ·cases h
theorem LN (hC:zJ C)(b k:Nat):zJ (lV b k C):=by
 intro f l s d s' s1 hs h;cases k with
 | zero=>exact hC f l s d s' s1 hs h
 | succ k=>
  simp only [lV,hs.ro,hs.Tk]at h ⊢;split at h
  ·rename_i d1 s3 h1;simp only [aa,ab]at h;obtain⟨rfl,rfl⟩:=h
   have:=(hC f l ⟨s.n,sT (k+1) b s.h,s.lk,true⟩ _ _ ⟨s1.n,sT (k+1) b s1.h,s1.lk,true⟩ ⟨hs.n,hs.lk,rfl,rfl,fun o x hx=>by
    have hg:=hs.get o x;simp only [St.get]at hx hg ⊢;rw [qh]at hx ⊢;by_cases ho:b<=o/\o < b+(k+1)
    ·rw [bJ ho]at hx; cases hx
    ·rw [aJ ho]at hx ⊢;exact hg hx⟩ h1).2
   simp only [this];exact⟨trivial,trivial⟩
  ·cases h
theorem yz (hC:zJ C){b k f:Nat}{l:List D}(h:lV b k C f l s=some (d,s')):C f l s=some (d,s'):=by
 cases k with
 | zero=>exact h
 | succ k=>
  cases hr:s.ro with
  | false=>simp only [lV,hr]at h; exact h
  | true=>
   simp only [lV,hr]at h;split at h
   ·rename_i d1 s3 h1;simp only [aa,ab]at h;obtain⟨rfl,rfl⟩:=h
    exact (hC f l ⟨s.n,sT (k+1) b s.h,s.lk,true⟩ _ _ s ⟨rfl,rfl,rfl,hr,fun o x hx=>by
     simp only [St.get]at hx ⊢;rw [qh]at hx;split at hx
     ·cases hx
     ·exact hx⟩ h1).2
   ·cases h
theorem RG (hC:Fq C)(b k:Nat):Fq (lV b k C):=by
 intro f l s d s' hr h;cases k with
 | zero=>exact hC f l s d s' hr h
 | succ k=>
  simp only [lV,hr]at h;split at h
  ·simp only [aa,ab]at h; exact h.2.symm
  ·cases h
end Go.Ab
namespace Go.Ab
open Go
variable [eW]
variable {ρ ρ' :Gh} {w w' :World}{P:Program}{pn:iO}{G:Gl}{X:iJ}{A:nJ} {s s' :St}{env:Env}{a:Act}{lo:Nat}{d:D}{C:au}{al:Option Nat}
theorem NW (hs:bZ ρ s w){o:Nat}{x:Obj}(ho:s.get o=some x):∃ρ',Kp ρ w ρ' w/\bZ ρ' (s.bD o .dead) w/\(∀b,ρ'.own b=ρ.own b)/\ρ'.kd o= .dead/\∀q,q≠o->ρ'.kd q=ρ.kd q:=by
 let ρ1:Gh:= { ρ with kd:=fun q=>if q=o then .dead else ρ.kd q}
 have gW:∀q,q≠o->ρ1.kd q=ρ.kd q:=fun q hq=>by simp [ρ1,hq]
 have hK:Kp ρ w ρ1 w:=by
  refine⟨rfl,rfl,rfl,an _,fun b hb hn=>⟨rfl,rfl⟩,fun q hq=> ?_,fun q z hq=> ?_⟩
  ·simp only [ρ1]; split
   ·exact⟨rfl,trivial⟩
   ·exact⟨hq,trivial⟩
  ·by_cases Y6:q=o
   ·exact .inl (by simp [ρ1,Y6])
   ·exact .inr ⟨by rw [gW q Y6]; exact hq,fun b hb=>⟨hb,rfl,an _,rfl⟩⟩
 exact⟨ρ1,hK,hs.PC hK o .dead (fun b q hq _=>mZ) gW (fun b q hq _ hb=>⟨rfl,rfl,rfl,rfl⟩) (by simp [pN,ρ1]) (fun b hb=>hs.size b (by omega)) (hs.lt _ _ ho) (an _) (St.fu s o _),fun _=>rfl,by simp [ρ1],gW⟩
theorem Eo {t e:TypeId}{n:Nat}{ad:Addr}(hu:P.underlying t=some (.array n e))(fR:dM P e=some 1)(hn:0 < n):
  (Instr.sliceAt t (.pointer (some ad)) none none none).run P w= .ok (.slice (some (ad.add (0 * 1))) n n) w:=by
 have hb:(Instr.sliceBounds false n n none none none).run P w= .ok (0,n,n) w:=by
  unfold Instr.sliceBounds; simp
 simp only [Instr.sliceAt,Sem.run_bind,run_underlying hu,Result.andThen_ok,Instr.sureAddr,hb,fU fR,Sem.run_pure];rw [aJ (by omega)];rfl
section
variable (he:eu ρ w lo env a.tmps)(hg:gF pn G ρ w)(hs:bZ ρ s w)
include he hg hs
theorem KB {t e:TypeId}{n:Nat} {x' :Operand}{x:bP}(hx:eK G x' =some x)(hu:P.underlying t=some (.array n e))(fR:dM P e=some 1)(h:cB C env s al (.zq n x)=some (d,s')){o:Oper}
  (ho:o.op= .slice t x' none none none):fb P ρ w env a.tmps d s' ((execOp a.eval o).run P w):=by
 simp only [cB]at h;split at h
 ·rename_i ob hp;have hv:=aZ hx he hg hp;split at h
  ·rename_i ty v lF;split at h
   ·rename_i pQ;have pQ:=aF pQ;split at h
    ·rename_i s1 gL;split at h
     ·rename_i k s2 hm;simp only [aa,ab]at h;obtain⟨rfl,rfl⟩:=h;obtain⟨b,u,g1,g2,g3,g4,g5,g6⟩:=hs.ok _ _ lF;simp only [aS,Gh.at,g1]at hv;obtain⟨b',h1,h3⟩:=hv;obtain rfl:=g2.2 b' h1;have hus:u.cells.size=n:=by rw [g3.size g6]; exact pQ
      have hn:0 < n:=by omega
      have tZ:s1=s.bD ob .dead:=St.qi gL;subst tZ;obtain⟨ρ1,j1,j2,j3,j4,j5⟩:=NW hs lF;have hk:k=s.n/\s2=(s.bD ob .dead).bc (.arr 1 ty v.flat 0):=by
       unfold St.mk' at hm;split at hm
       ·cases hm
       ·simp only [aa,ab]at hm; exact ⟨hm.1.symm,hm.2.symm⟩
      obtain⟨rfl,rfl⟩:=hk;have acK:ob < s.n:=hs.lt _ _ lF;have lE:ρ1.own b' = .obj ob:=by rw [j3]; exact h1
      have Iz:ρ1.kd s.n= .fresh:=j2.no s.n (by
       cases hq:(s.bD ob .dead).get s.n with
       | none=>rfl
       | some y=>have:=j2.lt _ _ hq; exact absurd this (gR _))
      have hbs:b' < w.heap.size:=hs.jN h1;obtain⟨f1,f2⟩:=g3.flat g6
      obtain⟨n1,n2⟩:=yA (w' :=w) (b:=b') (k:=s.n) (z:=1) (sh:=0) (ex:=n) (cp:=n) (x:= .arr 1 ty v.flat 0) (s' :=(s.bD ob .dead).bc (.arr 1 ty v.flat 0)) j2
       (fun o' h' => .inr (by rw [lE]at h'; simp only [Own.obj.injEq]at h'; subst h'; exact j4)) (.inr ⟨ob,lE⟩) (.inl Iz) (fun b'' cC _=>rfl) (an _) (fun b'' jm =>by omega) rfl rfl rfl (fun hK=>by
        refine⟨by omega,by simp [Gh.put],by omega,⟨b',by simp [Gh.put],by simp [Gh.put,pQ],fun b'' q1 q2=> ?_⟩,fun b'' q1=> ?_, ?_⟩
        ·by_cases lS:b'' =b'
         ·exact lS
         ·simp only [Gh.put,aJ lS]at q1;exact absurd Iz (j2.live _ _ q1)
        ·by_cases lS:b'' =b'
         ·subst lS;have lC:∀j,w.cell? ⟨b'',j,none⟩=u.cells[j]? :=fun j=>ew g4;refine⟨by simp [Gh.put,pQ],by simp [Gh.put],by simp [Gh.put],fun j hj=> ?_,⟨_,_,g4⟩,fun _ i dd a1 a2 a3=> ?_⟩
          ·simp only [Gh.put,ep,lU]at hj;exact⟨by rw [lC]; simp; omega,by simp [World.frozen?,g4]⟩
          ·simp only [Gh.put,ep]at a1 a2 ⊢;obtain⟨y,y1,y2⟩:=br.get f1 a3;refine⟨y,(y2.mono j1).mono hK, ?_,fun q hq=> ?_⟩
           ·have:=(y2.sc (dh.1 (D.mX g6) dd (aK a3))).2;rw [this]; rfl
           ·have h2:=(y2.sc (dh.1 (D.mX g6) dd (aK a3))).2;rw [h2]at hq ⊢;have vq:q=0:=by simpa using hq
            subst vq;rw [lC];simp only [Nat.sub_zero,lU,fP];simpa using y1
         ·simp only [Gh.put,aJ lS]at q1;exact absurd Iz (j2.live _ _ q1)
        ·rw [iK];intro q hq;have hqs:=dh.1 (D.mX g6) q hq;exact⟨by cases q <;> simp_all [D.flat,D.sc],D.L8 hqs⟩)
       (mT _) (Nat.le_succ _) (fun o=>T.pI _ _ _ _)
      have hr:(execOp a.eval o).run P w= .ok (.value (.slice (some (Addr.add ⟨b',0,none⟩ (0 * 1))) n n)) w:=by
       simp only [execOp,ho];rw [h3];rw [Sem.run_bind,show Option.map a.eval none=none from rfl,Eo hu fR hn]; rfl
      rw [hr];refine .val (j1.trans n1) n2 ?_;simp only [aS,Gh.at,Gh.put,ep];exact⟨b',by simp,by simp,by simp,an _,0,n,by simp [Addr.add_mid],an _,.inr (by simp),by simp⟩
     ·cases h
    ·cases h
   ·cases h
  ·cases h
 ·cases h
end
end Go.Ab
