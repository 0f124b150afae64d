/- Part. -/
import Derived.Test.YtmcdajnpdekocaaGreatDoorG13
set_option linter.unusedSectionVars false
set_option linter.unusedSimpArgs false
set_option linter.unusedVariables false
namespace Go.Ab
open Go
mutual
theorem D.beq_rfl:∀d:D,D.beq d d=true
 | .bool _=>by simp [D.beq]
 | .int _ _=>by simp [D.beq]
 | .str _=>by simp [D.beq]
 | .nilp=>by simp [D.beq]
 | .ptr _ _=>by simp [D.beq]
 | .eptr _ _ _ _=>by simp [D.beq]
 | .vptr e c=>by simp [D.beq,D.beq_rfl e]
 | .vs n z l=>by simp [D.beq,D.bsR l]
 | .sl _ _ _ _=>by simp [D.beq]
 | .nilm=>by simp [D.beq]
 | .mp _=>by simp [D.beq]
 | .fn f x y=>by simp [D.beq,D.bsR x,D.bsR y]
 | .nilf=>by simp [D.beq]
 | .ifc t d=>by simp [D.beq,D.beq_rfl d]
 | .nili=>by simp [D.beq]
 | .agg l=>by simp [D.beq,D.bsR l]
 | .tup l=>by simp [D.beq,D.bsR l]
 | .sint _ _ _ _=>by simp [D.beq]
 | .sstr _ _ _ _=>by simp [D.beq]
 | .sbool _=>by simp [D.beq]
 | .yl _=>by simp [D.beq]
 | .lv d=>by simp [D.beq,D.beq_rfl d]
 | .lptr _ _=>by simp [D.beq]
theorem D.bsR:∀l:List D,D.beqs l l=true
 | []=>rfl
 | d::l=>by simp only [D.beqs,D.beq_rfl d,D.bsR l,Bool.and_self]
end
theorem zRy:∀l,zRc l l=true
 | []=>rfl
 | (n,k,v)::l=>by simp only [zRc,Nat.beq_refl,D.beq_rfl,zRy l,Bool.and_self]
theorem Obj.beq_rfl (x:Obj):Obj.beq x x=true:=by
 cases x <;> simp [Obj.beq,D.beq_rfl,D.bsR,zRy]
theorem zLg (l:List D):∀rg,cEq l l rg=true
 | []=>rfl
 | (_,c,n)::r=>by simp only [cEq,D.bsR,zLg l r,Bool.and_self]
theorem soR (rg:List (Nat×Nat×Nat))(x:Obj):sOb rg x x=true:=by
 unfold sOb
 split
 ·simp [zLg]
 ·exact Obj.beq_rfl _
theorem laR (rg:List (Nat×Nat×Nat))(s:St):∀l,zAf rg s s l=false
 | []=>rfl
 | o::r=>by
  simp only [zAf]
  cases h:s.get o with
  | none=>simp only [laR rg s r]
  | some x=>simp only [soR,laR rg s r]
theorem zKv (acc:List Fp)(s s1:St):∀l,lAs acc s s l=lAs acc s1 s1 l
 | []=>rfl
 | i::r=>by
  simp only [lAs,laR,zKv acc s s1 r]
theorem lost_rfl (acc:List Fp)(s s1:St)(o:zPk)(l:List Nat):lost acc s s o l=lost acc s1 s1 o l:=by
 simp only [lost,zKv acc s s1]
variable {s s' s1:St}{C:zAa}{L:zBl}{e:Env}{al:Option Nat}{d:D}
theorem RoX.ro (h:RoX C):RoC C:=fun f l s d s' hr hc=>(h f l s d s' s ⟨rfl,rfl,hr,hr,fun _ _ h=>h⟩ hc).1
section
variable (hs:Sb s s1)
include hs
theorem zHa {sz:Option Nat}{p d:D}(h:zPr s sz p=some d):zPr s1 sz p=some d:=by
 unfold zPr at *
 repeat' split at h
 all_goals first
  | (cases h; done)
  | (have k:=hs.get _ _ (by assumption); simp only [*]; done)
  | (simp only [*]; done)
  | exact h
  | (simp only [Option.some.injEq,Prod.mk.injEq]at h; obtain ⟨rfl,rfl⟩:=h; first | rfl | (simp only [*]; done) | (have k:=hs.get _ _ (by assumption); simp only [*]; done))
  | trace_state
theorem zJb {p:D}{r:Nat×List D}(h:items s p=some r):items s1 p=some r:=by
 unfold items at *
 repeat' split at h
 all_goals first
  | (cases h; done)
  | (have k:=hs.get _ _ (by assumption); simp only [*]; done)
  | (simp only [*]; done)
  | exact h
  | (simp only [Option.some.injEq,Prod.mk.injEq]at h; obtain ⟨rfl,rfl⟩:=h; first | rfl | (simp only [*]; done) | (have k:=hs.get _ _ (by assumption); simp only [*]; done))
  | trace_state
theorem zTk {k:Nat}{p:D}{r:Nat}(h:lenD s k p=some r):lenD s1 k p=some r:=by
 unfold lenD at *
 repeat' split at h
 all_goals first
  | (cases h; done)
  | (have k:=hs.get _ _ (by assumption); simp only [*]; done)
  | (simp only [*]; done)
  | exact h
  | (simp only [Option.some.injEq,Prod.mk.injEq]at h; obtain ⟨rfl,rfl⟩:=h; first | rfl | (simp only [*]; done) | (have k:=hs.get _ _ (by assumption); simp only [*]; done))
  | trace_state
theorem yGd {sz i:Nat}{p d:D}(h:zEz s sz p i=some d):zEz s1 sz p i=some d:=by
 unfold zEz at *
 repeat' split at h
 all_goals first
  | (cases h; done)
  | (have k:=hs.get _ _ (by assumption); simp only [*]; done)
  | (simp only [*]; done)
  | exact h
  | (simp only [Option.some.injEq,Prod.mk.injEq]at h; obtain ⟨rfl,rfl⟩:=h; first | rfl | (simp only [*]; done) | (have k:=hs.get _ _ (by assumption); simp only [*]; done))
  | trace_state
theorem eqP_sb {a b:D}{r:Bool}(h:eqP s a b=some r):eqP s1 a b=some r:=by
 unfold eqP at *
 split at h
 ·split at h
  ·rename_i h1 h2
   simp only [hs.get _ _ h1,hs.get _ _ h2]; exact h
  ·cases h
 ·cases h
theorem recvD_sb {v:D}{r:Recv}{d:D}(h:zQw s v r=some d):zQw s1 v r=some d:=by
 unfold zQw at *
 repeat' split at h
 all_goals first
  | (cases h; done)
  | (have k:=zHa hs h; simp only [*]; done)
  | (simp only [*]; done)
  | exact h
  | trace_state
theorem zRw {sz:Nat}{p:D}{l:List D}(h:zBn s sz p l=some s'):zBn s1 sz p l=some s1:=by
 unfold zBn at *
 simp only [zGa hs.ro,zGa hs.ro1]at h ⊢
 repeat' split at h
 all_goals first
  | (cases h; done)
  | (have k:=hs.get _ _ (by assumption); simp only [*]; done)
  | (simp only [*]; done)
  | exact h
  | (simp only [Option.some.injEq,Prod.mk.injEq]at h; obtain ⟨rfl,rfl⟩:=h; first | rfl | (simp only [*]; done) | (have k:=hs.get _ _ (by assumption); simp only [*]; done))
  | trace_state
theorem zMs {sz ty:Nat}{x:D}{l:List D}(h:zAn s al sz ty x l=some (d,s')):zAn s1 al sz ty x l=some (d,s1):=by
 unfold zAn at *
 simp only [zGa hs.ro,zXc hs.ro,zGa hs.ro1,zXc hs.ro1]at h ⊢
 repeat' split at h
 all_goals first
  | (cases h; done)
  | (have k:=hs.get _ _ (by assumption); simp only [*]; done)
  | (simp only [*]; done)
  | exact h
  | (simp only [Option.some.injEq,Prod.mk.injEq]at h; obtain ⟨rfl,rfl⟩:=h; first | rfl | (simp only [*]; done) | (have k:=hs.get _ _ (by assumption); simp only [*]; done))
  | trace_state
theorem extD_sb {k:Ext}{l:List D}(h:extD s k l=some (d,s')):extD s1 k l=some (d,s1):=by
 unfold extD at *
 simp only [zDz hs.ro,zDz hs.ro1,ofS]at h ⊢
 repeat' split at h
 all_goals first
  | (cases h; done)
  | (have k:=zHa hs (by assumption); simp only [*]; done)
  | (simp only [*]; done)
  | exact h
  | (simp only [Option.some.injEq,Prod.mk.injEq]at h; obtain ⟨rfl,rfl⟩:=h; first | rfl | (simp only [*]; done) | (have k:=zHa hs (by assumption); simp only [*]; done))
  | trace_state
theorem zUs {x y:Option D}(h:ofO s x=some (d,s'))(hx:∀d,x=some d→y=some d):ofO s1 y=some (d,s1):=by
 cases x with
 | none=>cases h
 | some v=>
  simp only [ofO,Option.some.injEq,Prod.mk.injEq]at h
  rw [hx v rfl,h.1]; rfl
end
theorem Sb.rd (hs:Sb s s1):Sb { s with ro:=true} { s1 with ro:=true}:=⟨hs.n,hs.lk,rfl,rfl,hs.get⟩
theorem opF_sb (hs:Sb s s1)(hC:RoX C){p:AOp}(h:opF C e s al p=some (d,s')):opF C e s1 al p=some (d,s1):=by
 cases p <;> simp only [opF,zGa hs.ro,zXc hs.ro,zDz hs.ro,zGa hs.ro1,zXc hs.ro1,zDz hs.ro1,ofS]at h ⊢
 all_goals
  (repeat' split at h)
  all_goals first
   | (cases h; done)
   | (((try simp only [*])); exact zUs hs h fun _ h=>h)
   | (((try simp only [*])); exact zUs hs h fun _ h=>zHa hs h)
   | (((try simp only [*])); exact zUs hs h fun _ h=>yGd hs h)
   | (((try simp only [*])); exact (hC _ _ _ _ _ _ hs h).2)
   | (((try simp only [*])); exact zMs hs h)
   | (((try simp only [*])); exact extD_sb hs h)
   | (simp only [Option.some.injEq,Prod.mk.injEq]at h; obtain ⟨rfl,rfl⟩:=h; first
     | rfl
     | (simp only [*]; done)
     | (have k:=hs.get _ _ (by assumption); simp only [*]; done)
     | (have k:=(hC _ _ _ _ _ _ hs.rd (by assumption)).2; simp only [k]; done)
     | (have k:=zJb hs (by assumption); simp only [*]; done)
     | (have k:=eqP_sb hs (by assumption); simp only [*]; done)
     | (have k:=zTk hs (by assumption); simp only [*]; done)
     | (have k:=zTk hs (by assumption); have k2:=zRw hs (by assumption); simp only [*]; done)
     | (have k:=zTk hs (by assumption); have k2:=zJb hs (by assumption); have k2:=zRw hs (by assumption); simp only [*]; done))
   | (have k:=zJb hs (by assumption); (try simp only [*]); exact zUs hs h fun _ h=>h)
   | (have k:=zJb hs (by assumption); (try simp only [*]); exact zMs hs h)
   | (have k:=recvD_sb hs (by assumption); (try simp only [*]); exact (hC _ _ _ _ _ _ hs h).2)
theorem yAz (hs:Sb s s1)(hC:RoX C){b:Nat}{o:zPk} {fr fr' :Fr}(h:oper C b o fr s=some (fr',s)):oper C b o fr s1=some (fr',s1):=by
 unfold oper at h ⊢
 split at h
 ·rename_i hw
  try simp only [hw]
  split at h
  ·split at h
   ·rename_i h1 h2
    simp only [Option.some.injEq,Prod.mk.injEq]at h
    simp only [h1,h2,h.1]
   ·cases h
  ·split at h
   ·rename_i h1 h2
    split at h
    ·rename_i h3
     simp only [Option.some.injEq,Prod.mk.injEq]at h
     simp only [h1,h2,h3,h.1]
    ·cases h
   ·cases h
  ·split at h
   ·rename_i h1 h2
    split at h
    ·rename_i h3 h4 h5
     split at h
     ·rename_i h6
      simp only [Option.some.injEq,Prod.mk.injEq]at h
      simp only [h1,h2,h3,h4,h5,h6,h.1]
     ·cases h
    ·cases h
   ·cases h
  ·rename_i n1 n2 n3
   split at h
   ·rename_i h1
    simp only [Option.some.injEq,Prod.mk.injEq]at h
    obtain⟨rfl,rfl⟩:=h
    have k:=opF_sb hs hC h1
    cases hp:o.op <;> simp only [hp]at k n1 n2 n3 ⊢ <;> first
     | (rw [k]; done)
     | exact absurd rfl (n1 _ _)
     | exact absurd rfl (n2 _)
     | exact absurd rfl (n3 _ _ _ _)
   ·cases h
 ·rename_i hw
  simp only [Option.some.injEq,Prod.mk.injEq]at h
  simp only [hw,h.1]
 ·cases h
theorem zVq (hs:Sb s s1)(hC:RoX C){b:Nat}:∀ {l:List zPk} {fr fr' :Fr},opers C b l fr s=some (fr',s)→opers C b l fr s1=some (fr',s1)
 | [],fr,fr',h=>by
  simp only [opers,Option.some.injEq,Prod.mk.injEq]at h ⊢; exact ⟨h.1,trivial⟩
 | o::r,fr,fr',h=>by
  simp only [opers]at h ⊢
  split at h
  ·rename_i h1
   have e9:=(zNa hC.ro hs.ro h1).symm; subst e9
   rw [yAz hs hC h1]
   exact zVq hs hC h
  ·cases h
theorem T.diff_rfl:∀t:T Obj,T.diff t t=[]
 | .nil=>rfl
 | .node o l r=>by
  simp only [T.diff,T.diff_rfl l,T.diff_rfl r,List.map_nil,List.append_nil]
  cases o with
  | none=>rfl
  | some x=>simp only [Obj.beq_rfl]
theorem fpX_rfl (s s1:St){b:Nat}{e:Env}{o:zPk}:fpX s s b e o=fpX s1 s1 b e o:=by
 simp only [fpX,T.diff_rfl]
theorem zSc (hs:Sb s s1)(hC:RoX C){b:Nat}:∀ {l:List (zPk×List Nat)} {acc:List Fp} {fr fr' :Fr},zBk C b l acc fr s=some (fr',s)→zBk C b l acc fr s1=some (fr',s1)
 | [],_,fr,fr',h=>by
  simp only [zBk,Option.some.injEq,Prod.mk.injEq]at h ⊢; exact ⟨h.1,trivial⟩
 | (o,q)::r,acc,fr,fr',h=>by
  simp only [zBk]at h ⊢
  split at h
  ·rename_i h0
   try simp only [h0]
   split at h
   ·rename_i h1
    have e9:=(zNa hC.ro hs.ro h1).symm; subst e9
    rw [yAz hs hC h1]
    rw [lost_rfl acc _ s1]at h
    rw [fpX_rfl s s1]at h
    simp only
    split at h
    ·rename_i h2
     try simp only [h2]
     exact zSc hs hC h
    ·cases h
   ·cases h
  ·cases h
def RoLX (L:zBl):Prop:=∀k a fr s e fr' s' s1,Sb s s1→L k a fr s=some (e,fr',s')→s' =s∧L k a fr s1=some (e,fr',s1)
theorem RoLX.ro (h:RoLX L):RoL L:=fun k a fr s e fr' s' hr hc=>(h k a fr s e fr' s' s ⟨rfl,rfl,hr,hr,fun _ _ h=>h⟩ hc).1
theorem zCk (hs:Sb s s1)(hC:RoX C)(hL:RoLX L):∀ {a:AC} {fr fr' :Fr} {e:Ex},zAe C L a fr s=some (e,fr',s)→zAe C L a fr s1=some (e,fr',s1)
 | .skip,fr,fr',e,h=>by
  simp only [zAe,Option.some.injEq,Prod.mk.injEq]at h ⊢; exact ⟨h.1,h.2.1,trivial⟩
 | .reg ops,fr,fr',e,h=>by
  simp only [zAe]at h ⊢
  split at h
  ·rename_i h1
   simp only [Option.some.injEq,Prod.mk.injEq]at h
   obtain⟨rfl,rfl,e9⟩:=h
   have e9:=e9.symm; subst e9
   rw [zVq hs hC h1]
  ·cases h
 | .dreg k ops,fr,fr',e,h=>by
  simp only [zAe]at h ⊢
  split at h
  ·cases h
  ·rename_i hk
   split at h
   ·rename_i h1
    simp only [Option.some.injEq,Prod.mk.injEq]at h
    obtain⟨rfl,rfl,e9⟩:=h
    have e9:=e9.symm; subst e9
    have hk0:k=0:=by
     rw [hs.ro,Bool.true_and]at hk
     rcases Nat.eq_zero_or_pos k with h | h
     ·exact h
     ·have:Nat.blt 0 k=true:=Nat.ble_eq_true_of_le h
      rw [this]at hk; cases hk
    subst hk0
    have k:=zSc (s:=s) hs hC h1
    rw [← hs.n]at k
    rw [show (s1.ro && Nat.blt 0 0)=false by rw [Bool.and_eq_false_iff]; exact .inr rfl]
    show (match zBk C s1.n ops [] fr s1 with | some (fr',s')=>some (Ex.normal,fr',s') | none=>none)=_
    rw [k]
   ·cases h
 | .seq a b,fr,fr',e,h=>by
  simp only [zAe]at h ⊢
  split at h
  ·rename_i h1
   have e9:=(zAu hC.ro hL.ro hs.ro h1).symm; subst e9
   rw [zCk hs hC hL h1]
   exact zCk hs hC hL h
  ·rename_i h1
   rw [zCk hs hC hL h]
   split
   ·rename_i h2
    simp only [Option.some.injEq,Prod.mk.injEq]at h2
    obtain⟨rfl,rfl,rfl⟩:=h2
    exact absurd h (h1 _ _)
   ·rfl
 | .cond c a b,fr,fr',e,h=>by
  simp only [zAe]at h ⊢
  split at h
  ·rename_i h1; (try simp only [h1]); exact zCk hs hC hL h
  ·rename_i h1; (try simp only [h1]); exact zCk hs hC hL h
  ·cases h
 | .block id a,fr,fr',e,h=>by
  simp only [zAe]at h ⊢
  split at h
  ·rename_i h1
   have e9:=(zAu hC.ro hL.ro hs.ro h1).symm; subst e9
   rw [zCk hs hC hL h1]
   split at h
   ·rename_i h2
    simp only [Option.some.injEq,Prod.mk.injEq]at h
    obtain⟨rfl,rfl,_⟩:=h
    simp only [h2]
   ·rename_i h2
    simp only [Option.some.injEq,Prod.mk.injEq]at h
    obtain⟨rfl,rfl,_⟩:=h
    simp only [h2]
  ·rename_i h1
   rw [zCk hs hC hL h]
   split
   ·rename_i h2
    simp only [Option.some.injEq,Prod.mk.injEq]at h2
    obtain⟨rfl,rfl,rfl⟩:=h2
    exact absurd h (h1 _ _ _)
   ·rfl
 | .loop keep a,fr,fr',e,h=>by
  simp only [zAe]at h ⊢
  exact (hL _ _ _ _ _ _ _ _ hs h).2
 | .rangef keep g ps x y,fr,fr',e,h=>by
  simp only [zAe]at h ⊢
  exact (hL _ _ _ _ _ _ _ _ hs h).2
 | .exit id,fr,fr',e,h=>by
  simp only [zAe,Option.some.injEq,Prod.mk.injEq]at h ⊢; exact ⟨h.1,h.2.1,trivial⟩
 | .ret,fr,fr',e,h=>by
  simp only [zAe,Option.some.injEq,Prod.mk.injEq]at h ⊢; exact ⟨h.1,h.2.1,trivial⟩
 | .bad,fr,fr',e,h=>by simp [zAe]at h
theorem leave_sb (hs:Sb s s1)(hC:RoX C)(l:List (D×List D)):leave C l s=some s→leave C l s1=some s1:=by
 induction l with
 | nil=>intro h; rfl
 | cons q r ih=>
  obtain⟨f,l⟩:=q
  intro h
  cases f with
  | fn g a b=>
   cases g with
   | func f=>
    simp only [leave]at h ⊢
    split at h
    ·rename_i d s2 h1
     obtain⟨e9,k⟩:=hC _ _ _ _ _ _ hs h1
     rw [e9]at h
     simp only [k]
     exact ih h
    ·cases h
   | _=>simp [leave]at h
  | nilf=>simp only [leave]at h ⊢; exact ih h
  | _=>simp [leave]at h
theorem zJm (hs:Sb s s1){e:Env}:∀ {l:List ARes} {r:List D},resD e s l=some r→resD e s1 l=some r
 | [],r,h=>h
 | .tmp t::q,r,h=>by
  simp only [resD]at h ⊢
  split at h
  ·rename_i h1 h2
   rw [h1,zJm hs h2]; exact h
  ·cases h
 | .cell a sz::q,r,h=>by
  simp only [resD]at h ⊢
  split at h
  ·rename_i h1
   try simp only [h1]
   split at h
   ·rename_i h2 h3
    rw [h2,zJm hs h3]; exact h
   ·cases h
  ·rename_i p h1 h2
   split at h
   ·rename_i h3 h4
    rw [zHa hs h3,zJm hs h4]
    exact h
   ·cases h
  ·cases h
theorem yIn {CD:zAa}(hs:Sb s s1)(hC:RoX C)(hCD:RoX CD)(hL:RoLX L){fn:AFn}{args:List D}(h:zQf C CD L fn args s=some (d,s)):zQf C CD L fn args s1=some (d,s1):=by
 unfold zQf at h ⊢
 split at h
 ·cases h
 ·rename_i h0 h1
  have e9:=(zAu hC.ro hL.ro hs.ro h1).symm; subst e9
  rw [zCk hs hC hL h1]
  split at h
  ·rename_i h2
   have e9:=(zJa hCD.ro hs.ro h2).symm; subst e9
   split at h
   ·rename_i h3
    simp only [Option.some.injEq,Prod.mk.injEq]at h
    obtain⟨rfl,_⟩:=h
    split
    ·rename_i h4
     simp only [Option.some.injEq,Prod.mk.injEq]at h4
     obtain⟨rfl,rfl,rfl⟩:=h4
     exact (h0 _ rfl).elim
    ·rename_i h4
     simp only [Option.some.injEq,Prod.mk.injEq]at h4
     obtain⟨rfl,rfl,rfl⟩:=h4
     rw [leave_sb hs hCD _ h2]
     simp only [zJm hs h3]
    ·rename_i h4; cases h4
   ·cases h
  ·cases h
 ·cases h
theorem callD_sb {T:Nat→Option AFn}(hC:RoX C)(hL:RoLX L):RoX (zQj T C L):=by
 intro f l s d s' s1 hs h
 have hr:=zWv (T:=T) hC.ro hL.ro f l s d s' hs.ro h
 subst hr
 refine⟨rfl, ?_⟩
 unfold zQj at h ⊢
 split at h
 ·rename_i fn hf
  try simp only [hf]
  unfold zLo at h ⊢
  split at h
  ·cases h
  ·rename_i h0 h1
   have e9:=(zAu hC.ro hL.ro hs.ro h1).symm; subst e9
   rw [zCk hs hC hL h1]
   split at h
   ·rename_i h2
    split at h
    ·rename_i h3
     simp only [Option.some.injEq,Prod.mk.injEq]at h
     obtain⟨rfl,_⟩:=h
     split
     ·rename_i h4
      simp only [Option.some.injEq,Prod.mk.injEq]at h4
      obtain⟨rfl,rfl,rfl⟩:=h4
      exact (h0 _ rfl).elim
     ·rename_i h4
      simp only [Option.some.injEq,Prod.mk.injEq]at h4
      obtain⟨rfl,rfl,rfl⟩:=h4
      simp only [h2,zJm hs h3]
     ·rename_i h4; cases h4
    ·cases h
   ·cases h
  ·cases h
 ·cases h
theorem zKm {T:Nat→Option AFn}{H:zAa}(hH:RoX H):∀n,RoX (zPn T H n)∧RoLX (zPq T H n)
 | 0=>⟨fun f l s d s' _ _ h=>by simp [zPn]at h,fun k a fr s e fr' s' _ _ h=>by simp [zPq]at h⟩
 | n+1=>by
  obtain⟨i1,i2⟩:=zKm (T:=T) hH n
  refine⟨fun f l s d s' s1 hs h=> ?_,fun k a fr s e fr' s' s1 hs h=> ?_⟩
  ·have hr:=(zEs (T:=T) hH.ro (n+1)).1 _ _ _ _ _ hs.ro h
   subst hr
   refine⟨rfl, ?_⟩
   simp only [zPn]at h ⊢
   split at h
   ·exact (hH _ _ _ _ _ _ hs h).2
   ·split at h
    ·exact yIn hs i1 (callD_sb i1 i2) i2 h
    ·exact (hH _ _ _ _ _ _ hs h).2
  ·have hr:=(zEs (T:=T) hH.ro (n+1)).2 _ _ _ _ _ _ _ hs.ro h
   subst hr
   refine⟨rfl, ?_⟩
   cases hb:a.isRangef with
   | true=>
    cases a <;> first | (cases hb; done) | skip
    rw [zBs,zPi hs.ro]at h; cases h
   | false=>
    rw [zBb _ _ _ _ hb]at h ⊢
    split at h
    ·rename_i h1
     have e9:=(zAu i1.ro i2.ro hs.ro h1).symm; subst e9
     rw [zCk hs i1 i2 h1]
     exact (i2 _ _ _ _ _ _ _ _ hs h).2
    ·rename_i h1
     rw [zCk hs i1 i2 h]
     split
     ·rename_i h2
      simp only [Option.some.injEq,Prod.mk.injEq]at h2
      obtain⟨rfl,rfl,rfl⟩:=h2
      exact absurd h (h1 _ _)
     ·rfl
theorem zFr (o:Nat):∀(k b:Nat) (h:T Obj),(cutN k b h).get o=if b≤o∧o < b+k then none else h.get o
 | 0,b,h=>by
  rw [if_neg (by omega)]; rfl
 | k+1,b,h=>by
  simp only [cutN]
  rw [zFr o k (b+1),T.get_set]
  by_cases h1:b+1≤o∧o < b+1+k
  ·rw [if_pos h1,if_pos (by omega)]
  ·rw [if_neg h1]
   by_cases h2:o=b
   ·rw [if_pos h2,if_pos (by omega)]
   ·rw [if_neg h2,if_neg (by omega)]
def zZk (C:zAa)(b hi:Nat):Prop:=∀f l s s2 d s',s.ro=true→s2.ro=true→s2.n=s.n→s2.lk=s.lk→(∀o,o < b∨hi≤o→s2.get o=s.get o)→C f l s=some (d,s')→C f l s2=some (d,s2)
theorem cutC_cut (hC:RoX C)(b k:Nat):zZk (cutC b k C) b (b+k):=by
 intro f l s s2 d s' hr hr2 hn hl hg h
 cases k with
 | zero=>exact (hC f l s d s' s2 ⟨hn,hl,hr,hr2,fun o x hx=>by rw [hg o (by omega)]; exact hx⟩ h).2
 | succ k=>
  simp only [cutC,hr,hr2]at h ⊢
  split at h
  ·rename_i d1 s3 h1
   simp only [Option.some.injEq,Prod.mk.injEq]at h
   obtain⟨rfl,_⟩:=h
   have:=(hC f l ⟨s.n,cutN (k+1) b s.h,s.lk,true⟩ _ _ ⟨s2.n,cutN (k+1) b s2.h,s2.lk,true⟩ ⟨hn,hl,rfl,rfl,fun o x hx=>by
    simp only [St.get]at hx hg ⊢
    rw [zFr]at hx ⊢
    by_cases ho:b≤o∧o < b+(k+1)
    ·rw [if_pos ho]at hx; cases hx
    ·rw [if_neg ho]at hx ⊢
     rw [hg o (by omega)]; exact hx⟩ h1).2
   simp only [this]
  ·cases h
theorem cutC_rox (hC:RoX C)(b k:Nat):RoX (cutC b k C):=by
 intro f l s d s' s1 hs h
 cases k with
 | zero=>exact hC f l s d s' s1 hs h
 | succ k=>
  simp only [cutC,hs.ro,hs.ro1]at h ⊢
  split at h
  ·rename_i d1 s3 h1
   simp only [Option.some.injEq,Prod.mk.injEq]at h
   obtain⟨rfl,rfl⟩:=h
   have:=(hC f l ⟨s.n,cutN (k+1) b s.h,s.lk,true⟩ _ _ ⟨s1.n,cutN (k+1) b s1.h,s1.lk,true⟩ ⟨hs.n,hs.lk,rfl,rfl,fun o x hx=>by
    have hg:=hs.get o x
    simp only [St.get]at hx hg ⊢
    rw [zFr]at hx ⊢
    by_cases ho:b≤o∧o < b+(k+1)
    ·rw [if_pos ho]at hx; cases hx
    ·rw [if_neg ho]at hx ⊢
     exact hg hx⟩ h1).2
   simp only [this]
   exact⟨trivial,trivial⟩
  ·cases h
theorem zOb (hC:RoX C){b k f:Nat}{l:List D}(h:cutC b k C f l s=some (d,s')):C f l s=some (d,s'):=by
 cases k with
 | zero=>exact h
 | succ k=>
  cases hr:s.ro with
  | false=>simp only [cutC,hr]at h; exact h
  | true=>
   simp only [cutC,hr]at h
   split at h
   ·rename_i d1 s3 h1
    simp only [Option.some.injEq,Prod.mk.injEq]at h
    obtain⟨rfl,rfl⟩:=h
    exact (hC f l ⟨s.n,cutN (k+1) b s.h,s.lk,true⟩ _ _ s ⟨rfl,rfl,rfl,hr,fun o x hx=>by
     simp only [St.get]at hx ⊢
     rw [zFr]at hx
     split at hx
     ·cases hx
     ·exact hx⟩ h1).2
   ·cases h
theorem cutC_ro (hC:RoC C)(b k:Nat):RoC (cutC b k C):=by
 intro f l s d s' hr h
 cases k with
 | zero=>exact hC f l s d s' hr h
 | succ k=>
  simp only [cutC,hr]at h
  split at h
  ·simp only [Option.some.injEq,Prod.mk.injEq]at h; exact h.2.symm
  ·cases h
end Go.Ab
namespace Go.Ab
open Go
variable [Vals]
variable {ρ ρ' :Gh} {w w' :World}{P:Program}{pn:Pins}{G:Gl}{X:Exts}{A:Adv} {s s' :St}{env:Env}{a:Act}{lo:Nat}{d:D}{C:zAa}{al:Option Nat}
theorem kill_own (hs:zPl ρ s w){o:Nat}{x:Obj}(ho:s.get o=some x):∃ρ',Kp ρ w ρ' w∧zPl ρ' (s.set0 o .dead) w∧(∀b,ρ'.own b=ρ.own b)∧ρ'.kd o= .dead∧∀q,q≠o→ρ'.kd q=ρ.kd q:=by
 let ρ1:Gh:= { ρ with kd:=fun q=>if q=o then .dead else ρ.kd q}
 have hkd:∀q,q≠o→ρ1.kd q=ρ.kd q:=fun q hq=>by simp [ρ1,hq]
 have hK:Kp ρ w ρ1 w:=by
  refine⟨rfl,rfl,rfl,Nat.le_refl _,fun b hb hn=>⟨rfl,rfl⟩,fun q hq=> ?_,fun q z hq=> ?_⟩
  ·simp only [ρ1]; split
   ·exact⟨rfl,trivial⟩
   ·exact⟨hq,trivial⟩
  ·by_cases hqo:q=o
   ·exact .inl (by simp [ρ1,hqo])
   ·exact .inr ⟨by rw [hkd q hqo]; exact hq,fun b hb=>⟨hb,rfl,Nat.le_refl _,rfl⟩⟩
 exact⟨ρ1,hK,hs.upd hK o .dead (fun b q hq _=>Iff.rfl) hkd (fun b q hq _ hb=>⟨rfl,rfl,rfl,rfl⟩) (by simp [zQt,ρ1]) (fun b hb=>hs.size b (by omega)) (hs.lt _ _ ho) (Nat.le_refl _) (St.get_set0 s o _),fun _=>rfl,by simp [ρ1],hkd⟩
theorem zTy {t e:TypeId}{n:Nat}{ad:Addr}(hu:P.underlying t=some (.array n e))(hsz:zPo P e=some 1)(hn:0 < n):
  (Instr.sliceAt t (.pointer (some ad)) none none none).run P w= .ok (.slice (some (ad.add (0 * 1))) n n) w:=by
 have hb:(Instr.sliceBounds false n n none none none).run P w= .ok (0,n,n) w:=by
  unfold Instr.sliceBounds; simp
 simp only [Instr.sliceAt,Sem.run_bind,run_underlying hu,Result.andThen_ok,Instr.sureAddr,hb,zAk hsz,Sem.run_pure]
 rw [if_neg (by omega)]
 rfl
section
variable (he:EnR ρ w lo env a.tmps)(hg:GlOk pn G ρ w)(hs:zPl ρ s w)
include he hg hs
theorem yFm {t e:TypeId}{n:Nat} {x' :Operand}{x:Opd}(hx:opd G x' =some x)(hu:P.underlying t=some (.array n e))(hsz:zPo P e=some 1)(h:opF C env s al (.aslice n x)=some (d,s')){o:Oper}
  (ho:o.op= .slice t x' none none none):OpOk P ρ w env a.tmps d s' ((execOp a.eval o).run P w):=by
 simp only [opF]at h
 split at h
 ·rename_i ob hp
  have hv:=opR hx he hg hp
  split at h
  ·rename_i ty v hob
   split at h
   ·rename_i hln
    have hln:=Nat.eq_of_beq_eq_true hln
    split at h
    ·rename_i s1 hset
     split at h
     ·rename_i k s2 hm
      simp only [Option.some.injEq,Prod.mk.injEq]at h
      obtain⟨rfl,rfl⟩:=h
      obtain⟨b,u,g1,g2,g3,g4,g5,g6⟩:=hs.ok _ _ hob
      simp only [Rep,Gh.at,g1]at hv
      obtain⟨b',h1,h3⟩:=hv
      obtain rfl:=g2.2 b' h1
      have hus:u.cells.size=n:=by rw [g3.size g6]; exact hln
      have hn:0 < n:=by omega
      have hs1:s1=s.set0 ob .dead:=St.set_some hset
      subst hs1
      obtain⟨ρ1,j1,j2,j3,j4,j5⟩:=kill_own hs hob
      have hk:k=s.n∧s2=(s.set0 ob .dead).push0 (.arr 1 ty v.flat 0):=by
       unfold St.mk' at hm
       split at hm
       ·cases hm
       ·simp only [Option.some.injEq,Prod.mk.injEq]at hm; exact ⟨hm.1.symm,hm.2.symm⟩
      obtain⟨rfl,rfl⟩:=hk
      have hobn:ob < s.n:=hs.lt _ _ hob
      have hown:ρ1.own b' = .obj ob:=by rw [j3]; exact h1
      have hfr:ρ1.kd s.n= .fresh:=j2.no s.n (by
       cases hq:(s.set0 ob .dead).get s.n with
       | none=>rfl
       | some y=>have:=j2.lt _ _ hq; exact absurd this (Nat.lt_irrefl _))
      have hbs:b' < w.heap.size:=hs.own_lt h1
      obtain⟨f1,f2⟩:=g3.flat g6
      obtain⟨n1,n2⟩:=zOk (w' :=w) (b:=b') (k:=s.n) (z:=1) (sh:=0) (ex:=n) (cp:=n) (x:= .arr 1 ty v.flat 0) (s' :=(s.set0 ob .dead).push0 (.arr 1 ty v.flat 0)) j2
       (fun o' h' => .inr (by rw [hown]at h'; simp only [Own.obj.injEq]at h'; subst h'; exact j4)) (.inr ⟨ob,hown⟩) (.inl hfr) (fun b'' hne _=>rfl) (Nat.le_refl _) (fun b'' hb' =>by omega) rfl rfl rfl (fun hK=>by
        refine⟨by omega,by simp [Gh.put],by omega,⟨b',by simp [Gh.put],by simp [Gh.put,hln],fun b'' q1 q2=> ?_⟩,fun b'' q1=> ?_, ?_⟩
        ·by_cases hbb:b'' =b'
         ·exact hbb
         ·simp only [Gh.put,if_neg hbb]at q1
          exact absurd hfr (j2.live _ _ q1)
        ·by_cases hbb:b'' =b'
         ·subst hbb
          have hcell:∀j,w.cell? ⟨b'',j,none⟩=u.cells[j]? :=fun j=>zAc g4
          refine⟨by simp [Gh.put,hln],by simp [Gh.put],by simp [Gh.put],fun j hj=> ?_,⟨_,_,g4⟩,fun _ i dd a1 a2 a3=> ?_⟩
          ·simp only [Gh.put,if_true,Nat.mul_one]at hj
           exact⟨by rw [hcell]; simp; omega,by simp [World.frozen?,g4]⟩
          ·simp only [Gh.put,if_true]at a1 a2 ⊢
           obtain⟨y,y1,y2⟩:=RepL.get f1 a3
           refine⟨y,(y2.mono j1).mono hK, ?_,fun q hq=> ?_⟩
           ·have:=(y2.sc (List.all_eq_true.1 (D.st_flat g6) dd (List.mem_of_getElem? a3))).2
            rw [this]; rfl
           ·have h2:=(y2.sc (List.all_eq_true.1 (D.st_flat g6) dd (List.mem_of_getElem? a3))).2
            rw [h2]at hq ⊢
            have hq0:q=0:=by simpa using hq
            subst hq0
            rw [hcell]
            simp only [Nat.sub_zero,Nat.mul_one,Nat.add_zero]
            simpa using y1
         ·simp only [Gh.put,if_neg hbb]at q1
          exact absurd hfr (j2.live _ _ q1)
        ·rw [zBf]
         intro q hq
         have hqs:=List.all_eq_true.1 (D.st_flat g6) q hq
         exact⟨by cases q <;> simp_all [D.flat,D.sc],D.sc_st hqs⟩)
       (Nat.lt_succ_self _) (Nat.le_succ _) (fun o=>T.get_set _ _ _ _)
      have hr:(execOp a.eval o).run P w= .ok (.value (.slice (some (Addr.add ⟨b',0,none⟩ (0 * 1))) n n)) w:=by
       simp only [execOp,ho]
       rw [h3]
       rw [Sem.run_bind,show Option.map a.eval none=none from rfl,zTy hu hsz hn]; rfl
      rw [hr]
      refine .val (j1.trans n1) n2 ?_
      simp only [Rep,Gh.at,Gh.put,if_true]
      exact⟨b',by simp,by simp,by simp,Nat.le_refl _,0,n,by simp [Addr.add_mid],Nat.le_refl _,.inr (by simp),by simp⟩
     ·cases h
    ·cases h
   ·cases h
  ·cases h
 ·cases h
end
end Go.Ab
