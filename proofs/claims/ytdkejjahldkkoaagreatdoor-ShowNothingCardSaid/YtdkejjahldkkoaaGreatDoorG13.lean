/- Part. -/
import Derived.Test.YtdkejjahldkkoaaGreatDoorG12
import Derived.Scope
set_option linter.unusedSectionVars false
set_option linter.unusedSimpArgs false
set_option linter.unusedVariables false
namespace Go.Ab
open Go
variable [eW]
variable {ρ ρ' ρ0:Gh}{w w' w0:World}{P:Program}{pn:iO}{G:Gl}{X:iJ}{A:nJ} {s s' :St}{env:Env}{a:Act}{lo:Nat}{d:D}{C:au}{al:Option Nat} {fr fr' :Fr}
theorem oO {o:Oper}{p:eN}(h:spec P G A o=some p):
  (∃e z,o.op= .alloc e/\jI P e=some z/\p= .nC (.c z))\/(∃e x' x,o.op= .box e x' /\eK G x' =some x/\p= .nC x)\/
  (∃t x' v' r sz x v,o.op= .store t x' v' /\dM P t=some sz/\eK G x' =some x/\eK G v' =some v/\p= .iY r sz x v)\/
  (∃x' args' tys x l,o.op= .defer { callee:= .value x',args:=args',argTypes:=tys}/\eK G x' =some x/\rV G args' =some l/\p= .defer x l):=by
 unfold spec at h;split at h
 ·rename_i e ho;split at h
  ·simp only [aY]at h;obtain⟨z,hz,rfl⟩:=h;exact .inl ⟨e,z,ho,hz,rfl⟩
  ·cases h
 ·rename_i e x ho;split at h
  ·simp only [aY]at h;obtain⟨z,hz,rfl⟩:=h;exact .inr (.inl ⟨e,x,z,ho,hz,rfl⟩)
  ·cases h
 ·rename_i t x v ho;split at h
  ·rename_i r hr;split at h
   ·rename_i sz x1 v1 h1 h2 h3;simp only [aa]at h; subst h;exact .inr (.inr (.inl ⟨t,x,v,r,sz,x1,v1,ho,h1,h2,h3,rfl⟩))
   ·cases h
  ·cases h
 ·rename_i x args tys ho;split at h
  ·rename_i x1 l h1 h2;simp only [aa]at h; subst h;exact .inr (.inr (.inr ⟨x,args,tys,x1,l,ho,h1,h2,rfl⟩))
  ·cases h
 ·cases h
theorem N1 {p:eN}{e:Env}{r:D×St}(h:cB C e s al p=some r):(∀x,p≠ .nC x)/\(∀r sz x v,p≠ .iY r sz x v)/\(∀x l,p≠ .defer x l)/\p≠ .bad:=by
 refine⟨?_, ?_, ?_, ?_⟩ <;> · intros; rintro rfl; simp [cB]at h
theorem DP (P:Program)(G:Gl)(X:iJ)(A:nJ)(ops:Array Oper)(o:Oper):((fQ P G X A ops o).op= .bad/\(fQ P G X A ops o).guard=none)\/((fQ P G X A ops o).dst=o.dst/\(fQ P G X A ops o).op=xf P G X A (nameOf ops o) o/\(∀t,o.dst=some t->t < A.nt)/\
  ∃g,(match o.guard with | none=>some none | some (j,b)=>match (ops[j]?).bind (·.dst) with | some t=>some (some (t,b)) | none=>none)=some g/\(fQ P G X A ops o).guard=g):=by
 unfold fQ;split
 ·rename_i g hg;split
  ·rename_i hd;refine .inr ⟨rfl,rfl,fun t ht=> ?_,g,hg,rfl⟩;rw [ht]at hd;exact ax hd
  ·exact .inl ⟨rfl,rfl⟩
 ·exact .inl ⟨rfl,rfl⟩
abbrev Rd (r:Option Nat):Fence:= { Fence.wide with round:=r}
theorem Hg {r:Option Nat}{f:FuncId}{args:Array Value}{R:Ending->World->Prop}:CallsIn (Rd r) 0 P f args w R↔Calls P f args w R:=callsIn_wide (n:=0)
theorem xz {r:Option Nat}{o:Oper}{K:Act->World->Prop}{Q:Exit->Act->World->Prop}(h:r=none\/∀c,o.op≠ .defer c):o.wpIn (Rd r) 0 P a w K Q↔o.uponIn (Rd r) 0 P a K Q ((execOp a.eval o).run P w):=by
 have e:(o.semAt r a.eval).run P w=(execOp a.eval o).run P w:=by
  rcases h with rfl | h
  ·rw [Oper.semAt_none]
  ·rw [Oper.semAt_eq _ _ _ h]
 unfold Oper.wpIn;rw [show (Rd r).round=r from rfl,e];exact⟨fun h=>h.2,fun h=>⟨fun _ _=>trivial,h⟩⟩
theorem o9 {nm:Option String}{o:Oper}{p:eN}(h:Vy P G nm o=some p):∃n x' x,o.op= .nilCheck x' /\eK G x' =some x/\p= .Au n (oo P n) x:=by
 unfold Vy at h;split at h
 ·rename_i n x' ho;simp only [aY]at h;obtain⟨x,hx,rfl⟩:=h;exact⟨n,x',x,ho,hx,rfl⟩
 ·cases h
theorem Gj {nm:Option String}{o:Oper}{c:Call}(h:o.op= .defer c){p:eN}(hp:xf P G X A nm o=p):p= .bad\/∃f l,p= .defer f l:=by
 subst hp;have e:∀q,XS P G X A o=some q->∃f l,q= .defer f l:=by
  intro q hq;unfold XS at hq;rw [h]at hq;obtain⟨ce,ar,ty⟩:=c;cases ce with
  | value x=>
   simp only [aP,aD,aj,aa]at hq;obtain⟨_,_,_,_,rfl⟩:=hq;exact⟨_,_,rfl⟩
  | _=>cases hq
 unfold xf;split
 ·rename_i q hq;obtain⟨_,_,_,ho,_⟩:=o9 hq;rw [h]at ho; cases ho
 split
 ·rename_i q hq;rcases oO hq with ⟨_,_,ho,_⟩ | ⟨_,_,_,ho,_⟩ | ⟨_,_,_,_,_,_,_,ho,_⟩ | ⟨_,_,_,_,_,ho,_,_,rfl⟩
  ·rw [h]at ho; cases ho
  ·rw [h]at ho; cases ho
  ·rw [h]at ho; cases ho
  ·exact .inr ⟨_,_,rfl⟩
 ·split
  ·rename_i q hq;obtain⟨f,l,rfl⟩:=e q hq;exact .inl rfl
  ·exact .inl rfl
theorem oG {rd:Option Nat}(hC:c9 pn P G C)(hX:∀f k,X f=some k->my P f k)(hg:gF pn G ρ0 w0){ops:Array Oper}{o:Oper}{ao:bj}{b:Nat}{K:Act->World->Prop}{Q:Exit->Act->World->Prop}
  (Fo:ao.op=(fQ P G X A ops o).op/\ao.dst=(fQ P G X A ops o).dst/\ao.guard=(fQ P G X A ops o).guard)(ml:rd=none\/ao.op.nd=true)(h:oper C b ao fr s=some (fr',s'))(hI:Inv ρ0 w0 A.nt fr s a w)(hK:∀a' w',Inv ρ0 w0 A.nt fr' s' a' w' ->K a' w'):
  if Region.wanted o (yielded ops a.tmps) then o.wpIn (Rd rd) 0 P a w K Q else K (a.put o.dst undef) w:=by
 obtain⟨ρ,CK,hf,hs⟩:=hI;have hg:=hg.mono CK;rcases DP P G X A ops o with ⟨d1,d2⟩ | ⟨c1,c3,c4,g,c5,c6⟩
 ·rw [d1,d2]at Fo;unfold oper at h;rw [Fo.1,Fo.2.2]at h;simp [aI,cB]at h
 rw [c3,c1,c6]at Fo;obtain⟨o1,o2,o3⟩:=Fo;unfold oper at h;rw [o3]at h;split at h
 ·rename_i hw;rw [Be hf.env c5 hw,bJ rfl];rw [o1]at h;have tK:rd=none\/∀c,o.op≠ .defer c:=by
   rcases ml with h0 | h0
   ·exact .inl h0
   ·refine .inr fun c hc=> ?_;rcases Gj (P:=P) (G:=G) (X:=X) (A:=A) (nm:=nameOf ops o) hc rfl with e | ⟨f,l,e⟩
    ·rw [e]at h; simp [cB]at h
    ·rw [o1,e]at h0; cases h0
  have gen:∀p,ao.op=p->xf P G X A (nameOf ops o) o=p->(match cB C fr.env s (match ao.al with | some r=>some (b+r) | none=>none) p with | some (d,s')=>some ({ fr with env:=iu fr.env ao.dst d},s') | none=>none)=some (fr',s')->o.wpIn (Rd rd) 0 P a w K Q:=by
   intro p _ hp h;split at h
   ·rename_i d s2 om;simp only [aa,ab]at h;obtain⟨rfl,rfl⟩:=h;obtain⟨n1,n2,n3,n4⟩:=N1 om;have pA:fb P ρ w fr.env a.tmps d s2 ((execOp a.eval o).run P w):=by
     unfold xf at hp;split at hp
     ·rename_i q hq;subst hp;obtain⟨n,x',x,ho,hx,rfl⟩:=o9 hq;exact OY hf.env hg hs hx om ho
     have hb:XS P G X A o=some p/\V6 p=true:=by
      split at hp
      ·rename_i q hq;subst hp;rcases oO hq with ⟨_,_,_,_,rfl⟩ | ⟨_,_,_,_,_,rfl⟩ | ⟨_,_,_,_,_,_,_,_,_,_,_,rfl⟩ | ⟨_,_,_,_,_,_,_,_,rfl⟩
       ·exact absurd rfl (n1 _)
       ·exact absurd rfl (n1 _)
       ·exact absurd rfl (n2 _ _ _ _)
       ·exact absurd rfl (n3 _ _)
      ·split at hp
       ·rename_i q hq;split at hp
        ·rename_i fK; subst hp; exact ⟨hq,fK⟩
        ·exact absurd hp.symm n4
       ·exact absurd hp.symm n4
     exact Y1 hf.env hg hs hC hX hb.1 hb.2 om
    rw [xz tK];generalize (execOp a.eval o).run P w=res at pA;unfold fb at pA;split at pA
    ·rename_i v w';obtain⟨ρ',k1,k2,k3⟩:=pA;rw [Oper.uponIn_value];refine hK _ _ ⟨ρ',CK.trans k1, ?_,k2⟩;rw [o2];exact (hf.mono k1).put c4 k3
    ·rename_i w';obtain⟨ρ',k1,k2,rfl⟩:=pA;rw [Oper.uponIn_skip];refine hK _ _ ⟨ρ',CK.trans k1, ?_,k2⟩;rw [o2];exact (hf.mono k1).put c4 fq.undef
    ·rename_i f args w';obtain⟨rfl,hc⟩:=pA;refine⟨fun hd=>(by cases hd),Hg.2 (hc.mono fun e w'' hr=> ?_)⟩;cases e with
     | returned v=>
      obtain⟨ρ',k1,k2,k3⟩:=hr;refine hK _ _ ⟨ρ',CK.trans k1, ?_,k2⟩;rw [o2];exact (hf.mono k1).put c4 (.yR k3)
     | panicked _=>exact hr.elim
     | outgrown=>exact hr.elim
    ·rename_i l fn tm asg bd w';obtain⟨rfl,hc⟩:=pA;refine⟨fun hd=>(by cases hd),hc.mono fun e w'' hr=> ?_⟩;cases e with
     | returned v=>
      obtain⟨ρ',k1,k2,k3⟩:=hr;refine hK _ _ ⟨ρ',CK.trans k1, ?_,k2⟩;rw [o2];exact (hf.mono k1).put c4 (.yR k3)
     | panicked _=>exact hr.elim
     | outgrown=>exact hr.elim
    ·exact pA.elim
   ·cases h
  split at h
  ·
   rename_i f' args om;have j9 :xf P G X A (nameOf ops o) o= .defer f' args:=om;have zD:spec P G A o=some (.defer f' args):=by
    unfold xf at j9;split at j9
    ·rename_i q hq;obtain⟨_,_,_,_,_,e⟩:=o9 hq;rw [e]at j9; cases j9
    split at j9
    ·rename_i q hq; rw [hq,j9]
    ·split at j9
     ·split at j9
      ·rename_i fK; subst j9; cases fK
      ·cases j9
     ·cases j9
   rcases oO zD with ⟨_,_,_,_,h0⟩ | ⟨_,_,_,_,_,h0⟩ | ⟨_,_,_,_,_,_,_,_,_,_,_,h0⟩ | ⟨x',args',tys,x,l,ho,hx,hl,h0⟩
   ·cases h0
   ·cases h0
   ·cases h0
   ·simp only [eN.defer.injEq]at h0;obtain⟨rfl,rfl⟩:=h0;split at h
    ·rename_i g x1 y1 l1 ZZ na;simp only [aa,ab]at h;obtain⟨rfl,rfl⟩:=h;have hv:=aZ hx hf.env hg ZZ;have hr:=oh hf.env hg _ _ l1 hl na;simp only [aS]at hv;obtain⟨va,vc,hv,Sv,hya⟩:=hv;have fW:(execOp a.eval o).run P w= .ok (.defer { target:= .fn g vc,args:=va++args'.map a.eval}) w:=by
      simp [execOp,ho,resolve,hv,Deferred.ofValue]
     rw [xz tK];rw [fW,Oper.uponIn_defer];refine hK _ _ ⟨ρ,CK, ?_,hs⟩;have:=hf.put (dst:=o.dst) (v:=undef) (d:= .gJ []) c4 fq.undef;rw [o2];refine⟨?_, ?_, ?_⟩
     ·cases hd:o.dst <;> simpa [Act.put,iu,hd] using this.env
     ·cases hd:o.dst <;> simpa [Act.put,iu,hd] using this.size
     ·have e1:(({ a with defers:= { target:= .fn g vc,args:=va++args'.map a.eval}::a.defers}:Act).put o.dst undef).defers= { target:= .fn g vc,args:=va++args'.map a.eval}::a.defers:=by cases o.dst <;> rfl
      rw [e1];exact .inr ⟨g,x1,y1,va,vc,args'.map a.eval,a.defers,rfl,rfl,Sv,hya,by simpa using hr,hf.defers⟩
    ·cases h
  ·
   rename_i x om;have j9 :xf P G X A (nameOf ops o) o= .nC x:=om;have zD:spec P G A o=some (.nC x):=by
    unfold xf at j9;split at j9
    ·rename_i q hq;obtain⟨_,_,_,_,_,e⟩:=o9 hq;rw [e]at j9; cases j9
    split at j9
    ·rename_i q hq; rw [hq,j9]
    ·split at j9
     ·split at j9
      ·rename_i fK; subst j9; cases fK
      ·cases j9
     ·cases j9
   split at h
   ·rename_i r v hd hv;split at h
    ·rename_i hc;simp only [aa,ab]at h;obtain⟨rfl,rfl⟩:=h;simp only [aA]at hc;have A1 :o.dst=some r:=by rw [← o2]; exact hd
     have fin:∀e u,aS ρ w v u->(execOp a.eval o).run P w= .ok (.value (.pointer (some ⟨w.heap.size,0,none⟩))) (w.alloc (.cells u.cells e))->o.wpIn (Rd rd) 0 P a w K Q:=by
      intro e u hu fW;obtain⟨ρ',k1,k2,k3⟩:=QY (e:=e) hf hs CK.size (c4 r A1) hu hc.2 hc.1;rw [xz tK];rw [fW,Oper.uponIn_value,A1];exact hK _ _ ⟨ρ',CK.trans k1,k3,k2⟩
     rcases oO zD with ⟨e,z,ho,hz,h0⟩ | ⟨e,x',x1,ho,hx,h0⟩ | ⟨_,_,_,_,_,_,_,_,_,_,_,h0⟩ | ⟨_,_,_,_,_,_,_,_,h0⟩
     ·simp only [eN.nC.injEq]at h0; subst h0;simp only [bP.ev,aa]at hv; subst hv;obtain⟨zv,z1,z2,z3⟩:=kz (w:=w) hz;refine fin e zv (kh _ _ z2) ?_;simp [execOp,ho,Instr.alloc,z1,newVar,newRow,newObj];rfl
     ·simp only [eN.nC.injEq]at h0; subst h0;refine fin e (a.eval x') (aZ hx hf.env hg hv) ?_;simp [execOp,ho,Instr.box,newVar,newRow,newObj];rfl
     ·cases h0
     ·cases h0
    ·cases h
   ·cases h
  ·
   rename_i r sz x v om;have j9 :xf P G X A (nameOf ops o) o= .iY r sz x v:=om;have zD:spec P G A o=some (.iY r sz x v):=by
    unfold xf at j9;split at j9
    ·rename_i q hq;obtain⟨_,_,_,_,_,e⟩:=o9 hq;rw [e]at j9; cases j9
    split at j9
    ·rename_i q hq; rw [hq,j9]
    ·split at j9
     ·split at j9
      ·rename_i fK; subst j9; cases fK
      ·cases j9
     ·cases j9
   rcases oO zD with ⟨_,_,_,_,h0⟩ | ⟨_,_,_,_,_,h0⟩ | ⟨t,x',v',r1,sz1,x1,v1,ho,fR,hx,hv,h0⟩ | ⟨_,_,_,_,_,_,_,_,h0⟩
   ·cases h0
   ·cases h0
   ·simp only [eN.iY.injEq]at h0;obtain⟨rfl,rfl,rfl,rfl⟩:=h0;split at h
    ·rename_i r' c dv hxp VI;split at h
     ·rename_i e hre vk WD;split at h
      ·rename_i e' GW;simp only [aa,ab]at h;obtain⟨rfl,rfl⟩:=h;obtain rfl:=aF hre;obtain⟨b1,h1,h2⟩:=lI hx hf.env hg hxp e vk;have aa9:=aZ hv hf.env hg VI;obtain⟨k1,k2,k3,k4,k5,k6⟩:=K8 hf hs vk h1 aa9 GW (aF WD);have fW:(execOp a.eval o).run P w= .ok .skip (w.setCells b1 c (a.eval v').cells.toList):=by
        simp only [execOp,ho,h2];rw [Sem.run_bind,yG (P:=P) fR aa9 k2 (aF WD) k1]; rfl
       rw [xz tK];rw [fW,Oper.uponIn_skip];refine hK _ _ ⟨ρ,k6 ρ0 w0 rfl CK, ?_,k4⟩;rw [o2];exact k5.put c4 fq.undef
      ·cases h
     ·cases h
    ·cases h
   ·cases h0
  ·exact gen _ o1 rfl h
 ·rename_i hw;rw [Be hf.env c5 hw,aJ (by simp)];simp only [aa,ab]at h;obtain⟨rfl,rfl⟩:=h;refine hK _ _ ⟨ρ,CK, ?_,hs⟩;rw [o2];exact hf.put c4 fq.undef
 ·cases h
end Go.Ab
namespace Go.Ab
open Go
variable [eW]
variable {ρ ρ' ρ0:Gh}{w w' w0:World}{P:Program}{pn:iO}{G:Gl}{X:iJ}{A:nJ} {s s' :St}{env:Env}{a:Act}{lo:Nat}{d:D}{C:au}{L:ic}{al:Option Nat} {fr fr' :Fr}
theorem uX {rd:Option Nat}(hC:c9 pn P G C)(hX:∀f k,X f=some k->my P f k)(hg:gF pn G ρ0 w0){ops:Array Oper}{b:Nat}{Q:Exit->Act->World->Prop}:
  ∀(l:List Oper) (n:Nat) (fr:Fr) (s:St) (a:Act) (w:World),(∀i,i < l.length->ops[n+i]? =l[i]?)->(rd=none\/(l.map (fQ P G X A ops)).all (fun o=>o.op.nd)=true)->opers C b (l.map (fQ P G X A ops)) fr s=some (fr',s')->Inv ρ0 w0 A.nt fr s a w->
   (∀a' w',Inv ρ0 w0 A.nt fr' s' a' w' ->Q .normal a' w')->wpOpsIn (Rd rd) 0 P ops Q (List.range' n l.length) a w
 | [],n,fr,s,a,w,_,_,h,hI,hQ=>by
  simp only [ed,opers,aa,ab]at h;obtain⟨rfl,rfl⟩:=h;exact hQ _ _ hI
 | o::l,n,fr,s,a,w,hi,ml,h,hI,hQ=>by
  simp only [bG,opers]at h;simp only [bG,gQ,aA]at ml;split at h
  ·rename_i fr1 s1 h1;have h0:=hi 0 (by simp);simp only [fP,aQ]at h0;simp only [aU,List.range'_succ];simp only [wpOpsIn,h0]
   have:=oG (Q:=Q) (K:=wpOpsIn (Rd rd) 0 P ops Q (List.range' (n+1) l.length)) hC hX hg (ops:=ops) (o:=o) ⟨rfl,rfl,rfl⟩ (ml.imp id pk) h1 hI (fun a' w' sX =>
    uX hC hX hg l (n+1) fr1 s1 a' w' (fun i dQ=>by
     have:=hi (i+1) (by simpa using dQ);simpa [iF,Nat.add_comm 1 i] using this) (ml.imp id And.right) h sX hQ)
   split
   ·rename_i hw;rw [bJ hw]at this;exact this
   ·rename_i hw;rw [aJ hw]at this;exact⟨fun _ _=>trivial,this⟩
  ·cases h
def qY:Ex->Exit->Prop
 | .normal,.normal=>True
 | .exit i,.exit j=>i=j
 | .ret,.ret=>True
 | _,_=>False
def mK (ρ0:Gh)(w0:World)(nt:Nat)(e:Ex)(fr:Fr)(s:St):Exit->Act->World->Prop:=fun x a w=>qY e x/\Inv ρ0 w0 nt fr s a w
theorem BO {rd:Option Nat}(n:Nat):(Rd rd).room n:=room_wide n
def yQ (rd:Option Nat)(P:Program)(c:Code)(Q:Exit->Act->World->Prop)(a:Act)(w:World):Prop:=
 ∀(b:Frame) (k:List Item) (cs:List Frame),b.roundOf=rd->∃e a' w',Q e a' w' /\ArrivesIn (Machine.fenced P (Rd rd)) P (lone (b.atR a (.code c:: .inLoop c::k)) cs w) b k cs e a' w'
theorem CY {rd:Option Nat}{c:Code}{Q:Exit->Act->World->Prop}(h:c.wpIn (Rd rd) 0 P (Exit.then (yQ rd P c Q) Q) a w):yQ rd P c Q a w:=by
 intro b k cs wz;obtain⟨e,a₁,w₁,hq,tv⟩:=h b (.inLoop c::k) cs wz trivial (BO _);cases e with
 | normal=>
  obtain⟨e₂,a₂,w₂,hq₂,ZM⟩:=hq b k cs wz;exact⟨e₂,a₂,w₂,hq₂,.of_steps (StepsIn.trans tv (.one (fenced_calm (n:=0) trivial (BO _) rfl) stepR_inLoop)) ZM⟩
 | exit id=>exact ⟨_,a₁,w₁,hq,.pass (x:= .inLoop c) rfl (fun _ _=> .inl (by simp)) tv⟩
 | goto l=>exact ⟨_,a₁,w₁,hq,.pass (x:= .inLoop c) rfl (fun _ _=> .inl (by simp)) tv⟩
 | ret=>exact ⟨_,a₁,w₁,hq,.pass (x:= .inLoop c) rfl (fun _ _=> .inl (by simp)) tv⟩
 | panic ch=>exact ⟨_,a₁,w₁,hq,.pass (x:= .inLoop c) rfl (fun _ _=> .inl (by simp)) tv⟩
 | outgrown=>exact ⟨_,a₁,w₁,hq,.pass (x:= .inLoop c) rfl (fun _ _=> .inl (by simp)) tv⟩
theorem G8 {rd:Option Nat}{c:Code}{Q:Exit->Act->World->Prop}(h:yQ rd P c Q a w):(Code.loop c).wpIn (Rd rd) 0 P Q a w:=by
 intro b k cs wz _ _;obtain⟨e,a',w',hq,tv⟩:=h b k cs wz;exact⟨e,a',w',hq,.of_steps (.one (fenced_calm (n:=0) trivial (BO _) rfl) stepR_loop) tv⟩
structure wg (pn:iO)(P:Program)(G:Gl)(X:iJ)(L:ic):Prop where
 ro:Xu L
 loop:∀(rd:Option Nat) (A:nJ) (ρ0:Gh) (w0:World) (c:Code) (ks ks' :List (List Nat)) (bR:List Nat) (ac:AC) (fr:Fr) (s:St) (e:Ex) (fr' :Fr) (s' :St) (a:Act) (w:World),(rd=none\/ac.nd=true)->ac.il=false->gF pn G ρ0 w0->compile P G X A c ks=(ac,ks')->
  L bR ac fr s=some (e,fr',s')->Inv ρ0 w0 A.nt fr s a w->yQ rd P c (mK ρ0 w0 A.nt e fr' s') a w
 range:∀(A:nJ) (ρ0:Gh) (w0:World) (g:Operand) (g' :bP) (ps:Array Tmp) (ca cb:Code) (k1 k2 k3 k4:List (List Nat)) (bR:List Nat) (x y:AC) (fr:Fr) (s:St) (e:Ex) (fr' :Fr) (s' :St) (a:Act) (w:World),gF pn G ρ0 w0->eK G g=some g' ->compile P G X A ca k1=(x,k2)->compile P G X A cb k3=(y,k4)->
  x.nd=true->y.nd=true->(∀t∈ps.toList,t < A.nt)->L [] (.iA bR g' ps.toList x y) fr s=some (e,fr',s')->Inv ρ0 w0 A.nt fr s a w->(Code.rangeFunc g ps ca cb).wpIn Fence.wide 0 P (mK ρ0 w0 A.nt e fr' s') a w
def qH (pn:iO)(P:Program)(G:Gl)(X:iJ)(C:au):Prop:=∀(L:ic) (rd:Option Nat) (A:nJ) (ρ0:Gh) (w0:World) (id:Nat) (ops:Array Oper) (fr:Fr) (s:St) (e:Ex) (fr' :Fr) (s' :St) (a:Act) (w:World),(rd=none\/(Jt P G X A ops true).nd=true)->gF pn G ρ0 w0->
 bW C L (Jt P G X A ops true) fr s=some (e,fr',s')->Inv ρ0 w0 A.nt fr s a w->(Code.region id ops true).wpIn (Rd rd) 0 P (mK ρ0 w0 A.nt e fr' s') a w
theorem lO {b:Frame}{a:Act}{k:List Item}{cs:List Frame}{w:World}{c:Code}:step P (lone (b.atR a (.code (.scope c)::k)) cs w)= .next (lone (b.atR a (.code c:: .inScope c::k)) cs w):=
 step_lone_go (by simp [stepG,stepG.exec,Frame.atR])
theorem zW {b:Frame}{a:Act}{k:List Item}{cs:List Frame}{w:World}{c:Code}:step P (lone (b.atR a (.inScope c::k)) cs w)= .next (lone (b.atR a k) cs w):=
 step_lone_go (by simp [stepG,stepG.exec,Frame.atR])
theorem FZ {F:Fence}{n:Nat}{Q:Exit->Act->World->Prop}{a:Act}{w:World}{c:Code}(h:c.wpIn F n P (Exit.noGoto Q) a w):(Code.scope c).wpIn F n P Q a w:=by
 intro b k cs wz hb hr;have h0:(lone (b.atR a (.code (.scope c)::k)) cs w).fenced P F:=fenced_calm hb hr rfl;obtain⟨e,a₁,w₁,hq,tv⟩:=h b (.inScope c::k) cs wz hb hr;cases e with
 | normal=>exact ⟨.normal,a₁,w₁,hq,.head h0 lO (StepsIn.trans tv (.one (fenced_calm hb hr rfl) zW))⟩
 | exit id=>
  have hx:exitTo id (.inScope c::k)=exitTo id k:=by simp [exitTo]
  exact⟨.exit id,a₁,w₁,hq,fun k' hk=> .head h0 lO (tv.1 k' (by rw [hx]; exact hk)),fun D9 hk=>let ⟨k₁,h1,h2⟩:=tv.2 D9 (by rw [hx]; exact hk); ⟨k₁,h1,.head h0 lO h2⟩⟩
 | goto l=>exact hq.elim
 | ret=>exact ⟨_,a₁,w₁,hq,.of_steps (.one h0 lO) tv⟩
 | panic ch=>exact ⟨_,a₁,w₁,hq,.of_steps (.one h0 lO) tv⟩
 | outgrown=>exact ⟨_,a₁,w₁,hq,.of_steps (.one h0 lO) tv⟩
theorem kg {rd:Option Nat}(hC:c9 pn P G C)(hX:∀f k,X f=some k->my P f k)(hL:wg pn P G X L)(hD:qH pn P G X C)(hg:gF pn G ρ0 w0):
  ∀(c:Code) (ks ks' :List (List Nat)) (ac:AC) (fr:Fr) (s:St) (e:Ex) (fr' :Fr) (s' :St) (a:Act) (w:World),(rd=none\/ac.nd=true)->compile P G X A c ks=(ac,ks')->bW C L ac fr s=some (e,fr',s')->Inv ρ0 w0 A.nt fr s a w->c.wpIn (Rd rd) 0 P (mK ρ0 w0 A.nt e fr' s') a w
 | .skip,ks,ks',ac,fr,s,e,fr',s',a,w,ml,hc,h,hI=>by
  simp only [compile,ab]at hc;obtain⟨rfl,rfl⟩:=hc;simp only [bW,aa,ab]at h;obtain⟨rfl,rfl,rfl⟩:=h;exact wpIn_skip ⟨trivial,hI⟩
 | .region id ops dr,ks,ks',ac,fr,s,e,fr',s',a,w,ml,hc,h,hI=>by
  simp only [compile,ab]at hc;obtain⟨rfl,rfl⟩:=hc;cases dr with
  | false=>
   simp only [Jt,bW]at h;split at h
   ·rename_i fr1 s1 h1;simp only [aa,ab]at h;obtain⟨rfl,rfl,rfl⟩:=h;refine wpIn_region (n:=0) ?_;have:=uX (rd:=rd) (Q:=mK ρ0 w0 A.nt .normal fr1 s1) hC hX hg ops.toList 0 fr s a w (by simp) (ml.imp (fun h=>h) fun hr=>by simpa only [Jt,AC.nd] using hr) h1 hI (fun a' w' sX =>⟨trivial,sX⟩);rwa [← List.range_eq_range',fa]at this
   ·cases h
  | true=>
   exact hD L rd A ρ0 w0 id ops fr s e fr' s' a w ml hg h hI
 | .seq x y,ks,ks',ac,fr,s,e,fr',s',a,w,ml,hc,h,hI=>by
  simp only [compile,ab]at hc;obtain⟨rfl,rfl⟩:=hc;simp only [bW]at h;simp only [AC.nd,aA]at ml;refine wpIn_seq ?_;split at h
  ·rename_i fr1 s1 h1;refine wpIn_mono (kg hC hX hL hD hg x ks _ _ fr s _ fr1 s1 a w (ml.imp id pk) rfl h1 hI) fun ex a' w' hq=> ?_;obtain⟨hx,sX⟩:=hq;cases ex <;> simp only [qY]at hx;exact kg hC hX hL hD hg y _ _ _ fr1 s1 e fr' s' a' w' (ml.imp id And.right) rfl h sX
  ·rename_i r cC;refine wpIn_mono (kg hC hX hL hD hg x ks _ _ fr s e fr' s' a w (ml.imp id pk) rfl h hI) fun ex a' w' hq=> ?_;obtain⟨hx,sX⟩:=hq;cases ex
   case normal=>
    cases e <;> simp only [qY]at hx;exact absurd h (cC fr' s')
   all_goals exact ⟨hx,sX⟩
 | .cond c x y,ks,ks',ac,fr,s,e,fr',s',a,w,ml,hc,h,hI=>by
  simp only [compile]at hc;split at hc
  ·rename_i c' Xn;simp only [ab]at hc;obtain⟨rfl,rfl⟩:=hc;simp only [bW]at h;simp only [AC.nd,aA]at ml;have R0:=hI;obtain⟨ρ,CK,hf,hs⟩:=hI;split at h
   ·rename_i hv;have:=aZ Xn hf.env (hg.mono CK) hv;simp only [aS]at this;exact wpIn_cond_true this (kg hC hX hL hD hg x _ _ _ fr s e fr' s' a w (ml.imp id pk) rfl h R0)
   ·rename_i hv;have:=aZ Xn hf.env (hg.mono CK) hv;simp only [aS]at this;exact wpIn_cond_false this (kg hC hX hL hD hg y _ _ _ fr s e fr' s' a w (ml.imp id And.right) rfl h R0)
   ·cases h
  ·simp only [ab]at hc;obtain⟨rfl,rfl⟩:=hc;simp [bW]at h
 | .block id x,ks,ks',ac,fr,s,e,fr',s',a,w,ml,hc,h,hI=>by
  simp only [compile,ab]at hc;obtain⟨rfl,rfl⟩:=hc;simp only [bW]at h;simp only [AC.nd]at ml;refine wpIn_block ?_;split at h
  ·rename_i i fr1 s1 h1;refine wpIn_mono (kg hC hX hL hD hg x ks _ _ fr s _ fr1 s1 a w ml rfl h1 hI) fun ex a' w' hq=> ?_;obtain⟨hx,sX⟩:=hq;cases ex <;> simp only [qY]at hx;rename_i j;subst hx;split at h
   ·rename_i hid;obtain rfl:=aF hid;simp only [aa,ab]at h;obtain⟨rfl,rfl,rfl⟩:=h;simp only [Exit.inBlock,ep];exact⟨trivial,sX⟩
   ·rename_i hid;simp only [aa,ab]at h;obtain⟨rfl,rfl,rfl⟩:=h;have cC:i≠id:=by rintro rfl; rw [az]at hid; cases hid
    simp only [Exit.inBlock,aJ cC];exact⟨rfl,sX⟩
  ·rename_i r cC;refine wpIn_mono (kg hC hX hL hD hg x ks _ _ fr s e fr' s' a w ml rfl h hI) fun ex a' w' hq=> ?_;obtain⟨hx,sX⟩:=hq;cases ex
   case exit j=>
    cases e <;> simp only [qY]at hx;exact absurd h (cC _ fr' s')
   all_goals exact ⟨hx,sX⟩
 | .loop x,ks,ks',ac,fr,s,e,fr',s',a,w,ml,hc,h,hI=>by
  cases ks with
  | nil=>
   simp only [compile,ab]at hc;obtain⟨rfl,rfl⟩:=hc;simp [bW]at h
  | cons k ks=>
   simp only [compile]at hc;split at hc
   ·simp only [ab]at hc;obtain⟨rfl,rfl⟩:=hc;simp [bW]at h
   ·rename_i Zk;simp only [ab]at hc;obtain⟨rfl,rfl⟩:=hc;simp only [bW]at h;simp only [AC.nd]at ml;exact G8 (hL.loop rd A ρ0 w0 x ks _ k _ fr s e fr' s' a w ml Zk hg rfl h hI)
 | .exit id,ks,ks',ac,fr,s,e,fr',s',a,w,ml,hc,h,hI=>by
  simp only [compile,ab]at hc;obtain⟨rfl,rfl⟩:=hc;simp only [bW,aa,ab]at h;obtain⟨rfl,rfl,rfl⟩:=h;exact wpIn_exit ⟨rfl,hI⟩
 | .ret,ks,ks',ac,fr,s,e,fr',s',a,w,ml,hc,h,hI=>by
  simp only [compile,ab]at hc;obtain⟨rfl,rfl⟩:=hc;simp only [bW,aa,ab]at h;obtain⟨rfl,rfl,rfl⟩:=h;exact wpIn_ret ⟨trivial,hI⟩
 | .rangeFunc g ps ca cb,ks,ks',ac,fr,s,e,fr',s',a,w,ml,hc,h,hI=>by
  have bad:∀kk,(ac,ks')=(.bad,kk)->(Code.rangeFunc g ps ca cb).wpIn (Rd rd) 0 P (mK ρ0 w0 A.nt e fr' s') a w:=by
   intro kk hh;simp only [ab]at hh;obtain⟨rfl,rfl⟩:=hh;simp [bW]at h
  cases ks with
  | nil=>
   simp only [compile]at hc;exact bad _ hc.symm
  | cons k ks=>
   simp only [compile]at hc;split at hc
   ·rename_i g' Wq;split at hc
    ·rename_i tK;simp only [aA,dh]at tK;simp only [ab]at hc;obtain⟨rfl,rfl⟩:=hc;simp only [AC.nd,db,kI]at ml;subst ml;simp only [bW]at h;exact hL.range A ρ0 w0 g g' ps ca cb _ _ _ _ k _ _ fr s e fr' s' a w hg Wq rfl rfl tK.1 tK.2.1 (fun t ht=>ax (tK.2.2 t ht)) h hI
    ·exact bad _ hc.symm
   ·exact bad _ hc.symm
 | .scope x,ks,ks',ac,fr,s,e,fr',s',a,w,ml,hc,h,hI=>by
  simp only [compile]at hc;refine FZ (wpIn_mono (kg hC hX hL hD hg x ks ks' ac fr s e fr' s' a w ml hc h hI) fun ex a' w' hq=> ?_);obtain⟨hx,sX⟩:=hq;cases ex with
  | goto l=>cases e <;> simp only [qY]at hx
  | _=>exact ⟨hx,sX⟩
 | .label _,ks,ks',ac,fr,s,e,fr',s',a,w,ml,hc,h,hI=>by
  simp only [compile,ab]at hc;obtain⟨rfl,rfl⟩:=hc;simp only [bW,aa,ab]at h;obtain⟨rfl,rfl,rfl⟩:=h;exact wpIn_label ⟨trivial,hI⟩
 | .goto _,ks,ks',ac,fr,s,e,fr',s',a,w,ml,hc,h,hI=>by
  simp only [compile,ab]at hc;obtain⟨rfl,rfl⟩:=hc;simp [bW]at h
 | .refuse _,ks,ks',ac,fr,s,e,fr',s',a,w,ml,hc,h,hI=>by
  simp only [compile,ab]at hc;obtain⟨rfl,rfl⟩:=hc;simp [bW]at h
theorem oT {e:Env}:∀ {l:List Nat} {t:Nat} {d:D},(e.bR l).get t=some d->e.get t=some d
 | [],t,d,h=>by simp [Env.bR,Env.get]at h
 | k::l,t,d,h=>by
  simp only [Env.bR]at h;split at h
  ·rename_i q hq;rw [dB]at h;split at h
   ·rename_i e'; subst e'; rw [← h]; exact hq
   ·exact oT h
  ·exact oT h
theorem Inv.bR {l:List Nat}(h:Inv ρ0 w0 lo fr s a w):Inv ρ0 w0 lo { fr with env:=fr.env.bR l} s a w:=by
 obtain⟨ρ,h1,h2,h3⟩:=h;refine⟨ρ,h1,⟨⟨fun t d hd=> ?_,fun t t' x x' b cC g1 g2=>h2.env.inj t t' x x' b cC (oT g1) (oT g2)⟩,h2.size,h2.defers⟩,h3⟩;have:=h2.env.slot t d (oT hd);cases d with
 | iI k c=>
  simp only [ej]at *;exact fun x hx=>this x (oT hx)
 | _=>exact this
theorem Rg {T:Nat->Option dS}{H:au}(hX:∀f k,X f=some k->my P f k){n:Nat}(hC:c9 pn P G (dH T H n))(hD:qH pn P G X (dH T H n))(hL:wg pn P G X (fc T H n))
  (rd:Option Nat)(A:nJ)(ρ0:Gh)(w0:World)(c:Code) (ks ks' :List (List Nat))(bR:List Nat)(ac:AC)(fr:Fr)(s:St)(e:Ex) (fr' :Fr) (s' :St)(a:Act)(w:World)(ml:rd=none\/ac.nd=true)(Zk:ac.il=false)(hg:gF pn G ρ0 w0)(hc:compile P G X A c ks=(ac,ks'))
  (h:fc T H (n+1) bR ac fr s=some (e,fr',s'))(hI:Inv ρ0 w0 A.nt fr s a w):yQ rd P c (mK ρ0 w0 A.nt e fr' s') a w:=by
 rw [iC _ _ _ _ Zk]at h;refine CY ?_;split at h
 ·rename_i fr1 s1 h1;refine wpIn_mono (kg hC hX hL hD hg c ks ks' ac _ s _ fr1 s1 a w ml hc h1 hI.bR) fun ex a' w' hq=> ?_;obtain⟨hx,sX⟩:=hq;cases ex <;> simp only [qY]at hx;exact hL.loop rd A ρ0 w0 c ks ks' bR ac fr1 s1 e fr' s' a' w' ml Zk hg hc h sX
 ·rename_i r cC;refine wpIn_mono (kg hC hX hL hD hg c ks ks' ac _ s e fr' s' a w ml hc h hI.bR) fun ex a' w' hq=> ?_;obtain⟨hx,sX⟩:=hq;cases ex
  case normal=>
   cases e <;> simp only [qY]at hx;exact absurd h (cC fr' s')
  all_goals exact ⟨hx,sX⟩
end Go.Ab
