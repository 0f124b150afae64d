/- Part. -/
import Derived.Test.YthaiegafejbmoaaGreatDoorG14
import Derived.Scope
set_option linter.unusedSectionVars false
set_option linter.unusedSimpArgs false
set_option linter.unusedVariables false
namespace Go.Ab
open Go
variable [eh]
variable {ρ ρ' ρ0:Gh}{w w' w0:World}{P:Program}{pn:gY}{G:Gl}{X:ig}{A:mT} {s s' :St}{env:Env}{a:Act}{lo:Nat}{d:D}{C:au}{al:Option Nat} {fr fr' :Fr}
theorem oX {o:Oper}{p:eE}(h:spec P G A o=some p):
  (∃e z,o.op= .alloc e/\jA P e=some z/\p= .mZ (.c z))\/(∃e x' x,o.op= .box e x' /\ew G x' =some x/\p= .mZ x)\/
  (∃t x' v' r sz x v,o.op= .store t x' v' /\dC P t=some sz/\ew G x' =some x/\ew G v' =some v/\p= .iX r sz x v)\/
  (∃x' args' tys x l,o.op= .defer { callee:= .value x',args:=args',argTypes:=tys}/\ew G x' =some x/\rW G args' =some l/\p= .defer x l):=by
 unfold spec at h;split at h
 ·rename_i e ho;split at h
  ·simp only [aW]at h;obtain⟨z,hz,rfl⟩:=h;exact .inl ⟨e,z,ho,hz,rfl⟩
  ·cases h
 ·rename_i e x ho;split at h
  ·simp only [aW]at h;obtain⟨z,hz,rfl⟩:=h;exact .inr (.inl ⟨e,x,z,ho,hz,rfl⟩)
  ·cases h
 ·rename_i t x v ho;split at h
  ·rename_i r hr;split at h
   ·rename_i sz x1 v1 h1 h2 h3;simp only [aa]at h; subst h;exact .inr (.inr (.inl ⟨t,x,v,r,sz,x1,v1,ho,h1,h2,h3,rfl⟩))
   ·cases h
  ·cases h
 ·rename_i x args tys ho;split at h
  ·rename_i x1 l h1 h2;simp only [aa]at h; subst h;exact .inr (.inr (.inr ⟨x,args,tys,x1,l,ho,h1,h2,rfl⟩))
  ·cases h
 ·cases h
theorem PY {p:eE}{e:Env}{r:D×St}(h:cg C e s al p=some r):(∀x,p≠ .mZ x)/\(∀r sz x v,p≠ .iX r sz x v)/\(∀x l,p≠ .defer x l)/\p≠ .bad:=by
 refine⟨?_, ?_, ?_, ?_⟩ <;> · intros; rintro rfl; simp [cg]at h
theorem EK (P:Program)(G:Gl)(X:ig)(A:mT)(ops:Array Oper)(o:Oper):((fB P G X A ops o).op= .bad/\(fB P G X A ops o).guard=none)\/((fB P G X A ops o).dst=o.dst/\(fB P G X A ops o).op=xz P G X A (nameOf ops o) o/\(∀t,o.dst=some t->t < A.nt)/\
  ∃g,(match o.guard with | none=>some none | some (j,b)=>match (ops[j]?).bind (·.dst) with | some t=>some (some (t,b)) | none=>none)=some g/\(fB P G X A ops o).guard=g):=by
 unfold fB;split
 ·rename_i g hg;split
  ·rename_i hd;refine .inr ⟨rfl,rfl,fun t ht=> ?_,g,hg,rfl⟩;rw [ht]at hd;exact az hd
  ·exact .inl ⟨rfl,rfl⟩
 ·exact .inl ⟨rfl,rfl⟩
abbrev Rd (r:Option Nat):Fence:= { Fence.wide with round:=r}
theorem Gk {r:Option Nat}{f:FuncId}{args:Array Value}{R:Ending->World->Prop}:CallsIn (Rd r) 0 P f args w R↔Calls P f args w R:=callsIn_wide (n:=0)
theorem xY {r:Option Nat}{o:Oper}{K:Act->World->Prop}{Q:Exit->Act->World->Prop}(h:r=none\/∀c,o.op≠ .defer c):o.wpIn (Rd r) 0 P a w K Q↔o.uponIn (Rd r) 0 P a K Q ((execOp a.eval o).run P w):=by
 have e:(o.semAt r a.eval).run P w=(execOp a.eval o).run P w:=by
  rcases h with rfl | h
  ·rw [Oper.semAt_none]
  ·rw [Oper.semAt_eq _ _ _ h]
 unfold Oper.wpIn;rw [show (Rd r).round=r from rfl,e];exact⟨fun h=>h.2,fun h=>⟨fun _ _=>trivial,h⟩⟩
theorem oV {nm:Option String}{o:Oper}{p:eE}(h:XQ P G nm o=some p):∃n x' x,o.op= .nilCheck x' /\ew G x' =some x/\p= .Bx n (nM P n) x:=by
 unfold XQ at h;split at h
 ·rename_i n x' ho;simp only [aW]at h;obtain⟨x,hx,rfl⟩:=h;exact⟨n,x',x,ho,hx,rfl⟩
 ·cases h
theorem Hg {nm:Option String}{o:Oper}{c:Call}(h:o.op= .defer c){p:eE}(hp:xz P G X A nm o=p):p= .bad\/∃f l,p= .defer f l:=by
 subst hp;have e:∀q,YP P G X A o=some q->∃f l,q= .defer f l:=by
  intro q hq;unfold YP at hq;rw [h]at hq;obtain⟨ce,ar,ty⟩:=c;cases ce with
  | value x=>
   simp only [aL,aE,ae,aa]at hq;obtain⟨_,_,_,_,rfl⟩:=hq;exact⟨_,_,rfl⟩
  | _=>cases hq
 unfold xz;split
 ·rename_i q hq;obtain⟨_,_,_,ho,_⟩:=oV hq;rw [h]at ho; cases ho
 split
 ·rename_i q hq;rcases oX hq with ⟨_,_,ho,_⟩ | ⟨_,_,_,ho,_⟩ | ⟨_,_,_,_,_,_,_,ho,_⟩ | ⟨_,_,_,_,_,ho,_,_,rfl⟩
  ·rw [h]at ho; cases ho
  ·rw [h]at ho; cases ho
  ·rw [h]at ho; cases ho
  ·exact .inr ⟨_,_,rfl⟩
 ·split
  ·rename_i q hq;obtain⟨f,l,rfl⟩:=e q hq;exact .inl rfl
  ·exact .inl rfl
theorem oa {rd:Option Nat}(hC:cm pn P G C)(hX:∀f k,X f=some k->lZ P f k)(hg:gn pn G ρ0 w0){ops:Array Oper}{o:Oper}{ao:bz}{b:Nat}{K:Act->World->Prop}{Q:Exit->Act->World->Prop}
  (FM:ao.op=(fB P G X A ops o).op/\ao.dst=(fB P G X A ops o).dst/\ao.guard=(fB P G X A ops o).guard)(lU:rd=none\/ao.op.nd=true)(h:oper C b ao fr s=some (fr',s'))(hI:Inv ρ0 w0 A.nt fr s a w)(hK:∀a' w',Inv ρ0 w0 A.nt fr' s' a' w' ->K a' w'):
  if Region.wanted o (yielded ops a.tmps) then o.wpIn (Rd rd) 0 P a w K Q else K (a.put o.dst undef) w:=by
 obtain⟨ρ,C1,hf,hs⟩:=hI;have hg:=hg.mono C1;rcases EK P G X A ops o with ⟨d1,d2⟩ | ⟨c1,c3,c4,g,c5,c6⟩
 ·rw [d1,d2]at FM;unfold oper at h;rw [FM.1,FM.2.2]at h;simp [aJ,cg]at h
 rw [c3,c1,c6]at FM;obtain⟨o1,o2,o3⟩:=FM;unfold oper at h;rw [o3]at h;split at h
 ·rename_i hw;rw [BZ hf.env c5 hw,bQ rfl];rw [o1]at h;have sE:rd=none\/∀c,o.op≠ .defer c:=by
   rcases lU with h0 | h0
   ·exact .inl h0
   ·refine .inr fun c hc=> ?_;rcases Hg (P:=P) (G:=G) (X:=X) (A:=A) (nm:=nameOf ops o) hc rfl with e | ⟨f,l,e⟩
    ·rw [e]at h; simp [cg]at h
    ·rw [o1,e]at h0; cases h0
  have gen:∀p,ao.op=p->xz P G X A (nameOf ops o) o=p->(match cg C fr.env s (match ao.al with | some r=>some (b+r) | none=>none) p with | some (d,s')=>some ({ fr with env:=iq fr.env ao.dst d},s') | none=>none)=some (fr',s')->o.wpIn (Rd rd) 0 P a w K Q:=by
   intro p _ hp h;split at h
   ·rename_i d s2 nK;simp only [aa,ab]at h;obtain⟨rfl,rfl⟩:=h;obtain⟨n1,n2,n3,n4⟩:=PY nK;have o8:eP P ρ w fr.env a.tmps d s2 ((execOp a.eval o).run P w):=by
     unfold xz at hp;split at hp
     ·rename_i q hq;subst hp;obtain⟨n,x',x,ho,hx,rfl⟩:=oV hq;exact PQ hf.env hg hs hx nK ho
     have hb:YP P G X A o=some p/\XV p=true:=by
      split at hp
      ·rename_i q hq;subst hp;rcases oX hq with ⟨_,_,_,_,rfl⟩ | ⟨_,_,_,_,_,rfl⟩ | ⟨_,_,_,_,_,_,_,_,_,_,_,rfl⟩ | ⟨_,_,_,_,_,_,_,_,rfl⟩
       ·exact absurd rfl (n1 _)
       ·exact absurd rfl (n1 _)
       ·exact absurd rfl (n2 _ _ _ _)
       ·exact absurd rfl (n3 _ _)
      ·split at hp
       ·rename_i q hq;split at hp
        ·rename_i lE; subst hp; exact ⟨hq,lE⟩
        ·exact absurd hp.symm n4
       ·exact absurd hp.symm n4
     exact aaL hf.env hg hs hC hX hb.1 hb.2 nK
    rw [xY sE];generalize (execOp a.eval o).run P w=res at o8;unfold eP at o8;split at o8
    ·rename_i v w';obtain⟨ρ',k1,k2,k3⟩:=o8;rw [Oper.uponIn_value];refine hK _ _ ⟨ρ',C1.trans k1, ?_,k2⟩;rw [o2];exact (hf.mono k1).put c4 k3
    ·rename_i w';obtain⟨ρ',k1,k2,rfl⟩:=o8;rw [Oper.uponIn_skip];refine hK _ _ ⟨ρ',C1.trans k1, ?_,k2⟩;rw [o2];exact (hf.mono k1).put c4 fe.undef
    ·rename_i f args w';obtain⟨rfl,hc⟩:=o8;refine⟨fun hd=>(by cases hd),Gk.2 (hc.mono fun e w'' hr=> ?_)⟩;cases e with
     | returned v=>
      obtain⟨ρ',k1,k2,k3⟩:=hr;refine hK _ _ ⟨ρ',C1.trans k1, ?_,k2⟩;rw [o2];exact (hf.mono k1).put c4 (.zC k3)
     | panicked _=>exact hr.elim
     | outgrown=>exact hr.elim
    ·rename_i l fn tm asg bd w';obtain⟨rfl,hc⟩:=o8;refine⟨fun hd=>(by cases hd),hc.mono fun e w'' hr=> ?_⟩;cases e with
     | returned v=>
      obtain⟨ρ',k1,k2,k3⟩:=hr;refine hK _ _ ⟨ρ',C1.trans k1, ?_,k2⟩;rw [o2];exact (hf.mono k1).put c4 (.zC k3)
     | panicked _=>exact hr.elim
     | outgrown=>exact hr.elim
    ·exact o8.elim
   ·cases h
  split at h
  ·
   rename_i f' args nK;have jS :xz P G X A (nameOf ops o) o= .defer f' args:=nK;have Ln:spec P G A o=some (.defer f' args):=by
    unfold xz at jS;split at jS
    ·rename_i q hq;obtain⟨_,_,_,_,_,e⟩:=oV hq;rw [e]at jS; cases jS
    split at jS
    ·rename_i q hq; rw [hq,jS]
    ·split at jS
     ·split at jS
      ·rename_i lE; subst jS; cases lE
      ·cases jS
     ·cases jS
   rcases oX Ln with ⟨_,_,_,_,h0⟩ | ⟨_,_,_,_,_,h0⟩ | ⟨_,_,_,_,_,_,_,_,_,_,_,h0⟩ | ⟨x',args',tys,x,l,ho,hx,hl,h0⟩
   ·cases h0
   ·cases h0
   ·cases h0
   ·simp only [eE.defer.injEq]at h0;obtain⟨rfl,rfl⟩:=h0;split at h
    ·rename_i g x1 y1 l1 hfv mM;simp only [aa,ab]at h;obtain⟨rfl,rfl⟩:=h;have hv:=bc hx hf.env hg hfv;have hr:=nH hf.env hg _ _ l1 hl mM;simp only [aR]at hv;obtain⟨va,vc,hv,SJ,hya⟩:=hv;have fK:(execOp a.eval o).run P w= .ok (.defer { target:= .fn g vc,args:=va++args'.map a.eval}) w:=by
      simp [execOp,ho,resolve,hv,Deferred.ofValue]
     rw [xY sE];rw [fK,Oper.uponIn_defer];refine hK _ _ ⟨ρ,C1, ?_,hs⟩;have:=hf.put (dst:=o.dst) (v:=undef) (d:= .gW []) c4 fe.undef;rw [o2];refine⟨?_, ?_, ?_⟩
     ·cases hd:o.dst <;> simpa [Act.put,iq,hd] using this.env
     ·cases hd:o.dst <;> simpa [Act.put,iq,hd] using this.size
     ·have e1:(({ a with defers:= { target:= .fn g vc,args:=va++args'.map a.eval}::a.defers}:Act).put o.dst undef).defers= { target:= .fn g vc,args:=va++args'.map a.eval}::a.defers:=by cases o.dst <;> rfl
      rw [e1];exact .inr ⟨g,x1,y1,va,vc,args'.map a.eval,a.defers,rfl,rfl,SJ,hya,by simpa using hr,hf.defers⟩
    ·cases h
  ·
   rename_i x nK;have jS :xz P G X A (nameOf ops o) o= .mZ x:=nK;have Ln:spec P G A o=some (.mZ x):=by
    unfold xz at jS;split at jS
    ·rename_i q hq;obtain⟨_,_,_,_,_,e⟩:=oV hq;rw [e]at jS; cases jS
    split at jS
    ·rename_i q hq; rw [hq,jS]
    ·split at jS
     ·split at jS
      ·rename_i lE; subst jS; cases lE
      ·cases jS
     ·cases jS
   split at h
   ·rename_i r v hd hv;split at h
    ·rename_i hc;simp only [aa,ab]at h;obtain⟨rfl,rfl⟩:=h;simp only [aB]at hc;have Q5 :o.dst=some r:=by rw [← o2]; exact hd
     have fin:∀e u,aR ρ w v u->(execOp a.eval o).run P w= .ok (.value (.pointer (some ⟨w.heap.size,0,none⟩))) (w.alloc (.cells u.cells e))->o.wpIn (Rd rd) 0 P a w K Q:=by
      intro e u hu fK;obtain⟨ρ',k1,k2,k3⟩:=SW (e:=e) hf hs C1.size (c4 r Q5) hu hc.2 hc.1;rw [xY sE];rw [fK,Oper.uponIn_value,Q5];exact hK _ _ ⟨ρ',C1.trans k1,k3,k2⟩
     rcases oX Ln with ⟨e,z,ho,hz,h0⟩ | ⟨e,x',x1,ho,hx,h0⟩ | ⟨_,_,_,_,_,_,_,_,_,_,_,h0⟩ | ⟨_,_,_,_,_,_,_,_,h0⟩
     ·simp only [eE.mZ.injEq]at h0; subst h0;simp only [bO.ev,aa]at hv; subst hv;obtain⟨zv,z1,z2,z3⟩:=ki (w:=w) hz;refine fin e zv (jY _ _ z2) ?_;simp [execOp,ho,Instr.alloc,z1,newVar,newRow,newObj];rfl
     ·simp only [eE.mZ.injEq]at h0; subst h0;refine fin e (a.eval x') (bc hx hf.env hg hv) ?_;simp [execOp,ho,Instr.box,newVar,newRow,newObj];rfl
     ·cases h0
     ·cases h0
    ·cases h
   ·cases h
  ·
   rename_i r sz x v nK;have jS :xz P G X A (nameOf ops o) o= .iX r sz x v:=nK;have Ln:spec P G A o=some (.iX r sz x v):=by
    unfold xz at jS;split at jS
    ·rename_i q hq;obtain⟨_,_,_,_,_,e⟩:=oV hq;rw [e]at jS; cases jS
    split at jS
    ·rename_i q hq; rw [hq,jS]
    ·split at jS
     ·split at jS
      ·rename_i lE; subst jS; cases lE
      ·cases jS
     ·cases jS
   rcases oX Ln with ⟨_,_,_,_,h0⟩ | ⟨_,_,_,_,_,h0⟩ | ⟨t,x',v',r1,sz1,x1,v1,ho,fQ,hx,hv,h0⟩ | ⟨_,_,_,_,_,_,_,_,h0⟩
   ·cases h0
   ·cases h0
   ·simp only [eE.iX.injEq]at h0;obtain⟨rfl,rfl,rfl,rfl⟩:=h0;split at h
    ·rename_i r' c dv hxp Xc;split at h
     ·rename_i e hre vQ Xx;split at h
      ·rename_i e' GJ;simp only [aa,ab]at h;obtain⟨rfl,rfl⟩:=h;obtain rfl:=ay hre;obtain⟨b1,h1,h2⟩:=kP hx hf.env hg hxp e vQ;have Z6:=bc hv hf.env hg Xc;obtain⟨k1,k2,k3,k4,k5,k6⟩:=Km hf hs vQ h1 Z6 GJ (ay Xx);have fK:(execOp a.eval o).run P w= .ok .skip (w.setCells b1 c (a.eval v').cells.toList):=by
        simp only [execOp,ho,h2];rw [Sem.run_bind,zW (P:=P) fQ Z6 k2 (ay Xx) k1]; rfl
       rw [xY sE];rw [fK,Oper.uponIn_skip];refine hK _ _ ⟨ρ,k6 ρ0 w0 rfl C1, ?_,k4⟩;rw [o2];exact k5.put c4 fe.undef
      ·cases h
     ·cases h
    ·cases h
   ·cases h0
  ·exact gen _ o1 rfl h
 ·rename_i hw;rw [BZ hf.env c5 hw,aI (by simp)];simp only [aa,ab]at h;obtain⟨rfl,rfl⟩:=h;refine hK _ _ ⟨ρ,C1, ?_,hs⟩;rw [o2];exact hf.put c4 fe.undef
 ·cases h
end Go.Ab
namespace Go.Ab
open Go
variable [eh]
variable {ρ ρ' ρ0:Gh}{w w' w0:World}{P:Program}{pn:gY}{G:Gl}{X:ig}{A:mT} {s s' :St}{env:Env}{a:Act}{lo:Nat}{d:D}{C:au}{L:gO}{al:Option Nat} {fr fr' :Fr}
theorem uT {rd:Option Nat}(hC:cm pn P G C)(hX:∀f k,X f=some k->lZ P f k)(hg:gn pn G ρ0 w0){ops:Array Oper}{b:Nat}{Q:Exit->Act->World->Prop}:
  ∀(l:List Oper) (n:Nat) (fr:Fr) (s:St) (a:Act) (w:World),(∀i,i < l.length->ops[n+i]? =l[i]?)->(rd=none\/(l.map (fB P G X A ops)).all (fun o=>o.op.nd)=true)->opers C b (l.map (fB P G X A ops)) fr s=some (fr',s')->Inv ρ0 w0 A.nt fr s a w->
   (∀a' w',Inv ρ0 w0 A.nt fr' s' a' w' ->Q .normal a' w')->wpOpsIn (Rd rd) 0 P ops Q (List.range' n l.length) a w
 | [],n,fr,s,a,w,_,_,h,hI,hQ=>by
  simp only [eH,opers,aa,ab]at h;obtain⟨rfl,rfl⟩:=h;exact hQ _ _ hI
 | o::l,n,fr,s,a,w,hi,lU,h,hI,hQ=>by
  simp only [bT,opers]at h;simp only [bT,h9,aB]at lU;split at h
  ·rename_i fr1 s1 h1;have h0:=hi 0 (by simp);simp only [fu,aS]at h0;simp only [aT,List.range'_succ];simp only [wpOpsIn,h0]
   have:=oa (Q:=Q) (K:=wpOpsIn (Rd rd) 0 P ops Q (List.range' (n+1) l.length)) hC hX hg (ops:=ops) (o:=o) ⟨rfl,rfl,rfl⟩ (lU.imp id og) h1 hI (fun a' w' rG =>
    uT hC hX hg l (n+1) fr1 s1 a' w' (fun i eW=>by
     have:=hi (i+1) (by simpa using eW);simpa [ia,Nat.add_comm 1 i] using this) (lU.imp id And.right) h rG hQ)
   split
   ·rename_i hw;rw [bQ hw]at this;exact this
   ·rename_i hw;rw [aI hw]at this;exact⟨fun _ _=>trivial,this⟩
  ·cases h
def qR:Ex->Exit->Prop
 | .normal,.normal=>True
 | .exit i,.exit j=>i=j
 | .ret,.ret=>True
 | _,_=>False
def mi (ρ0:Gh)(w0:World)(nt:Nat)(e:Ex)(fr:Fr)(s:St):Exit->Act->World->Prop:=fun x a w=>qR e x/\Inv ρ0 w0 nt fr s a w
theorem CN {rd:Option Nat}(n:Nat):(Rd rd).room n:=room_wide n
def yc (rd:Option Nat)(P:Program)(c:Code)(Q:Exit->Act->World->Prop)(a:Act)(w:World):Prop:=
 ∀(b:Frame) (k:List Item) (cs:List Frame),b.roundOf=rd->∃e a' w',Q e a' w' /\ArrivesIn (Machine.fenced P (Rd rd)) P (lone (b.atR a (.code c:: .inLoop c::k)) cs w) b k cs e a' w'
theorem Eu {rd:Option Nat}{c:Code}{Q:Exit->Act->World->Prop}(h:c.wpIn (Rd rd) 0 P (Exit.then (yc rd P c Q) Q) a w):yc rd P c Q a w:=by
 intro b k cs qZ;obtain⟨e,a₁,w₁,hq,tG⟩:=h b (.inLoop c::k) cs qZ trivial (CN _);cases e with
 | normal=>
  obtain⟨e₂,a₂,w₂,hq₂,ZW⟩:=hq b k cs qZ;exact⟨e₂,a₂,w₂,hq₂,.of_steps (StepsIn.trans tG (.one (fenced_calm (n:=0) trivial (CN _) rfl) stepR_inLoop)) ZW⟩
 | exit id=>exact ⟨_,a₁,w₁,hq,.pass (x:= .inLoop c) rfl (fun _ _=> .inl (by simp)) tG⟩
 | goto l=>exact ⟨_,a₁,w₁,hq,.pass (x:= .inLoop c) rfl (fun _ _=> .inl (by simp)) tG⟩
 | ret=>exact ⟨_,a₁,w₁,hq,.pass (x:= .inLoop c) rfl (fun _ _=> .inl (by simp)) tG⟩
 | panic ch=>exact ⟨_,a₁,w₁,hq,.pass (x:= .inLoop c) rfl (fun _ _=> .inl (by simp)) tG⟩
 | outgrown=>exact ⟨_,a₁,w₁,hq,.pass (x:= .inLoop c) rfl (fun _ _=> .inl (by simp)) tG⟩
theorem Hy {rd:Option Nat}{c:Code}{Q:Exit->Act->World->Prop}(h:yc rd P c Q a w):(Code.loop c).wpIn (Rd rd) 0 P Q a w:=by
 intro b k cs qZ _ _;obtain⟨e,a',w',hq,tG⟩:=h b k cs qZ;exact⟨e,a',w',hq,.of_steps (.one (fenced_calm (n:=0) trivial (CN _) rfl) stepR_loop) tG⟩
structure vt (pn:gY)(P:Program)(G:Gl)(X:ig)(L:gO):Prop where
 ro:Vy L
 loop:∀(rd:Option Nat) (A:mT) (ρ0:Gh) (w0:World) (c:Code) (ks ks' :List (List Nat)) (bM:List Nat) (ac:AC) (fr:Fr) (s:St) (e:Ex) (fr' :Fr) (s' :St) (a:Act) (w:World),(rd=none\/ac.nd=true)->ac.iD=false->gn pn G ρ0 w0->compile P G X A c ks=(ac,ks')->
  L bM ac fr s=some (e,fr',s')->Inv ρ0 w0 A.nt fr s a w->yc rd P c (mi ρ0 w0 A.nt e fr' s') a w
 range:∀(A:mT) (ρ0:Gh) (w0:World) (g:Operand) (g' :bO) (ps:Array Tmp) (ca cb:Code) (k1 k2 k3 k4:List (List Nat)) (bM:List Nat) (x y:AC) (fr:Fr) (s:St) (e:Ex) (fr' :Fr) (s' :St) (a:Act) (w:World),gn pn G ρ0 w0->ew G g=some g' ->compile P G X A ca k1=(x,k2)->compile P G X A cb k3=(y,k4)->
  x.nd=true->y.nd=true->(∀t∈ps.toList,t < A.nt)->L [] (.iF bM g' ps.toList x y) fr s=some (e,fr',s')->Inv ρ0 w0 A.nt fr s a w->(Code.rangeFunc g ps ca cb).wpIn Fence.wide 0 P (mi ρ0 w0 A.nt e fr' s') a w
def qm (pn:gY)(P:Program)(G:Gl)(X:ig)(C:au):Prop:=∀(L:gO) (rd:Option Nat) (A:mT) (ρ0:Gh) (w0:World) (id:Nat) (ops:Array Oper) (fr:Fr) (s:St) (e:Ex) (fr' :Fr) (s' :St) (a:Act) (w:World),(rd=none\/(KN P G X A ops true).nd=true)->gn pn G ρ0 w0->
 bN C L (KN P G X A ops true) fr s=some (e,fr',s')->Inv ρ0 w0 A.nt fr s a w->(Code.region id ops true).wpIn (Rd rd) 0 P (mi ρ0 w0 A.nt e fr' s') a w
theorem lz {b:Frame}{a:Act}{k:List Item}{cs:List Frame}{w:World}{c:Code}:step P (lone (b.atR a (.code (.scope c)::k)) cs w)= .next (lone (b.atR a (.code c:: .inScope c::k)) cs w):=
 step_lone_go (by simp [stepG,stepG.exec,Frame.atR])
theorem AN {b:Frame}{a:Act}{k:List Item}{cs:List Frame}{w:World}{c:Code}:step P (lone (b.atR a (.inScope c::k)) cs w)= .next (lone (b.atR a k) cs w):=
 step_lone_go (by simp [stepG,stepG.exec,Frame.atR])
theorem Hx {F:Fence}{n:Nat}{Q:Exit->Act->World->Prop}{a:Act}{w:World}{c:Code}(h:c.wpIn F n P (Exit.noGoto Q) a w):(Code.scope c).wpIn F n P Q a w:=by
 intro b k cs qZ hb hr;have h0:(lone (b.atR a (.code (.scope c)::k)) cs w).fenced P F:=fenced_calm hb hr rfl;obtain⟨e,a₁,w₁,hq,tG⟩:=h b (.inScope c::k) cs qZ hb hr;cases e with
 | normal=>exact ⟨.normal,a₁,w₁,hq,.head h0 lz (StepsIn.trans tG (.one (fenced_calm hb hr rfl) AN))⟩
 | exit id=>
  have hx:exitTo id (.inScope c::k)=exitTo id k:=by simp [exitTo]
  exact⟨.exit id,a₁,w₁,hq,fun k' hk=> .head h0 lz (tG.1 k' (by rw [hx]; exact hk)),fun OU hk=>let ⟨k₁,h1,h2⟩:=tG.2 OU (by rw [hx]; exact hk); ⟨k₁,h1,.head h0 lz h2⟩⟩
 | goto l=>exact hq.elim
 | ret=>exact ⟨_,a₁,w₁,hq,.of_steps (.one h0 lz) tG⟩
 | panic ch=>exact ⟨_,a₁,w₁,hq,.of_steps (.one h0 lz) tG⟩
 | outgrown=>exact ⟨_,a₁,w₁,hq,.of_steps (.one h0 lz) tG⟩
theorem jX {rd:Option Nat}(hC:cm pn P G C)(hX:∀f k,X f=some k->lZ P f k)(hL:vt pn P G X L)(hD:qm pn P G X C)(hg:gn pn G ρ0 w0):
  ∀(c:Code) (ks ks' :List (List Nat)) (ac:AC) (fr:Fr) (s:St) (e:Ex) (fr' :Fr) (s' :St) (a:Act) (w:World),(rd=none\/ac.nd=true)->compile P G X A c ks=(ac,ks')->bN C L ac fr s=some (e,fr',s')->Inv ρ0 w0 A.nt fr s a w->c.wpIn (Rd rd) 0 P (mi ρ0 w0 A.nt e fr' s') a w
 | .skip,ks,ks',ac,fr,s,e,fr',s',a,w,lU,hc,h,hI=>by
  simp only [compile,ab]at hc;obtain⟨rfl,rfl⟩:=hc;simp only [bN,aa,ab]at h;obtain⟨rfl,rfl,rfl⟩:=h;exact wpIn_skip ⟨trivial,hI⟩
 | .region id ops dr,ks,ks',ac,fr,s,e,fr',s',a,w,lU,hc,h,hI=>by
  simp only [compile,ab]at hc;obtain⟨rfl,rfl⟩:=hc;cases dr with
  | false=>
   simp only [KN,bN]at h;split at h
   ·rename_i fr1 s1 h1;simp only [aa,ab]at h;obtain⟨rfl,rfl,rfl⟩:=h;refine wpIn_region (n:=0) ?_;have:=uT (rd:=rd) (Q:=mi ρ0 w0 A.nt .normal fr1 s1) hC hX hg ops.toList 0 fr s a w (by simp) (lU.imp (fun h=>h) fun hr=>by simpa only [KN,AC.nd] using hr) h1 hI (fun a' w' rG =>⟨trivial,rG⟩);rwa [← List.range_eq_range',eO]at this
   ·cases h
  | true=>
   exact hD L rd A ρ0 w0 id ops fr s e fr' s' a w lU hg h hI
 | .seq x y,ks,ks',ac,fr,s,e,fr',s',a,w,lU,hc,h,hI=>by
  simp only [compile,ab]at hc;obtain⟨rfl,rfl⟩:=hc;simp only [bN]at h;simp only [AC.nd,aB]at lU;refine wpIn_seq ?_;split at h
  ·rename_i fr1 s1 h1;refine wpIn_mono (jX hC hX hL hD hg x ks _ _ fr s _ fr1 s1 a w (lU.imp id og) rfl h1 hI) fun ex a' w' hq=> ?_;obtain⟨hx,rG⟩:=hq;cases ex <;> simp only [qR]at hx;exact jX hC hX hL hD hg y _ _ _ fr1 s1 e fr' s' a' w' (lU.imp id And.right) rfl h rG
  ·rename_i r dn;refine wpIn_mono (jX hC hX hL hD hg x ks _ _ fr s e fr' s' a w (lU.imp id og) rfl h hI) fun ex a' w' hq=> ?_;obtain⟨hx,rG⟩:=hq;cases ex
   case normal=>
    cases e <;> simp only [qR]at hx;exact absurd h (dn fr' s')
   all_goals exact ⟨hx,rG⟩
 | .cond c x y,ks,ks',ac,fr,s,e,fr',s',a,w,lU,hc,h,hI=>by
  simp only [compile]at hc;split at hc
  ·rename_i c' hcc;simp only [ab]at hc;obtain⟨rfl,rfl⟩:=hc;simp only [bN]at h;simp only [AC.nd,aB]at lU;have Sl:=hI;obtain⟨ρ,C1,hf,hs⟩:=hI;split at h
   ·rename_i hv;have:=bc hcc hf.env (hg.mono C1) hv;simp only [aR]at this;exact wpIn_cond_true this (jX hC hX hL hD hg x _ _ _ fr s e fr' s' a w (lU.imp id og) rfl h Sl)
   ·rename_i hv;have:=bc hcc hf.env (hg.mono C1) hv;simp only [aR]at this;exact wpIn_cond_false this (jX hC hX hL hD hg y _ _ _ fr s e fr' s' a w (lU.imp id And.right) rfl h Sl)
   ·cases h
  ·simp only [ab]at hc;obtain⟨rfl,rfl⟩:=hc;simp [bN]at h
 | .block id x,ks,ks',ac,fr,s,e,fr',s',a,w,lU,hc,h,hI=>by
  simp only [compile,ab]at hc;obtain⟨rfl,rfl⟩:=hc;simp only [bN]at h;simp only [AC.nd]at lU;refine wpIn_block ?_;split at h
  ·rename_i i fr1 s1 h1;refine wpIn_mono (jX hC hX hL hD hg x ks _ _ fr s _ fr1 s1 a w lU rfl h1 hI) fun ex a' w' hq=> ?_;obtain⟨hx,rG⟩:=hq;cases ex <;> simp only [qR]at hx;rename_i j;subst hx;split at h
   ·rename_i hid;obtain rfl:=ay hid;simp only [aa,ab]at h;obtain⟨rfl,rfl,rfl⟩:=h;simp only [Exit.inBlock,ei];exact⟨trivial,rG⟩
   ·rename_i hid;simp only [aa,ab]at h;obtain⟨rfl,rfl,rfl⟩:=h;have dn:i≠id:=by rintro rfl; rw [aA]at hid; cases hid
    simp only [Exit.inBlock,aI dn];exact⟨rfl,rG⟩
  ·rename_i r dn;refine wpIn_mono (jX hC hX hL hD hg x ks _ _ fr s e fr' s' a w lU rfl h hI) fun ex a' w' hq=> ?_;obtain⟨hx,rG⟩:=hq;cases ex
   case exit j=>
    cases e <;> simp only [qR]at hx;exact absurd h (dn _ fr' s')
   all_goals exact ⟨hx,rG⟩
 | .loop x,ks,ks',ac,fr,s,e,fr',s',a,w,lU,hc,h,hI=>by
  cases ks with
  | nil=>
   simp only [compile,ab]at hc;obtain⟨rfl,rfl⟩:=hc;simp [bN]at h
  | cons k ks=>
   simp only [compile]at hc;split at hc
   ·simp only [ab]at hc;obtain⟨rfl,rfl⟩:=hc;simp [bN]at h
   ·rename_i hnr;simp only [ab]at hc;obtain⟨rfl,rfl⟩:=hc;simp only [bN]at h;simp only [AC.nd]at lU;exact Hy (hL.loop rd A ρ0 w0 x ks _ k _ fr s e fr' s' a w lU hnr hg rfl h hI)
 | .exit id,ks,ks',ac,fr,s,e,fr',s',a,w,lU,hc,h,hI=>by
  simp only [compile,ab]at hc;obtain⟨rfl,rfl⟩:=hc;simp only [bN,aa,ab]at h;obtain⟨rfl,rfl,rfl⟩:=h;exact wpIn_exit ⟨rfl,hI⟩
 | .ret,ks,ks',ac,fr,s,e,fr',s',a,w,lU,hc,h,hI=>by
  simp only [compile,ab]at hc;obtain⟨rfl,rfl⟩:=hc;simp only [bN,aa,ab]at h;obtain⟨rfl,rfl,rfl⟩:=h;exact wpIn_ret ⟨trivial,hI⟩
 | .rangeFunc g ps ca cb,ks,ks',ac,fr,s,e,fr',s',a,w,lU,hc,h,hI=>by
  have bad:∀kk,(ac,ks')=(.bad,kk)->(Code.rangeFunc g ps ca cb).wpIn (Rd rd) 0 P (mi ρ0 w0 A.nt e fr' s') a w:=by
   intro kk hh;simp only [ab]at hh;obtain⟨rfl,rfl⟩:=hh;simp [bN]at h
  cases ks with
  | nil=>
   simp only [compile]at hc;exact bad _ hc.symm
  | cons k ks=>
   simp only [compile]at hc;split at hc
   ·rename_i g' hg';split at hc
    ·rename_i sE;simp only [aB,c9]at sE;simp only [ab]at hc;obtain⟨rfl,rfl⟩:=hc;simp only [AC.nd,cR,cJ]at lU;subst lU;simp only [bN]at h;exact hL.range A ρ0 w0 g g' ps ca cb _ _ _ _ k _ _ fr s e fr' s' a w hg hg' rfl rfl sE.1 sE.2.1 (fun t ht=>az (sE.2.2 t ht)) h hI
    ·exact bad _ hc.symm
   ·exact bad _ hc.symm
 | .scope x,ks,ks',ac,fr,s,e,fr',s',a,w,lU,hc,h,hI=>by
  simp only [compile]at hc;refine Hx (wpIn_mono (jX hC hX hL hD hg x ks ks' ac fr s e fr' s' a w lU hc h hI) fun ex a' w' hq=> ?_);obtain⟨hx,rG⟩:=hq;cases ex with
  | goto l=>cases e <;> simp only [qR]at hx
  | _=>exact ⟨hx,rG⟩
 | .label _,ks,ks',ac,fr,s,e,fr',s',a,w,lU,hc,h,hI=>by
  simp only [compile,ab]at hc;obtain⟨rfl,rfl⟩:=hc;simp only [bN,aa,ab]at h;obtain⟨rfl,rfl,rfl⟩:=h;exact wpIn_label ⟨trivial,hI⟩
 | .goto _,ks,ks',ac,fr,s,e,fr',s',a,w,lU,hc,h,hI=>by
  simp only [compile,ab]at hc;obtain⟨rfl,rfl⟩:=hc;simp [bN]at h
 | .refuse _,ks,ks',ac,fr,s,e,fr',s',a,w,lU,hc,h,hI=>by
  simp only [compile,ab]at hc;obtain⟨rfl,rfl⟩:=hc;simp [bN]at h
theorem oM {e:Env}:∀ {l:List Nat} {t:Nat} {d:D},(e.bM l).get t=some d->e.get t=some d
 | [],t,d,h=>by simp [Env.bM,Env.get]at h
 | k::l,t,d,h=>by
  simp only [Env.bM]at h;split at h
  ·rename_i q hq;rw [cY]at h;split at h
   ·rename_i e'; subst e'; rw [← h]; exact hq
   ·exact oM h
  ·exact oM h
theorem Inv.bM {l:List Nat}(h:Inv ρ0 w0 lo fr s a w):Inv ρ0 w0 lo { fr with env:=fr.env.bM l} s a w:=by
 obtain⟨ρ,h1,h2,h3⟩:=h;refine⟨ρ,h1,⟨⟨fun t d hd=> ?_,fun t t' x x' b dn g1 g2=>h2.env.inj t t' x x' b dn (oM g1) (oM g2)⟩,h2.size,h2.defers⟩,h3⟩;have:=h2.env.slot t d (oM hd);cases d with
 | iE k c=>
  simp only [dV]at *;exact fun x hx=>this x (oM hx)
 | _=>exact this
theorem SZ {T:Nat->Option dJ}{H:au}(hX:∀f k,X f=some k->lZ P f k){n:Nat}(hC:cm pn P G (cV T H n))(hD:qm pn P G X (cV T H n))(hL:vt pn P G X (eT T H n))
  (rd:Option Nat)(A:mT)(ρ0:Gh)(w0:World)(c:Code) (ks ks' :List (List Nat))(bM:List Nat)(ac:AC)(fr:Fr)(s:St)(e:Ex) (fr' :Fr) (s' :St)(a:Act)(w:World)(lU:rd=none\/ac.nd=true)(hnr:ac.iD=false)(hg:gn pn G ρ0 w0)(hc:compile P G X A c ks=(ac,ks'))
  (h:eT T H (n+1) bM ac fr s=some (e,fr',s'))(hI:Inv ρ0 w0 A.nt fr s a w):yc rd P c (mi ρ0 w0 A.nt e fr' s') a w:=by
 rw [ib _ _ _ _ hnr]at h;refine Eu ?_;split at h
 ·rename_i fr1 s1 h1;refine wpIn_mono (jX hC hX hL hD hg c ks ks' ac _ s _ fr1 s1 a w lU hc h1 hI.bM) fun ex a' w' hq=> ?_;obtain⟨hx,rG⟩:=hq;cases ex <;> simp only [qR]at hx;exact hL.loop rd A ρ0 w0 c ks ks' bM ac fr1 s1 e fr' s' a' w' lU hnr hg hc h rG
 ·rename_i r dn;refine wpIn_mono (jX hC hX hL hD hg c ks ks' ac _ s e fr' s' a w lU hc h hI.bM) fun ex a' w' hq=> ?_;obtain⟨hx,rG⟩:=hq;cases ex
  case normal=>
   cases e <;> simp only [qR]at hx;exact absurd h (dn fr' s')
  all_goals exact ⟨hx,rG⟩
end Go.Ab
