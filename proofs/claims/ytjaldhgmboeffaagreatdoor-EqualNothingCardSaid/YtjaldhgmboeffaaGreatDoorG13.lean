/- Part. -/
import Derived.Test.YtjaldhgmboeffaaGreatDoorG12
import Derived.Scope
set_option linter.unusedSimpArgs false
set_option linter.unusedVariables false
set_option linter.unusedSectionVars false
namespace Go.Ab
open Go
variable [eV]
variable {ρ ρ' ρ0:Gh}{w w' w0:World}{P:Program}{pn:jn}{G:Gl}{X:iw}{A:nA} {s s' :St}{env:Env}{a:Act}{lo:Nat}{d:D}{C:ay}{al:Option Nat} {fr fr' :Fr}
theorem oY {o:Oper}{p:eQ}(h:spec P G A o=some p):
  (∃e z,o.op= .alloc e/\jH P e=some z/\p= .nv (.c z))\/(∃e x' x,o.op= .box e x' /\eO G x' =some x/\p= .nv x)\/
  (∃t x' v' r sz x v,o.op= .store t x' v' /\dO P t=some sz/\eO G x' =some x/\eO G v' =some v/\p= .iX r sz x v)\/
  (∃x' args' tys x l,o.op= .defer { callee:= .value x',args:=args',argTypes:=tys}/\eO G x' =some x/\rX G args' =some l/\p= .defer x l):=by
 unfold spec at h;split at h
 ·rename_i e ho;split at h
  ·simp only [bj]at h;obtain⟨z,hz,rfl⟩:=h;exact .inl ⟨e,z,ho,hz,rfl⟩
  ·cases h
 ·rename_i e x ho;split at h
  ·simp only [bj]at h;obtain⟨z,hz,rfl⟩:=h;exact .inr (.inl ⟨e,x,z,ho,hz,rfl⟩)
  ·cases h
 ·rename_i t x v ho;split at h
  ·rename_i r hr;split at h
   ·rename_i sz x1 v1 h1 h2 h3;simp only [aa]at h; subst h;exact .inr (.inr (.inl ⟨t,x,v,r,sz,x1,v1,ho,h1,h2,h3,rfl⟩))
   ·cases h
  ·cases h
 ·rename_i x args tys ho;split at h
  ·rename_i x1 l h1 h2;simp only [aa]at h; subst h;exact .inr (.inr (.inr ⟨x,args,tys,x1,l,ho,h1,h2,rfl⟩))
  ·cases h
 ·cases h
theorem Mr {p:eQ}{e:Env}{r:D×St}(h:cC C e s al p=some r):(∀x,p≠ .nv x)/\(∀r sz x v,p≠ .iX r sz x v)/\(∀x l,p≠ .defer x l)/\p≠ .bad:=by
 refine⟨?_, ?_, ?_, ?_⟩ <;> · intros; rintro rfl; simp [cC]at h
theorem D7 (P:Program)(G:Gl)(X:iw)(A:nA)(ops:Array Oper)(o:Oper):((fQ P G X A ops o).op= .bad/\(fQ P G X A ops o).guard=none)\/((fQ P G X A ops o).dst=o.dst/\(fQ P G X A ops o).op=wW P G X A (nameOf ops o) o/\(∀t,o.dst=some t->t < A.nt)/\
  ∃g,(match o.guard with | none=>some none | some (j,b)=>match (ops[j]?).bind (·.dst) with | some t=>some (some (t,b)) | none=>none)=some g/\(fQ P G X A ops o).guard=g):=by
 unfold fQ;split
 ·rename_i g hg;split
  ·rename_i hd;refine .inr ⟨rfl,rfl,fun t ht=> ?_,g,hg,rfl⟩;rw [ht]at hd;exact az hd
  ·exact .inl ⟨rfl,rfl⟩
 ·exact .inl ⟨rfl,rfl⟩
abbrev Rd (r:Option Nat):Fence:= { Fence.wide with round:=r}
theorem Hl {r:Option Nat}{f:FuncId}{args:Array Value}{R:Ending->World->Prop}:CallsIn (Rd r) 0 P f args w R↔Calls P f args w R:=callsIn_wide (n:=0)
theorem xi {r:Option Nat}{o:Oper}{K:Act->World->Prop}{Q:Exit->Act->World->Prop}(h:r=none\/∀c,o.op≠ .defer c):o.wpIn (Rd r) 0 P a w K Q↔o.uponIn (Rd r) 0 P a K Q ((execOp a.eval o).run P w):=by
 have e:(o.semAt r a.eval).run P w=(execOp a.eval o).run P w:=by
  rcases h with rfl | h
  ·rw [Oper.semAt_none]
  ·rw [Oper.semAt_eq _ _ _ h]
 unfold Oper.wpIn;rw [show (Rd r).round=r from rfl,e];exact⟨fun h=>h.2,fun h=>⟨fun _ _=>trivial,h⟩⟩
theorem ph {nm:Option String}{o:Oper}{p:eQ}(h:XS P G nm o=some p):∃n x' x,o.op= .nilCheck x' /\eO G x' =some x/\p= .A8 n (ox P n) x:=by
 unfold XS at h;split at h
 ·rename_i n x' ho;simp only [bj]at h;obtain⟨x,hx,rfl⟩:=h;exact⟨n,x',x,ho,hx,rfl⟩
 ·cases h
theorem FJ {nm:Option String}{o:Oper}{c:Call}(h:o.op= .defer c){p:eQ}(hp:wW P G X A nm o=p):p= .bad\/∃f l,p= .defer f l:=by
 subst hp;have e:∀q,Yh P G X A o=some q->∃f l,q= .defer f l:=by
  intro q hq;unfold Yh at hq;rw [h]at hq;obtain⟨ce,ar,ty⟩:=c;cases ce with
  | value x=>
   simp only [aQ,aE,an,aa]at hq;obtain⟨_,_,_,_,rfl⟩:=hq;exact⟨_,_,rfl⟩
  | _=>cases hq
 unfold wW;split
 ·rename_i q hq;obtain⟨_,_,_,ho,_⟩:=ph hq;rw [h]at ho; cases ho
 split
 ·rename_i q hq;rcases oY hq with ⟨_,_,ho,_⟩ | ⟨_,_,_,ho,_⟩ | ⟨_,_,_,_,_,_,_,ho,_⟩ | ⟨_,_,_,_,_,ho,_,_,rfl⟩
  ·rw [h]at ho; cases ho
  ·rw [h]at ho; cases ho
  ·rw [h]at ho; cases ho
  ·exact .inr ⟨_,_,rfl⟩
 ·split
  ·rename_i q hq;obtain⟨f,l,rfl⟩:=e q hq;exact .inl rfl
  ·exact .inl rfl
theorem oJ {rd:Option Nat}(hC:dR pn P G C)(hX:∀f k,X f=some k->mA P f k)(hg:gN pn G ρ0 w0){ops:Array Oper}{o:Oper}{ao:bg}{b:Nat}{K:Act->World->Prop}{Q:Exit->Act->World->Prop}
  (Fl:ao.op=(fQ P G X A ops o).op/\ao.dst=(fQ P G X A ops o).dst/\ao.guard=(fQ P G X A ops o).guard)(mr:rd=none\/ao.op.nd=true)(h:oper C b ao fr s=some (fr',s'))(hI:Inv ρ0 w0 A.nt fr s a w)(hK:∀a' w',Inv ρ0 w0 A.nt fr' s' a' w' ->K a' w'):
  if Region.wanted o (yielded ops a.tmps) then o.wpIn (Rd rd) 0 P a w K Q else K (a.put o.dst undef) w:=by
 obtain⟨ρ,Cz,hf,hs⟩:=hI;have hg:=hg.mono Cz;rcases D7 P G X A ops o with ⟨d1,d2⟩ | ⟨c1,c3,c4,g,c5,c6⟩
 ·rw [d1,d2]at Fl;unfold oper at h;rw [Fl.1,Fl.2.2]at h;simp [aI,cC]at h
 rw [c3,c1,c6]at Fl;obtain⟨o1,o2,o3⟩:=Fl;unfold oper at h;rw [o3]at h;split at h
 ·rename_i hw;rw [Aw hf.env c5 hw,bT rfl];rw [o1]at h;have tc:rd=none\/∀c,o.op≠ .defer c:=by
   rcases mr with h0 | h0
   ·exact .inl h0
   ·refine .inr fun c hc=> ?_;rcases FJ (P:=P) (G:=G) (X:=X) (A:=A) (nm:=nameOf ops o) hc rfl with e | ⟨f,l,e⟩
    ·rw [e]at h; simp [cC]at h
    ·rw [o1,e]at h0; cases h0
  have gen:∀p,ao.op=p->wW P G X A (nameOf ops o) o=p->(match cC C fr.env s (match ao.al with | some r=>some (b+r) | none=>none) p with | some (d,s')=>some ({ fr with env:=ij fr.env ao.dst d},s') | none=>none)=some (fr',s')->o.wpIn (Rd rd) 0 P a w K Q:=by
   intro p _ hp h;split at h
   ·rename_i d s2 oq;simp only [aa,ae]at h;obtain⟨rfl,rfl⟩:=h;obtain⟨n1,n2,n3,n4⟩:=Mr oq;have pC:fc P ρ w fr.env a.tmps d s2 ((execOp a.eval o).run P w):=by
     unfold wW at hp;split at hp
     ·rename_i q hq;subst hp;obtain⟨n,x',x,ho,hx,rfl⟩:=ph hq;exact NS hf.env hg hs hx oq ho
     have hb:Yh P G X A o=some p/\XA p=true:=by
      split at hp
      ·rename_i q hq;subst hp;rcases oY hq with ⟨_,_,_,_,rfl⟩ | ⟨_,_,_,_,_,rfl⟩ | ⟨_,_,_,_,_,_,_,_,_,_,_,rfl⟩ | ⟨_,_,_,_,_,_,_,_,rfl⟩
       ·exact absurd rfl (n1 _)
       ·exact absurd rfl (n1 _)
       ·exact absurd rfl (n2 _ _ _ _)
       ·exact absurd rfl (n3 _ _)
      ·split at hp
       ·rename_i q hq;split at hp
        ·rename_i fK; subst hp; exact ⟨hq,fK⟩
        ·exact absurd hp.symm n4
       ·exact absurd hp.symm n4
     exact Yu hf.env hg hs hC hX hb.1 hb.2 oq
    rw [xi tc];generalize (execOp a.eval o).run P w=res at pC;unfold fc at pC;split at pC
    ·rename_i v w';obtain⟨ρ',k1,k2,k3⟩:=pC;rw [Oper.uponIn_value];refine hK _ _ ⟨ρ',Cz.trans k1, ?_,k2⟩;rw [o2];exact (hf.mono k1).put c4 k3
    ·rename_i w';obtain⟨ρ',k1,k2,rfl⟩:=pC;rw [Oper.uponIn_skip];refine hK _ _ ⟨ρ',Cz.trans k1, ?_,k2⟩;rw [o2];exact (hf.mono k1).put c4 ft.undef
    ·rename_i f args w';obtain⟨rfl,hc⟩:=pC;refine⟨fun hd=>(by cases hd),Hl.2 (hc.mono fun e w'' hr=> ?_)⟩;cases e with
     | returned v=>
      obtain⟨ρ',k1,k2,k3⟩:=hr;refine hK _ _ ⟨ρ',Cz.trans k1, ?_,k2⟩;rw [o2];exact (hf.mono k1).put c4 (.yW k3)
     | panicked _=>exact hr.elim
     | outgrown=>exact hr.elim
    ·rename_i l fn tm asg bd w';obtain⟨rfl,hc⟩:=pC;refine⟨fun hd=>(by cases hd),hc.mono fun e w'' hr=> ?_⟩;cases e with
     | returned v=>
      obtain⟨ρ',k1,k2,k3⟩:=hr;refine hK _ _ ⟨ρ',Cz.trans k1, ?_,k2⟩;rw [o2];exact (hf.mono k1).put c4 (.yW k3)
     | panicked _=>exact hr.elim
     | outgrown=>exact hr.elim
    ·exact pC.elim
   ·cases h
  split at h
  ·
   rename_i f' args oq;have kf :wW P G X A (nameOf ops o) o= .defer f' args:=oq;have Zz:spec P G A o=some (.defer f' args):=by
    unfold wW at kf;split at kf
    ·rename_i q hq;obtain⟨_,_,_,_,_,e⟩:=ph hq;rw [e]at kf; cases kf
    split at kf
    ·rename_i q hq; rw [hq,kf]
    ·split at kf
     ·split at kf
      ·rename_i fK; subst kf; cases fK
      ·cases kf
     ·cases kf
   rcases oY Zz with ⟨_,_,_,_,h0⟩ | ⟨_,_,_,_,_,h0⟩ | ⟨_,_,_,_,_,_,_,_,_,_,_,h0⟩ | ⟨x',args',tys,x,l,ho,hx,hl,h0⟩
   ·cases h0
   ·cases h0
   ·cases h0
   ·simp only [eQ.defer.injEq]at h0;obtain⟨rfl,rfl⟩:=h0;split at h
    ·rename_i g x1 y1 l1 Zh nD;simp only [aa,ae]at h;obtain⟨rfl,rfl⟩:=h;have hv:=ba hx hf.env hg Zh;have hr:=oz hf.env hg _ _ l1 hl nD;simp only [aU]at hv;obtain⟨va,vc,hv,PV,hya⟩:=hv;have fY:(execOp a.eval o).run P w= .ok (.defer { target:= .fn g vc,args:=va++args'.map a.eval}) w:=by
      simp [execOp,ho,resolve,hv,Deferred.ofValue]
     rw [xi tc];rw [fY,Oper.uponIn_defer];refine hK _ _ ⟨ρ,Cz, ?_,hs⟩;have:=hf.put (dst:=o.dst) (v:=undef) (d:= .gK []) c4 ft.undef;rw [o2];refine⟨?_, ?_, ?_⟩
     ·cases hd:o.dst <;> simpa [Act.put,ij,hd] using this.env
     ·cases hd:o.dst <;> simpa [Act.put,ij,hd] using this.size
     ·have e1:(({ a with defers:= { target:= .fn g vc,args:=va++args'.map a.eval}::a.defers}:Act).put o.dst undef).defers= { target:= .fn g vc,args:=va++args'.map a.eval}::a.defers:=by cases o.dst <;> rfl
      rw [e1];exact .inr ⟨g,x1,y1,va,vc,args'.map a.eval,a.defers,rfl,rfl,PV,hya,by simpa using hr,hf.defers⟩
    ·cases h
  ·
   rename_i x oq;have kf :wW P G X A (nameOf ops o) o= .nv x:=oq;have Zz:spec P G A o=some (.nv x):=by
    unfold wW at kf;split at kf
    ·rename_i q hq;obtain⟨_,_,_,_,_,e⟩:=ph hq;rw [e]at kf; cases kf
    split at kf
    ·rename_i q hq; rw [hq,kf]
    ·split at kf
     ·split at kf
      ·rename_i fK; subst kf; cases fK
      ·cases kf
     ·cases kf
   split at h
   ·rename_i r v hd hv;split at h
    ·rename_i hc;simp only [aa,ae]at h;obtain⟨rfl,rfl⟩:=h;simp only [aB]at hc;have Ae :o.dst=some r:=by rw [← o2]; exact hd
     have fin:∀e u,aU ρ w v u->(execOp a.eval o).run P w= .ok (.value (.pointer (some ⟨w.heap.size,0,none⟩))) (w.alloc (.cells u.cells e))->o.wpIn (Rd rd) 0 P a w K Q:=by
      intro e u hu fY;obtain⟨ρ',k1,k2,k3⟩:=Rh (e:=e) hf hs Cz.size (c4 r Ae) hu hc.2 hc.1;rw [xi tc];rw [fY,Oper.uponIn_value,Ae];exact hK _ _ ⟨ρ',Cz.trans k1,k3,k2⟩
     rcases oY Zz with ⟨e,z,ho,hz,h0⟩ | ⟨e,x',x1,ho,hx,h0⟩ | ⟨_,_,_,_,_,_,_,_,_,_,_,h0⟩ | ⟨_,_,_,_,_,_,_,_,h0⟩
     ·simp only [eQ.nv.injEq]at h0; subst h0;simp only [bP.ev,aa]at hv; subst hv;obtain⟨zv,z1,z2,z3⟩:=kF (w:=w) hz;refine fin e zv (kq _ _ z2) ?_;simp [execOp,ho,Instr.alloc,z1,newVar,newRow,newObj];rfl
     ·simp only [eQ.nv.injEq]at h0; subst h0;refine fin e (a.eval x') (ba hx hf.env hg hv) ?_;simp [execOp,ho,Instr.box,newVar,newRow,newObj];rfl
     ·cases h0
     ·cases h0
    ·cases h
   ·cases h
  ·
   rename_i r sz x v oq;have kf :wW P G X A (nameOf ops o) o= .iX r sz x v:=oq;have Zz:spec P G A o=some (.iX r sz x v):=by
    unfold wW at kf;split at kf
    ·rename_i q hq;obtain⟨_,_,_,_,_,e⟩:=ph hq;rw [e]at kf; cases kf
    split at kf
    ·rename_i q hq; rw [hq,kf]
    ·split at kf
     ·split at kf
      ·rename_i fK; subst kf; cases fK
      ·cases kf
     ·cases kf
   rcases oY Zz with ⟨_,_,_,_,h0⟩ | ⟨_,_,_,_,_,h0⟩ | ⟨t,x',v',r1,sz1,x1,v1,ho,fS,hx,hv,h0⟩ | ⟨_,_,_,_,_,_,_,_,h0⟩
   ·cases h0
   ·cases h0
   ·simp only [eQ.iX.injEq]at h0;obtain⟨rfl,rfl,rfl,rfl⟩:=h0;split at h
    ·rename_i r' c dv hxp Xf;split at h
     ·rename_i e hre ur Xx;split at h
      ·rename_i e' Gv;simp only [aa,ae]at h;obtain⟨rfl,rfl⟩:=h;obtain rfl:=aD hre;obtain⟨b1,h1,h2⟩:=lL hx hf.env hg hxp e ur;have Zk:=ba hv hf.env hg Xf;obtain⟨k1,k2,k3,k4,k5,k6⟩:=I2 hf hs ur h1 Zk Gv (aD Xx);have fY:(execOp a.eval o).run P w= .ok .skip (w.setCells b1 c (a.eval v').cells.toList):=by
        simp only [execOp,ho,h2];rw [Sem.run_bind,xN (P:=P) fS Zk k2 (aD Xx) k1]; rfl
       rw [xi tc];rw [fY,Oper.uponIn_skip];refine hK _ _ ⟨ρ,k6 ρ0 w0 rfl Cz, ?_,k4⟩;rw [o2];exact k5.put c4 ft.undef
      ·cases h
     ·cases h
    ·cases h
   ·cases h0
  ·exact gen _ o1 rfl h
 ·rename_i hw;rw [Aw hf.env c5 hw,aK (by simp)];simp only [aa,ae]at h;obtain⟨rfl,rfl⟩:=h;refine hK _ _ ⟨ρ,Cz, ?_,hs⟩;rw [o2];exact hf.put c4 ft.undef
 ·cases h
end Go.Ab
namespace Go.Ab
open Go
variable [eV]
variable {ρ ρ' ρ0:Gh}{w w' w0:World}{P:Program}{pn:jn}{G:Gl}{X:iw}{A:nA} {s s' :St}{env:Env}{a:Act}{lo:Nat}{d:D}{C:ay}{L:h9}{al:Option Nat} {fr fr' :Fr}
theorem uu {rd:Option Nat}(hC:dR pn P G C)(hX:∀f k,X f=some k->mA P f k)(hg:gN pn G ρ0 w0){ops:Array Oper}{b:Nat}{Q:Exit->Act->World->Prop}:
  ∀(l:List Oper) (n:Nat) (fr:Fr) (s:St) (a:Act) (w:World),(∀i,i < l.length->ops[n+i]? =l[i]?)->(rd=none\/(l.map (fQ P G X A ops)).all (fun o=>o.op.nd)=true)->opers C b (l.map (fQ P G X A ops)) fr s=some (fr',s')->Inv ρ0 w0 A.nt fr s a w->
   (∀a' w',Inv ρ0 w0 A.nt fr' s' a' w' ->Q .normal a' w')->wpOpsIn (Rd rd) 0 P ops Q (List.range' n l.length) a w
 | [],n,fr,s,a,w,_,_,h,hI,hQ=>by
  simp only [ef,opers,aa,ae]at h;obtain⟨rfl,rfl⟩:=h;exact hQ _ _ hI
 | o::l,n,fr,s,a,w,hi,mr,h,hI,hQ=>by
  simp only [bG,opers]at h;simp only [bG,gQ,aB]at mr;split at h
  ·rename_i fr1 s1 h1;have h0:=hi 0 (by simp);simp only [fP,aR]at h0;simp only [aV,List.range'_succ];simp only [wpOpsIn,h0]
   have:=oJ (Q:=Q) (K:=wpOpsIn (Rd rd) 0 P ops Q (List.range' (n+1) l.length)) hC hX hg (ops:=ops) (o:=o) ⟨rfl,rfl,rfl⟩ (mr.imp id pt) h1 hI (fun a' w' sQ =>
    uu hC hX hg l (n+1) fr1 s1 a' w' (fun i dM=>by
     have:=hi (i+1) (by simpa using dM);simpa [iE,Nat.add_comm 1 i] using this) (mr.imp id And.right) h sQ hQ)
   split
   ·rename_i hw;rw [bT hw]at this;exact this
   ·rename_i hw;rw [aK hw]at this;exact⟨fun _ _=>trivial,this⟩
  ·cases h
def qX:Ex->Exit->Prop
 | .normal,.normal=>True
 | .exit i,.exit j=>i=j
 | .ret,.ret=>True
 | _,_=>False
def mN (ρ0:Gh)(w0:World)(nt:Nat)(e:Ex)(fr:Fr)(s:St):Exit->Act->World->Prop:=fun x a w=>qX e x/\Inv ρ0 w0 nt fr s a w
theorem By {rd:Option Nat}(n:Nat):(Rd rd).room n:=room_wide n
def yZ (rd:Option Nat)(P:Program)(c:Code)(Q:Exit->Act->World->Prop)(a:Act)(w:World):Prop:=
 ∀(b:Frame) (k:List Item) (cs:List Frame),b.roundOf=rd->∃e a' w',Q e a' w' /\ArrivesIn (Machine.fenced P (Rd rd)) P (lone (b.atR a (.code c:: .inLoop c::k)) cs w) b k cs e a' w'
theorem Dg {rd:Option Nat}{c:Code}{Q:Exit->Act->World->Prop}(h:c.wpIn (Rd rd) 0 P (Exit.then (yZ rd P c Q) Q) a w):yZ rd P c Q a w:=by
 intro b k cs wM;obtain⟨e,a₁,w₁,hq,tF⟩:=h b (.inLoop c::k) cs wM trivial (By _);cases e with
 | normal=>
  obtain⟨e₂,a₂,w₂,hq₂,aaw⟩:=hq b k cs wM;exact⟨e₂,a₂,w₂,hq₂,.of_steps (StepsIn.trans tF (.one (fenced_calm (n:=0) trivial (By _) rfl) stepR_inLoop)) aaw⟩
 | exit id=>exact ⟨_,a₁,w₁,hq,.pass (x:= .inLoop c) rfl (fun _ _=> .inl (by simp)) tF⟩
 | goto l=>exact ⟨_,a₁,w₁,hq,.pass (x:= .inLoop c) rfl (fun _ _=> .inl (by simp)) tF⟩
 | ret=>exact ⟨_,a₁,w₁,hq,.pass (x:= .inLoop c) rfl (fun _ _=> .inl (by simp)) tF⟩
 | panic ch=>exact ⟨_,a₁,w₁,hq,.pass (x:= .inLoop c) rfl (fun _ _=> .inl (by simp)) tF⟩
 | outgrown=>exact ⟨_,a₁,w₁,hq,.pass (x:= .inLoop c) rfl (fun _ _=> .inl (by simp)) tF⟩
theorem GC {rd:Option Nat}{c:Code}{Q:Exit->Act->World->Prop}(h:yZ rd P c Q a w):(Code.loop c).wpIn (Rd rd) 0 P Q a w:=by
 intro b k cs wM _ _;obtain⟨e,a',w',hq,tF⟩:=h b k cs wM;exact⟨e,a',w',hq,.of_steps (.one (fenced_calm (n:=0) trivial (By _) rfl) stepR_loop) tF⟩
structure vw (pn:jn)(P:Program)(G:Gl)(X:iw)(L:h9):Prop where
 ro:W7 L
 loop:∀(rd:Option Nat) (A:nA) (ρ0:Gh) (w0:World) (c:Code) (ks ks' :List (List Nat)) (bV:List Nat) (ac:AC) (fr:Fr) (s:St) (e:Ex) (fr' :Fr) (s' :St) (a:Act) (w:World),(rd=none\/ac.nd=true)->ac.ig=false->gN pn G ρ0 w0->compile P G X A c ks=(ac,ks')->
  L bV ac fr s=some (e,fr',s')->Inv ρ0 w0 A.nt fr s a w->yZ rd P c (mN ρ0 w0 A.nt e fr' s') a w
 range:∀(A:nA) (ρ0:Gh) (w0:World) (g:Operand) (g' :bP) (ps:Array Tmp) (ca cb:Code) (k1 k2 k3 k4:List (List Nat)) (bV:List Nat) (x y:AC) (fr:Fr) (s:St) (e:Ex) (fr' :Fr) (s' :St) (a:Act) (w:World),gN pn G ρ0 w0->eO G g=some g' ->compile P G X A ca k1=(x,k2)->compile P G X A cb k3=(y,k4)->
  x.nd=true->y.nd=true->(∀t∈ps.toList,t < A.nt)->L [] (.iK bV g' ps.toList x y) fr s=some (e,fr',s')->Inv ρ0 w0 A.nt fr s a w->(Code.rangeFunc g ps ca cb).wpIn Fence.wide 0 P (mN ρ0 w0 A.nt e fr' s') a w
def qP (pn:jn)(P:Program)(G:Gl)(X:iw)(C:ay):Prop:=∀(L:h9) (rd:Option Nat) (A:nA) (ρ0:Gh) (w0:World) (id:Nat) (ops:Array Oper) (fr:Fr) (s:St) (e:Ex) (fr' :Fr) (s' :St) (a:Act) (w:World),(rd=none\/(JM P G X A ops true).nd=true)->gN pn G ρ0 w0->
 bX C L (JM P G X A ops true) fr s=some (e,fr',s')->Inv ρ0 w0 A.nt fr s a w->(Code.region id ops true).wpIn (Rd rd) 0 P (mN ρ0 w0 A.nt e fr' s') a w
theorem lW {b:Frame}{a:Act}{k:List Item}{cs:List Frame}{w:World}{c:Code}:step P (lone (b.atR a (.code (.scope c)::k)) cs w)= .next (lone (b.atR a (.code c:: .inScope c::k)) cs w):=
 step_lone_go (by simp [stepG,stepG.exec,Frame.atR])
theorem zU {b:Frame}{a:Act}{k:List Item}{cs:List Frame}{w:World}{c:Code}:step P (lone (b.atR a (.inScope c::k)) cs w)= .next (lone (b.atR a k) cs w):=
 step_lone_go (by simp [stepG,stepG.exec,Frame.atR])
theorem G9 {F:Fence}{n:Nat}{Q:Exit->Act->World->Prop}{a:Act}{w:World}{c:Code}(h:c.wpIn F n P (Exit.noGoto Q) a w):(Code.scope c).wpIn F n P Q a w:=by
 intro b k cs wM hb hr;have h0:(lone (b.atR a (.code (.scope c)::k)) cs w).fenced P F:=fenced_calm hb hr rfl;obtain⟨e,a₁,w₁,hq,tF⟩:=h b (.inScope c::k) cs wM hb hr;cases e with
 | normal=>exact ⟨.normal,a₁,w₁,hq,.head h0 lW (StepsIn.trans tF (.one (fenced_calm hb hr rfl) zU))⟩
 | exit id=>
  have hx:exitTo id (.inScope c::k)=exitTo id k:=by simp [exitTo]
  exact⟨.exit id,a₁,w₁,hq,fun k' hk=> .head h0 lW (tF.1 k' (by rw [hx]; exact hk)),fun Gm hk=>let ⟨k₁,h1,h2⟩:=tF.2 Gm (by rw [hx]; exact hk); ⟨k₁,h1,.head h0 lW h2⟩⟩
 | goto l=>exact hq.elim
 | ret=>exact ⟨_,a₁,w₁,hq,.of_steps (.one h0 lW) tF⟩
 | panic ch=>exact ⟨_,a₁,w₁,hq,.of_steps (.one h0 lW) tF⟩
 | outgrown=>exact ⟨_,a₁,w₁,hq,.of_steps (.one h0 lW) tF⟩
theorem km {rd:Option Nat}(hC:dR pn P G C)(hX:∀f k,X f=some k->mA P f k)(hL:vw pn P G X L)(hD:qP pn P G X C)(hg:gN pn G ρ0 w0):
  ∀(c:Code) (ks ks' :List (List Nat)) (ac:AC) (fr:Fr) (s:St) (e:Ex) (fr' :Fr) (s' :St) (a:Act) (w:World),(rd=none\/ac.nd=true)->compile P G X A c ks=(ac,ks')->bX C L ac fr s=some (e,fr',s')->Inv ρ0 w0 A.nt fr s a w->c.wpIn (Rd rd) 0 P (mN ρ0 w0 A.nt e fr' s') a w
 | .skip,ks,ks',ac,fr,s,e,fr',s',a,w,mr,hc,h,hI=>by
  simp only [compile,ae]at hc;obtain⟨rfl,rfl⟩:=hc;simp only [bX,aa,ae]at h;obtain⟨rfl,rfl,rfl⟩:=h;exact wpIn_skip ⟨trivial,hI⟩
 | .region id ops dr,ks,ks',ac,fr,s,e,fr',s',a,w,mr,hc,h,hI=>by
  simp only [compile,ae]at hc;obtain⟨rfl,rfl⟩:=hc;cases dr with
  | false=>
   simp only [JM,bX]at h;split at h
   ·rename_i fr1 s1 h1;simp only [aa,ae]at h;obtain⟨rfl,rfl,rfl⟩:=h;refine wpIn_region (n:=0) ?_;have:=uu (rd:=rd) (Q:=mN ρ0 w0 A.nt .normal fr1 s1) hC hX hg ops.toList 0 fr s a w (by simp) (mr.imp (fun h=>h) fun hr=>by simpa only [JM,AC.nd] using hr) h1 hI (fun a' w' sQ =>⟨trivial,sQ⟩);rwa [← List.range_eq_range',fb]at this
   ·cases h
  | true=>
   exact hD L rd A ρ0 w0 id ops fr s e fr' s' a w mr hg h hI
 | .seq x y,ks,ks',ac,fr,s,e,fr',s',a,w,mr,hc,h,hI=>by
  simp only [compile,ae]at hc;obtain⟨rfl,rfl⟩:=hc;simp only [bX]at h;simp only [AC.nd,aB]at mr;refine wpIn_seq ?_;split at h
  ·rename_i fr1 s1 h1;refine wpIn_mono (km hC hX hL hD hg x ks _ _ fr s _ fr1 s1 a w (mr.imp id pt) rfl h1 hI) fun ex a' w' hq=> ?_;obtain⟨hx,sQ⟩:=hq;cases ex <;> simp only [qX]at hx;exact km hC hX hL hD hg y _ _ _ fr1 s1 e fr' s' a' w' (mr.imp id And.right) rfl h sQ
  ·rename_i r cE;refine wpIn_mono (km hC hX hL hD hg x ks _ _ fr s e fr' s' a w (mr.imp id pt) rfl h hI) fun ex a' w' hq=> ?_;obtain⟨hx,sQ⟩:=hq;cases ex
   case normal=>
    cases e <;> simp only [qX]at hx;exact absurd h (cE fr' s')
   all_goals exact ⟨hx,sQ⟩
 | .cond c x y,ks,ks',ac,fr,s,e,fr',s',a,w,mr,hc,h,hI=>by
  simp only [compile]at hc;split at hc
  ·rename_i c' Xp;simp only [ae]at hc;obtain⟨rfl,rfl⟩:=hc;simp only [bX]at h;simp only [AC.nd,aB]at mr;have Q7:=hI;obtain⟨ρ,Cz,hf,hs⟩:=hI;split at h
   ·rename_i hv;have:=ba Xp hf.env (hg.mono Cz) hv;simp only [aU]at this;exact wpIn_cond_true this (km hC hX hL hD hg x _ _ _ fr s e fr' s' a w (mr.imp id pt) rfl h Q7)
   ·rename_i hv;have:=ba Xp hf.env (hg.mono Cz) hv;simp only [aU]at this;exact wpIn_cond_false this (km hC hX hL hD hg y _ _ _ fr s e fr' s' a w (mr.imp id And.right) rfl h Q7)
   ·cases h
  ·simp only [ae]at hc;obtain⟨rfl,rfl⟩:=hc;simp [bX]at h
 | .block id x,ks,ks',ac,fr,s,e,fr',s',a,w,mr,hc,h,hI=>by
  simp only [compile,ae]at hc;obtain⟨rfl,rfl⟩:=hc;simp only [bX]at h;simp only [AC.nd]at mr;refine wpIn_block ?_;split at h
  ·rename_i i fr1 s1 h1;refine wpIn_mono (km hC hX hL hD hg x ks _ _ fr s _ fr1 s1 a w mr rfl h1 hI) fun ex a' w' hq=> ?_;obtain⟨hx,sQ⟩:=hq;cases ex <;> simp only [qX]at hx;rename_i j;subst hx;split at h
   ·rename_i hid;obtain rfl:=aD hid;simp only [aa,ae]at h;obtain⟨rfl,rfl,rfl⟩:=h;simp only [Exit.inBlock,eu];exact⟨trivial,sQ⟩
   ·rename_i hid;simp only [aa,ae]at h;obtain⟨rfl,rfl,rfl⟩:=h;have cE:i≠id:=by rintro rfl; rw [aA]at hid; cases hid
    simp only [Exit.inBlock,aK cE];exact⟨rfl,sQ⟩
  ·rename_i r cE;refine wpIn_mono (km hC hX hL hD hg x ks _ _ fr s e fr' s' a w mr rfl h hI) fun ex a' w' hq=> ?_;obtain⟨hx,sQ⟩:=hq;cases ex
   case exit j=>
    cases e <;> simp only [qX]at hx;exact absurd h (cE _ fr' s')
   all_goals exact ⟨hx,sQ⟩
 | .loop x,ks,ks',ac,fr,s,e,fr',s',a,w,mr,hc,h,hI=>by
  cases ks with
  | nil=>
   simp only [compile,ae]at hc;obtain⟨rfl,rfl⟩:=hc;simp [bX]at h
  | cons k ks=>
   simp only [compile]at hc;split at hc
   ·simp only [ae]at hc;obtain⟨rfl,rfl⟩:=hc;simp [bX]at h
   ·rename_i Zq;simp only [ae]at hc;obtain⟨rfl,rfl⟩:=hc;simp only [bX]at h;simp only [AC.nd]at mr;exact GC (hL.loop rd A ρ0 w0 x ks _ k _ fr s e fr' s' a w mr Zq hg rfl h hI)
 | .exit id,ks,ks',ac,fr,s,e,fr',s',a,w,mr,hc,h,hI=>by
  simp only [compile,ae]at hc;obtain⟨rfl,rfl⟩:=hc;simp only [bX,aa,ae]at h;obtain⟨rfl,rfl,rfl⟩:=h;exact wpIn_exit ⟨rfl,hI⟩
 | .ret,ks,ks',ac,fr,s,e,fr',s',a,w,mr,hc,h,hI=>by
  simp only [compile,ae]at hc;obtain⟨rfl,rfl⟩:=hc;simp only [bX,aa,ae]at h;obtain⟨rfl,rfl,rfl⟩:=h;exact wpIn_ret ⟨trivial,hI⟩
 | .rangeFunc g ps ca cb,ks,ks',ac,fr,s,e,fr',s',a,w,mr,hc,h,hI=>by
  have bad:∀kk,(ac,ks')=(.bad,kk)->(Code.rangeFunc g ps ca cb).wpIn (Rd rd) 0 P (mN ρ0 w0 A.nt e fr' s') a w:=by
   intro kk hh;simp only [ae]at hh;obtain⟨rfl,rfl⟩:=hh;simp [bX]at h
  cases ks with
  | nil=>
   simp only [compile]at hc;exact bad _ hc.symm
  | cons k ks=>
   simp only [compile]at hc;split at hc
   ·rename_i g' V5;split at hc
    ·rename_i tc;simp only [aB,dg]at tc;simp only [ae]at hc;obtain⟨rfl,rfl⟩:=hc;simp only [AC.nd,dF,kL]at mr;subst mr;simp only [bX]at h;exact hL.range A ρ0 w0 g g' ps ca cb _ _ _ _ k _ _ fr s e fr' s' a w hg V5 rfl rfl tc.1 tc.2.1 (fun t ht=>az (tc.2.2 t ht)) h hI
    ·exact bad _ hc.symm
   ·exact bad _ hc.symm
 | .scope x,ks,ks',ac,fr,s,e,fr',s',a,w,mr,hc,h,hI=>by
  simp only [compile]at hc;refine G9 (wpIn_mono (km hC hX hL hD hg x ks ks' ac fr s e fr' s' a w mr hc h hI) fun ex a' w' hq=> ?_);obtain⟨hx,sQ⟩:=hq;cases ex with
  | goto l=>cases e <;> simp only [qX]at hx
  | _=>exact ⟨hx,sQ⟩
 | .label _,ks,ks',ac,fr,s,e,fr',s',a,w,mr,hc,h,hI=>by
  simp only [compile,ae]at hc;obtain⟨rfl,rfl⟩:=hc;simp only [bX,aa,ae]at h;obtain⟨rfl,rfl,rfl⟩:=h;exact wpIn_label ⟨trivial,hI⟩
 | .goto _,ks,ks',ac,fr,s,e,fr',s',a,w,mr,hc,h,hI=>by
  simp only [compile,ae]at hc;obtain⟨rfl,rfl⟩:=hc;simp [bX]at h
 | .refuse _,ks,ks',ac,fr,s,e,fr',s',a,w,mr,hc,h,hI=>by
  simp only [compile,ae]at hc;obtain⟨rfl,rfl⟩:=hc;simp [bX]at h
theorem oW {e:Env}:∀ {l:List Nat} {t:Nat} {d:D},(e.bV l).get t=some d->e.get t=some d
 | [],t,d,h=>by simp [Env.bV,Env.get]at h
 | k::l,t,d,h=>by
  simp only [Env.bV]at h;split at h
  ·rename_i q hq;rw [dB]at h;split at h
   ·rename_i e'; subst e'; rw [← h]; exact hq
   ·exact oW h
  ·exact oW h
theorem Inv.bV {l:List Nat}(h:Inv ρ0 w0 lo fr s a w):Inv ρ0 w0 lo { fr with env:=fr.env.bV l} s a w:=by
 obtain⟨ρ,h1,h2,h3⟩:=h;refine⟨ρ,h1,⟨⟨fun t d hd=> ?_,fun t t' x x' b cE g1 g2=>h2.env.inj t t' x x' b cE (oW g1) (oW g2)⟩,h2.size,h2.defers⟩,h3⟩;have:=h2.env.slot t d (oW hd);cases d with
 | iG k c=>
  simp only [er]at *;exact fun x hx=>this x (oW hx)
 | _=>exact this
theorem Rz {T:Nat->Option dU}{H:ay}(hX:∀f k,X f=some k->mA P f k){n:Nat}(hC:dR pn P G (dJ T H n))(hD:qP pn P G X (dJ T H n))(hL:vw pn P G X (fe T H n))
  (rd:Option Nat)(A:nA)(ρ0:Gh)(w0:World)(c:Code) (ks ks' :List (List Nat))(bV:List Nat)(ac:AC)(fr:Fr)(s:St)(e:Ex) (fr' :Fr) (s' :St)(a:Act)(w:World)(mr:rd=none\/ac.nd=true)(Zq:ac.ig=false)(hg:gN pn G ρ0 w0)(hc:compile P G X A c ks=(ac,ks'))
  (h:fe T H (n+1) bV ac fr s=some (e,fr',s'))(hI:Inv ρ0 w0 A.nt fr s a w):yZ rd P c (mN ρ0 w0 A.nt e fr' s') a w:=by
 rw [iB _ _ _ _ Zq]at h;refine Dg ?_;split at h
 ·rename_i fr1 s1 h1;refine wpIn_mono (km hC hX hL hD hg c ks ks' ac _ s _ fr1 s1 a w mr hc h1 hI.bV) fun ex a' w' hq=> ?_;obtain⟨hx,sQ⟩:=hq;cases ex <;> simp only [qX]at hx;exact hL.loop rd A ρ0 w0 c ks ks' bV ac fr1 s1 e fr' s' a' w' mr Zq hg hc h sQ
 ·rename_i r cE;refine wpIn_mono (km hC hX hL hD hg c ks ks' ac _ s e fr' s' a w mr hc h hI.bV) fun ex a' w' hq=> ?_;obtain⟨hx,sQ⟩:=hq;cases ex
  case normal=>
   cases e <;> simp only [qX]at hx;exact absurd h (cE fr' s')
  all_goals exact ⟨hx,sQ⟩
end Go.Ab
