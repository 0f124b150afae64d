/- Part. -/
import Derived.Test.YtjaldhgmboeffaaGreatDoorG08
set_option linter.unusedSimpArgs false
set_option linter.unusedVariables false
set_option linter.unusedSectionVars false
namespace Go.Ab
open Go
variable [eV]
variable {ρ ρ' :Gh} {w w' :World}{P:Program}{pn:jn}{G:Gl}{X:iw}{A:nA} {s s' :St}{env:Env}{a:Act}{lo:Nat}{d:D}{C:ay}{al:Option Nat}
def Hd (e:Array Value->Sem Value):Ext->Prop
 | .nop=>e=(fun _=>do mark .disable; pure Extern.Race.none_)\/e=(fun _=>do mark .enable; pure Extern.Race.none_)
 | .race=>e=Extern.Race.marked .acquire\/e=Extern.Race.marked .releaseMerge
 | .YN=>e=Extern.AbiNoEscape.same
 | .UG k=>e=Extern.Atomic.loadT (.int k)
 | .Pg=>e=Extern.Atomic.storeT
 | .Zo k=>e=Extern.Atomic.casT (.int k)
 | .ZT k=>e=Extern.Atomic.update (Op.intArith .add) k true
structure mA (P:Program)(f:FuncId)(k:Ext):Prop where
 ok : ∃ fn e, P.funcs[f]? = some fn ∧ fn.body = none ∧ (fn.name == "runtime.NumGoroutine") = false ∧ Extern.findNext fn = none ∧ Extern.find fn = some e ∧ Hd e k
theorem mA.run {f:FuncId}{k:Ext}(h:mA P f k):∃e,Hd e k/\∀(args:Array Value) w,(callFunc f args).run P w=((do pure (.value (← e args))):Sem Next).run P w:=by
 obtain⟨fn,e,h1,h2,h3,h4,h5,h6⟩:=h.ok;refine⟨e,h6,fun args w=> ?_⟩;have h3 : fn.name ≠ "runtime.NumGoroutine" := by simpa using h3
 simp [callFunc,h1,h2,h3,h4,h5]
theorem Mo (t:Extern.Atomic.T)(x:Value):Extern.Atomic.loadT t #[x]=(do Extern.Atomic.read t (← asAddr x)):=rfl
theorem K2 (x v:Value):Extern.Atomic.storeT #[x,v]=(do store (← asAddr x) v .atomic; pure Extern.Atomic.none_):=rfl
theorem IA (k:IntKind)(x:Value)(j1 j2:IntKind)(n1 n2:Int):Extern.Atomic.casT (.int k) #[x,.int j1 n1,.int j2 n2]=(do
  let a ← asAddr x
  if ← Extern.Atomic.touchesFrozen a then unsupported (.unsafePointer "a write to bytes that a string shares")
  let eq ← match Extern.Atomic.T.int k,← Extern.Atomic.read (.int k) a,Value.int j1 n1 with
   | _,.int _ x,.int _ y=>pure (x==y)
   | .ptr,.pointer x,.pointer y=>samePointer x y
   | .int _,.pointer (some _),.int _ 0 | .int _,.int _ 0,.pointer (some _)=>pure false
   | .int _,.pointer (some _),_ | .int _,_,.pointer (some _)=>unsupported .addressObserved
   | _, _, _ => stuck "atomic.CompareAndSwap: old is no T"
  if eq then store a (.int j2 n2) .atomic
  pure (.bool eq)):=rfl
theorem Ku (op:IntKind->Int->Int->Sem Value)(k:IntKind)(x y:Value):Extern.Atomic.update op k true #[x,y]=(do
  let a ← asAddr x
  let old ← Extern.Atomic.read (.int k) a
  let new ← op k (← asInt old) (← asInt y)
  store a new .atomic
  pure new):=rfl
structure Sb (s s1:St):Prop where
 n:s1.n=s.n
 lk:s1.lk=s.lk
 ro:s.ro=true
 Uu:s1.ro=true
 get:∀o x,s.get o=some x->s1.get o=some x
def zn (C:ay):Prop:=∀f l s d s' s1,Sb s s1->C f l s=some (d,s')->s' =s/\C f l s1=some (d,s1)
structure dR (pn:jn)(P:Program)(G:Gl)(C:ay):Prop where
 enter:∀f l s r,C f l s=some r->(f≠0\/yS l=false)->∀(args:Array Value) w,(callFunc f args).run P w= .ok (.enter f args) w
 calls:∀f l s d s' ρ w vs,C f l s=some (d,s')->ck ρ s w->gN pn G ρ w->bw ρ w l vs->Calls P f vs.toArray w (jW ρ w s' d)
 ro:∀f l s d s',s.ro=true->C f l s=some (d,s')->s' =s
 yF:∀y l s d s' ρ w u vs,C 0 (.lv y::l) s=some (d,s')->ck ρ s w->gN pn G ρ w->aU ρ w y u->bw ρ w l vs->∃b,u= .func (.yield b) #[] #[]/\YieldAt Fence.wide 0 P b vs.toArray w (jW ρ w s' d)
 P8:zn C
theorem bw.yS {l:List D}{vs:List Value}(h:bw ρ w l vs):yS l=false:=by
 cases l with
 | nil=>rfl
 | cons x r=>
  simp only [bw]at h;obtain⟨v,_,_,hv,_⟩:=h;cases x <;> first | rfl | simp [aU]at hv
section
variable (he:ew ρ w lo env a.tmps)(hg:gN pn G ρ w)(hs:ck ρ s w)
include he hg hs
omit hs in
theorem oz:∀(l' :List Operand) (l:List bP) (ds:List D),l'.mapM (eO G)=some l->sg env l=some ds->bw ρ w ds (l'.map a.eval)
 | [],l,ds,h,h' =>by
  simp at h; subst h;simp only [sg,aa]at h'; subst h';simp [bw]
 | x::l',l,ds,h,h' =>by
  simp only [jB,aQ,aE,an]at h;obtain⟨y,h1,q,h2,h3⟩:=h;simp only [aa]at h3; subst h3;simp only [sg]at h';split at h'
  ·rename_i d hd;split at h'
   ·rename_i t ht;simp only [aa]at h'; subst h';simp only [bG,bw];exact⟨_,_,rfl,ba h1 he hg hd,oz l' q t h2 ht⟩
   ·cases h'
  ·cases h'
theorem Sc (hC:dR pn P G C){f:FuncId} {args' :Array Operand}{args:List bP}(ha:rX G args' =some args)(h:cC C env s al (.call false f args)=some (d,s')){o:Oper}{tys:Array TypeId}
  (ho:o.op= .call { callee:= .value (.func f),args:=args',argTypes:=tys}):fc P ρ w env a.tmps d s' ((execOp a.eval o).run P w):=by
 simp only [cC]at h;split at h
 ·rename_i l hl;have hr:=oz he hg _ _ l ha hl;have fY:(execOp a.eval o).run P w= .ok (.enter f (args'.map a.eval)) w:=by
   simp only [execOp,ho,resolve,Act.eval,Deferred.ofValue];have:=hC.enter _ _ _ _ h (.inr hr.yS) (args'.map a.eval) w;simpa [invoke] using this
  rw [fY];refine⟨rfl, ?_⟩;have:=hC.calls _ _ _ _ _ ρ w _ h hs hg hr;simpa [← Array.toList_map] using this
 ·cases h
theorem LP (hC:dR pn P G C) {f' :Operand}{f:bP} {args' :Array Operand}{args:List bP}(hf:eO G f' =some f)(ha:rX G args' =some args)(h:cC C env s al (.oU f args)=some (d,s')){o:Oper}{tys:Array TypeId}
  (ho:o.op= .call { callee:= .value f',args:=args',argTypes:=tys}):fc P ρ w env a.tmps d s' ((execOp a.eval o).run P w):=by
 simp only [cC]at h;split at h
 ·rename_i g x y l Zh hl;have hr:=oz he hg _ _ l ha hl;have hv:=ba hf he hg Zh;simp only [aU]at hv;obtain⟨va,vc,hv,hx,hy⟩:=hv;have fY:(execOp a.eval o).run P w= .ok (.enter g (va++args'.map a.eval++vc)) w:=by
   simp only [execOp,ho,resolve,hv,Deferred.ofValue];have:=hC.enter _ _ _ _ h (.inr ((hx.append hr).append hy).yS) (va++args'.map a.eval++vc) w;simpa [invoke] using this
  rw [fY];refine⟨rfl, ?_⟩;have:=hC.calls _ _ _ _ _ ρ w _ h hs hg ((hx.append hr).append hy);have e:(va.toList++List.map a.eval args'.toList++vc.toList).toArray=va++args'.map a.eval++vc:=by
   apply dH; simp
  rwa [e]at this
 ·rename_i o1 l Zh hl;have hr:=oz he hg _ _ l ha hl;have hv:=ba hf he hg Zh;obtain⟨b,hb,fn,tmps,assign,body,fY,W0⟩:=hC.yF _ _ _ _ _ ρ w _ _ h hs hg hv hr;have YX :(execOp a.eval o).run P w= .ok (.round b fn tmps assign body) w:=by
   simp only [execOp,ho,resolve,hb,Deferred.ofValue];simpa [invoke,← Array.toList_map] using fY
  rw [YX];exact⟨rfl,W0⟩
 ·cases h
omit he hg in
theorem QZ {k:Ext}{l:List D}{vs:List Value}{e:Array Value->Sem Value}(he:Hd e k)(hl:bw ρ w l vs)(h:Db s k l=some (d,s')):
  ∃u w',(e vs.toArray).run P w= .ok u w' /\Kp ρ w ρ w' /\ck ρ s' w' /\aU ρ w' d u:=by
 have one:∀(b c:Nat) (x:Value),w.setCells b c [x]=w.setCell ⟨b,c,none⟩ x:=fun _ _ _=>rfl;have rd:∀(o c:Nat) (p:Value) (j:IntKind) (n:Int),aU ρ w (.ptr o c) p->iP s none (.ptr o c)=some (.int j n)->∃b,p= .pointer (some ⟨b,c,none⟩)/\w.cell? ⟨b,c,none⟩=some (.int j n)/\w.frozen? ⟨b,c,none⟩=false/\∃cs e,w.heap[b]? =some (.cells cs e (0,0)):=by
  intro o c p j n hp K5;simp only [iP]at K5;split at K5
  ·rename_i ty v lG;obtain⟨b,u,k1,one',r1,r2,r3,r4⟩:=hs.ok _ _ lG;simp only [aU,Gh.at,k1]at hp;obtain⟨b',jl,hp⟩:=hp;obtain rfl:=one'.2 _ jl;have g1:=rJ (r1.flat r4).1 (D.na r4) K5;obtain⟨x,g2,g3,_⟩:=g1;simp only [aU]at g3; subst g3;refine⟨b',hp, ?_,by simp [World.frozen?,r2],_,_,r2⟩;rw [ey r2]; simpa using g2
  ·cases K5
 have wr:∀(o c:Nat) (p:Value) (j:IntKind) (n:Int) (s' :St),aU ρ w (.ptr o c) p->jN s 1 (.ptr o c) (.int j n)=some s' ->∃b,p= .pointer (some ⟨b,c,none⟩)/\(∀m,(store ⟨b,c,none⟩ (.int j n) m).run P w= .ok () (w.setCell ⟨b,c,none⟩ (.int j n)))/\
   Kp ρ w ρ (w.setCell ⟨b,c,none⟩ (.int j n))/\ck ρ s' (w.setCell ⟨b,c,none⟩ (.int j n)):=by
  intro o c p j n s' hp dN;have hc:∃b c',p= .pointer (some ⟨b,c',none⟩)/\c' =c:=by
   have:=hp;simp only [aU]at this;unfold jN at dN;simp only [D.flat]at dN;split at dN
   ·cases dN
   ·split at dN
    ·rename_i ty v lG;obtain⟨b,u,k1,one',_⟩:=hs.ok _ _ lG;simp only [Gh.at,k1]at this;obtain⟨b',_,hp⟩:=this;exact⟨b',c,hp,rfl⟩
    ·cases dN
  obtain⟨b,c',QV,rfl⟩:=hc;obtain⟨b2,c2,e1,e2,e3,e4,n1,n2⟩:=An hs hp (show aU ρ w (.int j n) (.int j n) by simp [aU]) dN;rw [QV]at e1;simp only [Value.pointer.injEq,aa,Addr.mk.injEq]at e1;obtain⟨rfl,rfl,_⟩:=e1;refine⟨b,QV,fun m=> ?_,by simpa [Value.cells,one] using n1,by simpa [Value.cells,one] using n2⟩;obtain⟨h1,h2⟩:=e4 0 (by omega);simp only [fP]at h1 h2;obtain⟨q,hq⟩:=jo.1 h1;rw [run_store P w _ _ m rfl,hq,h2];simp
 unfold Db at h;split at h
 ·simp only [aa,ae]at h;obtain⟨rfl,rfl⟩:=h;refine⟨.tuple #[],w, ?_,Kp.refl _ _,hs,by simp [aU,bw]⟩;rcases he with rfl | rfl <;> simp [Extern.Race.none_]
 ·simp only [aa,ae]at h;obtain⟨rfl,rfl⟩:=h;simp only [bw]at hl;obtain⟨p,_,rfl,hp,rfl⟩:=hl;simp only [aU]at hp;obtain⟨q,rfl⟩:=Gh.jM hp fun _ _ q=>⟨_,q⟩;refine⟨.tuple #[],w, ?_,Kp.refl _ _,hs,by simp [aU,bw]⟩;rcases he with rfl | rfl <;> simp [Extern.Race.marked,Extern.Race.at_,Extern.Race.none_]
 ·simp only [aa,ae]at h;obtain⟨rfl,rfl⟩:=h;simp only [bw]at hl;obtain⟨p,_,rfl,hp,rfl⟩:=hl;obtain rfl:=he;exact⟨p,w,rfl,Kp.refl _ _,hs,hp⟩
 ·simp only [aa,ae]at h;obtain⟨rfl,rfl⟩:=h;simp only [bw]at hl;obtain⟨p,_,rfl,hp,rfl⟩:=hl;obtain rfl:=he;exact⟨p,w,rfl,Kp.refl _ _,hs,hp⟩
 ·rename_i k o c;split at h
  ·rename_i j n K5;split at h
   ·rename_i hk;have hk:=bD hk; subst hk;simp only [aa,ae]at h;obtain⟨rfl,rfl⟩:=h;simp only [bw]at hl;obtain⟨p,_,rfl,hp,rfl⟩:=hl;obtain⟨b,rfl,h1,h2,_⟩:=rd o c p _ n hp K5;obtain rfl:=he;refine⟨.int k n,w, ?_,Kp.refl _ _,hs,by simp [aU]⟩;simp [Mo,asAddr,Extern.Atomic.read,h1]
   ·cases h
  ·cases h
 ·rename_i o c j n;obtain⟨h1,rfl⟩:=il h;simp only [bw]at hl;obtain⟨p,_,rfl,hp,x,_,rfl,hx,rfl⟩:=hl;simp only [aU]at hx; subst hx;obtain⟨b,rfl,h2,h3,h4⟩:=wr o c p j n s' hp h1;obtain rfl:=he;refine⟨.tuple #[],_, ?_,h3,h4,by simp [aU,bw]⟩;simp [K2,asAddr,h2,Extern.Atomic.none_]
 ·rename_i k o c j1 a1 j n;split at h
  ·rename_i j' x K5;split at h
   ·rename_i hk;simp only [aB,aY]at hk;obtain⟨rfl,rfl⟩:=hk;simp only [bw]at hl;obtain⟨p,_,rfl,hp,y1,_,rfl,w7,y2,_,rfl,yp,rfl⟩:=hl;simp only [aU]at w7 yp; subst w7 yp;obtain⟨b,rfl,h1,h2,cs,e0,h3⟩:=rd o c p _ x hp K5;obtain rfl:=he;have htf:(Extern.Atomic.touchesFrozen ⟨b,c,none⟩).run P w= .ok false w:=by
     simp [Extern.Atomic.touchesFrozen,viewAt,shape,World.shape?,frozen,h3,h2,Sem.run]
    split at h
    ·rename_i PV;have PV:x=a1:=by simpa using PV
     obtain⟨h4,rfl⟩:=il h;obtain⟨b2,e2,g2,g3,g4⟩:=wr o c _ _ n s' hp h4;simp only [Value.pointer.injEq,aa,Addr.mk.injEq]at e2;obtain⟨rfl,_⟩:=e2;refine⟨.bool true,_, ?_,g3,g4,by simp [aU]⟩;simp [IA,asAddr,htf,Extern.Atomic.read,h1,PV,g2]
    ·rename_i PV;have PV: ¬ x=a1:=by simpa using PV
     simp only [aa,ae]at h;obtain⟨rfl,rfl⟩:=h;refine⟨.bool false,w, ?_,Kp.refl _ _,hs,by simp [aU]⟩;simp [IA,asAddr,htf,Extern.Atomic.read,h1,PV]
   ·cases h
  ·cases h
 ·rename_i k o c j1 n;split at h
  ·rename_i j x K5;split at h
   ·rename_i hk;have hk:=bD hk; subst hk;obtain⟨h4,rfl⟩:=il h;simp only [bw]at hl;obtain⟨p,_,rfl,hp,y1,_,rfl,w7,rfl⟩:=hl;simp only [aU]at w7; subst w7;obtain⟨b,rfl,h1,h2,_⟩:=rd o c p _ x hp K5;obtain rfl:=he;obtain⟨b2,e2,g2,g3,g4⟩:=wr o c _ _ _ s' hp h4;simp only [Value.pointer.injEq,aa,Addr.mk.injEq]at e2;obtain⟨rfl,_⟩:=e2;refine⟨.int k (k.wrap (x+n)),_, ?_,g3,g4,by simp [aU]⟩;simp [Ku,asAddr,Extern.Atomic.read,h1,asInt,asIntOf,Op.intArith,g2]
   ·cases h
  ·cases h
 ·cases h
theorem Xb {f:FuncId}{k:Ext}(hX:mA P f k) {args' :Array Operand}{args:List bP}(ha:rX G args' =some args)(h:cC C env s al (.ext k args)=some (d,s')){o:Oper}{tys:Array TypeId}
  (ho:o.op= .call { callee:= .value (.func f),args:=args',argTypes:=tys}):fc P ρ w env a.tmps d s' ((execOp a.eval o).run P w):=by
 simp only [cC]at h;split at h
 ·rename_i l hl;have hr:=oz he hg _ _ l ha hl;obtain⟨e,h1,h2⟩:=hX.run;obtain⟨u,w',g1,g2,g3,g4⟩:=QZ (P:=P) hs h1 hr h;have fY:(execOp a.eval o).run P w= .ok (.value u) w' :=by
   simp only [execOp,ho,resolve,Act.eval,Deferred.ofValue];have h3:=h2 (args'.map a.eval) w;have e:args'.map a.eval=(args'.toList.map a.eval).toArray:=by apply dH; simp
   rw [Sem.run_bind,e,g1]at h3;simp only [Result.andThen_ok,Sem.run_pure]at h3;rw [← e]at h3;simpa [invoke] using h3
  rw [fY];exact .val g2 g3 g4
 ·cases h
end
end Go.Ab
namespace Go.Ab
open Go
variable [eV]
variable {ρ ρ' :Gh} {w w' :World}{P:Program}{pn:jn}{G:Gl}{X:iw}{A:nA} {s s' :St}{env:Env}{a:Act}{lo:Nat}{d:D}{C:ay}{al:Option Nat}
section
variable (he:ew ρ w lo env a.tmps)(hg:gN pn G ρ w)(hs:ck ρ s w)
include he hg hs
omit he hg hs in
theorem oh {t:TypeId}{i:TypeInfo}(h:P.types[t]? =some i):P.info? t=some i:=by
 have dM:t < P.types.size:=by
  rcases aH t P.types.size with h1 | h1
  ·exact h1
  ·rw [cL h1]at h; cases h
 unfold Tables.info?;rw [bT dM,h]
omit he hg hs in
theorem HZ {ok b:Bool}{v:D}{u:Value}(h:aU ρ w v u):aU ρ w (Fa ok v b) (if ok then .tuple #[u,.bool b] else u):=by
 cases ok with
 | false=>simpa [Fa] using h
 | true=>simp only [Fa,eu,aU,bw]; exact ⟨_,rfl,_,_,rfl,h,_,_,rfl,rfl,rfl⟩
theorem FU {t xt:TypeId}{z:D}{ok:Bool} {x' :Operand}{x:bP}(hx:eO G x' =some x){e:TypeDesc}(hu:P.underlying t=some e)(Pv:∀ms,e≠ .interface ms)(hz:jH P t=some z)
  (h:cC C env s al (.se t z ok x)=some (d,s')){o:Oper}(ho:o.op= .typeAssert x' xt t ok):fc P ρ w env a.tmps d s' ((execOp a.eval o).run P w):=by
 obtain⟨zv,z1,z2,_⟩:=kF (w:=w) hz;have hzr:aU ρ w z zv:=kq _ _ z2
 have Es:∀dy:Option TypeId,ok=true->aU ρ w (.gK [z,.bool false]) (.tuple #[zv,.bool false]):=fun _ _=>by
  simp only [aU,bw]; exact ⟨_,rfl,_,_,rfl,hzr,_,_,rfl,rfl,rfl⟩
 simp only [cC]at h;split at h
 ·rename_i u v hp;have hv:=ba hx he hg hp;simp only [aU]at hv;obtain⟨q,hv,hq⟩:=hv;split at h
  ·rename_i hb;obtain rfl:=aD hb;simp only [aa,ae]at h;obtain⟨rfl,rfl⟩:=h;have hr:(execOp a.eval o).run P w= .ok (.value (if ok then .tuple #[q,.bool true] else q)) w:=by
    simp only [execOp,ho,hv,Instr.typeAssert]
    cases e <;> first
     | exact absurd rfl (Pv _)
     | (simp [run_underlying hu])
   rw [hr]; exact .rep hs (HZ hq)
  ·rename_i hb;have cE:u≠t:=by rintro rfl; rw [aA]at hb; cases hb
   split at h
   ·simp only [aa,ae]at h;obtain⟨rfl,rfl⟩:=h;have hr:(execOp a.eval o).run P w= .ok (.value (.tuple #[zv,.bool false])) w:=by
     simp only [execOp,ho,hv,Instr.typeAssert]
     cases e <;> first
      | exact absurd rfl (Pv _)
      | (simp [run_underlying hu,cE,z1])
    rw [hr]; exact .rep hs (Es none rfl)
   ·cases h
 ·rename_i hp;have hv:=ba hx he hg hp;simp only [aU]at hv;split at h
  ·simp only [aa,ae]at h;obtain⟨rfl,rfl⟩:=h;have hr:(execOp a.eval o).run P w= .ok (.value (.tuple #[zv,.bool false])) w:=by
    simp only [execOp,ho,hv,Instr.typeAssert]
    cases e <;> first
     | exact absurd rfl (Pv _)
     | (simp [run_underlying hu,z1])
   rw [hr]; exact .rep hs (Es none rfl)
  ·cases h
 ·cases h
omit he hg hs in
theorem oO {o:Nat}:∀ {l:List Nat},p8 o l=true↔o∈l
 | []=>by simp [p8]
 | x::r=>by
  simp only [p8,bR];split
  ·rename_i h; exact ⟨fun _=> .inl (aD h).symm,fun _=>rfl⟩
  ·rename_i h;rw [oO];exact⟨.inr,fun q=>q.resolve_left (by rintro rfl; rw [aA]at h; cases h)⟩
omit he hg hs in
theorem uv {want:Array (String×TypeId)}{got:Array Method}:Instr.missingMethod want got=none↔MJ want got=[]:=by
 unfold Instr.missingMethod MJ;simp only [Array.any_toList];generalize want.toList.filter _=L;have hle:∀l:List String,Instr.least l=none↔l=[]:=fun l=>by cases l <;> simp [Instr.least]
 simp only [Option.or_eq_none_iff,Option.orElse_eq_orElse,hle,nX,List.partition_eq_filter_filter,Option.orElse_eq_or];constructor
 ·rintro⟨h1,h2⟩;cases L with
  | nil=>rfl
  | cons a r=>
   exfalso;simp only [bG,List.filter_cons,Function.comp]at h1 h2;cases h:a.1.contains '.' <;> simp [h]at h1 h2
 ·rintro rfl; simp
omit he hg hs in
theorem A9 {want:Array (String×TypeId)}{u:Nat}:p8 u (HV P want)=true↔∃i,P.types[u]? =some i/\Instr.missingMethod want i.methods=none:=by
 rw [oO];unfold HV;simp only [jP,Prod.exists];constructor
 ·rintro⟨i,t,h1,h2⟩;rw [j7]at h1;split at h2
  ·rename_i hm;simp only [aa]at h2; subst h2;exact⟨i,by simpa using h1,uv.2 hm⟩
  ·cases h2
 ·rintro⟨i,h1,h2⟩;refine⟨i,u, ?_, ?_⟩
  ·rw [j7]; simpa using h1
  ·simp only [uv.1 h2]
theorem E8 {t xt:TypeId}{want:Array (String×TypeId)}{ok:Bool} {x' :Operand}{x:bP}(hx:eO G x' =some x)(hu:P.underlying t=some (.interface want))(hz:jH P t=some .ow)
  (h:cC C env s al (.rG P.types.size (HV P want) ok x)=some (d,s')){o:Oper}(ho:o.op= .typeAssert x' xt t ok):fc P ρ w env a.tmps d s' ((execOp a.eval o).run P w):=by
 obtain⟨zv,z1,z2,_⟩:=kF (w:=w) hz;have hzr:aU ρ w .ow zv:=kq _ _ z2;have Es:aU ρ w (.gK [.ow,.bool false]) (.tuple #[zv,.bool false]):=by
  simp only [aU,bw]at *; exact ⟨_,rfl,_,_,rfl,hzr,_,_,rfl,rfl,rfl⟩
 simp only [cC]at h;split at h
 ·rename_i u v hp;have hv:=ba hx he hg hp;have kz:=hv;simp only [aU]at hv;obtain⟨q,hv,hq⟩:=hv;split at h
  ·rename_i hb;obtain⟨i,hi,hm⟩:=A9.1 hb;simp only [aa,ae]at h;obtain⟨rfl,rfl⟩:=h;have hr:(execOp a.eval o).run P w= .ok (.value (if ok then .tuple #[a.eval x',.bool true] else a.eval x')) w:=by
    simp only [execOp,ho,hv,Instr.typeAssert];simp [run_underlying hu,typeInfo,oh hi,hm]
   rw [hr]; exact .rep hs (HZ kz)
  ·rename_i hb;split at h
   ·rename_i hc;simp only [aB]at hc;obtain⟨rfl,dM⟩:=hc;have dM:u < P.types.size:=az dM;simp only [aa,ae]at h;obtain⟨rfl,rfl⟩:=h;have hi:P.types[u]? =some P.types[u]:=cA dM;cases hm:Instr.missingMethod want P.types[u].methods with
    | none=>exact absurd (A9.2 ⟨_,hi,hm⟩) (by rw [hb]; simp)
    | some msg=>
     have hr:(execOp a.eval o).run P w= .ok (.value (.tuple #[zv,.bool false])) w:=by
      simp only [execOp,ho,hv,Instr.typeAssert];simp [run_underlying hu,typeInfo,oh hi,hm,z1]
     rw [hr]; exact .rep hs Es
   ·cases h
 ·rename_i hp;have hv:=ba hx he hg hp;simp only [aU]at hv;split at h
  ·simp only [aa,ae]at h;obtain⟨rfl,rfl⟩:=h;have hr:(execOp a.eval o).run P w= .ok (.value (.tuple #[zv,.bool false])) w:=by
    simp only [execOp,ho,hv,Instr.typeAssert];simp [run_underlying hu,z1]
   rw [hr]; exact .rep hs Es
  ·cases h
 ·cases h
omit he hg hs in
theorem HT {mx:Bool}:∀(l:List D) (vs:List Value) (d0 d:D) (v0:Value),Oh mx d0 l=some d->aU ρ w d0 v0->bw ρ w l vs->∃v,(vs.foldlM (if mx then Builtin.max2 else Builtin.min2) v0).run P w= .ok v w/\aU ρ w d v
 | [],vs,d0,d,v0,h,h0,hl=>by
  simp only [bw]at hl; subst hl;have:Oh mx d0 []=some d0:=by cases d0 <;> rfl
  rw [this]at h;simp only [aa]at h; subst h;exact⟨v0,by simp,h0⟩
 | x::l,vs,d0,d,v0,h,h0,hl=>by
  simp only [bw]at hl;obtain⟨v1,r,rfl,h1,h2⟩:=hl;unfold Oh at h;split at h
  ·rename_i hh; cases hh
  ·rename_i k p j q l2 hh;simp only [eC]at hh;obtain⟨rfl,rfl⟩:=hh;split at h
   ·rename_i hk;obtain rfl:=bD hk;simp only [aU]at h0 h1;subst h0 h1;obtain⟨v,g1,g2⟩:=HT l r _ d _ h rfl h2;refine⟨v, ?_,g2⟩;rw [List.foldlM_cons];cases mx <;> simpa [Builtin.max2,Builtin.min2] using g1
   ·cases h
  ·cases h
theorem Au {mx:Bool} {l' :List Operand}{l:List bP}{tys:Array TypeId}(hl:l'.mapM (eO G)=some l)(h:cC C env s al (.tD mx l)=some (d,s')){o:Oper}(ho:o.op= .call { callee:= .builtin (if mx then .max else .min),args:=l'.toArray,argTypes:=tys}):
  fc P ρ w env a.tmps d s' ((execOp a.eval o).run P w):=by
 simp only [cC]at h;split at h
 ·rename_i d0 r Qp;obtain⟨h1,rfl⟩:=jt h;have hr:=oz he hg _ _ _ hl Qp;simp only [bw]at hr;obtain⟨v0,vr,e1,e2,e3⟩:=hr;obtain⟨v,g1,g2⟩:=HT (P:=P) r vr d0 d v0 h1 e2 e3;have fY:(execOp a.eval o).run P w= .ok (.value v) w:=by
   cases mx with
   | false=>
    rw [iD (b:= .min) ho];simp only [builtin,Builtin.min_,fu,e1];rw [Sem.run_bind];simp only [jg,dF]at g1;rw [g1]; rfl
   | true=>
    rw [iD (b:= .max) ho];simp only [builtin,Builtin.max_,fu,e1];rw [Sem.run_bind];simp only [eu]at g1;rw [g1]; rfl
  rw [fY]; exact .rep hs g2
 ·cases h
end
end Go.Ab
namespace Go.Ab
open Go
variable [eV]
variable {ρ ρ' :Gh} {w w' :World}{P:Program}{pn:jn}{G:Gl}{X:iw}{A:nA} {s s' :St}{env:Env}{a:Act}{lo:Nat}{d:D}{C:ay}{al:Option Nat}
theorem fO.erase:∀ {es:List (Nat×D×D)} {ces:List MapEntry} (i:Nat),fO ρ w es ces->fO ρ w (es.eraseIdx i) (ces.eraseIdx i)
 | [],_,i,h=>by simp only [fO]at h; subst h; simp [fO]
 | (n,k,v)::es,_,i,h=>by
  simp only [fO]at h;obtain⟨e,r,rfl,h1,h2,h3,h4⟩:=h;cases i with
  | zero=>simpa using h4
  | succ i=>
   simp only [List.eraseIdx_cons_succ,fO];exact⟨e,_,rfl,h1,h2,h3,fO.erase i h4⟩
section
variable (he:ew ρ w lo env a.tmps)(hg:gN pn G ρ w)(hs:ck ρ s w)
include he hg hs
theorem KK {t q e:TypeId}{et:ET} {m' k' :Operand}{m k:bP}{tys:Array TypeId}(hm:eO G m' =some m)(hk:eO G k' =some k)(hu:P.underlying t=some (.map q e))(het:sK P 8 q=some et)(qY:tys[0]? =some t)
  (h:cC C env s al (.delete et m k)=some (d,s')){o:Oper}(ho:o.op= .call { callee:= .builtin .delete,args:= #[m',k'],argTypes:=tys}):fc P ρ w env a.tmps d s' ((execOp a.eval o).run P w):=by
 have fin:∀w',(Builtin.delete_ tys o.type #[a.eval m',a.eval k']).run P w= .ok (.tuple #[]) w' ->(execOp a.eval o).run P w= .ok (.value (.tuple #[])) w' :=by
  intro w' hw;rw [iD (b:= .delete) ho];simp only [builtin,fu,bG,ef];rw [Sem.run_bind,hw]; rfl
 simp only [cC]at h;split at h
 ·rename_i dm dk WY WX;split at h
  ·cases h
  ·rename_i gV;have xm:=ba hm he hg WY;have xR:=ba hk he hg WX;have Fg:∀em,(Instr.checkKey em 10000 q (a.eval k')).run P w= .ok () w:=fun em=>pF em 8 q et het 10000 (by decide) dk _ gV xR;split at h
   ·simp only [aa,ae]at h;obtain⟨rfl,rfl⟩:=h;simp only [aU]at xm;have hr:(Builtin.delete_ tys o.type #[a.eval m',a.eval k']).run P w= .ok (.tuple #[]) w:=by
     unfold Builtin.delete_;simp [qY,xm,run_underlying hu,Fg]
    rw [fin _ hr];exact .rep hs (by simp [aU,bw])
   ·rename_i ob;split at h
    ·rename_i es c lG;obtain⟨b,ces,k1,one,hb,hM⟩:=hs.ok _ _ lG;simp only [aU,Gh.at,k1]at xm;obtain⟨b',jl,xm⟩:=xm;obtain rfl:=one.2 _ jl;split at h
     ·rename_i i v0 hf;obtain⟨h1,rfl⟩:=il h;obtain⟨r',g1,g2⟩:=lN (P:=P) het xR hM hf;obtain⟨u0,rfl,g3⟩:=g2
      obtain⟨n1,n2⟩:=lV (ces' :=ces.eraseIdxIfInBounds i) hs lG k1 one hb (by
       have:(ces.eraseIdxIfInBounds i).toList=ces.toList.eraseIdx i:=by
        unfold Array.eraseIdxIfInBounds;split
        ·simp [Array.toList_eraseIdx]
        ·rename_i dM;rw [List.eraseIdx_of_length_le (by simpa using dM)]
       rw [this];exact fO.erase i hM) h1
      have hr:(Builtin.delete_ tys o.type #[a.eval m',a.eval k']).run P w= .ok (.tuple #[]) { w with heap:=w.heap.setIfInBounds b' (.map (ces.eraseIdxIfInBounds i) c)}:=by
       unfold Builtin.delete_;simp [qY,xm,run_underlying hu,Fg,kD hb,g1,kH _ hb]
      rw [fin _ hr];exact .val n1 n2 (by simp [aU,bw])
     ·rename_i hf;obtain⟨h1,rfl⟩:=il h;obtain⟨r',g1,g2⟩:=lN (P:=P) het xR hM hf;simp only [Found]at g2; subst g2;obtain⟨n1,n2⟩:=lV (ces' :=ces) hs lG k1 one hb hM h1;have hr:(Builtin.delete_ tys o.type #[a.eval m',a.eval k']).run P w= .ok (.tuple #[]) { w with heap:=w.heap.setIfInBounds b' (.map ces c)}:=by
       unfold Builtin.delete_;simp [qY,xm,run_underlying hu,Fg,kD hb,g1,kH _ hb]
      rw [fin _ hr];exact .val n1 n2 (by simp [aU,bw])
     ·cases h
    ·cases h
   ·cases h
 ·cases h
theorem LC {t:TypeId} {x' :Operand}{x:bP}(hx:eO G x' =some x)(hu:P.underlying t=some .string)(h:cC C env s al (.range x)=some (d,s')){o:Oper}(ho:o.op= .range t x'):
  fc P ρ w env a.tmps d s' ((execOp a.eval o).run P w):=by
 simp only [cC]at h;split at h
 ·rename_i l hp;have hv:=ba hx he hg hp;simp only [aU]at hv;split at h
  ·rename_i k s2 hm;simp only [aa,ae]at h;obtain⟨rfl,rfl⟩:=h;obtain⟨n1,n2,n3,n4⟩:=xO (w' :=w.alloc (.stringIter ⟨⟨l⟩⟩ 0)) hs hm 1 0 0 rfl rfl rfl rfl (fun hK nL hh=>⟨w.heap.size,by simp [Gh.new],nL,hh⟩);have fY:(execOp a.eval o).run P w= .ok (.value (.pointer (some ⟨w.heap.size,0,none⟩))) (w.alloc (.stringIter ⟨⟨l⟩⟩ 0)):=by
    simp only [execOp,ho];simp [Instr.range,run_underlying hu,hv,newObj];rfl
   rw [fY];exact .val n1 n2 (by simp only [aU,Gh.at,n4]; exact ⟨_,n3,rfl⟩)
  ·cases h
 ·cases h
theorem NU {x' :Operand}{x:bP}(hx:eO G x' =some x)(h:cC C env s al (.uh x)=some (d,s')){o:Oper}(ho:o.op= .next x' true):
  fc P ρ w env a.tmps d s' ((execOp a.eval o).run P w):=by
 simp only [cC]at h;split at h
 ·rename_i ob hp;have hv:=ba hx he hg hp;split at h
  ·rename_i l pos lG;obtain⟨b,k1,one,hb⟩:=hs.ok _ _ lG;simp only [aU,Gh.at,k1]at hv;obtain⟨b',jl,hv⟩:=hv;obtain rfl:=one.2 _ jl;have kQ:(getObj b').run P w= .ok (.stringIter ⟨⟨l⟩⟩ pos) w:=by simp [getObj,Sem.run,hb]
   have gO:∀ob:Go.Obj,(setObj b' ob).run P w= .ok () { w with heap:=w.heap.setIfInBounds b' ob}:=fun ob=>by simp [setObj,Sem.run,hb]
   split at h
   ·rename_i dM;have dM:pos < l.length:=az dM;obtain⟨h1,rfl⟩:=il h
    obtain⟨n1,n2⟩:Kp ρ w ρ { w with heap:=w.heap.setIfInBounds b' (.stringIter ⟨⟨l⟩⟩ (pos+(Utf8.decode ⟨⟨l⟩⟩ pos).2))}/\ck ρ s' { w with heap:=w.heap.setIfInBounds b' (.stringIter ⟨⟨l⟩⟩ (pos+(Utf8.decode ⟨⟨l⟩⟩ pos).2))}:=
     su hs h1 one.1 (hs.lt _ _ lG) (fun _ h=>wq h) (by simp) rfl rfl rfl fun hK=>⟨b',k1,one,wQ (xj hb)⟩
    have hr:(execOp a.eval o).run P w= .ok (.value (.tuple #[.bool true,goInt pos,.int .i32 (Utf8.decode ⟨⟨l⟩⟩ pos).1])) { w with heap:=w.heap.setIfInBounds b' (.stringIter ⟨⟨l⟩⟩ (pos+(Utf8.decode ⟨⟨l⟩⟩ pos).2))}:=by
     simp only [execOp,ho,hv,Instr.next];rw [Sem.run_bind,Sem.run_bind,kQ];simp [ByteArray.size_mk',dM,gO]
    rw [hr];exact .val n1 n2 (by simp [aU,bw,Fq,goInt])
   ·rename_i dM
    have dM: ¬ pos < l.length:=fun hc=>by
     have:Nat.blt pos l.length=true:=au hc;rw [this]at dM; cases dM
    simp only [aa,ae]at h;obtain⟨rfl,rfl⟩:=h;have hr:(execOp a.eval o).run P w= .ok (.value (.tuple #[.bool false])) w:=by
     simp only [execOp,ho,hv,Instr.next];rw [Sem.run_bind,Sem.run_bind,kQ];simp [ByteArray.size_mk',dM]
    rw [hr];exact .rep hs (by simp [aU,bw])
  ·cases h
 ·cases h
end
end Go.Ab
namespace Go.Ab
open Go
variable [eV]
variable {ρ ρ' :Gh} {w w' :World}{P:Program}{pn:jn}{G:Gl}{X:iw}{A:nA} {s s' :St}{env:Env}{a:Act}{lo:Nat}{d:D}{C:ay}{al:Option Nat}
theorem CH:∀ {l:List (Nat×Nat×Recv)} {t:Nat} {r:Nat×Recv},sF l t=some r->(t,r)∈l
 | [],_,_,h=>by simp [sF]at h
 | (x,g)::r,t,f,h=>by
  simp only [sF]at h;split at h
  ·rename_i hb;obtain rfl:=aD hb;simp only [aa]at h; subst h;exact List.mem_cons_self
  ·exact eF _ (CH h)
theorem uw {name:String}{t f:Nat}{r:Recv}(h:sF (ox P name) t=some (f,r)):∃i m ptr,P.types[t]? =some i/\i.methods.find? (·.name==name)=some m/\m.func=some (f,ptr)/\Ir P t m.path.toList ptr=some r:=by
 have hm:=CH h;unfold ox at hm;simp only [jP,Prod.exists]at hm;obtain⟨i,t',h1,h2⟩:=hm;rw [j7]at h1;split at h2
 ·rename_i m hm;split at h2
  ·rename_i g ptr hf;simp only [bj,ae]at h2;obtain⟨r',h2,rfl,rfl,rfl⟩:=h2;exact⟨i,m,ptr,by simpa using h1,hm,hf,h2⟩
  ·cases h2
 ·cases h2
theorem qB {e:Option TypeDesc}{k:Nat}(h:kY e=k)(hk:k=0\/k=1):∃q,e=some q:=by
 unfold kY at h;split at h <;> first | exact ⟨_,rfl⟩ | omega
theorem Ch {xt:TypeId}{x:Place}{ptr:Bool}{wr:Option String}(h:(kY (P.underlying xt)=0/\ptr=true)\/(kY (P.underlying xt)=1/\ptr=false)):(receiverAt xt x ptr wr).run P w=(x.get xt).run P w:=by
 have hq:∃q,P.underlying xt=some q:=h.elim (fun h=>qB h.1 (.inl rfl)) (fun h=>qB h.1 (.inr rfl));obtain⟨q,hq⟩:=hq;rw [hq]at h;unfold receiverAt;rw [Sem.run_bind,run_underlying hq]
 rcases h with ⟨h,rfl⟩ | ⟨h,rfl⟩ <;> cases q <;> first
  | (simp [kY]at h; done)
  | (cases x <;> rfl)
theorem Ov {xt:TypeId}{a:Addr}{wr:Option String}(h:kY (P.underlying xt)=1):(receiverAt xt (.var a) true wr).run P w= .ok (.pointer (some a)) w:=by
 obtain⟨q,hq⟩:=qB h (.inr rfl);rw [hq]at h;unfold receiverAt;rw [Sem.run_bind,run_underlying hq]
 cases q <;> first
  | (simp [kY]at h; done)
  | rfl
theorem Hq {off:Nat}{x y:D}{v:Value}(h:Q5 off x=some y)(hv:aU ρ w x v):∃a,v= .pointer (some a)/\aU ρ w y (.pointer (some (a.add off))):=by
 unfold Q5 at h;split at h
 ·rename_i o c;simp only [aa]at h; subst h;simp only [aU]at hv ⊢;unfold Gh.at at *;split at hv
  ·exact hv.elim
  ·obtain⟨q,rfl⟩:=hv; exact ⟨q,rfl,_,rfl⟩
  ·obtain⟨b,hb,rfl⟩:=hv; exact ⟨_,rfl,b,hb,by rw [Addr.add_mid]⟩
 ·rename_i o i c e;simp only [aa]at h; subst h;simp only [aU]at hv ⊢;unfold Gh.at at *;split at hv
  ·exact hv.elim
  ·obtain⟨q,rfl⟩:=hv; exact ⟨q,rfl,_,rfl⟩
  ·obtain⟨b,hb,h1,h2,h3,rfl⟩:=hv; exact ⟨_,rfl,b,hb,h1,h2,h3,by rw [Addr.add_mid,iE]⟩
 ·rename_i e c;simp only [aa]at h; subst h;simp only [aU]at hv ⊢;obtain⟨b,x,u,h1,h2,h3,h4,rfl⟩:=hv;exact⟨_,rfl,b,x,u,h1,h2,h3,h4,by rw [Addr.add_mid,iE]⟩
 ·cases h
theorem MC {p:Array FieldStep}{st:FieldStep}(h:p.toList=[st]):p.isEmpty=false:=by
 cases hp:p.isEmpty with
 | false=>rfl
 | true=>
  have:p= #[]:=by simpa using hp
  rw [this]at h; cases h
theorem QW (hs:ck ρ s w){name:String}{t f n:Nat}{r:Recv} {v v' :D}{u:Value}(h:sF (ox P name) t=some (f,r))(hr:ru s v r=some v')(hv:aU ρ w v u):
  ∃u',(method (n+1) t u name).run P w= .ok (f,u') w/\aU ρ w v' u' :=by
 obtain⟨i,m,ptr,g1,g2,g3,g4⟩:=uw h;unfold Ir at g4;split at g4
 ·rename_i sY;have key:(kY (P.underlying t)=0/\ptr=true)\/(kY (P.underlying t)=1/\ptr=false)->r= .self->∃u',(method (n+1) t u name).run P w= .ok (f,u') w/\aU ρ w v' u' :=by
   rintro hk rfl;simp only [ru,aa]at hr; subst hr;refine⟨u, ?_,hv⟩;simp only [method,typeInfo];simp [oh g1,g2,sY,follow,g3,Ch hk,Place.get]
  split at g4
  ·rename_i hk;simp only [aa]at g4;exact key (.inl ⟨hk,rfl⟩) g4.symm
  ·rename_i hk;simp only [aa]at g4;exact key (.inr ⟨hk,rfl⟩) g4.symm
  ·cases g4
 ·rename_i st sY;have cE:=MC sY;split at g4
  ·rename_i fs dN;split at g4
   ·rename_i fl R6;have stepD:st.deref=true->∀(a:Addr) (m0:Nat),u= .pointer (some a)->dO P fl.type=some (m0+1)->(follow [st] t (.val u)).run P w= .ok (fl.type,.var (a.add fl.offset)) w:=by
     intro hd a m0 hu fS;subst hu;simp [follow,run_underlying dN,R6,hd,Place.get,asAddr,fieldPlace,fT fS]
    split at g4
    ·rename_i hd;split at g4
     ·rename_i hk;simp only [aB,iQ]at hk;obtain⟨hk,abF⟩:=hk;subst abF;split at g4
      ·rename_i m0 fS;simp only [aa]at g4; subst g4;simp only [ru]at hr;obtain⟨a,hu,ha⟩:=Hq hr hv;refine⟨_, ?_,ha⟩;simp only [method,typeInfo];simp [oh g1,g2,sY,stepD hd a m0 hu fS,g3,cE,Ov hk]
      ·cases g4
     split at g4
     ·rename_i m0 sz Y2 fS gX;simp only [aa]at g4; subst g4;simp only [ru]at hr;split at hr
      ·rename_i p hp;obtain⟨a,hu,ha⟩:=Hq hp hv;obtain⟨u',k1,k2⟩:=Bs (P:=P) hs gX hr ha;have hk:(kY (P.underlying fl.type)=0/\ptr=true)\/(kY (P.underlying fl.type)=1/\ptr=false):=by
        simp only [eD,aB,iQ,ff]at Y2;exact Y2
       have k1' :(loadVar fl.type (a.add fl.offset)).run P w= .ok u' w:=by
        simpa [Instr.loadAt,Instr.sureAddr] using k1
       refine⟨u', ?_,k2⟩;simp only [method,typeInfo];simp [oh g1,g2,sY,stepD hd a m0 hu fS,g3,cE,Ch hk,Place.get,k1']
      ·cases hr
     ·cases g4
    ·rename_i hd;split at g4
     ·rename_i sz Y2 gX;simp only [aa]at g4; subst g4;simp only [ru]at hr;split at hr
      ·rename_i cs;simp only [aU]at hv;obtain⟨vs,rfl,hl,H4⟩:=hv;obtain⟨u',k1,k2⟩:=qh (P:=P) (w:=w) hl H4 gX hr;have hk:(kY (P.underlying fl.type)=0/\ptr=true)\/(kY (P.underlying fl.type)=1/\ptr=false):=by
        simp only [eD,aB,iQ,ff]at Y2;exact Y2
       refine⟨u', ?_,k2⟩;simp only [method,typeInfo];simp [oh g1,g2,sY,follow,run_underlying dN,R6,hd,k1,g3,cE,Ch hk,Place.get]
      ·cases hr
     ·cases g4
   ·cases g4
  ·cases g4
 ·cases g4
section
variable (he:ew ρ w lo env a.tmps)(hg:gN pn G ρ w)(hs:ck ρ s w)
include he hg hs
theorem Kh (hC:dR pn P G C) {x' :Operand}{name:String}{x:bP} {args' :Array Operand}{args:List bP}(hx:eO G x' =some x)(ha:rX G args' =some args)(h:cC C env s al (.invoke (ox P name) x args)=some (d,s')){o:Oper}{tys:Array TypeId}
  (ho:o.op= .call { callee:= .invoke x' name,args:=args',argTypes:=tys}):fc P ρ w env a.tmps d s' ((execOp a.eval o).run P w):=by
 simp only [cC]at h;split at h
 ·rename_i t v l Iz hl;split at h
  ·rename_i f r hf;split at h
   ·rename_i v' hrv;have hr:=oz he hg _ _ l ha hl;have hv:=ba hx he hg Iz;simp only [aU]at hv;obtain⟨u,hv,hu⟩:=hv;obtain⟨u',ZJ,tL⟩:=QW (n:=P.types.size+99) hs hf hrv hu;have hq:bw ρ w (v' ::l) (u' ::List.map a.eval args'.toList):=by simp only [bw]; exact ⟨u',_,rfl,tL,hr⟩
    have fY:(execOp a.eval o).run P w= .ok (.enter f (#[u']++args'.map a.eval)) w:=by
     simp only [execOp,ho,resolve,hv];have:=hC.enter _ _ _ _ h (.inr hq.yS) (#[u']++args'.map a.eval) w;have hd:P.types.size+Made.depth=(P.types.size+99)+1:=rfl;have hex:(#[Value.iface t u]++args'.map a.eval).extract 1 (#[Value.iface t u]++args'.map a.eval).size=args'.map a.eval:=by
      apply dH;simp only [Array.toList_extract,Array.toList_append,jC,mj,Array.size_map,ku,aV,bL,iJ,cB,List.extract_eq_take_drop,nY,gz];exact eX (by simp)
     have h0:(#[Value.iface t u]++args'.map a.eval)[0]? =some (.iface t u):=by simp [Array.getElem?_append]
     have hm1:(callMethod (.iface t u) name (args'.map a.eval)).run P w= .ok (.enter f (#[u']++args'.map a.eval)) w:=by
      simp [callMethod,hd,ZJ,this]
     show (do let d ← (pure { target:= .fn (.method name) #[],args:= #[Value.iface t u]++args'.map a.eval}:Sem Deferred); Go.invoke d.target d.args:Sem Next).run P w=_;simp only [Sem.run_bind,Sem.run_pure,Result.andThen_ok,invoke,h0,hex];exact hm1
    rw [fY];refine⟨rfl, ?_⟩;have:=hC.calls _ _ _ _ _ ρ w (u' ::List.map a.eval args'.toList) h hs hg (by simp only [bw]; exact ⟨u',_,rfl,tL,hr⟩);have e:(u' ::List.map a.eval args'.toList).toArray= #[u']++args'.map a.eval:=by
     apply dH; simp
    rwa [e]at this
   ·cases h
  ·cases h
 ·cases h
end
theorem zM {name:String}{t f n:Nat}{u:Value}(h:sF (ox P name) t=some (f,.self)):(nilAhead (n+1) t u name).run P w= .ok (some false) w:=by
 obtain⟨i,m,ptr,g1,g2,g3,g4⟩:=uw h;unfold Ir at g4;split at g4
 ·rename_i sY;have hx:(kY (P.underlying t)=0/\ptr=true)\/(kY (P.underlying t)=1/\ptr=false):=by
   split at g4
   ·rename_i hk; exact .inl ⟨hk,rfl⟩
   ·rename_i hk; exact .inr ⟨hk,rfl⟩
   ·cases g4
  simp only [nilAhead,typeInfo];rcases hx with ⟨hk,rfl⟩ | ⟨hk,rfl⟩
  ·simp [oh g1,g2,sY,followBlind,g3]
  ·obtain⟨q,hq⟩:=qB hk (.inr rfl);rw [hq]at hk;simp only [oh g1,g2,sY,followBlind,g3,Sem.run_bind,Result.andThen_ok,Sem.run_pure,da,run_underlying hq];simp [oh g1,g2,sY,followBlind,g3,run_underlying hq]
   cases q <;> first
    | (simp [kY]at hk; done)
    | rfl
 ·split at g4
  ·split at g4
   ·split at g4
    ·split at g4
     ·split at g4 <;> cases g4
     ·split at g4 <;> cases g4
    ·split at g4 <;> cases g4
   ·cases g4
  ·cases g4
 ·cases g4
section
variable (he:ew ρ w lo env a.tmps)(hg:gN pn G ρ w)(hs:ck ρ s w)
include he hg hs
theorem NS {x' :Operand}{name:String}{x:bP}(hx:eO G x' =some x)(h:cC C env s al (.A8 name (ox P name) x)=some (d,s')){o:Oper}(ho:o.op= .nilCheck x'):
  fc P ρ w env a.tmps d s' ((execOp a.eval o).run P w):=by
 simp only [cC]at h;split at h
 ·rename_i n t v y Iz;split at h
  ·rename_i f hn hf;simp only [ib]at hn;subst hn;simp only [aa,ae]at h;obtain⟨rfl,rfl⟩:=h;have hv:=ba hx he hg Iz;have Ct :=hv;simp only [aU]at hv;obtain⟨va,vc,hv,hu,hc⟩:=hv
   obtain⟨u0,hl,u,rfl,tL⟩:∃u0,va.toList=[u0]/\∃u,u0= .iface t u/\aU ρ w v u:=by
    simp only [bw]at hu;obtain⟨q,r,e1,e2,e3⟩:=hu;subst e3;simp only [aU]at e2;obtain⟨u,e4,e5⟩:=e2;exact⟨q,e1,u,e4,e5⟩
   have h0:va[0]? =some (.iface t u):=by
    rw [← Array.getElem?_toList,hl]; rfl
   have Zm:=zM (P:=P) (w:=w) (n:=P.types.size+99) (u:=u) hf;have hd:P.types.size+Made.depth=(P.types.size+99)+1:=rfl;have fY:(execOp a.eval o).run P w= .ok (.value (a.eval x')) w:=by
    simp only [execOp,ho,hv,h0];simp [hd,Zm]
   rw [fY];exact .rep hs Ct
  ·cases h
 ·cases h
end
end Go.Ab
