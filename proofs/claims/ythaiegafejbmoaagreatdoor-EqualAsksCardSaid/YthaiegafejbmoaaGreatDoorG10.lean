/- Part. -/
import Derived.Test.YthaiegafejbmoaaGreatDoorG09
set_option linter.unusedSectionVars false
set_option linter.unusedSimpArgs false
set_option linter.unusedVariables false
namespace Go.Ab
open Go
variable [eh]
variable {ρ ρ' :Gh} {w w' :World}{P:Program}{pn:gY}{G:Gl}{X:ig}{A:mT} {s s' :St}{env:Env}{a:Act}{lo:Nat}{d:D}{C:au}{al:Option Nat}
def F4 (e:Array Value->Sem Value):Ext->Prop
 | .nop=>e=(fun _=>do mark .disable; pure Extern.Race.none_)\/e=(fun _=>do mark .enable; pure Extern.Race.none_)
 | .race=>e=Extern.Race.marked .acquire\/e=Extern.Race.marked .releaseMerge
 | .idp=>e=Extern.AbiNoEscape.same
 | .Uh k=>e=Extern.Atomic.loadT (.int k)
 | .L7=>e=Extern.Atomic.storeT
 | .YT k=>e=Extern.Atomic.casT (.int k)
 | .YS k=>e=Extern.Atomic.update (Op.intArith .add) k true
structure lZ (P:Program)(f:FuncId)(k:Ext):Prop where
 ok : ∃ fn e, P.funcs[f]? = some fn ∧ fn.body = none ∧ (fn.name == "runtime.NumGoroutine") = false ∧ Extern.findNext fn = none ∧ Extern.find fn = some e ∧ F4 e k
theorem lZ.run {f:FuncId}{k:Ext}(h:lZ P f k):∃e,F4 e k/\∀(args:Array Value) w,(callFunc f args).run P w=((do pure (.value (← e args))):Sem Next).run P w:=by
 obtain⟨fn,e,h1,h2,h3,h4,h5,h6⟩:=h.ok;refine⟨e,h6,fun args w=> ?_⟩;have h3 : fn.name ≠ "runtime.NumGoroutine" := by simpa using h3
 simp [callFunc,h1,h2,h3,h4,h5]
theorem Pj (t:Extern.Atomic.T)(x:Value):Extern.Atomic.loadT t #[x]=(do Extern.Atomic.read t (← asAddr x)):=rfl
theorem KW (x v:Value):Extern.Atomic.storeT #[x,v]=(do store (← asAddr x) v .atomic; pure Extern.Atomic.none_):=rfl
theorem HK (k:IntKind)(x:Value)(j1 j2:IntKind)(n1 n2:Int):Extern.Atomic.casT (.int k) #[x,.int j1 n1,.int j2 n2]=(do
  let a ← asAddr x
  if ← Extern.Atomic.touchesFrozen a then unsupported (.unsafePointer "a write to bytes that a string shares")
  let eq ← match Extern.Atomic.T.int k,← Extern.Atomic.read (.int k) a,Value.int j1 n1 with
   | _,.int _ x,.int _ y=>pure (x==y)
   | .ptr,.pointer x,.pointer y=>samePointer x y
   | .int _,.pointer (some _),.int _ 0 | .int _,.int _ 0,.pointer (some _)=>pure false
   | .int _,.pointer (some _),_ | .int _,_,.pointer (some _)=>unsupported .addressObserved
   | _, _, _ => stuck "atomic.CompareAndSwap: old is no T"
  if eq then store a (.int j2 n2) .atomic
  pure (.bool eq)):=rfl
theorem K3 (op:IntKind->Int->Int->Sem Value)(k:IntKind)(x y:Value):Extern.Atomic.update op k true #[x,y]=(do
  let a ← asAddr x
  let old ← Extern.Atomic.read (.int k) a
  let new ← op k (← asInt old) (← asInt y)
  store a new .atomic
  pure new):=rfl
structure Sb (s s1:St):Prop where
 n:s1.n=s.n
 lk:s1.lk=s.lk
 ro:s.ro=true
 Va:s1.ro=true
 get:∀o x,s.get o=some x->s1.get o=some x
def Ak (C:au):Prop:=∀f l s d s' s1,Sb s s1->C f l s=some (d,s')->s' =s/\C f l s1=some (d,s1)
structure cm (pn:gY)(P:Program)(G:Gl)(C:au):Prop where
 enter:∀f l s r,C f l s=some r->(f≠0\/yS l=false)->∀(args:Array Value) w,(callFunc f args).run P w= .ok (.enter f args) w
 calls:∀f l s d s' ρ w vs,C f l s=some (d,s')->bK ρ s w->gn pn G ρ w->bu ρ w l vs->Calls P f vs.toArray w (jg ρ w s' d)
 ro:∀f l s d s',s.ro=true->C f l s=some (d,s')->s' =s
 sf:∀y l s d s' ρ w u vs,C 0 (.lv y::l) s=some (d,s')->bK ρ s w->gn pn G ρ w->aR ρ w y u->bu ρ w l vs->∃b,u= .func (.yield b) #[] #[]/\YieldAt Fence.wide 0 P b vs.toArray w (jg ρ w s' d)
 Ls:Ak C
theorem bu.yS {l:List D}{vs:List Value}(h:bu ρ w l vs):yS l=false:=by
 cases l with
 | nil=>rfl
 | cons x r=>
  simp only [bu]at h;obtain⟨v,_,_,hv,_⟩:=h;cases x <;> first | rfl | simp [aR]at hv
section
variable (he:dW ρ w lo env a.tmps)(hg:gn pn G ρ w)(hs:bK ρ s w)
include he hg hs
omit hs in
theorem nH:∀(l' :List Operand) (l:List bO) (ds:List D),l'.mapM (ew G)=some l->tF env l=some ds->bu ρ w ds (l'.map a.eval)
 | [],l,ds,h,h' =>by
  simp at h; subst h;simp only [tF,aa]at h'; subst h';simp [bu]
 | x::l',l,ds,h,h' =>by
  simp only [jh,aL,aE,ae]at h;obtain⟨y,h1,q,h2,h3⟩:=h;simp only [aa]at h3; subst h3;simp only [tF]at h';split at h'
  ·rename_i d hd;split at h'
   ·rename_i t ht;simp only [aa]at h'; subst h';simp only [bT,bu];exact⟨_,_,rfl,bc h1 he hg hd,nH l' q t h2 ht⟩
   ·cases h'
  ·cases h'
theorem Tg (hC:cm pn P G C){f:FuncId} {args' :Array Operand}{args:List bO}(ha:rW G args' =some args)(h:cg C env s al (.call false f args)=some (d,s')){o:Oper}{tys:Array TypeId}
  (ho:o.op= .call { callee:= .value (.func f),args:=args',argTypes:=tys}):eP P ρ w env a.tmps d s' ((execOp a.eval o).run P w):=by
 simp only [cg]at h;split at h
 ·rename_i l hl;have hr:=nH he hg _ _ l ha hl;have fK:(execOp a.eval o).run P w= .ok (.enter f (args'.map a.eval)) w:=by
   simp only [execOp,ho,resolve,Act.eval,Deferred.ofValue];have:=hC.enter _ _ _ _ h (.inr hr.yS) (args'.map a.eval) w;simpa [invoke] using this
  rw [fK];refine⟨rfl, ?_⟩;have:=hC.calls _ _ _ _ _ ρ w _ h hs hg hr;simpa [← Array.toList_map] using this
 ·cases h
theorem PI (hC:cm pn P G C) {f' :Operand}{f:bO} {args' :Array Operand}{args:List bO}(hf:ew G f' =some f)(ha:rW G args' =some args)(h:cg C env s al (.oG f args)=some (d,s')){o:Oper}{tys:Array TypeId}
  (ho:o.op= .call { callee:= .value f',args:=args',argTypes:=tys}):eP P ρ w env a.tmps d s' ((execOp a.eval o).run P w):=by
 simp only [cg]at h;split at h
 ·rename_i g x y l hfv hl;have hr:=nH he hg _ _ l ha hl;have hv:=bc hf he hg hfv;simp only [aR]at hv;obtain⟨va,vc,hv,hx,hy⟩:=hv;have fK:(execOp a.eval o).run P w= .ok (.enter g (va++args'.map a.eval++vc)) w:=by
   simp only [execOp,ho,resolve,hv,Deferred.ofValue];have:=hC.enter _ _ _ _ h (.inr ((hx.append hr).append hy).yS) (va++args'.map a.eval++vc) w;simpa [invoke] using this
  rw [fK];refine⟨rfl, ?_⟩;have:=hC.calls _ _ _ _ _ ρ w _ h hs hg ((hx.append hr).append hy);have e:(va.toList++List.map a.eval args'.toList++vc.toList).toArray=va++args'.map a.eval++vc:=by
   apply cZ; simp
  rwa [e]at this
 ·rename_i o1 l hfv hl;have hr:=nH he hg _ _ l ha hl;have hv:=bc hf he hg hfv;obtain⟨b,hb,fn,tmps,assign,body,fK,Xt⟩:=hC.sf _ _ _ _ _ ρ w _ _ h hs hg hv hr;have aay :(execOp a.eval o).run P w= .ok (.round b fn tmps assign body) w:=by
   simp only [execOp,ho,resolve,hb,Deferred.ofValue];simpa [invoke,← Array.toList_map] using fK
  rw [aay];exact⟨rfl,Xt⟩
 ·cases h
omit he hg in
theorem R7 {k:Ext}{l:List D}{vs:List Value}{e:Array Value->Sem Value}(he:F4 e k)(hl:bu ρ w l vs)(h:DY s k l=some (d,s')):
  ∃u w',(e vs.toArray).run P w= .ok u w' /\Kp ρ w ρ w' /\bK ρ s' w' /\aR ρ w' d u:=by
 have one:∀(b c:Nat) (x:Value),w.setCells b c [x]=w.setCell ⟨b,c,none⟩ x:=fun _ _ _=>rfl;have rd:∀(o c:Nat) (p:Value) (j:IntKind) (n:Int),aR ρ w (.ptr o c) p->iJ s none (.ptr o c)=some (.int j n)->∃b,p= .pointer (some ⟨b,c,none⟩)/\w.cell? ⟨b,c,none⟩=some (.int j n)/\w.frozen? ⟨b,c,none⟩=false/\∃cs e,w.heap[b]? =some (.cells cs e (0,0)):=by
  intro o c p j n hp Lh;simp only [iJ]at Lh;split at Lh
  ·rename_i ty v lD;obtain⟨b,u,k1,one',r1,r2,r3,r4⟩:=hs.ok _ _ lD;simp only [aR,Gh.at,k1]at hp;obtain⟨b',iS,hp⟩:=hp;obtain rfl:=one'.2 _ iS;have g1:=rX (r1.flat r4).1 (D.mH r4) Lh;obtain⟨x,g2,g3,_⟩:=g1;simp only [aR]at g3; subst g3;refine⟨b',hp, ?_,by simp [World.frozen?,r2],_,_,r2⟩;rw [dX r2]; simpa using g2
  ·cases Lh
 have wr:∀(o c:Nat) (p:Value) (j:IntKind) (n:Int) (s' :St),aR ρ w (.ptr o c) p->jI s 1 (.ptr o c) (.int j n)=some s' ->∃b,p= .pointer (some ⟨b,c,none⟩)/\(∀m,(store ⟨b,c,none⟩ (.int j n) m).run P w= .ok () (w.setCell ⟨b,c,none⟩ (.int j n)))/\
   Kp ρ w ρ (w.setCell ⟨b,c,none⟩ (.int j n))/\bK ρ s' (w.setCell ⟨b,c,none⟩ (.int j n)):=by
  intro o c p j n s' hp cG;have hc:∃b c',p= .pointer (some ⟨b,c',none⟩)/\c' =c:=by
   have:=hp;simp only [aR]at this;unfold jI at cG;simp only [D.flat]at cG;split at cG
   ·cases cG
   ·split at cG
    ·rename_i ty v lD;obtain⟨b,u,k1,one',_⟩:=hs.ok _ _ lD;simp only [Gh.at,k1]at this;obtain⟨b',_,hp⟩:=this;exact⟨b',c,hp,rfl⟩
    ·cases cG
  obtain⟨b,c',SB,rfl⟩:=hc;obtain⟨b2,c2,e1,e2,e3,e4,n1,n2⟩:=BV hs hp (show aR ρ w (.int j n) (.int j n) by simp [aR]) cG;rw [SB]at e1;simp only [Value.pointer.injEq,aa,Addr.mk.injEq]at e1;obtain⟨rfl,rfl,_⟩:=e1;refine⟨b,SB,fun m=> ?_,by simpa [Value.cells,one] using n1,by simpa [Value.cells,one] using n2⟩;obtain⟨h1,h2⟩:=e4 0 (by omega);simp only [fu]at h1 h2;obtain⟨q,hq⟩:=iW.1 h1;rw [run_store P w _ _ m rfl,hq,h2];simp
 unfold DY at h;split at h
 ·simp only [aa,ab]at h;obtain⟨rfl,rfl⟩:=h;refine⟨.tuple #[],w, ?_,Kp.refl _ _,hs,by simp [aR,bu]⟩;rcases he with rfl | rfl <;> simp [Extern.Race.none_]
 ·simp only [aa,ab]at h;obtain⟨rfl,rfl⟩:=h;simp only [bu]at hl;obtain⟨p,_,rfl,hp,rfl⟩:=hl;simp only [aR]at hp;obtain⟨q,rfl⟩:=Gh.jF hp fun _ _ q=>⟨_,q⟩;refine⟨.tuple #[],w, ?_,Kp.refl _ _,hs,by simp [aR,bu]⟩;rcases he with rfl | rfl <;> simp [Extern.Race.marked,Extern.Race.at_,Extern.Race.none_]
 ·simp only [aa,ab]at h;obtain⟨rfl,rfl⟩:=h;simp only [bu]at hl;obtain⟨p,_,rfl,hp,rfl⟩:=hl;obtain rfl:=he;exact⟨p,w,rfl,Kp.refl _ _,hs,hp⟩
 ·simp only [aa,ab]at h;obtain⟨rfl,rfl⟩:=h;simp only [bu]at hl;obtain⟨p,_,rfl,hp,rfl⟩:=hl;obtain rfl:=he;exact⟨p,w,rfl,Kp.refl _ _,hs,hp⟩
 ·rename_i k o c;split at h
  ·rename_i j n Lh;split at h
   ·rename_i hk;have hk:=bL hk; subst hk;simp only [aa,ab]at h;obtain⟨rfl,rfl⟩:=h;simp only [bu]at hl;obtain⟨p,_,rfl,hp,rfl⟩:=hl;obtain⟨b,rfl,h1,h2,_⟩:=rd o c p _ n hp Lh;obtain rfl:=he;refine⟨.int k n,w, ?_,Kp.refl _ _,hs,by simp [aR]⟩;simp [Pj,asAddr,Extern.Atomic.read,h1]
   ·cases h
  ·cases h
 ·rename_i o c j n;obtain⟨h1,rfl⟩:=gT h;simp only [bu]at hl;obtain⟨p,_,rfl,hp,x,_,rfl,hx,rfl⟩:=hl;simp only [aR]at hx; subst hx;obtain⟨b,rfl,h2,h3,h4⟩:=wr o c p j n s' hp h1;obtain rfl:=he;refine⟨.tuple #[],_, ?_,h3,h4,by simp [aR,bu]⟩;simp [KW,asAddr,h2,Extern.Atomic.none_]
 ·rename_i k o c j1 a1 j n;split at h
  ·rename_i j' x Lh;split at h
   ·rename_i hk;simp only [aB,bf]at hk;obtain⟨rfl,rfl⟩:=hk;simp only [bu]at hl;obtain⟨p,_,rfl,hp,y1,_,rfl,AD,y2,_,rfl,y9,rfl⟩:=hl;simp only [aR]at AD y9; subst AD y9;obtain⟨b,rfl,h1,h2,cs,e0,h3⟩:=rd o c p _ x hp Lh;obtain rfl:=he;have htf:(Extern.Atomic.touchesFrozen ⟨b,c,none⟩).run P w= .ok false w:=by
     simp [Extern.Atomic.touchesFrozen,viewAt,shape,World.shape?,frozen,h3,h2,Sem.run]
    split at h
    ·rename_i SJ;have SJ:x=a1:=by simpa using SJ
     obtain⟨h4,rfl⟩:=gT h;obtain⟨b2,e2,g2,g3,g4⟩:=wr o c _ _ n s' hp h4;simp only [Value.pointer.injEq,aa,Addr.mk.injEq]at e2;obtain⟨rfl,_⟩:=e2;refine⟨.bool true,_, ?_,g3,g4,by simp [aR]⟩;simp [HK,asAddr,htf,Extern.Atomic.read,h1,SJ,g2]
    ·rename_i SJ;have SJ: ¬ x=a1:=by simpa using SJ
     simp only [aa,ab]at h;obtain⟨rfl,rfl⟩:=h;refine⟨.bool false,w, ?_,Kp.refl _ _,hs,by simp [aR]⟩;simp [HK,asAddr,htf,Extern.Atomic.read,h1,SJ]
   ·cases h
  ·cases h
 ·rename_i k o c j1 n;split at h
  ·rename_i j x Lh;split at h
   ·rename_i hk;have hk:=bL hk; subst hk;obtain⟨h4,rfl⟩:=gT h;simp only [bu]at hl;obtain⟨p,_,rfl,hp,y1,_,rfl,AD,rfl⟩:=hl;simp only [aR]at AD; subst AD;obtain⟨b,rfl,h1,h2,_⟩:=rd o c p _ x hp Lh;obtain rfl:=he;obtain⟨b2,e2,g2,g3,g4⟩:=wr o c _ _ _ s' hp h4;simp only [Value.pointer.injEq,aa,Addr.mk.injEq]at e2;obtain⟨rfl,_⟩:=e2;refine⟨.int k (k.wrap (x+n)),_, ?_,g3,g4,by simp [aR]⟩;simp [K3,asAddr,Extern.Atomic.read,h1,asInt,asIntOf,Op.intArith,g2]
   ·cases h
  ·cases h
 ·cases h
theorem XW {f:FuncId}{k:Ext}(hX:lZ P f k) {args' :Array Operand}{args:List bO}(ha:rW G args' =some args)(h:cg C env s al (.ext k args)=some (d,s')){o:Oper}{tys:Array TypeId}
  (ho:o.op= .call { callee:= .value (.func f),args:=args',argTypes:=tys}):eP P ρ w env a.tmps d s' ((execOp a.eval o).run P w):=by
 simp only [cg]at h;split at h
 ·rename_i l hl;have hr:=nH he hg _ _ l ha hl;obtain⟨e,h1,h2⟩:=hX.run;obtain⟨u,w',g1,g2,g3,g4⟩:=R7 (P:=P) hs h1 hr h;have fK:(execOp a.eval o).run P w= .ok (.value u) w' :=by
   simp only [execOp,ho,resolve,Act.eval,Deferred.ofValue];have h3:=h2 (args'.map a.eval) w;have e:args'.map a.eval=(args'.toList.map a.eval).toArray:=by apply cZ; simp
   rw [Sem.run_bind,e,g1]at h3;simp only [Result.andThen_ok,Sem.run_pure]at h3;rw [← e]at h3;simpa [invoke] using h3
  rw [fK];exact .val g2 g3 g4
 ·cases h
end
end Go.Ab
namespace Go.Ab
open Go
variable [eh]
variable {ρ ρ' :Gh} {w w' :World}{P:Program}{pn:gY}{G:Gl}{X:ig}{A:mT} {s s' :St}{env:Env}{a:Act}{lo:Nat}{d:D}{C:au}{al:Option Nat}
section
variable (he:dW ρ w lo env a.tmps)(hg:gn pn G ρ w)(hs:bK ρ s w)
include he hg hs
omit he hg hs in
theorem nL {t:TypeId}{i:TypeInfo}(h:P.types[t]? =some i):P.info? t=some i:=by
 have eW:t < P.types.size:=by
  rcases aP t P.types.size with h1 | h1
  ·exact h1
  ·rw [cq h1]at h; cases h
 unfold Tables.info?;rw [bQ eW,h]
omit he hg hs in
theorem It {ok b:Bool}{v:D}{u:Value}(h:aR ρ w v u):aR ρ w (EC ok v b) (if ok then .tuple #[u,.bool b] else u):=by
 cases ok with
 | false=>simpa [EC] using h
 | true=>simp only [EC,ei,aR,bu]; exact ⟨_,rfl,_,_,rfl,h,_,_,rfl,rfl,rfl⟩
theorem G4 {t xt:TypeId}{z:D}{ok:Bool} {x' :Operand}{x:bO}(hx:ew G x' =some x){e:TypeDesc}(hu:P.underlying t=some e)(Ra:∀ms,e≠ .interface ms)(hz:jA P t=some z)
  (h:cg C env s al (.sO t z ok x)=some (d,s')){o:Oper}(ho:o.op= .typeAssert x' xt t ok):eP P ρ w env a.tmps d s' ((execOp a.eval o).run P w):=by
 obtain⟨zv,z1,z2,_⟩:=ki (w:=w) hz;have hzr:aR ρ w z zv:=jY _ _ z2
 have Eg:∀dy:Option TypeId,ok=true->aR ρ w (.gW [z,.bool false]) (.tuple #[zv,.bool false]):=fun _ _=>by
  simp only [aR,bu]; exact ⟨_,rfl,_,_,rfl,hzr,_,_,rfl,rfl,rfl⟩
 simp only [cg]at h;split at h
 ·rename_i u v hp;have hv:=bc hx he hg hp;simp only [aR]at hv;obtain⟨q,hv,hq⟩:=hv;split at h
  ·rename_i hb;obtain rfl:=ay hb;simp only [aa,ab]at h;obtain⟨rfl,rfl⟩:=h;have hr:(execOp a.eval o).run P w= .ok (.value (if ok then .tuple #[q,.bool true] else q)) w:=by
    simp only [execOp,ho,hv,Instr.typeAssert]
    cases e <;> first
     | exact absurd rfl (Ra _)
     | (simp [run_underlying hu])
   rw [hr]; exact .rep hs (It hq)
  ·rename_i hb;have dn:u≠t:=by rintro rfl; rw [aA]at hb; cases hb
   split at h
   ·simp only [aa,ab]at h;obtain⟨rfl,rfl⟩:=h;have hr:(execOp a.eval o).run P w= .ok (.value (.tuple #[zv,.bool false])) w:=by
     simp only [execOp,ho,hv,Instr.typeAssert]
     cases e <;> first
      | exact absurd rfl (Ra _)
      | (simp [run_underlying hu,dn,z1])
    rw [hr]; exact .rep hs (Eg none rfl)
   ·cases h
 ·rename_i hp;have hv:=bc hx he hg hp;simp only [aR]at hv;split at h
  ·simp only [aa,ab]at h;obtain⟨rfl,rfl⟩:=h;have hr:(execOp a.eval o).run P w= .ok (.value (.tuple #[zv,.bool false])) w:=by
    simp only [execOp,ho,hv,Instr.typeAssert]
    cases e <;> first
     | exact absurd rfl (Ra _)
     | (simp [run_underlying hu,z1])
   rw [hr]; exact .rep hs (Eg none rfl)
  ·cases h
 ·cases h
omit he hg hs in
theorem oU {o:Nat}:∀ {l:List Nat},pM o l=true↔o∈l
 | []=>by simp [pM]
 | x::r=>by
  simp only [pM,aN];split
  ·rename_i h; exact ⟨fun _=> .inl (ay h).symm,fun _=>rfl⟩
  ·rename_i h;rw [oU];exact⟨.inr,fun q=>q.resolve_left (by rintro rfl; rw [aA]at h; cases h)⟩
omit he hg hs in
theorem uN {want:Array (String×TypeId)}{got:Array Method}:Instr.missingMethod want got=none↔Pv want got=[]:=by
 unfold Instr.missingMethod Pv;simp only [Array.any_toList];generalize want.toList.filter _=L;have hle:∀l:List String,Instr.least l=none↔l=[]:=fun l=>by cases l <;> simp [Instr.least]
 simp only [Option.or_eq_none_iff,Option.orElse_eq_orElse,hle,List.map_eq_nil_iff,List.partition_eq_filter_filter,Option.orElse_eq_or];constructor
 ·rintro⟨h1,h2⟩;cases L with
  | nil=>rfl
  | cons a r=>
   exfalso;simp only [bT,List.filter_cons,Function.comp]at h1 h2;cases h:a.1.contains '.' <;> simp [h]at h1 h2
 ·rintro rfl; simp
omit he hg hs in
theorem Bk {want:Array (String×TypeId)}{u:Nat}:pM u (Ij P want)=true↔∃i,P.types[u]? =some i/\Instr.missingMethod want i.methods=none:=by
 rw [oU];unfold Ij;simp only [jC,Prod.exists];constructor
 ·rintro⟨i,t,h1,h2⟩;rw [jK]at h1;split at h2
  ·rename_i hm;simp only [aa]at h2; subst h2;exact⟨i,by simpa using h1,uN.2 hm⟩
  ·cases h2
 ·rintro⟨i,h1,h2⟩;refine⟨i,u, ?_, ?_⟩
  ·rw [jK]; simpa using h1
  ·simp only [uN.1 h2]
theorem EH {t xt:TypeId}{want:Array (String×TypeId)}{ok:Bool} {x' :Operand}{x:bO}(hx:ew G x' =some x)(hu:P.underlying t=some (.interface want))(hz:jA P t=some .jc)
  (h:cg C env s al (.r9 P.types.size (Ij P want) ok x)=some (d,s')){o:Oper}(ho:o.op= .typeAssert x' xt t ok):eP P ρ w env a.tmps d s' ((execOp a.eval o).run P w):=by
 obtain⟨zv,z1,z2,_⟩:=ki (w:=w) hz;have hzr:aR ρ w .jc zv:=jY _ _ z2;have Eg:aR ρ w (.gW [.jc,.bool false]) (.tuple #[zv,.bool false]):=by
  simp only [aR,bu]at *; exact ⟨_,rfl,_,_,rfl,hzr,_,_,rfl,rfl,rfl⟩
 simp only [cg]at h;split at h
 ·rename_i u v hp;have hv:=bc hx he hg hp;have kB:=hv;simp only [aR]at hv;obtain⟨q,hv,hq⟩:=hv;split at h
  ·rename_i hb;obtain⟨i,hi,hm⟩:=Bk.1 hb;simp only [aa,ab]at h;obtain⟨rfl,rfl⟩:=h;have hr:(execOp a.eval o).run P w= .ok (.value (if ok then .tuple #[a.eval x',.bool true] else a.eval x')) w:=by
    simp only [execOp,ho,hv,Instr.typeAssert];simp [run_underlying hu,typeInfo,nL hi,hm]
   rw [hr]; exact .rep hs (It kB)
  ·rename_i hb;split at h
   ·rename_i hc;simp only [aB]at hc;obtain⟨rfl,eW⟩:=hc;have eW:u < P.types.size:=az eW;simp only [aa,ab]at h;obtain⟨rfl,rfl⟩:=h;have hi:P.types[u]? =some P.types[u]:=cw eW;cases hm:Instr.missingMethod want P.types[u].methods with
    | none=>exact absurd (Bk.2 ⟨_,hi,hm⟩) (by rw [hb]; simp)
    | some msg=>
     have hr:(execOp a.eval o).run P w= .ok (.value (.tuple #[zv,.bool false])) w:=by
      simp only [execOp,ho,hv,Instr.typeAssert];simp [run_underlying hu,typeInfo,nL hi,hm,z1]
     rw [hr]; exact .rep hs Eg
   ·cases h
 ·rename_i hp;have hv:=bc hx he hg hp;simp only [aR]at hv;split at h
  ·simp only [aa,ab]at h;obtain⟨rfl,rfl⟩:=h;have hr:(execOp a.eval o).run P w= .ok (.value (.tuple #[zv,.bool false])) w:=by
    simp only [execOp,ho,hv,Instr.typeAssert];simp [run_underlying hu,z1]
   rw [hr]; exact .rep hs Eg
  ·cases h
 ·cases h
omit he hg hs in
theorem Iq {mx:Bool}:∀(l:List D) (vs:List Value) (d0 d:D) (v0:Value),Pt mx d0 l=some d->aR ρ w d0 v0->bu ρ w l vs->∃v,(vs.foldlM (if mx then Builtin.max2 else Builtin.min2) v0).run P w= .ok v w/\aR ρ w d v
 | [],vs,d0,d,v0,h,h0,hl=>by
  simp only [bu]at hl; subst hl;have:Pt mx d0 []=some d0:=by cases d0 <;> rfl
  rw [this]at h;simp only [aa]at h; subst h;exact⟨v0,by simp,h0⟩
 | x::l,vs,d0,d,v0,h,h0,hl=>by
  simp only [bu]at hl;obtain⟨v1,r,rfl,h1,h2⟩:=hl;unfold Pt at h;split at h
  ·rename_i hh; cases hh
  ·rename_i k p j q l2 hh;simp only [eN]at hh;obtain⟨rfl,rfl⟩:=hh;split at h
   ·rename_i hk;obtain rfl:=bL hk;simp only [aR]at h0 h1;subst h0 h1;obtain⟨v,g1,g2⟩:=Iq l r _ d _ h rfl h2;refine⟨v, ?_,g2⟩;rw [List.foldlM_cons];cases mx <;> simpa [Builtin.max2,Builtin.min2] using g1
   ·cases h
  ·cases h
theorem By {mx:Bool} {l' :List Operand}{l:List bO}{tys:Array TypeId}(hl:l'.mapM (ew G)=some l)(h:cg C env s al (.tT mx l)=some (d,s')){o:Oper}(ho:o.op= .call { callee:= .builtin (if mx then .max else .min),args:=l'.toArray,argTypes:=tys}):
  eP P ρ w env a.tmps d s' ((execOp a.eval o).run P w):=by
 simp only [cg]at h;split at h
 ·rename_i d0 r hev;obtain⟨h1,rfl⟩:=js h;have hr:=nH he hg _ _ _ hl hev;simp only [bu]at hr;obtain⟨v0,vr,e1,e2,e3⟩:=hr;obtain⟨v,g1,g2⟩:=Iq (P:=P) r vr d0 d v0 h1 e2 e3;have fK:(execOp a.eval o).run P w= .ok (.value v) w:=by
   cases mx with
   | false=>
    rw [ic (b:= .min) ho];simp only [builtin,Builtin.min_,eY,e1];rw [Sem.run_bind];simp only [gS,cR]at g1;rw [g1]; rfl
   | true=>
    rw [ic (b:= .max) ho];simp only [builtin,Builtin.max_,eY,e1];rw [Sem.run_bind];simp only [ei]at g1;rw [g1]; rfl
  rw [fK]; exact .rep hs g2
 ·cases h
end
end Go.Ab
namespace Go.Ab
open Go
variable [eh]
variable {ρ ρ' :Gh} {w w' :World}{P:Program}{pn:gY}{G:Gl}{X:ig}{A:mT} {s s' :St}{env:Env}{a:Act}{lo:Nat}{d:D}{C:au}{al:Option Nat}
theorem fv.erase:∀ {es:List (Nat×D×D)} {ces:List MapEntry} (i:Nat),fv ρ w es ces->fv ρ w (es.eraseIdx i) (ces.eraseIdx i)
 | [],_,i,h=>by simp only [fv]at h; subst h; simp [fv]
 | (n,k,v)::es,_,i,h=>by
  simp only [fv]at h;obtain⟨e,r,rfl,h1,h2,h3,h4⟩:=h;cases i with
  | zero=>simpa using h4
  | succ i=>
   simp only [List.eraseIdx_cons_succ,fv];exact⟨e,_,rfl,h1,h2,h3,fv.erase i h4⟩
section
variable (he:dW ρ w lo env a.tmps)(hg:gn pn G ρ w)(hs:bK ρ s w)
include he hg hs
theorem KC {t q e:TypeId}{et:ET} {m' k' :Operand}{m k:bO}{tys:Array TypeId}(hm:ew G m' =some m)(hk:ew G k' =some k)(hu:P.underlying t=some (.map q e))(het:sR P 8 q=some et)(Rk:tys[0]? =some t)
  (h:cg C env s al (.delete et m k)=some (d,s')){o:Oper}(ho:o.op= .call { callee:= .builtin .delete,args:= #[m',k'],argTypes:=tys}):eP P ρ w env a.tmps d s' ((execOp a.eval o).run P w):=by
 have fin:∀w',(Builtin.delete_ tys o.type #[a.eval m',a.eval k']).run P w= .ok (.tuple #[]) w' ->(execOp a.eval o).run P w= .ok (.value (.tuple #[])) w' :=by
  intro w' hw;rw [ic (b:= .delete) ho];simp only [builtin,eY,bT,eH];rw [Sem.run_bind,hw]; rfl
 simp only [cg]at h;split at h
 ·rename_i dm dk Xb Xa;split at h
  ·cases h
  ·rename_i kM;have xN:=bc hm he hg Xb;have yU:=bc hk he hg Xa;have FN:∀em,(Instr.checkKey em 10000 q (a.eval k')).run P w= .ok () w:=fun em=>pe em 8 q et het 10000 (by decide) dk _ kM yU;split at h
   ·simp only [aa,ab]at h;obtain⟨rfl,rfl⟩:=h;simp only [aR]at xN;have hr:(Builtin.delete_ tys o.type #[a.eval m',a.eval k']).run P w= .ok (.tuple #[]) w:=by
     unfold Builtin.delete_;simp [Rk,xN,run_underlying hu,FN]
    rw [fin _ hr];exact .rep hs (by simp [aR,bu])
   ·rename_i ob;split at h
    ·rename_i es c lD;obtain⟨b,ces,k1,one,hb,hM⟩:=hs.ok _ _ lD;simp only [aR,Gh.at,k1]at xN;obtain⟨b',iS,xN⟩:=xN;obtain rfl:=one.2 _ iS;split at h
     ·rename_i i v0 hf;obtain⟨h1,rfl⟩:=gT h;obtain⟨r',g1,g2⟩:=kT (P:=P) het yU hM hf;obtain⟨u0,rfl,g3⟩:=g2
      obtain⟨n1,n2⟩:=lu (ces' :=ces.eraseIdxIfInBounds i) hs lD k1 one hb (by
       have:(ces.eraseIdxIfInBounds i).toList=ces.toList.eraseIdx i:=by
        unfold Array.eraseIdxIfInBounds;split
        ·simp [Array.toList_eraseIdx]
        ·rename_i eW;rw [List.eraseIdx_of_length_le (by simpa using eW)]
       rw [this];exact fv.erase i hM) h1
      have hr:(Builtin.delete_ tys o.type #[a.eval m',a.eval k']).run P w= .ok (.tuple #[]) { w with heap:=w.heap.setIfInBounds b' (.map (ces.eraseIdxIfInBounds i) c)}:=by
       unfold Builtin.delete_;simp [Rk,xN,run_underlying hu,FN,kg hb,g1,kh _ hb]
      rw [fin _ hr];exact .val n1 n2 (by simp [aR,bu])
     ·rename_i hf;obtain⟨h1,rfl⟩:=gT h;obtain⟨r',g1,g2⟩:=kT (P:=P) het yU hM hf;simp only [Found]at g2; subst g2;obtain⟨n1,n2⟩:=lu (ces' :=ces) hs lD k1 one hb hM h1;have hr:(Builtin.delete_ tys o.type #[a.eval m',a.eval k']).run P w= .ok (.tuple #[]) { w with heap:=w.heap.setIfInBounds b' (.map ces c)}:=by
       unfold Builtin.delete_;simp [Rk,xN,run_underlying hu,FN,kg hb,g1,kh _ hb]
      rw [fin _ hr];exact .val n1 n2 (by simp [aR,bu])
     ·cases h
    ·cases h
   ·cases h
 ·cases h
theorem PR {t:TypeId} {x' :Operand}{x:bO}(hx:ew G x' =some x)(hu:P.underlying t=some .string)(h:cg C env s al (.range x)=some (d,s')){o:Oper}(ho:o.op= .range t x'):
  eP P ρ w env a.tmps d s' ((execOp a.eval o).run P w):=by
 simp only [cg]at h;split at h
 ·rename_i l hp;have hv:=bc hx he hg hp;simp only [aR]at hv;split at h
  ·rename_i k s2 hm;simp only [aa,ab]at h;obtain⟨rfl,rfl⟩:=h;obtain⟨n1,n2,n3,n4⟩:=zy (w' :=w.alloc (.stringIter ⟨⟨l⟩⟩ 0)) hs hm 1 0 0 rfl rfl rfl rfl (fun hK oO hh=>⟨w.heap.size,by simp [Gh.new],oO,hh⟩);have fK:(execOp a.eval o).run P w= .ok (.value (.pointer (some ⟨w.heap.size,0,none⟩))) (w.alloc (.stringIter ⟨⟨l⟩⟩ 0)):=by
    simp only [execOp,ho];simp [Instr.range,run_underlying hu,hv,newObj];rfl
   rw [fK];exact .val n1 n2 (by simp only [aR,Gh.at,n4]; exact ⟨_,n3,rfl⟩)
  ·cases h
 ·cases h
theorem PO {x' :Operand}{x:bO}(hx:ew G x' =some x)(h:cg C env s al (.uO x)=some (d,s')){o:Oper}(ho:o.op= .next x' true):
  eP P ρ w env a.tmps d s' ((execOp a.eval o).run P w):=by
 simp only [cg]at h;split at h
 ·rename_i ob hp;have hv:=bc hx he hg hp;split at h
  ·rename_i l pos lD;obtain⟨b,k1,one,hb⟩:=hs.ok _ _ lD;simp only [aR,Gh.at,k1]at hv;obtain⟨b',iS,hv⟩:=hv;obtain rfl:=one.2 _ iS;have jn:(getObj b').run P w= .ok (.stringIter ⟨⟨l⟩⟩ pos) w:=by simp [getObj,Sem.run,hb]
   have iB:∀ob:Go.Obj,(setObj b' ob).run P w= .ok () { w with heap:=w.heap.setIfInBounds b' ob}:=fun ob=>by simp [setObj,Sem.run,hb]
   split at h
   ·rename_i eW;have eW:pos < l.length:=az eW;obtain⟨h1,rfl⟩:=gT h
    obtain⟨n1,n2⟩:Kp ρ w ρ { w with heap:=w.heap.setIfInBounds b' (.stringIter ⟨⟨l⟩⟩ (pos+(Utf8.decode ⟨⟨l⟩⟩ pos).2))}/\bK ρ s' { w with heap:=w.heap.setIfInBounds b' (.stringIter ⟨⟨l⟩⟩ (pos+(Utf8.decode ⟨⟨l⟩⟩ pos).2))}:=
     sP hs h1 one.1 (hs.lt _ _ lD) (fun _ h=>wY h) (by simp) rfl rfl rfl fun hK=>⟨b',k1,one,wX (xL hb)⟩
    have hr:(execOp a.eval o).run P w= .ok (.value (.tuple #[.bool true,goInt pos,.int .i32 (Utf8.decode ⟨⟨l⟩⟩ pos).1])) { w with heap:=w.heap.setIfInBounds b' (.stringIter ⟨⟨l⟩⟩ (pos+(Utf8.decode ⟨⟨l⟩⟩ pos).2))}:=by
     simp only [execOp,ho,hv,Instr.next];rw [Sem.run_bind,Sem.run_bind,jn];simp [ByteArray.size_mk',eW,iB]
    rw [hr];exact .val n1 n2 (by simp [aR,bu,Gy,goInt])
   ·rename_i eW
    have eW: ¬ pos < l.length:=fun hc=>by
     have:Nat.blt pos l.length=true:=ax hc;rw [this]at eW; cases eW
    simp only [aa,ab]at h;obtain⟨rfl,rfl⟩:=h;have hr:(execOp a.eval o).run P w= .ok (.value (.tuple #[.bool false])) w:=by
     simp only [execOp,ho,hv,Instr.next];rw [Sem.run_bind,Sem.run_bind,jn];simp [ByteArray.size_mk',eW]
    rw [hr];exact .rep hs (by simp [aR,bu])
  ·cases h
 ·cases h
end
end Go.Ab
