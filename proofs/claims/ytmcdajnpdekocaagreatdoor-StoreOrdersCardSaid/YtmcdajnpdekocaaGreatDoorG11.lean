/- Part. -/
import Derived.Test.YtmcdajnpdekocaaGreatDoorG10
set_option linter.unusedSectionVars false
set_option linter.unusedSimpArgs false
set_option linter.unusedVariables false
namespace Go.Ab
open Go
variable [Vals]
variable {ρ ρ' :Gh} {w w' :World}{P:Program}{pn:Pins}{G:Gl}{X:Exts}{A:Adv} {s s' :St}{env:Env}{a:Act}{lo:Nat}{d:D}{C:zAa}{al:Option Nat}
def zZt (e:Array Value→Sem Value):Ext→Prop
 | .nop=>e=(fun _=>do mark .disable; pure Extern.Race.none_)∨e=(fun _=>do mark .enable; pure Extern.Race.none_)
 | .race=>e=Extern.Race.marked .acquire∨e=Extern.Race.marked .releaseMerge
 | .idp=>e=Extern.AbiNoEscape.same
 | .aload k=>e=Extern.Atomic.loadT (.int k)
 | .astore=>e=Extern.Atomic.storeT
 | .acas k=>e=Extern.Atomic.casT (.int k)
 | .aadd k=>e=Extern.Atomic.update (Op.intArith .add) k true
structure zQi (P:Program)(f:FuncId)(k:Ext):Prop where
 ok : ∃ fn e, P.funcs[f]? = some fn ∧ fn.body = none ∧ (fn.name == "runtime.NumGoroutine") = false ∧ Extern.findNext fn = none ∧ Extern.find fn = some e ∧ zZt e k
theorem zQi.run {f:FuncId}{k:Ext}(h:zQi P f k):∃e,zZt e k∧∀(args:Array Value) w,(callFunc f args).run P w=((do pure (.value (← e args))):Sem Next).run P w:=by
 obtain⟨fn,e,h1,h2,h3,h4,h5,h6⟩:=h.ok
 refine⟨e,h6,fun args w=> ?_⟩
 have h3 : fn.name ≠ "runtime.NumGoroutine" := by simpa using h3
 simp [callFunc,h1,h2,h3,h4,h5]
theorem loadT_eq (t:Extern.Atomic.T)(x:Value):Extern.Atomic.loadT t #[x]=(do Extern.Atomic.read t (← asAddr x)):=rfl
theorem yEu (x v:Value):Extern.Atomic.storeT #[x,v]=(do store (← asAddr x) v .atomic; pure Extern.Atomic.none_):=rfl
theorem casT_eq (k:IntKind)(x:Value)(j1 j2:IntKind)(n1 n2:Int):Extern.Atomic.casT (.int k) #[x,.int j1 n1,.int j2 n2]=(do
  let a ← asAddr x
  if ← Extern.Atomic.touchesFrozen a then unsupported (.unsafePointer "a write to bytes that a string shares")
  let eq ← match Extern.Atomic.T.int k,← Extern.Atomic.read (.int k) a,Value.int j1 n1 with
   | _,.int _ x,.int _ y=>pure (x==y)
   | .ptr,.pointer x,.pointer y=>samePointer x y
   | .int _,.pointer (some _),.int _ 0 | .int _,.int _ 0,.pointer (some _)=>pure false
   | .int _,.pointer (some _),_ | .int _,_,.pointer (some _)=>unsupported .addressObserved
   | _, _, _ => stuck "atomic.CompareAndSwap: old is no T"
  if eq then store a (.int j2 n2) .atomic
  pure (.bool eq)):=rfl
theorem yEq (op:IntKind→Int→Int→Sem Value)(k:IntKind)(x y:Value):Extern.Atomic.update op k true #[x,y]=(do
  let a ← asAddr x
  let old ← Extern.Atomic.read (.int k) a
  let new ← op k (← asInt old) (← asInt y)
  store a new .atomic
  pure new):=rfl
structure Sb (s s1:St):Prop where
 n:s1.n=s.n
 lk:s1.lk=s.lk
 ro:s.ro=true
 ro1:s1.ro=true
 get:∀o x,s.get o=some x→s1.get o=some x
def RoX (C:zAa):Prop:=∀f l s d s' s1,Sb s s1→C f l s=some (d,s')→s' =s∧C f l s1=some (d,s1)
structure ClO (pn:Pins)(P:Program)(G:Gl)(C:zAa):Prop where
 enter:∀f l s r,C f l s=some r→(f≠0∨yS l=false)→∀(args:Array Value) w,(callFunc f args).run P w= .ok (.enter f args) w
 calls:∀f l s d s' ρ w vs,C f l s=some (d,s')→zPl ρ s w→GlOk pn G ρ w→RepL ρ w l vs→Calls P f vs.toArray w (zCl ρ w s' d)
 ro:∀f l s d s',s.ro=true→C f l s=some (d,s')→s' =s
 yields:∀y l s d s' ρ w u vs,C 0 (.lv y::l) s=some (d,s')→zPl ρ s w→GlOk pn G ρ w→Rep ρ w y u→RepL ρ w l vs→∃b,u= .func (.yield b) #[] #[]∧YieldAt Fence.wide 0 P b vs.toArray w (zCl ρ w s' d)
 rox:RoX C
theorem RepL.yS {l:List D}{vs:List Value}(h:RepL ρ w l vs):yS l=false:=by
 cases l with
 | nil=>rfl
 | cons x r=>
  simp only [RepL]at h
  obtain⟨v,_,_,hv,_⟩:=h
  cases x <;> first | rfl | simp [Rep]at hv
section
variable (he:EnR ρ w lo env a.tmps)(hg:GlOk pn G ρ w)(hs:zPl ρ s w)
include he hg hs
omit hs in
theorem zEm:∀(l' :List Operand) (l:List Opd) (ds:List D),l'.mapM (opd G)=some l→evs env l=some ds→RepL ρ w ds (l'.map a.eval)
 | [],l,ds,h,h' =>by
  simp at h; subst h
  simp only [evs,Option.some.injEq]at h'; subst h'
  simp [RepL]
 | x::l',l,ds,h,h' =>by
  simp only [List.mapM_cons,Option.pure_def,Option.bind_eq_bind,Option.bind_eq_some_iff]at h
  obtain⟨y,h1,q,h2,h3⟩:=h
  simp only [Option.some.injEq]at h3; subst h3
  simp only [evs]at h'
  split at h'
  ·rename_i d hd
   split at h'
   ·rename_i t ht
    simp only [Option.some.injEq]at h'; subst h'
    simp only [List.map_cons,RepL]
    exact⟨_,_,rfl,opR h1 he hg hd,zEm l' q t h2 ht⟩
   ·cases h'
  ·cases h'
theorem ok_call (hC:ClO pn P G C){f:FuncId} {args' :Array Operand}{args:List Opd}(ha:opds G args' =some args)(h:opF C env s al (.call false f args)=some (d,s')){o:Oper}{tys:Array TypeId}
  (ho:o.op= .call { callee:= .value (.func f),args:=args',argTypes:=tys}):OpOk P ρ w env a.tmps d s' ((execOp a.eval o).run P w):=by
 simp only [opF]at h
 split at h
 ·rename_i l hl
  have hr:=zEm he hg _ _ l ha hl
  have hrun:(execOp a.eval o).run P w= .ok (.enter f (args'.map a.eval)) w:=by
   simp only [execOp,ho,resolve,Act.eval,Deferred.ofValue]
   have:=hC.enter _ _ _ _ h (.inr hr.yS) (args'.map a.eval) w
   simpa [invoke] using this
  rw [hrun]
  refine⟨rfl, ?_⟩
  have:=hC.calls _ _ _ _ _ ρ w _ h hs hg hr
  simpa [← Array.toList_map] using this
 ·cases h
theorem ok_callv (hC:ClO pn P G C) {f' :Operand}{f:Opd} {args' :Array Operand}{args:List Opd}(hf:opd G f' =some f)(ha:opds G args' =some args)(h:opF C env s al (.callv f args)=some (d,s')){o:Oper}{tys:Array TypeId}
  (ho:o.op= .call { callee:= .value f',args:=args',argTypes:=tys}):OpOk P ρ w env a.tmps d s' ((execOp a.eval o).run P w):=by
 simp only [opF]at h
 split at h
 ·rename_i g x y l hfv hl
  have hr:=zEm he hg _ _ l ha hl
  have hv:=opR hf he hg hfv
  simp only [Rep]at hv
  obtain⟨va,vc,hv,hx,hy⟩:=hv
  have hrun:(execOp a.eval o).run P w= .ok (.enter g (va++args'.map a.eval++vc)) w:=by
   simp only [execOp,ho,resolve,hv,Deferred.ofValue]
   have:=hC.enter _ _ _ _ h (.inr ((hx.append hr).append hy).yS) (va++args'.map a.eval++vc) w
   simpa [invoke] using this
  rw [hrun]
  refine⟨rfl, ?_⟩
  have:=hC.calls _ _ _ _ _ ρ w _ h hs hg ((hx.append hr).append hy)
  have e:(va.toList++List.map a.eval args'.toList++vc.toList).toArray=va++args'.map a.eval++vc:=by
   apply Array.ext'; simp
  rwa [e]at this
 ·rename_i o1 l hfv hl
  have hr:=zEm he hg _ _ l ha hl
  have hv:=opR hf he hg hfv
  obtain⟨b,hb,fn,tmps,assign,body,hrun,hround⟩:=hC.yields _ _ _ _ _ ρ w _ _ h hs hg hv hr
  have hrun' :(execOp a.eval o).run P w= .ok (.round b fn tmps assign body) w:=by
   simp only [execOp,ho,resolve,hb,Deferred.ofValue]
   simpa [invoke,← Array.toList_map] using hrun
  rw [hrun']
  exact⟨rfl,hround⟩
 ·cases h
omit he hg in
theorem ext_run {k:Ext}{l:List D}{vs:List Value}{e:Array Value→Sem Value}(he:zZt e k)(hl:RepL ρ w l vs)(h:extD s k l=some (d,s')):
  ∃u w',(e vs.toArray).run P w= .ok u w' ∧Kp ρ w ρ w' ∧zPl ρ s' w' ∧Rep ρ w' d u:=by
 have one:∀(b c:Nat) (x:Value),w.setCells b c [x]=w.setCell ⟨b,c,none⟩ x:=fun _ _ _=>rfl
 have rd:∀(o c:Nat) (p:Value) (j:IntKind) (n:Int),Rep ρ w (.ptr o c) p→zPr s none (.ptr o c)=some (.int j n)→∃b,p= .pointer (some ⟨b,c,none⟩)∧w.cell? ⟨b,c,none⟩=some (.int j n)∧w.frozen? ⟨b,c,none⟩=false∧∃cs e,w.heap[b]? =some (.cells cs e (0,0)):=by
  intro o c p j n hp hld
  simp only [zPr]at hld
  split at hld
  ·rename_i ty v hob
   obtain⟨b,u,k1,one',r1,r2,r3,r4⟩:=hs.ok _ _ hob
   simp only [Rep,Gh.at,k1]at hp
   obtain⟨b',hb',hp⟩:=hp
   obtain rfl:=one'.2 _ hb'
   have g1:=zGx (r1.flat r4).1 (D.st_flat r4) hld
   obtain⟨x,g2,g3,_⟩:=g1
   simp only [Rep]at g3; subst g3
   refine⟨b',hp, ?_,by simp [World.frozen?,r2],_,_,r2⟩
   rw [zAc r2]; simpa using g2
  ·cases hld
 have wr:∀(o c:Nat) (p:Value) (j:IntKind) (n:Int) (s' :St),Rep ρ w (.ptr o c) p→zCd s 1 (.ptr o c) (.int j n)=some s' →∃b,p= .pointer (some ⟨b,c,none⟩)∧(∀m,(store ⟨b,c,none⟩ (.int j n) m).run P w= .ok () (w.setCell ⟨b,c,none⟩ (.int j n)))∧
   Kp ρ w ρ (w.setCell ⟨b,c,none⟩ (.int j n))∧zPl ρ s' (w.setCell ⟨b,c,none⟩ (.int j n)):=by
  intro o c p j n s' hp hst
  have hc:∃b c',p= .pointer (some ⟨b,c',none⟩)∧c' =c:=by
   have:=hp
   simp only [Rep]at this
   unfold zCd at hst
   simp only [D.flat]at hst
   split at hst
   ·cases hst
   ·split at hst
    ·rename_i ty v hob
     obtain⟨b,u,k1,one',_⟩:=hs.ok _ _ hob
     simp only [Gh.at,k1]at this
     obtain⟨b',_,hp⟩:=this
     exact⟨b',c,hp,rfl⟩
    ·cases hst
  obtain⟨b,c',hp1,rfl⟩:=hc
  obtain⟨b2,c2,e1,e2,e3,e4,n1,n2⟩:=zOv hs hp (show Rep ρ w (.int j n) (.int j n) by simp [Rep]) hst
  rw [hp1]at e1
  simp only [Value.pointer.injEq,Option.some.injEq,Addr.mk.injEq]at e1
  obtain⟨rfl,rfl,_⟩:=e1
  refine⟨b,hp1,fun m=> ?_,by simpa [Value.cells,one] using n1,by simpa [Value.cells,one] using n2⟩
  obtain⟨h1,h2⟩:=e4 0 (by omega)
  simp only [Nat.add_zero]at h1 h2
  obtain⟨q,hq⟩:=Option.isSome_iff_exists.1 h1
  rw [run_store P w _ _ m rfl,hq,h2]
  simp
 unfold extD at h
 split at h
 ·simp only [Option.some.injEq,Prod.mk.injEq]at h
  obtain⟨rfl,rfl⟩:=h
  refine⟨.tuple #[],w, ?_,Kp.refl _ _,hs,by simp [Rep,RepL]⟩
  rcases he with rfl | rfl <;> simp [Extern.Race.none_]
 ·simp only [Option.some.injEq,Prod.mk.injEq]at h
  obtain⟨rfl,rfl⟩:=h
  simp only [RepL]at hl
  obtain⟨p,_,rfl,hp,rfl⟩:=hl
  simp only [Rep]at hp
  obtain⟨q,rfl⟩:=Gh.at_any hp fun _ _ q=>⟨_,q⟩
  refine⟨.tuple #[],w, ?_,Kp.refl _ _,hs,by simp [Rep,RepL]⟩
  rcases he with rfl | rfl <;> simp [Extern.Race.marked,Extern.Race.at_,Extern.Race.none_]
 ·simp only [Option.some.injEq,Prod.mk.injEq]at h
  obtain⟨rfl,rfl⟩:=h
  simp only [RepL]at hl
  obtain⟨p,_,rfl,hp,rfl⟩:=hl
  obtain rfl:=he
  exact⟨p,w,rfl,Kp.refl _ _,hs,hp⟩
 ·simp only [Option.some.injEq,Prod.mk.injEq]at h
  obtain⟨rfl,rfl⟩:=h
  simp only [RepL]at hl
  obtain⟨p,_,rfl,hp,rfl⟩:=hl
  obtain rfl:=he
  exact⟨p,w,rfl,Kp.refl _ _,hs,hp⟩
 ·rename_i k o c
  split at h
  ·rename_i j n hld
   split at h
   ·rename_i hk
    have hk:=of_decide_eq_true hk; subst hk
    simp only [Option.some.injEq,Prod.mk.injEq]at h
    obtain⟨rfl,rfl⟩:=h
    simp only [RepL]at hl
    obtain⟨p,_,rfl,hp,rfl⟩:=hl
    obtain⟨b,rfl,h1,h2,_⟩:=rd o c p _ n hp hld
    obtain rfl:=he
    refine⟨.int k n,w, ?_,Kp.refl _ _,hs,by simp [Rep]⟩
    simp [loadT_eq,asAddr,Extern.Atomic.read,h1]
   ·cases h
  ·cases h
 ·rename_i o c j n
  obtain⟨h1,rfl⟩:=zBd h
  simp only [RepL]at hl
  obtain⟨p,_,rfl,hp,x,_,rfl,hx,rfl⟩:=hl
  simp only [Rep]at hx; subst hx
  obtain⟨b,rfl,h2,h3,h4⟩:=wr o c p j n s' hp h1
  obtain rfl:=he
  refine⟨.tuple #[],_, ?_,h3,h4,by simp [Rep,RepL]⟩
  simp [yEu,asAddr,h2,Extern.Atomic.none_]
 ·rename_i k o c j1 a1 j n
  split at h
  ·rename_i j' x hld
   split at h
   ·rename_i hk
    simp only [Bool.and_eq_true,decide_eq_true_eq]at hk
    obtain⟨rfl,rfl⟩:=hk
    simp only [RepL]at hl
    obtain⟨p,_,rfl,hp,y1,_,rfl,hy1,y2,_,rfl,hy2,rfl⟩:=hl
    simp only [Rep]at hy1 hy2; subst hy1 hy2
    obtain⟨b,rfl,h1,h2,cs,e0,h3⟩:=rd o c p _ x hp hld
    obtain rfl:=he
    have htf:(Extern.Atomic.touchesFrozen ⟨b,c,none⟩).run P w= .ok false w:=by
     simp [Extern.Atomic.touchesFrozen,viewAt,shape,World.shape?,frozen,h3,h2,Sem.run]
    split at h
    ·rename_i hxa
     have hxa:x=a1:=by simpa using hxa
     obtain⟨h4,rfl⟩:=zBd h
     obtain⟨b2,e2,g2,g3,g4⟩:=wr o c _ _ n s' hp h4
     simp only [Value.pointer.injEq,Option.some.injEq,Addr.mk.injEq]at e2
     obtain⟨rfl,_⟩:=e2
     refine⟨.bool true,_, ?_,g3,g4,by simp [Rep]⟩
     simp [casT_eq,asAddr,htf,Extern.Atomic.read,h1,hxa,g2]
    ·rename_i hxa
     have hxa: ¬ x=a1:=by simpa using hxa
     simp only [Option.some.injEq,Prod.mk.injEq]at h
     obtain⟨rfl,rfl⟩:=h
     refine⟨.bool false,w, ?_,Kp.refl _ _,hs,by simp [Rep]⟩
     simp [casT_eq,asAddr,htf,Extern.Atomic.read,h1,hxa]
   ·cases h
  ·cases h
 ·rename_i k o c j1 n
  split at h
  ·rename_i j x hld
   split at h
   ·rename_i hk
    have hk:=of_decide_eq_true hk; subst hk
    obtain⟨h4,rfl⟩:=zBd h
    simp only [RepL]at hl
    obtain⟨p,_,rfl,hp,y1,_,rfl,hy1,rfl⟩:=hl
    simp only [Rep]at hy1; subst hy1
    obtain⟨b,rfl,h1,h2,_⟩:=rd o c p _ x hp hld
    obtain rfl:=he
    obtain⟨b2,e2,g2,g3,g4⟩:=wr o c _ _ _ s' hp h4
    simp only [Value.pointer.injEq,Option.some.injEq,Addr.mk.injEq]at e2
    obtain⟨rfl,_⟩:=e2
    refine⟨.int k (k.wrap (x+n)),_, ?_,g3,g4,by simp [Rep]⟩
    simp [yEq,asAddr,Extern.Atomic.read,h1,asInt,asIntOf,Op.intArith,g2]
   ·cases h
  ·cases h
 ·cases h
theorem ok_ext {f:FuncId}{k:Ext}(hX:zQi P f k) {args' :Array Operand}{args:List Opd}(ha:opds G args' =some args)(h:opF C env s al (.ext k args)=some (d,s')){o:Oper}{tys:Array TypeId}
  (ho:o.op= .call { callee:= .value (.func f),args:=args',argTypes:=tys}):OpOk P ρ w env a.tmps d s' ((execOp a.eval o).run P w):=by
 simp only [opF]at h
 split at h
 ·rename_i l hl
  have hr:=zEm he hg _ _ l ha hl
  obtain⟨e,h1,h2⟩:=hX.run
  obtain⟨u,w',g1,g2,g3,g4⟩:=ext_run (P:=P) hs h1 hr h
  have hrun:(execOp a.eval o).run P w= .ok (.value u) w' :=by
   simp only [execOp,ho,resolve,Act.eval,Deferred.ofValue]
   have h3:=h2 (args'.map a.eval) w
   have e:args'.map a.eval=(args'.toList.map a.eval).toArray:=by apply Array.ext'; simp
   rw [Sem.run_bind,e,g1]at h3
   simp only [Result.andThen_ok,Sem.run_pure]at h3
   rw [← e]at h3
   simpa [invoke] using h3
  rw [hrun]
  exact .val g2 g3 g4
 ·cases h
end
end Go.Ab
namespace Go.Ab
open Go
variable [Vals]
variable {ρ ρ' :Gh} {w w' :World}{P:Program}{pn:Pins}{G:Gl}{X:Exts}{A:Adv} {s s' :St}{env:Env}{a:Act}{lo:Nat}{d:D}{C:zAa}{al:Option Nat}
section
variable (he:EnR ρ w lo env a.tmps)(hg:GlOk pn G ρ w)(hs:zPl ρ s w)
include he hg hs
omit he hg hs in
theorem zHt {t:TypeId}{i:TypeInfo}(h:P.types[t]? =some i):P.info? t=some i:=by
 have hlt:t < P.types.size:=by
  rcases Nat.lt_or_ge t P.types.size with h1 | h1
  ·exact h1
  ·rw [Array.getElem?_eq_none h1]at h; cases h
 unfold Tables.info?
 rw [if_pos hlt,h]
omit he hg hs in
theorem yBb {ok b:Bool}{v:D}{u:Value}(h:Rep ρ w v u):Rep ρ w (okD ok v b) (if ok then .tuple #[u,.bool b] else u):=by
 cases ok with
 | false=>simpa [okD] using h
 | true=>simp only [okD,if_true,Rep,RepL]; exact ⟨_,rfl,_,_,rfl,h,_,_,rfl,rfl,rfl⟩
theorem zXy {t xt:TypeId}{z:D}{ok:Bool} {x' :Operand}{x:Opd}(hx:opd G x' =some x){e:TypeDesc}(hu:P.underlying t=some e)(hni:∀ms,e≠ .interface ms)(hz:zPu P t=some z)
  (h:opF C env s al (.tassert t z ok x)=some (d,s')){o:Oper}(ho:o.op= .typeAssert x' xt t ok):OpOk P ρ w env a.tmps d s' ((execOp a.eval o).run P w):=by
 obtain⟨zv,z1,z2,_⟩:=zCi (w:=w) hz
 have hzr:Rep ρ w z zv:=zCg _ _ z2
 have hfail:∀dy:Option TypeId,ok=true→Rep ρ w (.tup [z,.bool false]) (.tuple #[zv,.bool false]):=fun _ _=>by
  simp only [Rep,RepL]; exact ⟨_,rfl,_,_,rfl,hzr,_,_,rfl,rfl,rfl⟩
 simp only [opF]at h
 split at h
 ·rename_i u v hp
  have hv:=opR hx he hg hp
  simp only [Rep]at hv
  obtain⟨q,hv,hq⟩:=hv
  split at h
  ·rename_i hb
   obtain rfl:=Nat.eq_of_beq_eq_true hb
   simp only [Option.some.injEq,Prod.mk.injEq]at h
   obtain⟨rfl,rfl⟩:=h
   have hr:(execOp a.eval o).run P w= .ok (.value (if ok then .tuple #[q,.bool true] else q)) w:=by
    simp only [execOp,ho,hv,Instr.typeAssert]
    cases e <;> first
     | exact absurd rfl (hni _)
     | (simp [run_underlying hu])
   rw [hr]; exact .rep hs (yBb hq)
  ·rename_i hb
   have hne:u≠t:=by rintro rfl; rw [Nat.beq_refl]at hb; cases hb
   split at h
   ·simp only [Option.some.injEq,Prod.mk.injEq]at h
    obtain⟨rfl,rfl⟩:=h
    have hr:(execOp a.eval o).run P w= .ok (.value (.tuple #[zv,.bool false])) w:=by
     simp only [execOp,ho,hv,Instr.typeAssert]
     cases e <;> first
      | exact absurd rfl (hni _)
      | (simp [run_underlying hu,hne,z1])
    rw [hr]; exact .rep hs (hfail none rfl)
   ·cases h
 ·rename_i hp
  have hv:=opR hx he hg hp
  simp only [Rep]at hv
  split at h
  ·simp only [Option.some.injEq,Prod.mk.injEq]at h
   obtain⟨rfl,rfl⟩:=h
   have hr:(execOp a.eval o).run P w= .ok (.value (.tuple #[zv,.bool false])) w:=by
    simp only [execOp,ho,hv,Instr.typeAssert]
    cases e <;> first
     | exact absurd rfl (hni _)
     | (simp [run_underlying hu,z1])
   rw [hr]; exact .rep hs (hfail none rfl)
  ·cases h
 ·cases h
omit he hg hs in
theorem zGz {o:Nat}:∀ {l:List Nat},memN o l=true↔o∈l
 | []=>by simp [memN]
 | x::r=>by
  simp only [memN,List.mem_cons]
  split
  ·rename_i h; exact ⟨fun _=> .inl (Nat.eq_of_beq_eq_true h).symm,fun _=>rfl⟩
  ·rename_i h
   rw [zGz]
   exact⟨.inr,fun q=>q.resolve_left (by rintro rfl; rw [Nat.beq_refl]at h; cases h)⟩
omit he hg hs in
theorem zRs {want:Array (String×TypeId)}{u:Nat}:memN u (yHs P want)=true↔∃i,P.types[u]? =some i∧Instr.missingMethod want i.methods=none:=by
 rw [zGz]
 unfold yHs
 simp only [List.mem_filterMap,Prod.exists]
 constructor
 ·rintro⟨i,t,h1,h2⟩
  rw [List.mem_zipIdx_iff_getElem?]at h1
  split at h2
  ·rename_i hm
   simp only [Option.some.injEq]at h2; subst h2
   exact⟨i,by simpa using h1,hm⟩
  ·cases h2
 ·rintro⟨i,h1,h2⟩
  refine⟨i,u, ?_, ?_⟩
  ·rw [List.mem_zipIdx_iff_getElem?]; simpa using h1
  ·simp only [h2]
theorem zUc {t xt:TypeId}{want:Array (String×TypeId)}{ok:Bool} {x' :Operand}{x:Opd}(hx:opd G x' =some x)(hu:P.underlying t=some (.interface want))(hz:zPu P t=some .nili)
  (h:opF C env s al (.tassertI P.types.size (yHs P want) ok x)=some (d,s')){o:Oper}(ho:o.op= .typeAssert x' xt t ok):OpOk P ρ w env a.tmps d s' ((execOp a.eval o).run P w):=by
 obtain⟨zv,z1,z2,_⟩:=zCi (w:=w) hz
 have hzr:Rep ρ w .nili zv:=zCg _ _ z2
 have hfail:Rep ρ w (.tup [.nili,.bool false]) (.tuple #[zv,.bool false]):=by
  simp only [Rep,RepL]at *; exact ⟨_,rfl,_,_,rfl,hzr,_,_,rfl,rfl,rfl⟩
 simp only [opF]at h
 split at h
 ·rename_i u v hp
  have hv:=opR hx he hg hp
  have hv0:=hv
  simp only [Rep]at hv
  obtain⟨q,hv,hq⟩:=hv
  split at h
  ·rename_i hb
   obtain⟨i,hi,hm⟩:=zRs.1 hb
   simp only [Option.some.injEq,Prod.mk.injEq]at h
   obtain⟨rfl,rfl⟩:=h
   have hr:(execOp a.eval o).run P w= .ok (.value (if ok then .tuple #[a.eval x',.bool true] else a.eval x')) w:=by
    simp only [execOp,ho,hv,Instr.typeAssert]
    simp [run_underlying hu,typeInfo,zHt hi,hm]
   rw [hr]; exact .rep hs (yBb hv0)
  ·rename_i hb
   split at h
   ·rename_i hc
    simp only [Bool.and_eq_true]at hc
    obtain⟨rfl,hlt⟩:=hc
    have hlt:u < P.types.size:=Nat.le_of_ble_eq_true hlt
    simp only [Option.some.injEq,Prod.mk.injEq]at h
    obtain⟨rfl,rfl⟩:=h
    have hi:P.types[u]? =some P.types[u]:=Array.getElem?_eq_getElem hlt
    cases hm:Instr.missingMethod want P.types[u].methods with
    | none=>exact absurd (zRs.2 ⟨_,hi,hm⟩) (by rw [hb]; simp)
    | some msg=>
     have hr:(execOp a.eval o).run P w= .ok (.value (.tuple #[zv,.bool false])) w:=by
      simp only [execOp,ho,hv,Instr.typeAssert]
      simp [run_underlying hu,typeInfo,zHt hi,hm,z1]
     rw [hr]; exact .rep hs hfail
   ·cases h
 ·rename_i hp
  have hv:=opR hx he hg hp
  simp only [Rep]at hv
  split at h
  ·simp only [Option.some.injEq,Prod.mk.injEq]at h
   obtain⟨rfl,rfl⟩:=h
   have hr:(execOp a.eval o).run P w= .ok (.value (.tuple #[zv,.bool false])) w:=by
    simp only [execOp,ho,hv,Instr.typeAssert]
    simp [run_underlying hu,z1]
   rw [hr]; exact .rep hs hfail
  ·cases h
 ·cases h
omit he hg hs in
theorem yBd {mx:Bool}:∀(l:List D) (vs:List Value) (d0 d:D) (v0:Value),minI mx d0 l=some d→Rep ρ w d0 v0→RepL ρ w l vs→∃v,(vs.foldlM (if mx then Builtin.max2 else Builtin.min2) v0).run P w= .ok v w∧Rep ρ w d v
 | [],vs,d0,d,v0,h,h0,hl=>by
  simp only [RepL]at hl; subst hl
  have:minI mx d0 []=some d0:=by cases d0 <;> rfl
  rw [this]at h
  simp only [Option.some.injEq]at h; subst h
  exact⟨v0,by simp,h0⟩
 | x::l,vs,d0,d,v0,h,h0,hl=>by
  simp only [RepL]at hl
  obtain⟨v1,r,rfl,h1,h2⟩:=hl
  unfold minI at h
  split at h
  ·rename_i hh; cases hh
  ·rename_i k p j q l2 hh
   simp only [List.cons.injEq]at hh
   obtain⟨rfl,rfl⟩:=hh
   split at h
   ·rename_i hk
    obtain rfl:=of_decide_eq_true hk
    simp only [Rep]at h0 h1
    subst h0 h1
    obtain⟨v,g1,g2⟩:=yBd l r _ d _ h rfl h2
    refine⟨v, ?_,g2⟩
    rw [List.foldlM_cons]
    cases mx <;> simpa [Builtin.max2,Builtin.min2] using g1
   ·cases h
  ·cases h
theorem zRk {mx:Bool} {l' :List Operand}{l:List Opd}{tys:Array TypeId}(hl:l'.mapM (opd G)=some l)(h:opF C env s al (.minmax mx l)=some (d,s')){o:Oper}(ho:o.op= .call { callee:= .builtin (if mx then .max else .min),args:=l'.toArray,argTypes:=tys}):
  OpOk P ρ w env a.tmps d s' ((execOp a.eval o).run P w):=by
 simp only [opF]at h
 split at h
 ·rename_i d0 r hev
  obtain⟨h1,rfl⟩:=zBu h
  have hr:=zEm he hg _ _ _ hl hev
  simp only [RepL]at hr
  obtain⟨v0,vr,e1,e2,e3⟩:=hr
  obtain⟨v,g1,g2⟩:=yBd (P:=P) r vr d0 d v0 h1 e2 e3
  have hrun:(execOp a.eval o).run P w= .ok (.value v) w:=by
   cases mx with
   | false=>
    rw [zAz (b:= .min) ho]
    simp only [builtin,Builtin.min_,List.map_toArray,e1]
    rw [Sem.run_bind]
    simp only [if_false,Bool.false_eq_true]at g1
    rw [g1]; rfl
   | true=>
    rw [zAz (b:= .max) ho]
    simp only [builtin,Builtin.max_,List.map_toArray,e1]
    rw [Sem.run_bind]
    simp only [if_true]at g1
    rw [g1]; rfl
  rw [hrun]; exact .rep hs g2
 ·cases h
end
end Go.Ab
namespace Go.Ab
open Go
variable [Vals]
variable {ρ ρ' :Gh} {w w' :World}{P:Program}{pn:Pins}{G:Gl}{X:Exts}{A:Adv} {s s' :St}{env:Env}{a:Act}{lo:Nat}{d:D}{C:zAa}{al:Option Nat}
theorem RepM.erase:∀ {es:List (Nat×D×D)} {ces:List MapEntry} (i:Nat),RepM ρ w es ces→RepM ρ w (es.eraseIdx i) (ces.eraseIdx i)
 | [],_,i,h=>by simp only [RepM]at h; subst h; simp [RepM]
 | (n,k,v)::es,_,i,h=>by
  simp only [RepM]at h
  obtain⟨e,r,rfl,h1,h2,h3,h4⟩:=h
  cases i with
  | zero=>simpa using h4
  | succ i=>
   simp only [List.eraseIdx_cons_succ,RepM]
   exact⟨e,_,rfl,h1,h2,h3,RepM.erase i h4⟩
section
variable (he:EnR ρ w lo env a.tmps)(hg:GlOk pn G ρ w)(hs:zPl ρ s w)
include he hg hs
theorem yFj {t q e:TypeId}{et:ET} {m' k' :Operand}{m k:Opd}{tys:Array TypeId}(hm:opd G m' =some m)(hk:opd G k' =some k)(hu:P.underlying t=some (.map q e))(het:etB P 8 q=some et)(hty:tys[0]? =some t)
  (h:opF C env s al (.delete et m k)=some (d,s')){o:Oper}(ho:o.op= .call { callee:= .builtin .delete,args:= #[m',k'],argTypes:=tys}):OpOk P ρ w env a.tmps d s' ((execOp a.eval o).run P w):=by
 have fin:∀w',(Builtin.delete_ tys o.type #[a.eval m',a.eval k']).run P w= .ok (.tuple #[]) w' →(execOp a.eval o).run P w= .ok (.value (.tuple #[])) w' :=by
  intro w' hw
  rw [zAz (b:= .delete) ho]
  simp only [builtin,List.map_toArray,List.map_cons,List.map_nil]
  rw [Sem.run_bind,hw]; rfl
 simp only [opF]at h
 split at h
 ·rename_i dm dk hdm hdk
  split at h
  ·cases h
  ·rename_i hkd
   have hmv:=opR hm he hg hdm
   have hkv:=opR hk he hg hdk
   have hck:∀em,(Instr.checkKey em 10000 q (a.eval k')).run P w= .ok () w:=fun em=>zEv em 8 q et het 10000 (by decide) dk _ hkd hkv
   split at h
   ·simp only [Option.some.injEq,Prod.mk.injEq]at h
    obtain⟨rfl,rfl⟩:=h
    simp only [Rep]at hmv
    have hr:(Builtin.delete_ tys o.type #[a.eval m',a.eval k']).run P w= .ok (.tuple #[]) w:=by
     unfold Builtin.delete_
     simp [hty,hmv,run_underlying hu,hck]
    rw [fin _ hr]
    exact .rep hs (by simp [Rep,RepL])
   ·rename_i ob
    split at h
    ·rename_i es c hob
     obtain⟨b,ces,k1,one,hb,hM⟩:=hs.ok _ _ hob
     simp only [Rep,Gh.at,k1]at hmv
     obtain⟨b',hb',hmv⟩:=hmv
     obtain rfl:=one.2 _ hb'
     split at h
     ·rename_i i v0 hf
      obtain⟨h1,rfl⟩:=zBd h
      obtain⟨r',g1,g2⟩:=zCn (P:=P) het hkv hM hf
      obtain⟨u0,rfl,g3⟩:=g2
      obtain⟨n1,n2⟩:=zCt (ces' :=ces.eraseIdxIfInBounds i) hs hob k1 one hb (by
       have:(ces.eraseIdxIfInBounds i).toList=ces.toList.eraseIdx i:=by
        unfold Array.eraseIdxIfInBounds
        split
        ·simp [Array.toList_eraseIdx]
        ·rename_i hlt
         rw [List.eraseIdx_of_length_le (by simpa using hlt)]
       rw [this]
       exact RepM.erase i hM) h1
      have hr:(Builtin.delete_ tys o.type #[a.eval m',a.eval k']).run P w= .ok (.tuple #[]) { w with heap:=w.heap.setIfInBounds b' (.map (ces.eraseIdxIfInBounds i) c)}:=by
       unfold Builtin.delete_
       simp [hty,hmv,run_underlying hu,hck,zCb hb,g1,zCa _ hb]
      rw [fin _ hr]
      exact .val n1 n2 (by simp [Rep,RepL])
     ·rename_i hf
      obtain⟨h1,rfl⟩:=zBd h
      obtain⟨r',g1,g2⟩:=zCn (P:=P) het hkv hM hf
      simp only [Found]at g2; subst g2
      obtain⟨n1,n2⟩:=zCt (ces' :=ces) hs hob k1 one hb hM h1
      have hr:(Builtin.delete_ tys o.type #[a.eval m',a.eval k']).run P w= .ok (.tuple #[]) { w with heap:=w.heap.setIfInBounds b' (.map ces c)}:=by
       unfold Builtin.delete_
       simp [hty,hmv,run_underlying hu,hck,zCb hb,g1,zCa _ hb]
      rw [fin _ hr]
      exact .val n1 n2 (by simp [Rep,RepL])
     ·cases h
    ·cases h
   ·cases h
 ·cases h
theorem ok_range {t:TypeId} {x' :Operand}{x:Opd}(hx:opd G x' =some x)(hu:P.underlying t=some .string)(h:opF C env s al (.range x)=some (d,s')){o:Oper}(ho:o.op= .range t x'):
  OpOk P ρ w env a.tmps d s' ((execOp a.eval o).run P w):=by
 simp only [opF]at h
 split at h
 ·rename_i l hp
  have hv:=opR hx he hg hp
  simp only [Rep]at hv
  split at h
  ·rename_i k s2 hm
   simp only [Option.some.injEq,Prod.mk.injEq]at h
   obtain⟨rfl,rfl⟩:=h
   obtain⟨n1,n2,n3,n4⟩:=zOl (w' :=w.alloc (.stringIter ⟨⟨l⟩⟩ 0)) hs hm 1 0 0 rfl rfl rfl rfl (fun hK hone hh=>⟨w.heap.size,by simp [Gh.new],hone,hh⟩)
   have hrun:(execOp a.eval o).run P w= .ok (.value (.pointer (some ⟨w.heap.size,0,none⟩))) (w.alloc (.stringIter ⟨⟨l⟩⟩ 0)):=by
    simp only [execOp,ho]
    simp [Instr.range,run_underlying hu,hv,newObj]
    rfl
   rw [hrun]
   exact .val n1 n2 (by simp only [Rep,Gh.at,n4]; exact ⟨_,n3,rfl⟩)
  ·cases h
 ·cases h
theorem ok_nexts {x' :Operand}{x:Opd}(hx:opd G x' =some x)(h:opF C env s al (.nexts x)=some (d,s')){o:Oper}(ho:o.op= .next x' true):
  OpOk P ρ w env a.tmps d s' ((execOp a.eval o).run P w):=by
 simp only [opF]at h
 split at h
 ·rename_i ob hp
  have hv:=opR hx he hg hp
  split at h
  ·rename_i l pos hob
   obtain⟨b,k1,one,hb⟩:=hs.ok _ _ hob
   simp only [Rep,Gh.at,k1]at hv
   obtain⟨b',hb',hv⟩:=hv
   obtain rfl:=one.2 _ hb'
   have hget:(getObj b').run P w= .ok (.stringIter ⟨⟨l⟩⟩ pos) w:=by simp [getObj,Sem.run,hb]
   have hset:∀ob:Go.Obj,(setObj b' ob).run P w= .ok () { w with heap:=w.heap.setIfInBounds b' ob}:=fun ob=>by simp [setObj,Sem.run,hb]
   split at h
   ·rename_i hlt
    have hlt:pos < l.length:=Nat.le_of_ble_eq_true hlt
    obtain⟨h1,rfl⟩:=zBd h
    obtain⟨n1,n2⟩:Kp ρ w ρ { w with heap:=w.heap.setIfInBounds b' (.stringIter ⟨⟨l⟩⟩ (pos+(Utf8.decode ⟨⟨l⟩⟩ pos).2))}∧zPl ρ s' { w with heap:=w.heap.setIfInBounds b' (.stringIter ⟨⟨l⟩⟩ (pos+(Utf8.decode ⟨⟨l⟩⟩ pos).2))}:=
     zHe hs h1 one.1 (hs.lt _ _ hob) (fun _ h=>zKw h) (by simp) rfl rfl rfl fun hK=>⟨b',k1,one,zKx (zNc hb)⟩
    have hr:(execOp a.eval o).run P w= .ok (.value (.tuple #[.bool true,goInt pos,.int .i32 (Utf8.decode ⟨⟨l⟩⟩ pos).1])) { w with heap:=w.heap.setIfInBounds b' (.stringIter ⟨⟨l⟩⟩ (pos+(Utf8.decode ⟨⟨l⟩⟩ pos).2))}:=by
     simp only [execOp,ho,hv,Instr.next]
     rw [Sem.run_bind,Sem.run_bind,hget]
     simp [ByteArray.size_mk',hlt,hset]
    rw [hr]
    exact .val n1 n2 (by simp [Rep,RepL,goI,goInt])
   ·rename_i hlt
    have hlt: ¬ pos < l.length:=fun hc=>by
     have:Nat.blt pos l.length=true:=Nat.ble_eq_true_of_le hc
     rw [this]at hlt; cases hlt
    simp only [Option.some.injEq,Prod.mk.injEq]at h
    obtain⟨rfl,rfl⟩:=h
    have hr:(execOp a.eval o).run P w= .ok (.value (.tuple #[.bool false])) w:=by
     simp only [execOp,ho,hv,Instr.next]
     rw [Sem.run_bind,Sem.run_bind,hget]
     simp [ByteArray.size_mk',hlt]
    rw [hr]
    exact .rep hs (by simp [Rep,RepL])
  ·cases h
 ·cases h
end
end Go.Ab
