/- Part. -/
import Derived.Test.YtmcdajnpdekocaaGreatDoorG04
import Derived.Lib.Strings
set_option linter.unusedSectionVars false
set_option linter.unusedSimpArgs false
set_option linter.unusedVariables false
namespace Go.Ab
open Go
variable [Vals]
variable {ρ:Gh}{w:World}{P:Program}{pn:Pins}{G:Gl}{X:Exts}{A:Adv} {s s' :St}{env:Env}{a:Act}{lo:Nat}{d:D}{C:zAa}{al:Option Nat}
def zCl (ρ:Gh)(w:World) (s' :St)(d:D):Ending→World→Prop
 | .returned v,w' =>∃ρ',Kp ρ w ρ' w' ∧zPl ρ' s' w' ∧Rep ρ' w' d v
 | .panicked _,_=>False
 | .outgrown,_=>False
def OpOk (P:Program)(ρ:Gh)(w:World)(env:Env)(tmps:Array Value)(d:D) (s' :St):Result Next→Prop
 | .ok (.value v) w' =>∃ρ',Kp ρ w ρ' w' ∧zPl ρ' s' w' ∧zBc ρ' w' env tmps d v
 | .ok .skip w' =>∃ρ',Kp ρ w ρ' w' ∧zPl ρ' s' w' ∧d= .tup []
 | .ok (.enter f args) w' =>w' =w∧Calls P f args w (zCl ρ w s' d)
 | .ok (.round l fn tmps assign body) w' =>w' =w∧RoundIn Fence.wide 0 P l fn tmps assign body w (zCl ρ w s' d)
 | _=>False
theorem OpOk.pure {v:Value}{tmps:Array Value}(hs:zPl ρ s w)(h:zBc ρ w env tmps d v):OpOk P ρ w env tmps d s (.ok (.value v) w):=⟨ρ,Kp.refl _ _,hs,h⟩
theorem OpOk.rep {v:Value}{tmps:Array Value}(hs:zPl ρ s w)(h:Rep ρ w d v):OpOk P ρ w env tmps d s (.ok (.value v) w):= .pure hs (.of_rep h)
theorem zBu {o:Option D}(h:ofO s o=some (d,s')):o=some d∧s' =s:=by
 cases o with
 | none=>simp [ofO]at h
 | some x=>simp only [ofO,Option.some.injEq,Prod.mk.injEq]at h; exact ⟨by rw [h.1],h.2.symm⟩
theorem zBd {x:D}{o:Option St}(h:ofS x o=some (d,s')):o=some s' ∧d=x:=by
 cases o with
 | none=>simp [ofS]at h
 | some y=>simp only [ofS,Option.some.injEq,Prod.mk.injEq]at h; exact ⟨by rw [h.2],h.1.symm⟩
section
variable (he:EnR ρ w lo env a.tmps)(hg:GlOk pn G ρ w)(hs:zPl ρ s w)
include he hg hs
theorem ok_mv {x' :Operand}{x:Opd}(hx:opd G x' =some x)(h:opF C env s al (.mv x)=some (d,s')){o:Oper}(ho:o.op= .move x' ∨o.op= .assign x'):
  OpOk P ρ w env a.tmps d s' ((execOp a.eval o).run P w):=by
 simp only [opF]at h
 obtain⟨h1,rfl⟩:=zBu h
 have hr:(execOp a.eval o).run P w= .ok (.value (a.eval x')) w:=by rcases ho with ho | ho <;> simp [execOp,ho]
 rw [hr]
 exact .pure hs (zCw hx he hg h1)
theorem ok_pick {c' x' y' :Operand}{c x y:Opd}(hc:opd G c' =some c)(hx:opd G x' =some x)(hy:opd G y' =some y)(h:opF C env s al (.pick c x y)=some (d,s')){o:Oper}(ho:o.op= .pick c' x' y'):
  OpOk P ρ w env a.tmps d s' ((execOp a.eval o).run P w):=by
 simp only [opF]at h
 split at h
 ·rename_i t ht
  have h1:=opR hc he hg ht
  simp only [Rep]at h1
  split at h
  ·obtain⟨h2,rfl⟩:=zBu h
   have hr:(execOp a.eval o).run P w= .ok (.value (a.eval x')) w:=by simp [execOp,ho,h1,asBool]
   rw [hr]; exact .rep hs (opR hx he hg h2)
  ·obtain⟨h2,rfl⟩:=zBu h
   have hr:(execOp a.eval o).run P w= .ok (.value (a.eval y')) w:=by simp [execOp,ho,h1,asBool]
   rw [hr]; exact .rep hs (opR hy he hg h2)
 ·cases h
omit he hg hs in
theorem zKe {b:Nat}(h:env.isLv b=true):∃x,env.get b=some (.lv x):=by
 unfold Env.isLv at h
 split at h
 ·rename_i x hx; exact ⟨x,hx⟩
 ·cases h
theorem yFe {x' :Operand}{x:Opd}(hx:opd G x' =some x)(h:opF C env s al (.nilchk x)=some (d,s')){o:Oper}(ho:o.op= .nilCheck x'):
  OpOk P ρ w env a.tmps d s' ((execOp a.eval o).run P w):=by
 have key:∀(v:Value),a.eval x' =v→(match v with | .pointer (some _)=>true | .iface _ _=>true | .func (.func _) _ _=>true | _=>false)=true→
   (execOp a.eval o).run P w= .ok (.value (a.eval x')) w:=by
  intro v hv hm
  cases v with
  | pointer p=>cases p with
   | none=>simp at hm
   | some q=>simp [execOp,ho,hv]
  | iface t u=>simp [execOp,ho,hv]
  | func f x y=>cases f with
   | func f=>simp [execOp,ho,hv]
   | _=>simp at hm
  | _=>simp at hm
 simp only [opF]at h
 have hr:=fun e=>zCw (d:=e) hx he hg
 split at h
 ·rename_i b c hp
  have h1:=hr _ hp
  split at h
  ·rename_i hlv
   simp only [Option.some.injEq,Prod.mk.injEq]at h
   obtain⟨rfl,rfl⟩:=h
   obtain⟨y,hy⟩:=zKe hlv
   obtain⟨bb,_,h3⟩:=h1 y hy
   rw [key _ h3 rfl]
   exact .pure hs h1
  ·cases h
 ·rename_i b c hp
  simp only [Option.some.injEq,Prod.mk.injEq]at h
  obtain⟨rfl,rfl⟩:=h
  have h1:=hr _ hp
  have h2:=h1
  simp only [zBc,Rep]at h2
  obtain⟨q,hq⟩:=Gh.at_any h2 fun _ _ q=>⟨_,q⟩
  rw [key _ hq rfl]
  exact .pure hs h1
 ·rename_i b i c e hp
  simp only [Option.some.injEq,Prod.mk.injEq]at h
  obtain⟨rfl,rfl⟩:=h
  have h1:=hr _ hp
  have h2:=h1
  simp only [zBc,Rep]at h2
  obtain⟨q,hq⟩:=Gh.at_any h2 fun _ _ q=>⟨_,q.2.2.2⟩
  rw [key _ hq rfl]
  exact .pure hs h1
 ·rename_i e c hp
  simp only [Option.some.injEq,Prod.mk.injEq]at h
  obtain⟨rfl,rfl⟩:=h
  have h1:=hr _ hp
  have h2:=h1
  simp only [zBc,Rep]at h2
  obtain⟨_,_,_,_,_,_,_,hq⟩:=h2
  rw [key _ hq rfl]
  exact .pure hs h1
 ·rename_i t v hp
  simp only [Option.some.injEq,Prod.mk.injEq]at h
  obtain⟨rfl,rfl⟩:=h
  have h1:=hr _ hp
  have h2:=h1
  simp only [zBc,Rep]at h2
  obtain⟨_,hq,_⟩:=h2
  rw [key _ hq rfl]
  exact .pure hs h1
 ·rename_i f x y hp
  simp only [Option.some.injEq,Prod.mk.injEq]at h
  obtain⟨rfl,rfl⟩:=h
  have h1:=hr _ hp
  have h2:=h1
  simp only [zBc,Rep]at h2
  obtain⟨_,_,hq,_⟩:=h2
  rw [key _ hq rfl]
  exact .pure hs h1
 ·cases h
theorem ok_bin {op:BinOp}{t u:TypeId} {x' y' :Operand}{x y:Opd}(hx:opd G x' =some x)(hy:opd G y' =some y)(h:opF C env s al (.bin op x y)=some (d,s')){o:Oper}(ho:o.op= .binOp op t x' y' u):
  OpOk P ρ w env a.tmps d s' ((execOp a.eval o).run P w):=by
 simp only [opF]at h
 split at h
 ·rename_i p q hp hq
  obtain⟨h1,rfl⟩:=zBu h
  obtain⟨r,h2,h3⟩:=bin_ok (P:=P) (opR hx he hg hp) (opR hy he hg hq) h1 t x' y'
  have hr:(execOp a.eval o).run P w= .ok (.value r) w:=by
   simp only [execOp,ho]
   rw [Sem.run_bind,h2]; rfl
  rw [hr]; exact .rep hs h3
 ·cases h
theorem ok_un {op:UnOp}{t:TypeId} {x' :Operand}{x:Opd}(hx:opd G x' =some x)(h:opF C env s al (.un op x)=some (d,s')){o:Oper}(ho:o.op= .unOp op t x'):
  OpOk P ρ w env a.tmps d s' ((execOp a.eval o).run P w):=by
 simp only [opF]at h
 split at h
 ·rename_i p hp
  obtain⟨h1,rfl⟩:=zBu h
  obtain⟨r,h2,h3⟩:=un_ok (P:=P) (opR hx he hg hp) h1
  have hr:(execOp a.eval o).run P w= .ok (.value r) w:=by
   simp only [execOp,ho]
   rw [Sem.run_bind,h2]; rfl
  rw [hr]; exact .rep hs h3
 ·cases h
theorem ok_mkif {t:TypeId} {x' :Operand}{x:Opd}(hx:opd G x' =some x)(ht:∃e,P.underlying t=some e∧∀ms,e≠ .interface ms)(h:opF C env s al (.mkif t x)=some (d,s')){o:Oper}(ho:o.op= .makeInterface t x'):
  OpOk P ρ w env a.tmps d s' ((execOp a.eval o).run P w):=by
 simp only [opF]at h
 split at h
 ·rename_i p hp
  simp only [Option.some.injEq,Prod.mk.injEq]at h
  obtain⟨rfl,rfl⟩:=h
  obtain⟨e,hu,hne⟩:=ht
  have hr:(execOp a.eval o).run P w= .ok (.value (.iface t (a.eval x'))) w:=by
   simp only [execOp,ho,Instr.makeInterface]
   rw [Sem.run_bind,Sem.run_bind,run_underlying hu]
   cases e <;> simp_all
  rw [hr]; exact .rep hs (by simp only [Rep]; exact ⟨_,rfl,opR hx he hg hp⟩)
 ·cases h
theorem ok_mkfn {f:Fn} {x' y' :Array Operand}{x y:List Opd}(hx:opds G x' =some x)(hy:opds G y' =some y)(h:opF C env s al (.mkfn f x y)=some (d,s')){o:Oper}(ho:o.op= .makeFunc f x' y'):
  OpOk P ρ w env a.tmps d s' ((execOp a.eval o).run P w):=by
 simp only [opF]at h
 split at h
 ·rename_i p q hp hq
  simp only [Option.some.injEq,Prod.mk.injEq]at h
  obtain⟨rfl,rfl⟩:=h
  have hr:(execOp a.eval o).run P w= .ok (.value (.func f (x'.map a.eval) (y'.map a.eval))) w:=by
   simp [execOp,ho,Instr.makeFunc]
  rw [hr]; exact .rep hs (by simp only [Rep]; exact ⟨_,_,rfl,zRj he hg hx hp,zRj he hg hy hq⟩)
 ·cases h
theorem zYb {i:Nat} {x' :Operand}{x:Opd}(hx:opd G x' =some x)(h:opF C env s al (.extract i x)=some (d,s')){o:Oper}(ho:o.op= .extract x' i):
  OpOk P ρ w env a.tmps d s' ((execOp a.eval o).run P w):=by
 simp only [opF]at h
 split at h
 ·rename_i l hp
  obtain⟨h1,rfl⟩:=zBu h
  have h2:=opR hx he hg hp
  simp only [Rep]at h2
  obtain⟨vs,hv,hl⟩:=h2
  obtain⟨v,hi,hd⟩:=hl.get h1
  have hi' :vs[i]? =some v:=by simpa using hi
  have hr:(execOp a.eval o).run P w= .ok (.value v) w:=by
   simp [execOp,ho,hv,Instr.extract,hi']
  rw [hr]; exact .rep hs hd
 ·cases h
theorem ok_field {t:TypeId}{i:Nat} {x' :Operand}{x:Opd}{fs:Array Field}{f:Field}{sz:Option Nat}(hx:opd G x' =some x)(hu:P.underlying t=some (.struct fs))(hf:fs[i]? =some f)(hsh:zBm P f.type=some sz)
  (h:opF C env s al (.field f.offset sz x)=some (d,s')){o:Oper}(ho:o.op= .field t x' i):
  OpOk P ρ w env a.tmps d s' ((execOp a.eval o).run P w):=by
 simp only [opF]at h
 split at h
 ·rename_i l hp
  obtain⟨h1,rfl⟩:=zBu h
  have h2:=opR hx he hg hp
  simp only [Rep]at h2
  obtain⟨vs,hv,hl,hsc⟩:=h2
  obtain⟨v,hr1,hd⟩:=zFk (P:=P) hl hsc hsh h1
  have hr:(execOp a.eval o).run P w= .ok (.value v) w:=by
   simp only [execOp,ho,Instr.field,hv,asAgg]
   simp [run_underlying hu,hf,hr1]
  rw [hr]; exact .rep hs hd
 ·cases h
theorem ok_sidx {t:TypeId} {x' i' :Operand}{x i:Opd}(hx:opd G x' =some x)(hi:opd G i' =some i)(hu:P.underlying t=some .string)(h:opF C env s al (.sidx x i)=some (d,s')){o:Oper}(ho:o.op= .index t x' i'):
  OpOk P ρ w env a.tmps d s' ((execOp a.eval o).run P w):=by
 simp only [opF]at h
 split at h
 ·rename_i l n hp hn
  split at h
  ·rename_i k hk
   split at h
   ·rename_i b hb
    simp only [Option.some.injEq,Prod.mk.injEq]at h
    obtain⟨rfl,rfl⟩:=h
    have h1:=opR hx he hg hp
    have h2:=opR hi he hg hn
    cases n <;> simp only [idx]at hk <;> (try cases hk)
    rename_i kk m
    split at hk
    ·rename_i hm
     simp only [Option.some.injEq]at hk; subst hk
     simp only [Rep]at h1 h2
     have hb' :(⟨⟨l⟩⟩:ByteArray)[m.toNat]? =some b:=by
      have hlt:m.toNat < l.length:=(List.getElem?_eq_some_iff.1 hb).1
      rw [ByteArray.getElem?_lt' _ _ (by simpa [ByteArray.size_mk'] using hlt)]
      have:=(List.getElem?_eq_some_iff.1 hb).2
      exact congrArg some this
     have hr:(execOp a.eval o).run P w= .ok (.value (.int .u8 b.toNat)) w:=by
      simp only [execOp,ho,h1,h2,Instr.index,asIntOf]
      simp [run_underlying hu,hm,hb']
     rw [hr]; exact .rep hs (by simp [Rep])
    ·cases hk
   ·cases h
  ·cases h
 ·cases h
theorem ok_toInt {t u:TypeId}{k j:IntKind} {x' :Operand}{x:Opd}(hx:opd G x' =some x)(ht:P.underlying t=some (.int j))(hu:P.underlying u=some (.int k))(h:opF C env s al (.toInt k x)=some (d,s')){o:Oper}(ho:o.op= .convert t u x'):
  OpOk P ρ w env a.tmps d s' ((execOp a.eval o).run P w):=by
 simp only [opF]at h
 split at h
 ·rename_i kk n hp
  simp only [Option.some.injEq,Prod.mk.injEq]at h
  obtain⟨rfl,rfl⟩:=h
  have h1:=opR hx he hg hp
  simp only [Rep]at h1
  have hr:(execOp a.eval o).run P w= .ok (.value (.int k (k.wrap n))) w:=by
   simp only [execOp,ho,h1,convert]
   simp [run_underlying ht,run_underlying hu,Conv.intToInt]
  rw [hr]; exact .rep hs (by simp [Rep])
 ·cases h
theorem ok_strId {t u:TypeId} {x' :Operand}{x:Opd}(hx:opd G x' =some x)(ht:P.underlying t=some .string)(hu:P.underlying u=some .string)(h:opF C env s al (.strId x)=some (d,s')){o:Oper}(ho:o.op= .convert t u x'):
  OpOk P ρ w env a.tmps d s' ((execOp a.eval o).run P w):=by
 simp only [opF]at h
 split at h
 ·rename_i l hp
  simp only [Option.some.injEq,Prod.mk.injEq]at h
  obtain⟨rfl,rfl⟩:=h
  have h1:=opR hx he hg hp
  have h2:=h1
  simp only [Rep]at h1
  have hr:(execOp a.eval o).run P w= .ok (.value (a.eval x')) w:=by
   simp only [execOp,ho,h1,convert]
   simp [run_underlying ht,run_underlying hu]
  rw [hr]; exact .rep hs h2
 ·cases h
theorem zUd {t u:TypeId}{j:IntKind} {x' :Operand}{x:Opd}(hx:opd G x' =some x)(ht:P.underlying t=some (.int j))(hu:P.underlying u=some .string)(h:opF C env s al (.intToStr x)=some (d,s')){o:Oper}(ho:o.op= .convert t u x'):
  OpOk P ρ w env a.tmps d s' ((execOp a.eval o).run P w):=by
 simp only [opF]at h
 split at h
 ·rename_i kk n hp
  simp only [Option.some.injEq,Prod.mk.injEq]at h
  obtain⟨rfl,rfl⟩:=h
  have h1:=opR hx he hg hp
  simp only [Rep]at h1
  have hr:(execOp a.eval o).run P w= .ok (.value (.string (Utf8.encode n))) w:=by
   simp only [execOp,ho,h1,convert]
   simp [run_underlying ht,run_underlying hu,Conv.intToString]
  rw [hr]; exact .rep hs (by simp [Rep])
 ·cases h
end
end Go.Ab
namespace Go.Ab
open Go
variable [Vals]
variable {ρ:Gh}{w:World}{P:Program}{pn:Pins}{G:Gl}{X:Exts}{A:Adv} {s s' :St}{env:Env}{a:Act}{lo:Nat}{d:D}{C:zAa}{al:Option Nat}
def zBz:Value→Bool
 | .int .. | .string _ | .float .. | .complex .. =>false
 | _=>true
theorem binOp_eql {t:TypeId}{u v:Value}(h:zBz u=true):binOp .eql t u v=(do pure (.bool (← Op.equal t u v))):=by
 cases u <;> simp only [zBz]at h <;> (try cases h) <;> cases v <;> rfl
theorem binOp_neq {t:TypeId}{u v:Value}(h:zBz u=true):binOp .neq t u v=(do pure (.bool (!(← Op.equal t u v)))):=by
 cases u <;> simp only [zBz]at h <;> (try cases h) <;> cases v <;> rfl
theorem yGo {oc:Bool}{et:ET}{x y:D}{r:Bool}{u v:Value}(h:eqT oc et x y=some r)(h1:et≠ .int)(h2:et≠ .str)(hu:Rep ρ w x u)(hv:Rep ρ w y v):
  zBz u=true∧(u= .nilIface→v= .nilIface→oc=true)∧(∀p q,u= .agg p→v= .agg q→∃l,et= .st l):=by
 have sp:∀ {d:D} {q:Value},Rep ρ w d q→(∃o c,d= .ptr o c)∨(∃o i c e,d= .eptr o i c e)∨(∃e c,d= .vptr e c)∨d= .nilp→∃p,q= .pointer p:=by
  intro d q hq hs
  rcases hs with ⟨o,c,rfl⟩ | ⟨o,i,c,e,rfl⟩ | ⟨e,c,rfl⟩ | rfl <;> simp only [Rep]at hq
  ·obtain⟨p,rfl⟩:=Gh.at_any hq fun _ _ q=>⟨_,q⟩; exact ⟨_,rfl⟩
  ·obtain⟨p,rfl⟩:=Gh.at_any hq fun _ _ q=>⟨_,q.2.2.2⟩; exact ⟨_,rfl⟩
  ·obtain⟨_,_,_,_,_,_,_,rfl⟩:=hq; exact ⟨_,rfl⟩
  ·exact⟨_,hq⟩
 have ss:∀ {d:D} {q:Value},Rep ρ w d q→(∃n z l,d= .vs n z l)∨(∃o a b c,d= .sl o a b c)→∃p n c,q= .slice p n c:=by
  intro d q hq hs
  rcases hs with ⟨n,z,l,rfl⟩ | ⟨o,a,b,c,rfl⟩ <;> simp only [Rep]at hq
  ·rcases hq with ⟨_,_,rfl⟩ | ⟨_,_,_,rfl,_⟩ <;> exact ⟨_,_,_,rfl⟩
  ·obtain⟨p,c,rfl⟩:=Gh.at_any hq fun _ _ ⟨_,_,_,_,_,q,_⟩=>⟨_,_,q⟩; exact ⟨_,_,_,rfl⟩
 cases et with
 | int=>exact absurd rfl h1
 | str=>exact absurd rfl h2
 | bool=>
  simp only [eqT]at h
  obtain⟨_,_,rfl,_,_⟩:=zKi h hu hv
  simp [zBz]
 | ptr=>
  simp only [eqT]at h
  split at h <;> (try cases h)
  all_goals
   obtain⟨p,rfl⟩:=sp hu (by simp)
   simp [zBz]
 | slice=>
  simp only [eqT]at h
  split at h <;> (try cases h)
  all_goals
   obtain⟨p,n,c,rfl⟩:=ss hu (by simp)
   simp [zBz]
 | map=>
  simp only [eqT]at h
  split at h <;> (try cases h)
  ·simp only [Rep]at hu; subst hu; simp [zBz]
  ·simp only [Rep]at hu; subst hu; simp [zBz]
  ·simp only [Rep]at hu; obtain ⟨p,rfl⟩:=Gh.at_any hu fun _ _ q=>⟨_,q⟩; simp [zBz]
 | func=>
  simp only [eqT]at h
  split at h <;> (try cases h)
  ·simp only [Rep]at hu; subst hu; simp [zBz]
  ·simp only [Rep]at hu; subst hu; simp [zBz]
  ·simp only [Rep]at hu; obtain ⟨_,_,rfl,_⟩:=hu; simp [zBz]
 | iface=>
  simp only [eqT]at h
  split at h <;> (try cases h)
  ·split at h
   ·simp only [Rep]at hu; subst hu; simp [zBz]
   ·cases h
  ·simp only [Rep]at hu hv; subst hu; obtain ⟨_,rfl,_⟩:=hv; simp [zBz]
  ·simp only [Rep]at hu hv; subst hv; obtain ⟨_,rfl,_⟩:=hu; simp [zBz]
  ·simp only [Rep]at hu hv; obtain ⟨_,rfl,_⟩:=hu; simp [zBz]
 | st l=>
  simp only [eqT]at h
  split at h
  ·simp only [Rep]at hu; obtain ⟨_,rfl,_⟩:=hu; simp [zBz]
  ·cases h
theorem zWb {op:BinOp}{t:TypeId}{px py:Operand}{u v:Value}(hn:u= .nilIface→v= .nilIface→(zJi px || zJi py)=true)(hag:∀p q,u= .agg p→v= .agg q→P.eqGuardType P.depth t=false):
  (eqGuard op t px py u v).run P w= .ok () w:=by
 by_cases hop:op= .eql∨op= .neq
 ·by_cases h1:u= .nilIface∧v= .nilIface
  ·obtain⟨rfl,rfl⟩:=h1
   have:=hn rfl rfl
   rcases hop with rfl | rfl <;> cases px <;> cases py <;> first | (simp [eqGuard]; done) | (exact absurd this (by simp [zJi]))
  ·by_cases h2:(∃p,u= .agg p)∧∃q,v= .agg q
   ·obtain⟨⟨p,rfl⟩,q,rfl⟩:=h2
    exact run_eqGuard_agg w op t px py p q (hag p q rfl rfl)
   ·rcases hop with rfl | rfl <;> cases u <;> cases v <;> first | (simp [eqGuard]; done) | (exact absurd ⟨rfl,rfl⟩ h1) | (exact absurd ⟨⟨_,rfl⟩,⟨_,rfl⟩⟩ h2)
 ·cases op <;> first | (exact absurd (Or.inl rfl) hop) | (exact absurd (Or.inr rfl) hop) | simp [eqGuard]
theorem zUj (d:Nat){t e:TypeId}{m:Nat}(ht:P.underlying t=some (.pointer e))(hsz:(sizeOf e).run P w= .ok (m+1) w)(p q:Addr):
  (Op.equalIn (d+1) t (.pointer (some p)) (.pointer (some q))).run P w=(sameAddr p q).run P w:=by
 simp only [Op.equalIn,Sem.run_bind,run_underlying ht,Result.andThen_ok,hsz]
 simp
theorem eqP_ok {x y:D}{r:Bool}{u v:Value}{t e:TypeId}{m:Nat}(hs:zPl ρ s w)(ht:P.underlying t=some (.pointer e))(hm:zPo P e=some (m+1))(h:eqP s x y=some r)(hu:Rep ρ w x u)(hv:Rep ρ w y v):
  (∃p,u= .pointer (some p))∧(Op.equal t u v).run P w= .ok r w:=by
 unfold eqP at h
 split at h
 ·rename_i o c o' c'
  split at h
  ·rename_i t1 d1 t2 d2 h1 h2
   simp only [Option.some.injEq]at h; subst h
   obtain⟨b1,v1,k1,one1,_,hb1,hp1,_⟩:=hs.ok _ _ h1
   obtain⟨b2,v2,k2,one2,_,hb2,hp2,_⟩:=hs.ok _ _ h2
   simp only [Rep,Gh.at,k1,k2]at hu hv
   obtain⟨b1',hb1',rfl⟩:=hu
   obtain⟨b2',hb2',rfl⟩:=hv
   obtain rfl:=one1.2 _ hb1'
   obtain rfl:=one2.2 _ hb2'
   refine⟨⟨_,rfl⟩, ?_⟩
   have hsz:(sizeOf e).run P w= .ok (m+1) w:=by
    cases hq:P.info? e with
    | none=>simp [zPo,hq]at hm
    | some i=>
     have:i.size=m+1:=by simpa [zPo,hq] using hm
     simp [sizeOf,typeInfo,hq,this]
   have hsame:(sameAddr ⟨b1',c,none⟩ ⟨b2',c',none⟩).run P w= .ok (Nat.beq o o' && Nat.beq c c') w:=by
    by_cases hbb:b1' =b2'
    ·subst hbb
     have hoo:o=o' :=by
      have:=hb1'.symm.trans hb2'
      simpa using this
     subst hoo
     have e1:Nat.beq o o=true:=Nat.beq_refl o
     have e2:((⟨b1',c,none⟩:Addr)==⟨b1',c',none⟩)=Nat.beq c c' :=by
      rw [Bool.eq_iff_iff,beq_iff_eq,Nat.beq_eq]
      simp
     simp [sameAddr,e2]
    ·have hoo:o≠o' :=fun h=>hbb (by subst h; exact (one1.2 _ hb2').symm)
     have e1:Nat.beq o o' =false:=T.beq_f hoo
     have f1:∀x,w.frozen? ⟨b1',x,none⟩=false:=fun x=>by simp [World.frozen?,hb1]
     have f2:∀x,w.frozen? ⟨b2',x,none⟩=false:=fun x=>by simp [World.frozen?,hb2]
     have s1:w.shape? b1' =some (t1,v1.cells.size):=by simp [World.shape?,hb1]
     have s2:w.shape? b2' =some (t2,v2.cells.size):=by simp [World.shape?,hb2]
     simp [sameAddr,hbb,f1,f2,noView,viewAt,s1,s2,mayBeOne,stringish,e1]
   exact (zUj 9999 ht hsz _ _).trans hsame
  ·cases h
 ·cases h
section
variable (he:EnR ρ w lo env a.tmps)(hg:GlOk pn G ρ w)(hs:zPl ρ s w)
include he hg hs
theorem ok_eq {op:BinOp}{neg oc:Bool}{et:ET}{t u:TypeId} {x' y' :Operand}{x y:Opd}(hx:opd G x' =some x)(hy:opd G y' =some y)(het:etB P 8 t=some et)(h1:et≠ .int)(h2:et≠ .str)
  (hop:(op= .eql∧neg=false)∨(op= .neq∧neg=true))(hoc:oc=(zJi x' || zJi y'))(hgd:∀l,et= .st l→P.eqGuardType P.depth t=false)
  (h:opF C env s al (.eq et neg oc x y)=some (d,s')){o:Oper}(ho:o.op= .binOp op t x' y' u):OpOk P ρ w env a.tmps d s' ((execOp a.eval o).run P w):=by
 simp only [opF]at h
 split at h
 ·rename_i p q hp hq
  have hu:=opR hx he hg hp
  have hv:=opR hy he hg hq
  have fin:∀r:Bool,(eqGuard op t x' y' (a.eval x') (a.eval y')).run P w= .ok () w→zBz (a.eval x')=true→(Op.equal t (a.eval x') (a.eval y')).run P w= .ok r w→(execOp a.eval o).run P w= .ok (.value (.bool (r !=neg))) w:=by
   intro r hgu hpl heq
   simp only [execOp,ho,Sem.run_bind,hgu,Result.andThen_ok]
   rcases hop with ⟨rfl,rfl⟩ | ⟨rfl,rfl⟩
   ·simp [binOp_eql hpl,heq]
   ·simp [binOp_neq hpl,heq]
  split at h
  ·rename_i r hr
   simp only [Option.some.injEq,Prod.mk.injEq]at h
   obtain⟨rfl,rfl⟩:=h
   obtain⟨e1,e2,e3⟩:=yGo hr h1 h2 hu hv
   have heq:(Op.equal t (a.eval x') (a.eval y')).run P w= .ok r w:=eqT_ok oc 8 t et het Op.maxDepth (by decide) p q r _ _ hr hu hv
   rw [fin r (zWb (fun a b=>hoc ▸ e2 a b) (fun a b c d=>hgd _ (e3 a b c d).choose_spec)) e1 heq]
   exact .rep hs (by simp [Rep])
  ·split at h
   ·split at h
    ·rename_i r hr
     simp only [Option.some.injEq,Prod.mk.injEq]at h
     obtain⟨rfl,rfl⟩:=h
     have hpt:∃e m,P.underlying t=some (.pointer e)∧zPo P e=some (m+1):=by
      simp only [etB]at het
      split at het <;> (try cases het)
      ·rename_i e hun
       split at het
       ·rename_i m hm; exact ⟨e,m,hun,hm⟩
       ·cases het
      ·split at het
       ·cases het
       ·simp at het
     obtain⟨e,m,hun,hm⟩:=hpt
     obtain⟨⟨pp,hpp⟩,heq⟩:=eqP_ok (P:=P) hs hun hm hr hu hv
     rw [fin r (zWb (fun a _=>by rw [hpp]at a; cases a) (fun a _ b _=>by rw [hpp]at b; cases b)) (by rw [hpp]; rfl) heq]
     exact .rep hs (by simp [Rep])
    ·cases h
   ·cases h
 ·cases h
end
end Go.Ab
namespace Go.Ab
open Go
variable [Vals]
variable {ρ:Gh}{w:World}{P:Program}{pn:Pins}{G:Gl}{X:Exts}{A:Adv} {s s' :St}{env:Env}{a:Act}{lo:Nat}{d:D}{C:zAa}{al:Option Nat}
theorem zBo {n:D}{i:Nat}{v:Value}(h:idx n=some i)(hr:Rep ρ w n v):∃k,v= .int k (i:Int):=by
 cases n <;> simp only [idx]at h <;> (try cases h)
 rename_i k m
 split at h
 ·rename_i hm
  simp only [Option.some.injEq]at h; subst h
  simp only [Rep]at hr
  exact⟨k,by rw [hr,Int.toNat_of_nonneg hm]⟩
 ·cases h
theorem zAk {t:TypeId}{n:Nat}(h:zPo P t=some n):(sizeOf t).run P w= .ok n w:=by
 cases hq:P.info? t with
 | none=>simp [zPo,hq]at h
 | some i=>
  have:i.size=n:=by simpa [zPo,hq] using h
  simp [sizeOf,typeInfo,hq,this]
theorem zMj (l:List UInt8)(x y:Nat):(⟨⟨l⟩⟩:ByteArray).extract x y=⟨⟨(l.take y).drop x⟩⟩:=by
 have h:=Lib.extract_data (⟨⟨l⟩⟩:ByteArray) x y
 have h2:((⟨⟨l⟩⟩:ByteArray).extract x y).data.toList=(l.take y).drop x:=by
  rw [h,List.drop_take]
 generalize (⟨⟨l⟩⟩:ByteArray).extract x y=q at *
 obtain⟨⟨m⟩⟩:=q
 simp only at h2
 rw [h2]
section
variable (he:EnR ρ w lo env a.tmps)(hg:GlOk pn G ρ w)(hs:zPl ρ s w)
include he hg
theorem zJq {x' :Option Operand}{x:Option Opd}{r:Option D}(hx:opdo G x' =some x)(h:evo env x=some r):
  (r=none∧x'.map a.eval=none)∨(∃d v,r=some d∧x'.map a.eval=some v∧Rep ρ w d v):=by
 cases x' with
 | none=>
  simp only [opdo,Option.some.injEq]at hx; subst hx
  simp only [evo,Option.some.injEq]at h; subst h
  exact .inl ⟨rfl,rfl⟩
 | some y=>
  simp only [opdo,Option.map_eq_some_iff]at hx
  obtain⟨z,hz,rfl⟩:=hx
  simp only [evo]at h
  split at h
  ·rename_i d hd
   simp only [Option.some.injEq]at h; subst h
   exact .inr ⟨d,_,rfl,rfl,opR hz he hg hd⟩
  ·cases h
omit he hg in
theorem zWy {x:Option Value}{r:Option D}{k y:Nat}{code:BoundsCode}(hr:(r=none∧x=none)∨(∃d v,r=some d∧x=some v∧Rep ρ w d v))(hi:idxo k r=some y):
  (r=none∧x=none∧y=k)∨(∃v,r.isSome=true∧x=some v∧∀m,y≤m→(Instr.sliceBound v m code).run P w= .ok y w):=by
 rcases hr with ⟨rfl,rfl⟩ | ⟨d,v,rfl,rfl,h⟩
 ·simp only [idxo,Option.some.injEq]at hi; exact .inl ⟨rfl,rfl,hi.symm⟩
 ·simp only [idxo]at hi
  obtain⟨kk,rfl⟩:=zBo hi h
  refine .inr ⟨_,rfl,rfl,fun m hm=> ?_⟩
  have:(0:Int)≤(y:Int)∧(y:Int)≤(m:Int):=by omega
  simp [Instr.sliceBound,asIntOf,this]
include hs
theorem ok_sstr {t:TypeId} {x' :Operand}{x:Opd} {lo' hi' :Option Operand}{l0 h0:Option Opd}(hx:opd G x' =some x)(hl:opdo G lo' =some l0)(hh:opdo G hi' =some h0)(hu:P.underlying t=some .string)
  (h:opF C env s al (.sstr x l0 h0)=some (d,s')){o:Oper}(ho:o.op= .slice t x' lo' hi' none):OpOk P ρ w env a.tmps d s' ((execOp a.eval o).run P w):=by
 simp only [opF]at h
 split at h
 ·rename_i l p q hp hlo hhi
  split at h
  ·rename_i y z hy hz
   split at h
   ·rename_i hb1 hb2
    simp only [Option.some.injEq,Prod.mk.injEq]at h
    obtain⟨rfl,rfl⟩:=h
    have hyz:=Nat.le_of_ble_eq_true hb1
    have hzl:=Nat.le_of_ble_eq_true hb2
    have hv:=opR hx he hg hp
    simp only [Rep]at hv
    have b1:=zWy (P:=P) (code:= .sliceAlen) (zJq he hg hh hhi) hz
    have b2:=zWy (P:=P) (code:= .sliceB) (zJq he hg hl hlo) hy
    have hr:(execOp a.eval o).run P w= .ok (.value (.string ((⟨⟨l⟩⟩:ByteArray).extract y z))) w:=by
     simp only [execOp,ho,Option.map_none]
     rw [Sem.run_bind]
     have e1:(Instr.sliceAt t (a.eval x') (lo'.map a.eval) (hi'.map a.eval) none).run P w= .ok (.string ((⟨⟨l⟩⟩:ByteArray).extract y z)) w:=by
      rw [hv]
      simp only [Instr.sliceAt,Instr.slice,Instr.sliceBounds]
      rcases b1 with ⟨_,e,rfl⟩ | ⟨v1,_,e,e1⟩ <;> rcases b2 with ⟨_,f,rfl⟩ | ⟨v2,_,f,f1⟩ <;> rw [e,f]
      ·simp [run_underlying hu]; rw [zMj]; simp
      ·simp [run_underlying hu,ByteArray.size_mk',f1 _ hyz]
      ·simp [run_underlying hu,ByteArray.size_mk',e1 _ hzl]
      ·simp [run_underlying hu,ByteArray.size_mk',e1 _ hzl,f1 _ hyz]
     rw [e1]; rfl
    rw [hr]
    exact .rep hs (by simp only [Rep]; rw [zMj])
   ·cases h
  ·cases h
 ·cases h
theorem ok_faddr {t:TypeId}{i:Nat} {x' :Operand}{x:Opd}{fs:Array Field}{f:Field}{m:Nat}(hx:opd G x' =some x)(hu:P.underlying t=some (.struct fs))(hf:fs[i]? =some f)(hsz:zPo P f.type=some (m+1))
  (h:opF C env s al (.faddr f.offset x)=some (d,s')){o:Oper}(ho:o.op= .fieldAddr t x' i):OpOk P ρ w env a.tmps d s' ((execOp a.eval o).run P w):=by
 have key:∀b c,a.eval x' = .pointer (some ⟨b,c,none⟩)→(execOp a.eval o).run P w= .ok (.value (.pointer (some ⟨b,c+f.offset,none⟩))) w:=by
  intro b c hv
  simp only [execOp,ho,hv,Instr.fieldAt,Instr.sureAddr]
  simp [run_underlying hu,hf,fieldPlace,zAk hsz,Addr.add_mid]
 simp only [opF]at h
 split at h
 ·rename_i b c hp
  split at h
  ·rename_i hlv
   simp only [Option.some.injEq,Prod.mk.injEq]at h
   obtain⟨rfl,rfl⟩:=h
   obtain⟨y,hy⟩:=zKe hlv
   obtain⟨bb,h2,h3⟩:=zCw hx he hg hp y hy
   rw [key _ _ h3]
   exact .pure hs (by simp only [zBc]; exact fun _ _=>⟨bb,h2,rfl⟩)
  ·cases h
 ·rename_i b c hp
  simp only [Option.some.injEq,Prod.mk.injEq]at h
  obtain⟨rfl,rfl⟩:=h
  have h1:=zCw hx he hg hp
  simp only [zBc,Rep]at h1
  unfold Gh.at at h1
  split at h1
  ·exact h1.elim
  ·rename_i hk
   obtain⟨⟨q1,q2,q3⟩,hq⟩:=h1
   simp only [execOp,ho,hq,Instr.fieldAt,Instr.sureAddr]
   simp only [Sem.run_bind,run_underlying hu,Result.andThen_ok,hf,Sem.run_pure,fieldPlace,zAk hsz]
   simp only [Nat.add_eq_zero_iff,Nat.one_ne_zero,and_false,if_false,Sem.run_pure,Result.andThen_ok]
   exact .rep hs (by simp only [Rep,Gh.at,hk]; exact ⟨_,rfl⟩)
  ·rename_i sz hk
   obtain⟨bb,h2,h3⟩:=h1
   rw [key _ _ h3]
   exact .rep hs (by simp only [Rep,Gh.at,hk]; exact ⟨bb,h2,rfl⟩)
 ·rename_i b i2 c z hp
  simp only [Option.some.injEq,Prod.mk.injEq]at h
  obtain⟨rfl,rfl⟩:=h
  have h1:=zCw hx he hg hp
  simp only [zBc,Rep]at h1
  unfold Gh.at at h1
  split at h1
  ·exact h1.elim
  ·rename_i hk
   obtain⟨⟨q1,q2,q3⟩,hq⟩:=h1
   simp only [execOp,ho,hq,Instr.fieldAt,Instr.sureAddr]
   simp only [Sem.run_bind,run_underlying hu,Result.andThen_ok,hf,Sem.run_pure,fieldPlace,zAk hsz]
   simp only [Nat.add_eq_zero_iff,Nat.one_ne_zero,and_false,if_false,Sem.run_pure,Result.andThen_ok]
   exact .rep hs (by simp only [Rep,Gh.at,hk]; exact ⟨_,rfl⟩)
  ·rename_i sz hk
   obtain⟨bb,h2,h3,h4,h5,h6⟩:=h1
   rw [key _ _ h6]
   exact .rep hs (by simp only [Rep,Gh.at,hk]; exact ⟨bb,h2,h3,h4,h5,by rw [Nat.add_assoc]⟩)
 ·rename_i e c hp
  simp only [Option.some.injEq,Prod.mk.injEq]at h
  obtain⟨rfl,rfl⟩:=h
  have h1:=zCw hx he hg hp
  simp only [zBc,Rep]at h1
  obtain⟨b,xx,u,q1,q2,q3,q4,q5⟩:=h1
  rw [key _ _ q5]
  exact .rep hs (by simp only [Rep]; exact ⟨b,xx,u,q1,q2,q3,q4,by rw [Nat.add_assoc]⟩)
 ·cases h
end
end Go.Ab
