/- Part. -/
import Derived.Test.YtdkejjahldkkoaaGreatDoorG03
import Derived.Lib.Strings
set_option linter.unusedSectionVars false
set_option linter.unusedSimpArgs false
set_option linter.unusedVariables false
namespace Go.Ab
open Go
variable [eW]
variable {ρ:Gh}{w:World}{P:Program}{pn:iO}{G:Gl}{X:iJ}{A:nJ} {s s' :St}{env:Env}{a:Act}{lo:Nat}{d:D}{C:au}{al:Option Nat}
def jA (ρ:Gh)(w:World) (s' :St)(d:D):Ending->World->Prop
 | .returned v,w' =>∃ρ',Kp ρ w ρ' w' /\bZ ρ' s' w' /\aS ρ' w' d v
 | .panicked _,_=>False
 | .outgrown,_=>False
def fb (P:Program)(ρ:Gh)(w:World)(env:Env)(tmps:Array Value)(d:D) (s' :St):Result Next->Prop
 | .ok (.value v) w' =>∃ρ',Kp ρ w ρ' w' /\bZ ρ' s' w' /\fq ρ' w' env tmps d v
 | .ok .skip w' =>∃ρ',Kp ρ w ρ' w' /\bZ ρ' s' w' /\d= .gJ []
 | .ok (.enter f args) w' =>w' =w/\Calls P f args w (jA ρ w s' d)
 | .ok (.round l fn tmps assign body) w' =>w' =w/\RoundIn Fence.wide 0 P l fn tmps assign body w (jA ρ w s' d)
 | _=>False
theorem fb.pure {v:Value}{tmps:Array Value}(hs:bZ ρ s w)(h:fq ρ w env tmps d v):fb P ρ w env tmps d s (.ok (.value v) w):=⟨ρ,Kp.refl _ _,hs,h⟩
theorem fb.rep {v:Value}{tmps:Array Value}(hs:bZ ρ s w)(h:aS ρ w d v):fb P ρ w env tmps d s (.ok (.value v) w):= .pure hs (.yR h)
theorem jy {o:Option D}(h:nk s o=some (d,s')):o=some d/\s' =s:=by
 cases o with
 | none=>simp [nk]at h
 | some x=>simp only [nk,aa,ab]at h; exact ⟨by rw [h.1],h.2.symm⟩
theorem iq {x:D}{o:Option St}(h:oC x o=some (d,s')):o=some s' /\d=x:=by
 cases o with
 | none=>simp [oC]at h
 | some y=>simp only [oC,aa,ab]at h; exact ⟨by rw [h.2],h.1.symm⟩
section
variable (he:eu ρ w lo env a.tmps)(hg:gF pn G ρ w)(hs:bZ ρ s w)
include he hg hs
theorem Tz {x' :Operand}{x:bP}(hx:eK G x' =some x)(h:cB C env s al (.mv x)=some (d,s')){o:Oper}(ho:o.op= .move x' \/o.op= .assign x'):
  fb P ρ w env a.tmps d s' ((execOp a.eval o).run P w):=by
 simp only [cB]at h;obtain⟨h1,rfl⟩:=jy h;have hr:(execOp a.eval o).run P w= .ok (.value (a.eval x')) w:=by rcases ho with ho | ho <;> simp [execOp,ho]
 rw [hr];exact .pure hs (lI hx he hg h1)
theorem Qw {c' x' y' :Operand}{c x y:bP}(hc:eK G c' =some c)(hx:eK G x' =some x)(hy:eK G y' =some y)(h:cB C env s al (.pick c x y)=some (d,s')){o:Oper}(ho:o.op= .pick c' x' y'):
  fb P ρ w env a.tmps d s' ((execOp a.eval o).run P w):=by
 simp only [cB]at h;split at h
 ·rename_i t ht;have h1:=aZ hc he hg ht;simp only [aS]at h1;split at h
  ·obtain⟨h2,rfl⟩:=jy h;have hr:(execOp a.eval o).run P w= .ok (.value (a.eval x')) w:=by simp [execOp,ho,h1,asBool]
   rw [hr]; exact .rep hs (aZ hx he hg h2)
  ·obtain⟨h2,rfl⟩:=jy h;have hr:(execOp a.eval o).run P w= .ok (.value (a.eval y')) w:=by simp [execOp,ho,h1,asBool]
   rw [hr]; exact .rep hs (aZ hy he hg h2)
 ·cases h
omit he hg hs in
theorem vF {b:Nat}(h:env.kG b=true):∃x,env.get b=some (.lv x):=by
 unfold Env.kG at h;split at h
 ·rename_i x hx; exact ⟨x,hx⟩
 ·cases h
theorem K4 {x' :Operand}{x:bP}(hx:eK G x' =some x)(h:cB C env s al (.sg x)=some (d,s')){o:Oper}(ho:o.op= .nilCheck x'):
  fb P ρ w env a.tmps d s' ((execOp a.eval o).run P w):=by
 have key:∀(v:Value),a.eval x' =v->(match v with | .pointer (some _)=>true | .iface _ _=>true | .func (.func _) _ _=>true | _=>false)=true->
   (execOp a.eval o).run P w= .ok (.value (a.eval x')) w:=by
  intro v hv hm;cases v with
  | pointer p=>cases p with
   | none=>simp at hm
   | some q=>simp [execOp,ho,hv]
  | iface t u=>simp [execOp,ho,hv]
  | func f x y=>cases f with
   | func f=>simp [execOp,ho,hv]
   | _=>simp at hm
  | _=>simp at hm
 simp only [cB]at h;have hr:=fun e=>lI (d:=e) hx he hg;split at h
 ·rename_i b c hp;have h1:=hr _ hp;split at h
  ·rename_i na;simp only [aa,ab]at h;obtain⟨rfl,rfl⟩:=h;obtain⟨y,hy⟩:=vF na;obtain⟨bb,_,h3⟩:=h1 y hy;rw [key _ h3 rfl];exact .pure hs h1
  ·cases h
 ·rename_i b c hp;simp only [aa,ab]at h;obtain⟨rfl,rfl⟩:=h;have h1:=hr _ hp;have h2:=h1;simp only [fq,aS]at h2;obtain⟨q,hq⟩:=Gh.jL h2 fun _ _ q=>⟨_,q⟩;rw [key _ hq rfl];exact .pure hs h1
 ·rename_i b i c e hp;simp only [aa,ab]at h;obtain⟨rfl,rfl⟩:=h;have h1:=hr _ hp;have h2:=h1;simp only [fq,aS]at h2;obtain⟨q,hq⟩:=Gh.jL h2 fun _ _ q=>⟨_,q.2.2.2⟩;rw [key _ hq rfl];exact .pure hs h1
 ·rename_i e c hp;simp only [aa,ab]at h;obtain⟨rfl,rfl⟩:=h;have h1:=hr _ hp;have h2:=h1;simp only [fq,aS]at h2;obtain⟨_,_,_,_,_,_,_,hq⟩:=h2;rw [key _ hq rfl];exact .pure hs h1
 ·rename_i t v hp;simp only [aa,ab]at h;obtain⟨rfl,rfl⟩:=h;have h1:=hr _ hp;have h2:=h1;simp only [fq,aS]at h2;obtain⟨_,hq,_⟩:=h2;rw [key _ hq rfl];exact .pure hs h1
 ·rename_i f x y hp;simp only [aa,ab]at h;obtain⟨rfl,rfl⟩:=h;have h1:=hr _ hp;have h2:=h1;simp only [fq,aS]at h2;obtain⟨_,_,hq,_⟩:=h2;rw [key _ hq rfl];exact .pure hs h1
 ·cases h
theorem L6 {op:BinOp}{t u:TypeId} {x' y' :Operand}{x y:bP}(hx:eK G x' =some x)(hy:eK G y' =some y)(h:cB C env s al (.bin op x y)=some (d,s')){o:Oper}(ho:o.op= .binOp op t x' y' u):
  fb P ρ w env a.tmps d s' ((execOp a.eval o).run P w):=by
 simp only [cB]at h;split at h
 ·rename_i p q hp hq;obtain⟨h1,rfl⟩:=jy h;obtain⟨r,h2,h3⟩:=Xc (P:=P) (aZ hx he hg hp) (aZ hy he hg hq) h1 t x' y';have hr:(execOp a.eval o).run P w= .ok (.value r) w:=by
   simp only [execOp,ho];rw [Sem.run_bind,h2]; rfl
  rw [hr]; exact .rep hs h3
 ·cases h
theorem Uk {op:UnOp}{t:TypeId} {x' :Operand}{x:bP}(hx:eK G x' =some x)(h:cB C env s al (.un op x)=some (d,s')){o:Oper}(ho:o.op= .unOp op t x'):
  fb P ρ w env a.tmps d s' ((execOp a.eval o).run P w):=by
 simp only [cB]at h;split at h
 ·rename_i p hp;obtain⟨h1,rfl⟩:=jy h;obtain⟨r,h2,h3⟩:=ZT (P:=P) (aZ hx he hg hp) h1;have hr:(execOp a.eval o).run P w= .ok (.value r) w:=by
   simp only [execOp,ho];rw [Sem.run_bind,h2]; rfl
  rw [hr]; exact .rep hs h3
 ·cases h
theorem RA {t:TypeId} {x' :Operand}{x:bP}(hx:eK G x' =some x)(ht:∃e,P.underlying t=some e/\∀ms,e≠ .interface ms)(h:cB C env s al (.Ni t x)=some (d,s')){o:Oper}(ho:o.op= .makeInterface t x'):
  fb P ρ w env a.tmps d s' ((execOp a.eval o).run P w):=by
 simp only [cB]at h;split at h
 ·rename_i p hp;simp only [aa,ab]at h;obtain⟨rfl,rfl⟩:=h;obtain⟨e,hu,cC⟩:=ht;have hr:(execOp a.eval o).run P w= .ok (.value (.iface t (a.eval x'))) w:=by
   simp only [execOp,ho,Instr.makeInterface];rw [Sem.run_bind,Sem.run_bind,run_underlying hu];cases e <;> simp_all
  rw [hr]; exact .rep hs (by simp only [aS]; exact ⟨_,rfl,aZ hx he hg hp⟩)
 ·cases h
theorem Qj {f:Fn} {x' y' :Array Operand}{x y:List bP}(hx:rV G x' =some x)(hy:rV G y' =some y)(h:cB C env s al (.KY f x y)=some (d,s')){o:Oper}(ho:o.op= .makeFunc f x' y'):
  fb P ρ w env a.tmps d s' ((execOp a.eval o).run P w):=by
 simp only [cB]at h;split at h
 ·rename_i p q hp hq;simp only [aa,ab]at h;obtain⟨rfl,rfl⟩:=h;have hr:(execOp a.eval o).run P w= .ok (.value (.func f (x'.map a.eval) (y'.map a.eval))) w:=by
   simp [execOp,ho,Instr.makeFunc]
  rw [hr]; exact .rep hs (by simp only [aS]; exact ⟨_,_,rfl,Bn he hg hx hp,Bn he hg hy hq⟩)
 ·cases h
theorem GY {i:Nat} {x' :Operand}{x:bP}(hx:eK G x' =some x)(h:cB C env s al (.extract i x)=some (d,s')){o:Oper}(ho:o.op= .extract x' i):
  fb P ρ w env a.tmps d s' ((execOp a.eval o).run P w):=by
 simp only [cB]at h;split at h
 ·rename_i l hp;obtain⟨h1,rfl⟩:=jy h;have h2:=aZ hx he hg hp;simp only [aS]at h2;obtain⟨vs,hv,hl⟩:=h2;obtain⟨v,hi,hd⟩:=hl.get h1;have hi' :vs[i]? =some v:=by simpa using hi
  have hr:(execOp a.eval o).run P w= .ok (.value v) w:=by
   simp [execOp,ho,hv,Instr.extract,hi']
  rw [hr]; exact .rep hs hd
 ·cases h
theorem LF {t:TypeId}{i:Nat} {x' :Operand}{x:bP}{fs:Array Field}{f:Field}{sz:Option Nat}(hx:eK G x' =some x)(hu:P.underlying t=some (.struct fs))(hf:fs[i]? =some f)(gZ:iN P f.type=some sz)
  (h:cB C env s al (.field f.offset sz x)=some (d,s')){o:Oper}(ho:o.op= .field t x' i):
  fb P ρ w env a.tmps d s' ((execOp a.eval o).run P w):=by
 simp only [cB]at h;split at h
 ·rename_i l hp;obtain⟨h1,rfl⟩:=jy h;have h2:=aZ hx he hg hp;simp only [aS]at h2;obtain⟨vs,hv,hl,HY⟩:=h2;obtain⟨v,Ld,hd⟩:=qm (P:=P) hl HY gZ h1;have hr:(execOp a.eval o).run P w= .ok (.value v) w:=by
   simp only [execOp,ho,Instr.field,hv,asAgg];simp [run_underlying hu,hf,Ld]
  rw [hr]; exact .rep hs hd
 ·cases h
theorem Qc {t:TypeId} {x' i' :Operand}{x i:bP}(hx:eK G x' =some x)(hi:eK G i' =some i)(hu:P.underlying t=some .string)(h:cB C env s al (.Ja x i)=some (d,s')){o:Oper}(ho:o.op= .index t x' i'):
  fb P ρ w env a.tmps d s' ((execOp a.eval o).run P w):=by
 simp only [cB]at h;split at h
 ·rename_i l n hp hn;split at h
  ·rename_i k hk;split at h
   ·rename_i b hb;simp only [aa,ab]at h;obtain⟨rfl,rfl⟩:=h;have h1:=aZ hx he hg hp;have h2:=aZ hi he hg hn;cases n <;> simp only [idx]at hk <;> (try cases hk);rename_i kk m;split at hk
    ·rename_i hm;simp only [aa]at hk; subst hk;simp only [aS]at h1 h2;have jm :(⟨⟨l⟩⟩:ByteArray)[m.toNat]? =some b:=by
      have dQ:m.toNat < l.length:=(af.1 hb).1;rw [ByteArray.getElem?_lt' _ _ (by simpa [ByteArray.size_mk'] using dQ)];have:=(af.1 hb).2;exact congrArg some this
     have hr:(execOp a.eval o).run P w= .ok (.value (.int .u8 b.toNat)) w:=by
      simp only [execOp,ho,h1,h2,Instr.index,asIntOf];simp [run_underlying hu,hm,jm]
     rw [hr]; exact .rep hs (by simp [aS])
    ·cases hk
   ·cases h
  ·cases h
 ·cases h
theorem M5 {t u:TypeId}{k j:IntKind} {x' :Operand}{x:bP}(hx:eK G x' =some x)(ht:P.underlying t=some (.int j))(hu:P.underlying u=some (.int k))(h:cB C env s al (.toInt k x)=some (d,s')){o:Oper}(ho:o.op= .convert t u x'):
  fb P ρ w env a.tmps d s' ((execOp a.eval o).run P w):=by
 simp only [cB]at h;split at h
 ·rename_i kk n hp;simp only [aa,ab]at h;obtain⟨rfl,rfl⟩:=h;have h1:=aZ hx he hg hp;simp only [aS]at h1;have hr:(execOp a.eval o).run P w= .ok (.value (.int k (k.wrap n))) w:=by
   simp only [execOp,ho,h1,convert];simp [run_underlying ht,run_underlying hu,Conv.intToInt]
  rw [hr]; exact .rep hs (by simp [aS])
 ·cases h
theorem M0 {t u:TypeId} {x' :Operand}{x:bP}(hx:eK G x' =some x)(ht:P.underlying t=some .string)(hu:P.underlying u=some .string)(h:cB C env s al (.ER x)=some (d,s')){o:Oper}(ho:o.op= .convert t u x'):
  fb P ρ w env a.tmps d s' ((execOp a.eval o).run P w):=by
 simp only [cB]at h;split at h
 ·rename_i l hp;simp only [aa,ab]at h;obtain⟨rfl,rfl⟩:=h;have h1:=aZ hx he hg hp;have h2:=h1;simp only [aS]at h1;have hr:(execOp a.eval o).run P w= .ok (.value (a.eval x')) w:=by
   simp only [execOp,ho,h1,convert];simp [run_underlying ht,run_underlying hu]
  rw [hr]; exact .rep hs h2
 ·cases h
theorem E4 {t u:TypeId}{j:IntKind} {x' :Operand}{x:bP}(hx:eK G x' =some x)(ht:P.underlying t=some (.int j))(hu:P.underlying u=some .string)(h:cB C env s al (.rQ x)=some (d,s')){o:Oper}(ho:o.op= .convert t u x'):
  fb P ρ w env a.tmps d s' ((execOp a.eval o).run P w):=by
 simp only [cB]at h;split at h
 ·rename_i kk n hp;simp only [aa,ab]at h;obtain⟨rfl,rfl⟩:=h;have h1:=aZ hx he hg hp;simp only [aS]at h1;have hr:(execOp a.eval o).run P w= .ok (.value (.string (Utf8.encode n))) w:=by
   simp only [execOp,ho,h1,convert];simp [run_underlying ht,run_underlying hu,Conv.intToString]
  rw [hr]; exact .rep hs (by simp [aS])
 ·cases h
end
end Go.Ab
namespace Go.Ab
open Go
variable [eW]
variable {ρ:Gh}{w:World}{P:Program}{pn:iO}{G:Gl}{X:iJ}{A:nJ} {s s' :St}{env:Env}{a:Act}{lo:Nat}{d:D}{C:au}{al:Option Nat}
def jz:Value->Bool
 | .int .. | .string _ | .float .. | .complex .. =>false
 | _=>true
theorem binOp_eql {t:TypeId}{u v:Value}(h:jz u=true):binOp .eql t u v=(do pure (.bool (← Op.equal t u v))):=by
 cases u <;> simp only [jz]at h <;> (try cases h) <;> cases v <;> rfl
theorem binOp_neq {t:TypeId}{u v:Value}(h:jz u=true):binOp .neq t u v=(do pure (.bool (!(← Op.equal t u v)))):=by
 cases u <;> simp only [jz]at h <;> (try cases h) <;> cases v <;> rfl
theorem JH {oc:Bool}{et:ET}{x y:D}{r:Bool}{u v:Value}(h:tq oc et x y=some r)(h1:et≠ .int)(h2:et≠ .str)(hu:aS ρ w x u)(hv:aS ρ w y v):
  jz u=true/\(u= .nilIface->v= .nilIface->oc=true)/\(∀p q,u= .agg p->v= .agg q->∃l,et= .st l):=by
 have sp:∀ {d:D} {q:Value},aS ρ w d q->(∃o c,d= .ptr o c)\/(∃o i c e,d= .jK o i c e)\/(∃e c,d= .jE e c)\/d= .cT->∃p,q= .pointer p:=by
  intro d q hq hs;rcases hs with ⟨o,c,rfl⟩ | ⟨o,i,c,e,rfl⟩ | ⟨e,c,rfl⟩ | rfl <;> simp only [aS]at hq
  ·obtain⟨p,rfl⟩:=Gh.jL hq fun _ _ q=>⟨_,q⟩; exact ⟨_,rfl⟩
  ·obtain⟨p,rfl⟩:=Gh.jL hq fun _ _ q=>⟨_,q.2.2.2⟩; exact ⟨_,rfl⟩
  ·obtain⟨_,_,_,_,_,_,_,rfl⟩:=hq; exact ⟨_,rfl⟩
  ·exact⟨_,hq⟩
 have ss:∀ {d:D} {q:Value},aS ρ w d q->(∃n z l,d= .vs n z l)\/(∃o a b c,d= .sl o a b c)->∃p n c,q= .slice p n c:=by
  intro d q hq hs;rcases hs with ⟨n,z,l,rfl⟩ | ⟨o,a,b,c,rfl⟩ <;> simp only [aS]at hq
  ·rcases hq with ⟨_,_,rfl⟩ | ⟨_,_,_,rfl,_⟩ <;> exact ⟨_,_,_,rfl⟩
  ·obtain⟨p,c,rfl⟩:=Gh.jL hq fun _ _ ⟨_,_,_,_,_,q,_⟩=>⟨_,_,q⟩; exact ⟨_,_,_,rfl⟩
 cases et with
 | int=>exact absurd rfl h1
 | str=>exact absurd rfl h2
 | bool=>
  simp only [tq]at h;obtain⟨_,_,rfl,_,_⟩:=vB h hu hv;simp [jz]
 | ptr=>
  simp only [tq]at h;split at h <;> (try cases h)
  all_goals
   obtain⟨p,rfl⟩:=sp hu (by simp);simp [jz]
 | slice=>
  simp only [tq]at h;split at h <;> (try cases h)
  all_goals
   obtain⟨p,n,c,rfl⟩:=ss hu (by simp);simp [jz]
 | map=>
  simp only [tq]at h;split at h <;> (try cases h)
  ·simp only [aS]at hu; subst hu; simp [jz]
  ·simp only [aS]at hu; subst hu; simp [jz]
  ·simp only [aS]at hu; obtain ⟨p,rfl⟩:=Gh.jL hu fun _ _ q=>⟨_,q⟩; simp [jz]
 | func=>
  simp only [tq]at h;split at h <;> (try cases h)
  ·simp only [aS]at hu; subst hu; simp [jz]
  ·simp only [aS]at hu; subst hu; simp [jz]
  ·simp only [aS]at hu; obtain ⟨_,_,rfl,_⟩:=hu; simp [jz]
 | iface=>
  simp only [tq]at h;split at h <;> (try cases h)
  ·split at h
   ·simp only [aS]at hu; subst hu; simp [jz]
   ·cases h
  ·simp only [aS]at hu hv; subst hu; obtain ⟨_,rfl,_⟩:=hv; simp [jz]
  ·simp only [aS]at hu hv; subst hv; obtain ⟨_,rfl,_⟩:=hu; simp [jz]
  ·simp only [aS]at hu hv; obtain ⟨_,rfl,_⟩:=hu; simp [jz]
 | st l=>
  simp only [tq]at h;split at h
  ·simp only [aS]at hu; obtain ⟨_,rfl,_⟩:=hu; simp [jz]
  ·cases h
theorem Ey {op:BinOp}{t:TypeId}{px py:Operand}{u v:Value}(hn:u= .nilIface->v= .nilIface->(tI px || tI py)=true)(hag:∀p q,u= .agg p->v= .agg q->P.eqGuardType P.depth t=false):
  (eqGuard op t px py u v).run P w= .ok () w:=by
 by_cases om:op= .eql\/op= .neq
 ·by_cases h1:u= .nilIface/\v= .nilIface
  ·obtain⟨rfl,rfl⟩:=h1;have:=hn rfl rfl;rcases om with rfl | rfl <;> cases px <;> cases py <;> first | (simp [eqGuard]; done) | (exact absurd this (by simp [tI]))
  ·by_cases h2:(∃p,u= .agg p)/\∃q,v= .agg q
   ·obtain⟨⟨p,rfl⟩,q,rfl⟩:=h2;exact run_eqGuard_agg w op t px py p q (hag p q rfl rfl)
   ·rcases om with rfl | rfl <;> cases u <;> cases v <;> first | (simp [eqGuard]; done) | (exact absurd ⟨rfl,rfl⟩ h1) | (exact absurd ⟨⟨_,rfl⟩,⟨_,rfl⟩⟩ h2)
 ·cases op <;> first | (exact absurd (Or.inl rfl) om) | (exact absurd (Or.inr rfl) om) | simp [eqGuard]
theorem DN (d:Nat){t e:TypeId}{m:Nat}(ht:P.underlying t=some (.pointer e))(fR:(sizeOf e).run P w= .ok (m+1) w)(p q:Addr):
  (Op.equalIn (d+1) t (.pointer (some p)) (.pointer (some q))).run P w=(sameAddr p q).run P w:=by
 simp only [Op.equalIn,Sem.run_bind,run_underlying ht,Result.andThen_ok,fR];simp
theorem V0 {x y:D}{r:Bool}{u v:Value}{t e:TypeId}{m:Nat}(hs:bZ ρ s w)(ht:P.underlying t=some (.pointer e))(hm:dM P e=some (m+1))(h:PR s x y=some r)(hu:aS ρ w x u)(hv:aS ρ w y v):
  (∃p,u= .pointer (some p))/\(Op.equal t u v).run P w= .ok r w:=by
 unfold PR at h;split at h
 ·rename_i o c o' c';split at h
  ·rename_i t1 d1 t2 d2 h1 h2;simp only [aa]at h; subst h;obtain⟨b1,v1,k1,aaO,_,kL,Q7,_⟩:=hs.ok _ _ h1;obtain⟨b2,v2,k2,abq,_,jJ,Kv,_⟩:=hs.ok _ _ h2;simp only [aS,Gh.at,k1,k2]at hu hv;obtain⟨PF,aaV,rfl⟩:=hu;obtain⟨b2',WE,rfl⟩:=hv;obtain rfl:=aaO.2 _ aaV;obtain rfl:=abq.2 _ WE;refine⟨⟨_,rfl⟩, ?_⟩;have fR:(sizeOf e).run P w= .ok (m+1) w:=by
    cases hq:P.info? e with
    | none=>simp [dM,hq]at hm
    | some i=>
     have:i.size=m+1:=by simpa [dM,hq] using hm
     simp [sizeOf,typeInfo,hq,this]
   have rE:(sameAddr ⟨PF,c,none⟩ ⟨b2',c',none⟩).run P w= .ok (Nat.beq o o' && Nat.beq c c') w:=by
    by_cases lS:PF =b2'
    ·subst lS;have hoo:o=o' :=by
      have:=aaV.symm.trans WE;simpa using this
     subst hoo;have e1:Nat.beq o o=true:=az o;have e2:((⟨PF,c,none⟩:Addr)==⟨PF,c',none⟩)=Nat.beq c c' :=by
      rw [Bool.eq_iff_iff,ij,iS];simp
     simp [sameAddr,e2]
    ·have hoo:o≠o' :=fun h=>lS (by subst h; exact (aaO.2 _ WE).symm);have e1:Nat.beq o o' =false:=T.uq hoo;have f1:∀x,w.frozen? ⟨PF,x,none⟩=false:=fun x=>by simp [World.frozen?,kL]
     have f2:∀x,w.frozen? ⟨b2',x,none⟩=false:=fun x=>by simp [World.frozen?,jJ]
     have s1:w.shape? PF =some (t1,v1.cells.size):=by simp [World.shape?,kL]
     have s2:w.shape? b2' =some (t2,v2.cells.size):=by simp [World.shape?,jJ]
     simp [sameAddr,lS,f1,f2,noView,viewAt,s1,s2,mayBeOne,stringish,e1]
   exact (DN 9999 ht fR _ _).trans rE
  ·cases h
 ·cases h
section
variable (he:eu ρ w lo env a.tmps)(hg:gF pn G ρ w)(hs:bZ ρ s w)
include he hg hs
theorem ok_eq {op:BinOp}{neg oc:Bool}{et:ET}{t u:TypeId} {x' y' :Operand}{x y:bP}(hx:eK G x' =some x)(hy:eK G y' =some y)(het:sP P 8 t=some et)(h1:et≠ .int)(h2:et≠ .str)
  (om:(op= .eql/\neg=false)\/(op= .neq/\neg=true))(hoc:oc=(tI x' || tI y'))(Xw:∀l,et= .st l->P.eqGuardType P.depth t=false)
  (h:cB C env s al (.eq et neg oc x y)=some (d,s')){o:Oper}(ho:o.op= .binOp op t x' y' u):fb P ρ w env a.tmps d s' ((execOp a.eval o).run P w):=by
 simp only [cB]at h;split at h
 ·rename_i p q hp hq;have hu:=aZ hx he hg hp;have hv:=aZ hy he hg hq;have fin:∀r:Bool,(eqGuard op t x' y' (a.eval x') (a.eval y')).run P w= .ok () w->jz (a.eval x')=true->(Op.equal t (a.eval x') (a.eval y')).run P w= .ok r w->(execOp a.eval o).run P w= .ok (.value (.bool (r !=neg))) w:=by
   intro r hgu KN heq;simp only [execOp,ho,Sem.run_bind,hgu,Result.andThen_ok];rcases om with ⟨rfl,rfl⟩ | ⟨rfl,rfl⟩
   ·simp [binOp_eql KN,heq]
   ·simp [binOp_neq KN,heq]
  split at h
  ·rename_i r hr;simp only [aa,ab]at h;obtain⟨rfl,rfl⟩:=h;obtain⟨e1,e2,e3⟩:=JH hr h1 h2 hu hv;have heq:(Op.equal t (a.eval x') (a.eval y')).run P w= .ok r w:=NK oc 8 t et het Op.maxDepth (by decide) p q r _ _ hr hu hv;rw [fin r (Ey (fun a b=>hoc ▸ e2 a b) (fun a b c d=>Xw _ (e3 a b c d).choose_spec)) e1 heq];exact .rep hs (by simp [aS])
  ·split at h
   ·split at h
    ·rename_i r hr;simp only [aa,ab]at h;obtain⟨rfl,rfl⟩:=h;have EF:∃e m,P.underlying t=some (.pointer e)/\dM P e=some (m+1):=by
      simp only [sP]at het;split at het <;> (try cases het)
      ·rename_i e qv;split at het
       ·rename_i m hm; exact ⟨e,m,qv,hm⟩
       ·cases het
      ·split at het
       ·cases het
       ·simp at het
     obtain⟨e,m,qv,hm⟩:=EF;obtain⟨⟨pp,WX⟩,heq⟩:=V0 (P:=P) hs qv hm hr hu hv;rw [fin r (Ey (fun a _=>by rw [WX]at a; cases a) (fun a _ b _=>by rw [WX]at b; cases b)) (by rw [WX]; rfl) heq];exact .rep hs (by simp [aS])
    ·cases h
   ·cases h
 ·cases h
end
end Go.Ab
namespace Go.Ab
open Go
variable [eW]
variable {ρ:Gh}{w:World}{P:Program}{pn:iO}{G:Gl}{X:iJ}{A:nJ} {s s' :St}{env:Env}{a:Act}{lo:Nat}{d:D}{C:au}{al:Option Nat}
theorem hZ {n:D}{i:Nat}{v:Value}(h:idx n=some i)(hr:aS ρ w n v):∃k,v= .int k (i:Int):=by
 cases n <;> simp only [idx]at h <;> (try cases h);rename_i k m;split at h
 ·rename_i hm;simp only [aa]at h; subst h;simp only [aS]at hr;exact⟨k,by rw [hr,Int.toNat_of_nonneg hm]⟩
 ·cases h
theorem fU {t:TypeId}{n:Nat}(h:dM P t=some n):(sizeOf t).run P w= .ok n w:=by
 cases hq:P.info? t with
 | none=>simp [dM,hq]at h
 | some i=>
  have:i.size=n:=by simpa [dM,hq] using h
  simp [sizeOf,typeInfo,hq,this]
theorem yX (l:List UInt8)(x y:Nat):(⟨⟨l⟩⟩:ByteArray).extract x y=⟨⟨(l.take y).drop x⟩⟩:=by
 have h:=Lib.extract_data (⟨⟨l⟩⟩:ByteArray) x y;have h2:((⟨⟨l⟩⟩:ByteArray).extract x y).data.toList=(l.take y).drop x:=by
  rw [h,List.drop_take]
 generalize (⟨⟨l⟩⟩:ByteArray).extract x y=q at *;obtain⟨⟨m⟩⟩:=q;simp only at h2;rw [h2]
section
variable (he:eu ρ w lo env a.tmps)(hg:gF pn G ρ w)(hs:bZ ρ s w)
include he hg
theorem uK {x' :Option Operand}{x:Option bP}{r:Option D}(hx:sQ G x' =some x)(h:uz env x=some r):
  (r=none/\x'.map a.eval=none)\/(∃d v,r=some d/\x'.map a.eval=some v/\aS ρ w d v):=by
 cases x' with
 | none=>
  simp only [sQ,aa]at hx; subst hx;simp only [uz,aa]at h; subst h;exact .inl ⟨rfl,rfl⟩
 | some y=>
  simp only [sQ,aY]at hx;obtain⟨z,hz,rfl⟩:=hx;simp only [uz]at h;split at h
  ·rename_i d hd;simp only [aa]at h; subst h;exact .inr ⟨d,_,rfl,rfl,aZ hz he hg hd⟩
  ·cases h
omit he hg in
theorem El {x:Option Value}{r:Option D}{k y:Nat}{code:BoundsCode}(hr:(r=none/\x=none)\/(∃d v,r=some d/\x=some v/\aS ρ w d v))(hi:mq k r=some y):
  (r=none/\x=none/\y=k)\/(∃v,r.isSome=true/\x=some v/\∀m,y<=m->(Instr.sliceBound v m code).run P w= .ok y w):=by
 rcases hr with ⟨rfl,rfl⟩ | ⟨d,v,rfl,rfl,h⟩
 ·simp only [mq,aa]at hi; exact .inl ⟨rfl,rfl,hi.symm⟩
 ·simp only [mq]at hi;obtain⟨kk,rfl⟩:=hZ hi h;refine .inr ⟨_,rfl,rfl,fun m hm=> ?_⟩;have:(0:Int)<=(y:Int)/\(y:Int)<=(m:Int):=by omega
  simp [Instr.sliceBound,asIntOf,this]
include hs
theorem RO {t:TypeId} {x' :Operand}{x:bP} {lo' hi' :Option Operand}{l0 h0:Option bP}(hx:eK G x' =some x)(hl:sQ G lo' =some l0)(hh:sQ G hi' =some h0)(hu:P.underlying t=some .string)
  (h:cB C env s al (.pz x l0 h0)=some (d,s')){o:Oper}(ho:o.op= .slice t x' lo' hi' none):fb P ρ w env a.tmps d s' ((execOp a.eval o).run P w):=by
 simp only [cB]at h;split at h
 ·rename_i l p q hp Kx hhi;split at h
  ·rename_i y z hy hz;split at h
   ·rename_i kL jJ;simp only [aa,ab]at h;obtain⟨rfl,rfl⟩:=h;have XN:=ax kL;have Gd:=ax jJ;have hv:=aZ hx he hg hp;simp only [aS]at hv;have b1:=El (P:=P) (code:= .sliceAlen) (uK he hg hh hhi) hz;have b2:=El (P:=P) (code:= .sliceB) (uK he hg hl Kx) hy;have hr:(execOp a.eval o).run P w= .ok (.value (.string ((⟨⟨l⟩⟩:ByteArray).extract y z))) w:=by
     simp only [execOp,ho,Option.map_none];rw [Sem.run_bind];have e1:(Instr.sliceAt t (a.eval x') (lo'.map a.eval) (hi'.map a.eval) none).run P w= .ok (.string ((⟨⟨l⟩⟩:ByteArray).extract y z)) w:=by
      rw [hv];simp only [Instr.sliceAt,Instr.slice,Instr.sliceBounds];rcases b1 with ⟨_,e,rfl⟩ | ⟨v1,_,e,e1⟩ <;> rcases b2 with ⟨_,f,rfl⟩ | ⟨v2,_,f,f1⟩ <;> rw [e,f]
      ·simp [run_underlying hu]; rw [yX]; simp
      ·simp [run_underlying hu,ByteArray.size_mk',f1 _ XN]
      ·simp [run_underlying hu,ByteArray.size_mk',e1 _ Gd]
      ·simp [run_underlying hu,ByteArray.size_mk',e1 _ Gd,f1 _ XN]
     rw [e1]; rfl
    rw [hr];exact .rep hs (by simp only [aS]; rw [yX])
   ·cases h
  ·cases h
 ·cases h
theorem Lx {t:TypeId}{i:Nat} {x' :Operand}{x:bP}{fs:Array Field}{f:Field}{m:Nat}(hx:eK G x' =some x)(hu:P.underlying t=some (.struct fs))(hf:fs[i]? =some f)(fR:dM P f.type=some (m+1))
  (h:cB C env s al (.wG f.offset x)=some (d,s')){o:Oper}(ho:o.op= .fieldAddr t x' i):fb P ρ w env a.tmps d s' ((execOp a.eval o).run P w):=by
 have key:∀b c,a.eval x' = .pointer (some ⟨b,c,none⟩)->(execOp a.eval o).run P w= .ok (.value (.pointer (some ⟨b,c+f.offset,none⟩))) w:=by
  intro b c hv;simp only [execOp,ho,hv,Instr.fieldAt,Instr.sureAddr];simp [run_underlying hu,hf,fieldPlace,fU fR,Addr.add_mid]
 simp only [cB]at h;split at h
 ·rename_i b c hp;split at h
  ·rename_i na;simp only [aa,ab]at h;obtain⟨rfl,rfl⟩:=h;obtain⟨y,hy⟩:=vF na;obtain⟨bb,h2,h3⟩:=lI hx he hg hp y hy;rw [key _ _ h3];exact .pure hs (by simp only [fq]; exact fun _ _=>⟨bb,h2,rfl⟩)
  ·cases h
 ·rename_i b c hp;simp only [aa,ab]at h;obtain⟨rfl,rfl⟩:=h;have h1:=lI hx he hg hp;simp only [fq,aS]at h1;unfold Gh.at at h1;split at h1
  ·exact h1.elim
  ·rename_i hk;obtain⟨⟨q1,q2,q3⟩,hq⟩:=h1;simp only [execOp,ho,hq,Instr.fieldAt,Instr.sureAddr];simp only [Sem.run_bind,run_underlying hu,Result.andThen_ok,hf,Sem.run_pure,fieldPlace,fU fR];simp only [Nat.add_eq_zero_iff,Nat.one_ne_zero,and_false,iw,Sem.run_pure,Result.andThen_ok];exact .rep hs (by simp only [aS,Gh.at,hk]; exact ⟨_,rfl⟩)
  ·rename_i sz hk;obtain⟨bb,h2,h3⟩:=h1;rw [key _ _ h3];exact .rep hs (by simp only [aS,Gh.at,hk]; exact ⟨bb,h2,rfl⟩)
 ·rename_i b i2 c z hp;simp only [aa,ab]at h;obtain⟨rfl,rfl⟩:=h;have h1:=lI hx he hg hp;simp only [fq,aS]at h1;unfold Gh.at at h1;split at h1
  ·exact h1.elim
  ·rename_i hk;obtain⟨⟨q1,q2,q3⟩,hq⟩:=h1;simp only [execOp,ho,hq,Instr.fieldAt,Instr.sureAddr];simp only [Sem.run_bind,run_underlying hu,Result.andThen_ok,hf,Sem.run_pure,fieldPlace,fU fR];simp only [Nat.add_eq_zero_iff,Nat.one_ne_zero,and_false,iw,Sem.run_pure,Result.andThen_ok];exact .rep hs (by simp only [aS,Gh.at,hk]; exact ⟨_,rfl⟩)
  ·rename_i sz hk;obtain⟨bb,h2,h3,h4,h5,h6⟩:=h1;rw [key _ _ h6];exact .rep hs (by simp only [aS,Gh.at,hk]; exact ⟨bb,h2,h3,h4,h5,by rw [iF]⟩)
 ·rename_i e c hp;simp only [aa,ab]at h;obtain⟨rfl,rfl⟩:=h;have h1:=lI hx he hg hp;simp only [fq,aS]at h1;obtain⟨b,xx,u,q1,q2,q3,q4,q5⟩:=h1;rw [key _ _ q5];exact .rep hs (by simp only [aS]; exact ⟨b,xx,u,q1,q2,q3,q4,by rw [iF]⟩)
 ·cases h
end
end Go.Ab
