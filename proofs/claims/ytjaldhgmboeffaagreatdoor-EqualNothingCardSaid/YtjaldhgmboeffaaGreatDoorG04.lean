/- Part. -/
import Derived.Test.YtjaldhgmboeffaaGreatDoorG03
import Derived.Lib.Strings
set_option linter.unusedSectionVars false
namespace Go.Ab
open Go
variable [eV]
variable {ρ:Gh}{w:World}{P:Program}{pn:jn}{G:Gl}{X:iw}{A:nA} {s s' :St}{env:Env}{a:Act}{lo:Nat}{d:D}{C:ay}{al:Option Nat}
def jW (ρ:Gh)(w:World) (s' :St)(d:D):Ending->World->Prop
 | .returned v,w' =>∃ρ',Kp ρ w ρ' w' /\ck ρ' s' w' /\aU ρ' w' d v
 | .panicked _,_=>False
 | .outgrown,_=>False
def fc (P:Program)(ρ:Gh)(w:World)(env:Env)(tmps:Array Value)(d:D) (s' :St):Result Next->Prop
 | .ok (.value v) w' =>∃ρ',Kp ρ w ρ' w' /\ck ρ' s' w' /\ft ρ' w' env tmps d v
 | .ok .skip w' =>∃ρ',Kp ρ w ρ' w' /\ck ρ' s' w' /\d= .gK []
 | .ok (.enter f args) w' =>w' =w/\Calls P f args w (jW ρ w s' d)
 | .ok (.round l fn tmps assign body) w' =>w' =w/\RoundIn Fence.wide 0 P l fn tmps assign body w (jW ρ w s' d)
 | _=>False
theorem fc.pure {v:Value}{tmps:Array Value}(hs:ck ρ s w)(h:ft ρ w env tmps d v):fc P ρ w env tmps d s (.ok (.value v) w):=⟨ρ,Kp.refl _ _,hs,h⟩
theorem fc.rep {v:Value}{tmps:Array Value}(hs:ck ρ s w)(h:aU ρ w d v):fc P ρ w env tmps d s (.ok (.value v) w):= .pure hs (.yW h)
theorem jt {o:Option D}(h:nj s o=some (d,s')):o=some d/\s' =s:=by
 cases o with
 | none=>simp [nj]at h
 | some x=>simp only [nj,aa,ae]at h; exact ⟨by rw [h.1],h.2.symm⟩
theorem il {x:D}{o:Option St}(h:oK x o=some (d,s')):o=some s' /\d=x:=by
 cases o with
 | none=>simp [oK]at h
 | some y=>simp only [oK,aa,ae]at h; exact ⟨by rw [h.2],h.1.symm⟩
section
variable (he:ew ρ w lo env a.tmps)(hg:gN pn G ρ w)(hs:ck ρ s w)
include he hg hs
theorem Up {x' :Operand}{x:bP}(hx:eO G x' =some x)(h:cC C env s al (.mv x)=some (d,s')){o:Oper}(ho:o.op= .move x' \/o.op= .assign x'):
  fc P ρ w env a.tmps d s' ((execOp a.eval o).run P w):=by
 simp only [cC]at h;obtain⟨h1,rfl⟩:=jt h;have hr:(execOp a.eval o).run P w= .ok (.value (a.eval x')) w:=by rcases ho with ho | ho <;> simp [execOp,ho]
 rw [hr];exact .pure hs (lL hx he hg h1)
theorem RX {c' x' y' :Operand}{c x y:bP}(hc:eO G c' =some c)(hx:eO G x' =some x)(hy:eO G y' =some y)(h:cC C env s al (.pick c x y)=some (d,s')){o:Oper}(ho:o.op= .pick c' x' y'):
  fc P ρ w env a.tmps d s' ((execOp a.eval o).run P w):=by
 simp only [cC]at h;split at h
 ·rename_i t ht;have h1:=ba hc he hg ht;simp only [aU]at h1;split at h
  ·obtain⟨h2,rfl⟩:=jt h;have hr:(execOp a.eval o).run P w= .ok (.value (a.eval x')) w:=by simp [execOp,ho,h1,asBool]
   rw [hr]; exact .rep hs (ba hx he hg h2)
  ·obtain⟨h2,rfl⟩:=jt h;have hr:(execOp a.eval o).run P w= .ok (.value (a.eval y')) w:=by simp [execOp,ho,h1,asBool]
   rw [hr]; exact .rep hs (ba hy he hg h2)
 ·cases h
omit he hg hs in
theorem vH {b:Nat}(h:env.kC b=true):∃x,env.get b=some (.lv x):=by
 unfold Env.kC at h;split at h
 ·rename_i x hx; exact ⟨x,hx⟩
 ·cases h
theorem Kc {x' :Operand}{x:bP}(hx:eO G x' =some x)(h:cC C env s al (.iv x)=some (d,s')){o:Oper}(ho:o.op= .nilCheck x'):
  fc P ρ w env a.tmps d s' ((execOp a.eval o).run P w):=by
 have key:∀(v:Value),a.eval x' =v->(match v with | .pointer (some _)=>true | .iface _ _=>true | .func (.func _) _ _=>true | _=>false)=true->
   (execOp a.eval o).run P w= .ok (.value (a.eval x')) w:=by
  intro v hv hm;cases v with
  | pointer p=>cases p with
   | none=>simp at hm
   | some q=>simp [execOp,ho,hv]
  | iface t u=>simp [execOp,ho,hv]
  | func f x y=>cases f with
   | func f=>simp [execOp,ho,hv]
   | _=>simp at hm
  | _=>simp at hm
 simp only [cC]at h;have hr:=fun e=>lL (d:=e) hx he hg;split at h
 ·rename_i b c hp;have h1:=hr _ hp;split at h
  ·rename_i nD;simp only [aa,ae]at h;obtain⟨rfl,rfl⟩:=h;obtain⟨y,hy⟩:=vH nD;obtain⟨bb,_,h3⟩:=h1 y hy;rw [key _ h3 rfl];exact .pure hs h1
  ·cases h
 ·rename_i b c hp;simp only [aa,ae]at h;obtain⟨rfl,rfl⟩:=h;have h1:=hr _ hp;have h2:=h1;simp only [ft,aU]at h2;obtain⟨q,hq⟩:=Gh.jM h2 fun _ _ q=>⟨_,q⟩;rw [key _ hq rfl];exact .pure hs h1
 ·rename_i b i c e hp;simp only [aa,ae]at h;obtain⟨rfl,rfl⟩:=h;have h1:=hr _ hp;have h2:=h1;simp only [ft,aU]at h2;obtain⟨q,hq⟩:=Gh.jM h2 fun _ _ q=>⟨_,q.2.2.2⟩;rw [key _ hq rfl];exact .pure hs h1
 ·rename_i e c hp;simp only [aa,ae]at h;obtain⟨rfl,rfl⟩:=h;have h1:=hr _ hp;have h2:=h1;simp only [ft,aU]at h2;obtain⟨_,_,_,_,_,_,_,hq⟩:=h2;rw [key _ hq rfl];exact .pure hs h1
 ·rename_i t v hp;simp only [aa,ae]at h;obtain⟨rfl,rfl⟩:=h;have h1:=hr _ hp;have h2:=h1;simp only [ft,aU]at h2;obtain⟨_,hq,_⟩:=h2;rw [key _ hq rfl];exact .pure hs h1
 ·rename_i f x y hp;simp only [aa,ae]at h;obtain⟨rfl,rfl⟩:=h;have h1:=hr _ hp;have h2:=h1;simp only [ft,aU]at h2;obtain⟨_,_,hq,_⟩:=h2;rw [key _ hq rfl];exact .pure hs h1
 ·cases h
theorem Nh {op:BinOp}{t u:TypeId} {x' y' :Operand}{x y:bP}(hx:eO G x' =some x)(hy:eO G y' =some y)(h:cC C env s al (.bin op x y)=some (d,s')){o:Oper}(ho:o.op= .binOp op t x' y' u):
  fc P ρ w env a.tmps d s' ((execOp a.eval o).run P w):=by
 simp only [cC]at h;split at h
 ·rename_i p q hp hq;obtain⟨h1,rfl⟩:=jt h;obtain⟨r,h2,h3⟩:=VV (P:=P) (ba hx he hg hp) (ba hy he hg hq) h1 t x' y';have hr:(execOp a.eval o).run P w= .ok (.value r) w:=by
   simp only [execOp,ho];rw [Sem.run_bind,h2]; rfl
  rw [hr]; exact .rep hs h3
 ·cases h
theorem S0 {op:UnOp}{t:TypeId} {x' :Operand}{x:bP}(hx:eO G x' =some x)(h:cC C env s al (.un op x)=some (d,s')){o:Oper}(ho:o.op= .unOp op t x'):
  fc P ρ w env a.tmps d s' ((execOp a.eval o).run P w):=by
 simp only [cC]at h;split at h
 ·rename_i p hp;obtain⟨h1,rfl⟩:=jt h;obtain⟨r,h2,h3⟩:=YL (P:=P) (ba hx he hg hp) h1;have hr:(execOp a.eval o).run P w= .ok (.value r) w:=by
   simp only [execOp,ho];rw [Sem.run_bind,h2]; rfl
  rw [hr]; exact .rep hs h3
 ·cases h
theorem RI {t:TypeId} {x' :Operand}{x:bP}(hx:eO G x' =some x)(ht:∃e,P.underlying t=some e/\∀ms,e≠ .interface ms)(h:cC C env s al (.Mc t x)=some (d,s')){o:Oper}(ho:o.op= .makeInterface t x'):
  fc P ρ w env a.tmps d s' ((execOp a.eval o).run P w):=by
 simp only [cC]at h;split at h
 ·rename_i p hp;simp only [aa,ae]at h;obtain⟨rfl,rfl⟩:=h;obtain⟨e,hu,cE⟩:=ht;have hr:(execOp a.eval o).run P w= .ok (.value (.iface t (a.eval x'))) w:=by
   simp only [execOp,ho,Instr.makeInterface];rw [Sem.run_bind,Sem.run_bind,run_underlying hu];cases e <;> simp_all
  rw [hr]; exact .rep hs (by simp only [aU]; exact ⟨_,rfl,ba hx he hg hp⟩)
 ·cases h
theorem Se {f:Fn} {x' y' :Array Operand}{x y:List bP}(hx:rX G x' =some x)(hy:rX G y' =some y)(h:cC C env s al (.Kv f x y)=some (d,s')){o:Oper}(ho:o.op= .makeFunc f x' y'):
  fc P ρ w env a.tmps d s' ((execOp a.eval o).run P w):=by
 simp only [cC]at h;split at h
 ·rename_i p q hp hq;simp only [aa,ae]at h;obtain⟨rfl,rfl⟩:=h;have hr:(execOp a.eval o).run P w= .ok (.value (.func f (x'.map a.eval) (y'.map a.eval))) w:=by
   simp [execOp,ho,Instr.makeFunc]
  rw [hr]; exact .rep hs (by simp only [aU]; exact ⟨_,_,rfl,AQ he hg hx hp,AQ he hg hy hq⟩)
 ·cases h
theorem Gi {i:Nat} {x' :Operand}{x:bP}(hx:eO G x' =some x)(h:cC C env s al (.extract i x)=some (d,s')){o:Oper}(ho:o.op= .extract x' i):
  fc P ρ w env a.tmps d s' ((execOp a.eval o).run P w):=by
 simp only [cC]at h;split at h
 ·rename_i l hp;obtain⟨h1,rfl⟩:=jt h;have h2:=ba hx he hg hp;simp only [aU]at h2;obtain⟨vs,hv,hl⟩:=h2;obtain⟨v,hi,hd⟩:=hl.get h1;have hi' :vs[i]? =some v:=by simpa using hi
  have hr:(execOp a.eval o).run P w= .ok (.value v) w:=by
   simp [execOp,ho,hv,Instr.extract,hi']
  rw [hr]; exact .rep hs hd
 ·cases h
theorem Ob {t:TypeId}{i:Nat} {x' :Operand}{x:bP}{fs:Array Field}{f:Field}{sz:Option Nat}(hx:eO G x' =some x)(hu:P.underlying t=some (.struct fs))(hf:fs[i]? =some f)(gX:iL P f.type=some sz)
  (h:cC C env s al (.field f.offset sz x)=some (d,s')){o:Oper}(ho:o.op= .field t x' i):
  fc P ρ w env a.tmps d s' ((execOp a.eval o).run P w):=by
 simp only [cC]at h;split at h
 ·rename_i l hp;obtain⟨h1,rfl⟩:=jt h;have h2:=ba hx he hg hp;simp only [aU]at h2;obtain⟨vs,hv,hl,H4⟩:=h2;obtain⟨v,Xe,hd⟩:=qh (P:=P) hl H4 gX h1;have hr:(execOp a.eval o).run P w= .ok (.value v) w:=by
   simp only [execOp,ho,Instr.field,hv,asAgg];simp [run_underlying hu,hf,Xe]
  rw [hr]; exact .rep hs hd
 ·cases h
theorem Qq {t:TypeId} {x' i' :Operand}{x i:bP}(hx:eO G x' =some x)(hi:eO G i' =some i)(hu:P.underlying t=some .string)(h:cC C env s al (.I5 x i)=some (d,s')){o:Oper}(ho:o.op= .index t x' i'):
  fc P ρ w env a.tmps d s' ((execOp a.eval o).run P w):=by
 simp only [cC]at h;split at h
 ·rename_i l n hp hn;split at h
  ·rename_i k hk;split at h
   ·rename_i b hb;simp only [aa,ae]at h;obtain⟨rfl,rfl⟩:=h;have h1:=ba hx he hg hp;have h2:=ba hi he hg hn;cases n <;> simp only [idx]at hk <;> (try cases hk);rename_i kk m;split at hk
    ·rename_i hm;simp only [aa]at hk; subst hk;simp only [aU]at h1 h2;have jl :(⟨⟨l⟩⟩:ByteArray)[m.toNat]? =some b:=by
      have dM:m.toNat < l.length:=(aj.1 hb).1;rw [ByteArray.getElem?_lt' _ _ (by simpa [ByteArray.size_mk'] using dM)];have:=(aj.1 hb).2;exact congrArg some this
     have hr:(execOp a.eval o).run P w= .ok (.value (.int .u8 b.toNat)) w:=by
      simp only [execOp,ho,h1,h2,Instr.index,asIntOf];simp [run_underlying hu,hm,jl]
     rw [hr]; exact .rep hs (by simp [aU])
    ·cases hk
   ·cases h
  ·cases h
 ·cases h
theorem MP {t u:TypeId}{k j:IntKind} {x' :Operand}{x:bP}(hx:eO G x' =some x)(ht:P.underlying t=some (.int j))(hu:P.underlying u=some (.int k))(h:cC C env s al (.toInt k x)=some (d,s')){o:Oper}(ho:o.op= .convert t u x'):
  fc P ρ w env a.tmps d s' ((execOp a.eval o).run P w):=by
 simp only [cC]at h;split at h
 ·rename_i kk n hp;simp only [aa,ae]at h;obtain⟨rfl,rfl⟩:=h;have h1:=ba hx he hg hp;simp only [aU]at h1;have hr:(execOp a.eval o).run P w= .ok (.value (.int k (k.wrap n))) w:=by
   simp only [execOp,ho,h1,convert];simp [run_underlying ht,run_underlying hu,Conv.intToInt]
  rw [hr]; exact .rep hs (by simp [aU])
 ·cases h
theorem Ni {t u:TypeId} {x' :Operand}{x:bP}(hx:eO G x' =some x)(ht:P.underlying t=some .string)(hu:P.underlying u=some .string)(h:cC C env s al (.EL x)=some (d,s')){o:Oper}(ho:o.op= .convert t u x'):
  fc P ρ w env a.tmps d s' ((execOp a.eval o).run P w):=by
 simp only [cC]at h;split at h
 ·rename_i l hp;simp only [aa,ae]at h;obtain⟨rfl,rfl⟩:=h;have h1:=ba hx he hg hp;have h2:=h1;simp only [aU]at h1;have hr:(execOp a.eval o).run P w= .ok (.value (a.eval x')) w:=by
   simp only [execOp,ho,h1,convert];simp [run_underlying ht,run_underlying hu]
  rw [hr]; exact .rep hs h2
 ·cases h
theorem C5 {t u:TypeId}{j:IntKind} {x' :Operand}{x:bP}(hx:eO G x' =some x)(ht:P.underlying t=some (.int j))(hu:P.underlying u=some .string)(h:cC C env s al (.rr x)=some (d,s')){o:Oper}(ho:o.op= .convert t u x'):
  fc P ρ w env a.tmps d s' ((execOp a.eval o).run P w):=by
 simp only [cC]at h;split at h
 ·rename_i kk n hp;simp only [aa,ae]at h;obtain⟨rfl,rfl⟩:=h;have h1:=ba hx he hg hp;simp only [aU]at h1;have hr:(execOp a.eval o).run P w= .ok (.value (.string (Utf8.encode n))) w:=by
   simp only [execOp,ho,h1,convert];simp [run_underlying ht,run_underlying hu,Conv.intToString]
  rw [hr]; exact .rep hs (by simp [aU])
 ·cases h
end
end Go.Ab
namespace Go.Ab
open Go
variable [eV]
variable {ρ:Gh}{w:World}{P:Program}{pn:jn}{G:Gl}{X:iw}{A:nA} {s s' :St}{env:Env}{a:Act}{lo:Nat}{d:D}{C:ay}{al:Option Nat}
def jy:Value->Bool
 | .int .. | .string _ | .float .. | .complex .. =>false
 | _=>true
theorem binOp_eql {t:TypeId}{u v:Value}(h:jy u=true):binOp .eql t u v=(do pure (.bool (← Op.equal t u v))):=by
 cases u <;> simp only [jy]at h <;> (try cases h) <;> cases v <;> rfl
theorem binOp_neq {t:TypeId}{u v:Value}(h:jy u=true):binOp .neq t u v=(do pure (.bool (!(← Op.equal t u v)))):=by
 cases u <;> simp only [jy]at h <;> (try cases h) <;> cases v <;> rfl
theorem KA {oc:Bool}{et:ET}{x y:D}{r:Bool}{u v:Value}(h:th oc et x y=some r)(h1:et≠ .int)(h2:et≠ .str)(hu:aU ρ w x u)(hv:aU ρ w y v):
  jy u=true/\(u= .nilIface->v= .nilIface->oc=true)/\(∀p q,u= .agg p->v= .agg q->∃l,et= .st l):=by
 have sp:∀ {d:D} {q:Value},aU ρ w d q->(∃o c,d= .ptr o c)\/(∃o i c e,d= .jI o i c e)\/(∃e c,d= .jD e c)\/d= .cz->∃p,q= .pointer p:=by
  intro d q hq hs;rcases hs with ⟨o,c,rfl⟩ | ⟨o,i,c,e,rfl⟩ | ⟨e,c,rfl⟩ | rfl <;> simp only [aU]at hq
  ·obtain⟨p,rfl⟩:=Gh.jM hq fun _ _ q=>⟨_,q⟩; exact ⟨_,rfl⟩
  ·obtain⟨p,rfl⟩:=Gh.jM hq fun _ _ q=>⟨_,q.2.2.2⟩; exact ⟨_,rfl⟩
  ·obtain⟨_,_,_,_,_,_,_,rfl⟩:=hq; exact ⟨_,rfl⟩
  ·exact⟨_,hq⟩
 have ss:∀ {d:D} {q:Value},aU ρ w d q->(∃n z l,d= .vs n z l)\/(∃o a b c,d= .sl o a b c)->∃p n c,q= .slice p n c:=by
  intro d q hq hs;rcases hs with ⟨n,z,l,rfl⟩ | ⟨o,a,b,c,rfl⟩ <;> simp only [aU]at hq
  ·rcases hq with ⟨_,_,rfl⟩ | ⟨_,_,_,rfl,_⟩ <;> exact ⟨_,_,_,rfl⟩
  ·obtain⟨p,c,rfl⟩:=Gh.jM hq fun _ _ ⟨_,_,_,_,_,q,_⟩=>⟨_,_,q⟩; exact ⟨_,_,_,rfl⟩
 cases et with
 | int=>exact absurd rfl h1
 | str=>exact absurd rfl h2
 | bool=>
  simp only [th]at h;obtain⟨_,_,rfl,_,_⟩:=vK h hu hv;simp [jy]
 | ptr=>
  simp only [th]at h;split at h <;> (try cases h)
  all_goals
   obtain⟨p,rfl⟩:=sp hu (by simp);simp [jy]
 | slice=>
  simp only [th]at h;split at h <;> (try cases h)
  all_goals
   obtain⟨p,n,c,rfl⟩:=ss hu (by simp);simp [jy]
 | map=>
  simp only [th]at h;split at h <;> (try cases h)
  ·simp only [aU]at hu; subst hu; simp [jy]
  ·simp only [aU]at hu; subst hu; simp [jy]
  ·simp only [aU]at hu; obtain ⟨p,rfl⟩:=Gh.jM hu fun _ _ q=>⟨_,q⟩; simp [jy]
 | func=>
  simp only [th]at h;split at h <;> (try cases h)
  ·simp only [aU]at hu; subst hu; simp [jy]
  ·simp only [aU]at hu; subst hu; simp [jy]
  ·simp only [aU]at hu; obtain ⟨_,_,rfl,_⟩:=hu; simp [jy]
 | iface=>
  simp only [th]at h;split at h <;> (try cases h)
  ·split at h
   ·simp only [aU]at hu; subst hu; simp [jy]
   ·cases h
  ·simp only [aU]at hu hv; subst hu; obtain ⟨_,rfl,_⟩:=hv; simp [jy]
  ·simp only [aU]at hu hv; subst hv; obtain ⟨_,rfl,_⟩:=hu; simp [jy]
  ·simp only [aU]at hu hv; obtain ⟨_,rfl,_⟩:=hu; simp [jy]
 | st l=>
  simp only [th]at h;split at h
  ·simp only [aU]at hu; obtain ⟨_,rfl,_⟩:=hu; simp [jy]
  ·cases h
theorem E5 {op:BinOp}{t:TypeId}{px py:Operand}{u v:Value}(hn:u= .nilIface->v= .nilIface->(tE px || tE py)=true)(Z3:∀p q,u= .agg p->v= .agg q->P.eqGuardType P.depth t=false):
  (eqGuard op t px py u v).run P w= .ok () w:=by
 by_cases oq:op= .eql\/op= .neq
 ·by_cases h1:u= .nilIface/\v= .nilIface
  ·obtain⟨rfl,rfl⟩:=h1;have:=hn rfl rfl;rcases oq with rfl | rfl <;> cases px <;> cases py <;> first | (simp [eqGuard]; done) | (exact absurd this (by simp [tE]))
  ·by_cases h2:(∃p,u= .agg p)/\∃q,v= .agg q
   ·obtain⟨⟨p,rfl⟩,q,rfl⟩:=h2;exact run_eqGuard_agg w op t px py p q (Z3 p q rfl rfl)
   ·rcases oq with rfl | rfl <;> cases u <;> cases v <;> first | (simp [eqGuard]; done) | (exact absurd ⟨rfl,rfl⟩ h1) | (exact absurd ⟨⟨_,rfl⟩,⟨_,rfl⟩⟩ h2)
 ·cases op <;> first | (exact absurd (Or.inl rfl) oq) | (exact absurd (Or.inr rfl) oq) | simp [eqGuard]
theorem CJ (d:Nat){t e:TypeId}{m:Nat}(ht:P.underlying t=some (.pointer e))(fS:(sizeOf e).run P w= .ok (m+1) w)(p q:Addr):
  (Op.equalIn (d+1) t (.pointer (some p)) (.pointer (some q))).run P w=(sameAddr p q).run P w:=by
 simp only [Op.equalIn,Sem.run_bind,run_underlying ht,Result.andThen_ok,fS];simp
theorem Wd {x y:D}{r:Bool}{u v:Value}{t e:TypeId}{m:Nat}(hs:ck ρ s w)(ht:P.underlying t=some (.pointer e))(hm:dO P e=some (m+1))(h:PI s x y=some r)(hu:aU ρ w x u)(hv:aU ρ w y v):
  (∃p,u= .pointer (some p))/\(Op.equal t u v).run P w= .ok r w:=by
 unfold PI at h;split at h
 ·rename_i o c o' c';split at h
  ·rename_i t1 d1 t2 d2 h1 h2;simp only [aa]at h; subst h;obtain⟨b1,v1,k1,YY,_,kO,QV,_⟩:=hs.ok _ _ h1;obtain⟨b2,v2,k2,aa0,_,jK,KC,_⟩:=hs.ok _ _ h2;simp only [aU,Gh.at,k1,k2]at hu hv;obtain⟨PB,Y0,rfl⟩:=hu;obtain⟨b2',VX,rfl⟩:=hv;obtain rfl:=YY.2 _ Y0;obtain rfl:=aa0.2 _ VX;refine⟨⟨_,rfl⟩, ?_⟩;have fS:(sizeOf e).run P w= .ok (m+1) w:=by
    cases hq:P.info? e with
    | none=>simp [dO,hq]at hm
    | some i=>
     have:i.size=m+1:=by simpa [dO,hq] using hm
     simp [sizeOf,typeInfo,hq,this]
   have rB:(sameAddr ⟨PB,c,none⟩ ⟨b2',c',none⟩).run P w= .ok (Nat.beq o o' && Nat.beq c c') w:=by
    by_cases lT:PB =b2'
    ·subst lT;have hoo:o=o' :=by
      have:=Y0.symm.trans VX;simpa using this
     subst hoo;have e1:Nat.beq o o=true:=aA o;have e2:((⟨PB,c,none⟩:Addr)==⟨PB,c',none⟩)=Nat.beq c c' :=by
      rw [Bool.eq_iff_iff,ib,iQ];simp
     simp [sameAddr,e2]
    ·have hoo:o≠o' :=fun h=>lT (by subst h; exact (YY.2 _ VX).symm);have e1:Nat.beq o o' =false:=T.uE hoo;have f1:∀x,w.frozen? ⟨PB,x,none⟩=false:=fun x=>by simp [World.frozen?,kO]
     have f2:∀x,w.frozen? ⟨b2',x,none⟩=false:=fun x=>by simp [World.frozen?,jK]
     have s1:w.shape? PB =some (t1,v1.cells.size):=by simp [World.shape?,kO]
     have s2:w.shape? b2' =some (t2,v2.cells.size):=by simp [World.shape?,jK]
     simp [sameAddr,lT,f1,f2,noView,viewAt,s1,s2,mayBeOne,stringish,e1]
   exact (CJ 9999 ht fS _ _).trans rB
  ·cases h
 ·cases h
section
variable (he:ew ρ w lo env a.tmps)(hg:gN pn G ρ w)(hs:ck ρ s w)
include he hg hs
theorem ok_eq {op:BinOp}{neg oc:Bool}{et:ET}{t u:TypeId} {x' y' :Operand}{x y:bP}(hx:eO G x' =some x)(hy:eO G y' =some y)(het:sK P 8 t=some et)(h1:et≠ .int)(h2:et≠ .str)
  (oq:(op= .eql/\neg=false)\/(op= .neq/\neg=true))(hoc:oc=(tE x' || tE y'))(OY:∀l,et= .st l->P.eqGuardType P.depth t=false)
  (h:cC C env s al (.eq et neg oc x y)=some (d,s')){o:Oper}(ho:o.op= .binOp op t x' y' u):fc P ρ w env a.tmps d s' ((execOp a.eval o).run P w):=by
 simp only [cC]at h;split at h
 ·rename_i p q hp hq;have hu:=ba hx he hg hp;have hv:=ba hy he hg hq;have fin:∀r:Bool,(eqGuard op t x' y' (a.eval x') (a.eval y')).run P w= .ok () w->jy (a.eval x')=true->(Op.equal t (a.eval x') (a.eval y')).run P w= .ok r w->(execOp a.eval o).run P w= .ok (.value (.bool (r !=neg))) w:=by
   intro r hgu I3 heq;simp only [execOp,ho,Sem.run_bind,hgu,Result.andThen_ok];rcases oq with ⟨rfl,rfl⟩ | ⟨rfl,rfl⟩
   ·simp [binOp_eql I3,heq]
   ·simp [binOp_neq I3,heq]
  split at h
  ·rename_i r hr;simp only [aa,ae]at h;obtain⟨rfl,rfl⟩:=h;obtain⟨e1,e2,e3⟩:=KA hr h1 h2 hu hv;have heq:(Op.equal t (a.eval x') (a.eval y')).run P w= .ok r w:=Pa oc 8 t et het Op.maxDepth (by decide) p q r _ _ hr hu hv;rw [fin r (E5 (fun a b=>hoc ▸ e2 a b) (fun a b c d=>OY _ (e3 a b c d).choose_spec)) e1 heq];exact .rep hs (by simp [aU])
  ·split at h
   ·split at h
    ·rename_i r hr;simp only [aa,ae]at h;obtain⟨rfl,rfl⟩:=h;have CQ:∃e m,P.underlying t=some (.pointer e)/\dO P e=some (m+1):=by
      simp only [sK]at het;split at het <;> (try cases het)
      ·rename_i e qs;split at het
       ·rename_i m hm; exact ⟨e,m,qs,hm⟩
       ·cases het
      ·split at het
       ·cases het
       ·simp at het
     obtain⟨e,m,qs,hm⟩:=CQ;obtain⟨⟨pp,WD⟩,heq⟩:=Wd (P:=P) hs qs hm hr hu hv;rw [fin r (E5 (fun a _=>by rw [WD]at a; cases a) (fun a _ b _=>by rw [WD]at b; cases b)) (by rw [WD]; rfl) heq];exact .rep hs (by simp [aU])
    ·cases h
   ·cases h
 ·cases h
end
end Go.Ab
namespace Go.Ab
open Go
variable [eV]
variable {ρ:Gh}{w:World}{P:Program}{pn:jn}{G:Gl}{X:iw}{A:nA} {s s' :St}{env:Env}{a:Act}{lo:Nat}{d:D}{C:ay}{al:Option Nat}
theorem gY {n:D}{i:Nat}{v:Value}(h:idx n=some i)(hr:aU ρ w n v):∃k,v= .int k (i:Int):=by
 cases n <;> simp only [idx]at h <;> (try cases h);rename_i k m;split at h
 ·rename_i hm;simp only [aa]at h; subst h;simp only [aU]at hr;exact⟨k,by rw [hr,Int.toNat_of_nonneg hm]⟩
 ·cases h
theorem fT {t:TypeId}{n:Nat}(h:dO P t=some n):(sizeOf t).run P w= .ok n w:=by
 cases hq:P.info? t with
 | none=>simp [dO,hq]at h
 | some i=>
  have:i.size=n:=by simpa [dO,hq] using h
  simp [sizeOf,typeInfo,hq,this]
theorem yA (l:List UInt8)(x y:Nat):(⟨⟨l⟩⟩:ByteArray).extract x y=⟨⟨(l.take y).drop x⟩⟩:=by
 have h:=Lib.extract_data (⟨⟨l⟩⟩:ByteArray) x y;have h2:((⟨⟨l⟩⟩:ByteArray).extract x y).data.toList=(l.take y).drop x:=by
  rw [h,List.drop_take]
 generalize (⟨⟨l⟩⟩:ByteArray).extract x y=q at *;obtain⟨⟨m⟩⟩:=q;simp only at h2;rw [h2]
section
variable (he:ew ρ w lo env a.tmps)(hg:gN pn G ρ w)(hs:ck ρ s w)
include he hg
theorem uF {x' :Option Operand}{x:Option bP}{r:Option D}(hx:sL G x' =some x)(h:sJ env x=some r):
  (r=none/\x'.map a.eval=none)\/(∃d v,r=some d/\x'.map a.eval=some v/\aU ρ w d v):=by
 cases x' with
 | none=>
  simp only [sL,aa]at hx; subst hx;simp only [sJ,aa]at h; subst h;exact .inl ⟨rfl,rfl⟩
 | some y=>
  simp only [sL,bj]at hx;obtain⟨z,hz,rfl⟩:=hx;simp only [sJ]at h;split at h
  ·rename_i d hd;simp only [aa]at h; subst h;exact .inr ⟨d,_,rfl,rfl,ba hz he hg hd⟩
  ·cases h
omit he hg in
theorem CR {x:Option Value}{r:Option D}{k y:Nat}{code:BoundsCode}(hr:(r=none/\x=none)\/(∃d v,r=some d/\x=some v/\aU ρ w d v))(hi:lH k r=some y):
  (r=none/\x=none/\y=k)\/(∃v,r.isSome=true/\x=some v/\∀m,y<=m->(Instr.sliceBound v m code).run P w= .ok y w):=by
 rcases hr with ⟨rfl,rfl⟩ | ⟨d,v,rfl,rfl,h⟩
 ·simp only [lH,aa]at hi; exact .inl ⟨rfl,rfl,hi.symm⟩
 ·simp only [lH]at hi;obtain⟨kk,rfl⟩:=gY hi h;refine .inr ⟨_,rfl,rfl,fun m hm=> ?_⟩;have:(0:Int)<=(y:Int)/\(y:Int)<=(m:Int):=by omega
  simp [Instr.sliceBound,asIntOf,this]
include hs
theorem QY {t:TypeId} {x' :Operand}{x:bP} {lo' hi' :Option Operand}{l0 h0:Option bP}(hx:eO G x' =some x)(hl:sL G lo' =some l0)(hh:sL G hi' =some h0)(hu:P.underlying t=some .string)
  (h:cC C env s al (.pj x l0 h0)=some (d,s')){o:Oper}(ho:o.op= .slice t x' lo' hi' none):fc P ρ w env a.tmps d s' ((execOp a.eval o).run P w):=by
 simp only [cC]at h;split at h
 ·rename_i l p q hp J4 hhi;split at h
  ·rename_i y z hy hz;split at h
   ·rename_i kO jK;simp only [aa,ae]at h;obtain⟨rfl,rfl⟩:=h;have Yo:=az kO;have He:=az jK;have hv:=ba hx he hg hp;simp only [aU]at hv;have b1:=CR (P:=P) (code:= .sliceAlen) (uF he hg hh hhi) hz;have b2:=CR (P:=P) (code:= .sliceB) (uF he hg hl J4) hy;have hr:(execOp a.eval o).run P w= .ok (.value (.string ((⟨⟨l⟩⟩:ByteArray).extract y z))) w:=by
     simp only [execOp,ho,Option.map_none];rw [Sem.run_bind];have e1:(Instr.sliceAt t (a.eval x') (lo'.map a.eval) (hi'.map a.eval) none).run P w= .ok (.string ((⟨⟨l⟩⟩:ByteArray).extract y z)) w:=by
      rw [hv];simp only [Instr.sliceAt,Instr.slice,Instr.sliceBounds];rcases b1 with ⟨_,e,rfl⟩ | ⟨v1,_,e,e1⟩ <;> rcases b2 with ⟨_,f,rfl⟩ | ⟨v2,_,f,f1⟩ <;> rw [e,f]
      ·simp [run_underlying hu]; rw [yA]; simp
      ·simp [run_underlying hu,ByteArray.size_mk',f1 _ Yo]
      ·simp [run_underlying hu,ByteArray.size_mk',e1 _ He]
      ·simp [run_underlying hu,ByteArray.size_mk',e1 _ He,f1 _ Yo]
     rw [e1]; rfl
    rw [hr];exact .rep hs (by simp only [aU]; rw [yA])
   ·cases h
  ·cases h
 ·cases h
theorem Nu {t:TypeId}{i:Nat} {x' :Operand}{x:bP}{fs:Array Field}{f:Field}{m:Nat}(hx:eO G x' =some x)(hu:P.underlying t=some (.struct fs))(hf:fs[i]? =some f)(fS:dO P f.type=some (m+1))
  (h:cC C env s al (.ki f.offset x)=some (d,s')){o:Oper}(ho:o.op= .fieldAddr t x' i):fc P ρ w env a.tmps d s' ((execOp a.eval o).run P w):=by
 have key:∀b c,a.eval x' = .pointer (some ⟨b,c,none⟩)->(execOp a.eval o).run P w= .ok (.value (.pointer (some ⟨b,c+f.offset,none⟩))) w:=by
  intro b c hv;simp only [execOp,ho,hv,Instr.fieldAt,Instr.sureAddr];simp [run_underlying hu,hf,fieldPlace,fT fS,Addr.add_mid]
 simp only [cC]at h;split at h
 ·rename_i b c hp;split at h
  ·rename_i nD;simp only [aa,ae]at h;obtain⟨rfl,rfl⟩:=h;obtain⟨y,hy⟩:=vH nD;obtain⟨bb,h2,h3⟩:=lL hx he hg hp y hy;rw [key _ _ h3];exact .pure hs (by simp only [ft]; exact fun _ _=>⟨bb,h2,rfl⟩)
  ·cases h
 ·rename_i b c hp;simp only [aa,ae]at h;obtain⟨rfl,rfl⟩:=h;have h1:=lL hx he hg hp;simp only [ft,aU]at h1;unfold Gh.at at h1;split at h1
  ·exact h1.elim
  ·rename_i hk;obtain⟨⟨q1,q2,q3⟩,hq⟩:=h1;simp only [execOp,ho,hq,Instr.fieldAt,Instr.sureAddr];simp only [Sem.run_bind,run_underlying hu,Result.andThen_ok,hf,Sem.run_pure,fieldPlace,fT fS];simp only [Nat.add_eq_zero_iff,Nat.one_ne_zero,and_false,jg,Sem.run_pure,Result.andThen_ok];exact .rep hs (by simp only [aU,Gh.at,hk]; exact ⟨_,rfl⟩)
  ·rename_i sz hk;obtain⟨bb,h2,h3⟩:=h1;rw [key _ _ h3];exact .rep hs (by simp only [aU,Gh.at,hk]; exact ⟨bb,h2,rfl⟩)
 ·rename_i b i2 c z hp;simp only [aa,ae]at h;obtain⟨rfl,rfl⟩:=h;have h1:=lL hx he hg hp;simp only [ft,aU]at h1;unfold Gh.at at h1;split at h1
  ·exact h1.elim
  ·rename_i hk;obtain⟨⟨q1,q2,q3⟩,hq⟩:=h1;simp only [execOp,ho,hq,Instr.fieldAt,Instr.sureAddr];simp only [Sem.run_bind,run_underlying hu,Result.andThen_ok,hf,Sem.run_pure,fieldPlace,fT fS];simp only [Nat.add_eq_zero_iff,Nat.one_ne_zero,and_false,jg,Sem.run_pure,Result.andThen_ok];exact .rep hs (by simp only [aU,Gh.at,hk]; exact ⟨_,rfl⟩)
  ·rename_i sz hk;obtain⟨bb,h2,h3,h4,h5,h6⟩:=h1;rw [key _ _ h6];exact .rep hs (by simp only [aU,Gh.at,hk]; exact ⟨bb,h2,h3,h4,h5,by rw [iE]⟩)
 ·rename_i e c hp;simp only [aa,ae]at h;obtain⟨rfl,rfl⟩:=h;have h1:=lL hx he hg hp;simp only [ft,aU]at h1;obtain⟨b,xx,u,q1,q2,q3,q4,q5⟩:=h1;rw [key _ _ q5];exact .rep hs (by simp only [aU]; exact ⟨b,xx,u,q1,q2,q3,q4,by rw [iE]⟩)
 ·cases h
end
end Go.Ab
