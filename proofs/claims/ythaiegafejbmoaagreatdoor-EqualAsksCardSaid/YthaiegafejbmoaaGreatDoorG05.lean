/- Part. -/
import Derived.Test.YthaiegafejbmoaaGreatDoorG04
import Derived.Lib.Strings
set_option linter.unusedSectionVars false
set_option linter.unusedSimpArgs false
set_option linter.unusedVariables false
namespace Go.Ab
open Go
variable [eh]
variable {ρ:Gh}{w:World}{P:Program}{pn:gY}{G:Gl}{X:ig}{A:mT} {s s' :St}{env:Env}{a:Act}{lo:Nat}{d:D}{C:au}{al:Option Nat}
def ju:Value->Bool
 | .int .. | .string _ | .float .. | .complex .. =>false
 | _=>true
theorem binOp_eql {t:TypeId}{u v:Value}(h:ju u=true):binOp .eql t u v=(do pure (.bool (← Op.equal t u v))):=by
 cases u <;> simp only [ju]at h <;> (try cases h) <;> cases v <;> rfl
theorem binOp_neq {t:TypeId}{u v:Value}(h:ju u=true):binOp .neq t u v=(do pure (.bool (!(← Op.equal t u v)))):=by
 cases u <;> simp only [ju]at h <;> (try cases h) <;> cases v <;> rfl
theorem JF {oc:Bool}{et:ET}{x y:D}{r:Bool}{u v:Value}(h:sC oc et x y=some r)(h1:et≠ .int)(h2:et≠ .str)(hu:aR ρ w x u)(hv:aR ρ w y v):
  ju u=true/\(u= .nilIface->v= .nilIface->oc=true)/\(∀p q,u= .agg p->v= .agg q->∃l,et= .st l):=by
 have sp:∀ {d:D} {q:Value},aR ρ w d q->(∃o c,d= .ptr o c)\/(∃o i c e,d= .jN o i c e)\/(∃e c,d= .jJ e c)\/d= .dU->∃p,q= .pointer p:=by
  intro d q hq hs;rcases hs with ⟨o,c,rfl⟩ | ⟨o,i,c,e,rfl⟩ | ⟨e,c,rfl⟩ | rfl <;> simp only [aR]at hq
  ·obtain⟨p,rfl⟩:=Gh.jF hq fun _ _ q=>⟨_,q⟩; exact ⟨_,rfl⟩
  ·obtain⟨p,rfl⟩:=Gh.jF hq fun _ _ q=>⟨_,q.2.2.2⟩; exact ⟨_,rfl⟩
  ·obtain⟨_,_,_,_,_,_,_,rfl⟩:=hq; exact ⟨_,rfl⟩
  ·exact⟨_,hq⟩
 have ss:∀ {d:D} {q:Value},aR ρ w d q->(∃n z l,d= .vs n z l)\/(∃o a b c,d= .sl o a b c)->∃p n c,q= .slice p n c:=by
  intro d q hq hs;rcases hs with ⟨n,z,l,rfl⟩ | ⟨o,a,b,c,rfl⟩ <;> simp only [aR]at hq
  ·rcases hq with ⟨_,_,rfl⟩ | ⟨_,_,_,rfl,_⟩ <;> exact ⟨_,_,_,rfl⟩
  ·obtain⟨p,c,rfl⟩:=Gh.jF hq fun _ _ ⟨_,_,_,_,_,q,_⟩=>⟨_,_,q⟩; exact ⟨_,_,_,rfl⟩
 cases et with
 | int=>exact absurd rfl h1
 | str=>exact absurd rfl h2
 | bool=>
  simp only [sC]at h;obtain⟨_,_,rfl,_,_⟩:=vF h hu hv;simp [ju]
 | ptr=>
  simp only [sC]at h;split at h <;> (try cases h)
  all_goals
   obtain⟨p,rfl⟩:=sp hu (by simp);simp [ju]
 | slice=>
  simp only [sC]at h;split at h <;> (try cases h)
  all_goals
   obtain⟨p,n,c,rfl⟩:=ss hu (by simp);simp [ju]
 | map=>
  simp only [sC]at h;split at h <;> (try cases h)
  ·simp only [aR]at hu; subst hu; simp [ju]
  ·simp only [aR]at hu; subst hu; simp [ju]
  ·simp only [aR]at hu; obtain ⟨p,rfl⟩:=Gh.jF hu fun _ _ q=>⟨_,q⟩; simp [ju]
 | func=>
  simp only [sC]at h;split at h <;> (try cases h)
  ·simp only [aR]at hu; subst hu; simp [ju]
  ·simp only [aR]at hu; subst hu; simp [ju]
  ·simp only [aR]at hu; obtain ⟨_,_,rfl,_⟩:=hu; simp [ju]
 | iface=>
  simp only [sC]at h;split at h <;> (try cases h)
  ·split at h
   ·simp only [aR]at hu; subst hu; simp [ju]
   ·cases h
  ·simp only [aR]at hu hv; subst hu; obtain ⟨_,rfl,_⟩:=hv; simp [ju]
  ·simp only [aR]at hu hv; subst hv; obtain ⟨_,rfl,_⟩:=hu; simp [ju]
  ·simp only [aR]at hu hv; obtain ⟨_,rfl,_⟩:=hu; simp [ju]
 | st l=>
  simp only [sC]at h;split at h
  ·simp only [aR]at hu; obtain ⟨_,rfl,_⟩:=hu; simp [ju]
  ·cases h
theorem D6 {op:BinOp}{t:TypeId}{px py:Operand}{u v:Value}(hn:u= .nilIface->v= .nilIface->(tC px || tC py)=true)(ZU:∀p q,u= .agg p->v= .agg q->P.eqGuardType P.depth t=false):
  (eqGuard op t px py u v).run P w= .ok () w:=by
 by_cases nK:op= .eql\/op= .neq
 ·by_cases h1:u= .nilIface/\v= .nilIface
  ·obtain⟨rfl,rfl⟩:=h1;have:=hn rfl rfl;rcases nK with rfl | rfl <;> cases px <;> cases py <;> first | (simp [eqGuard]; done) | (exact absurd this (by simp [tC]))
  ·by_cases h2:(∃p,u= .agg p)/\∃q,v= .agg q
   ·obtain⟨⟨p,rfl⟩,q,rfl⟩:=h2;exact run_eqGuard_agg w op t px py p q (ZU p q rfl rfl)
   ·rcases nK with rfl | rfl <;> cases u <;> cases v <;> first | (simp [eqGuard]; done) | (exact absurd ⟨rfl,rfl⟩ h1) | (exact absurd ⟨⟨_,rfl⟩,⟨_,rfl⟩⟩ h2)
 ·cases op <;> first | (exact absurd (Or.inl rfl) nK) | (exact absurd (Or.inr rfl) nK) | simp [eqGuard]
theorem DU (d:Nat){t e:TypeId}{m:Nat}(ht:P.underlying t=some (.pointer e))(fQ:(sizeOf e).run P w= .ok (m+1) w)(p q:Addr):
  (Op.equalIn (d+1) t (.pointer (some p)) (.pointer (some q))).run P w=(sameAddr p q).run P w:=by
 simp only [Op.equalIn,Sem.run_bind,run_underlying ht,Result.andThen_ok,fQ];simp
theorem WJ {x y:D}{r:Bool}{u v:Value}{t e:TypeId}{m:Nat}(hs:bK ρ s w)(ht:P.underlying t=some (.pointer e))(hm:dC P e=some (m+1))(h:Q0 s x y=some r)(hu:aR ρ w x u)(hv:aR ρ w y v):
  (∃p,u= .pointer (some p))/\(Op.equal t u v).run P w= .ok r w:=by
 unfold Q0 at h;split at h
 ·rename_i o c o' c';split at h
  ·rename_i t1 d1 t2 d2 h1 h2;simp only [aa]at h; subst h;obtain⟨b1,v1,k1,aaK,_,kv,SB,_⟩:=hs.ok _ _ h1;obtain⟨b2,v2,k2,aca,_,jb,YG,_⟩:=hs.ok _ _ h2;simp only [aR,Gh.at,k1,k2]at hu hv;obtain⟨QZ,ZX,rfl⟩:=hu;obtain⟨b2',W5,rfl⟩:=hv;obtain rfl:=aaK.2 _ ZX;obtain rfl:=aca.2 _ W5;refine⟨⟨_,rfl⟩, ?_⟩;have fQ:(sizeOf e).run P w= .ok (m+1) w:=by
    cases hq:P.info? e with
    | none=>simp [dC,hq]at hm
    | some i=>
     have:i.size=m+1:=by simpa [dC,hq] using hm
     simp [sizeOf,typeInfo,hq,this]
   have rL:(sameAddr ⟨QZ,c,none⟩ ⟨b2',c',none⟩).run P w= .ok (Nat.beq o o' && Nat.beq c c') w:=by
    by_cases lh:QZ =b2'
    ·subst lh;have hoo:o=o' :=by
      have:=ZX.symm.trans W5;simpa using this
     subst hoo;have e1:Nat.beq o o=true:=aA o;have e2:((⟨QZ,c,none⟩:Addr)==⟨QZ,c',none⟩)=Nat.beq c c' :=by
      rw [Bool.eq_iff_iff,gA,iw];simp
     simp [sameAddr,e2]
    ·have hoo:o≠o' :=fun h=>lh (by subst h; exact (aaK.2 _ W5).symm);have e1:Nat.beq o o' =false:=T.ui hoo;have f1:∀x,w.frozen? ⟨QZ,x,none⟩=false:=fun x=>by simp [World.frozen?,kv]
     have f2:∀x,w.frozen? ⟨b2',x,none⟩=false:=fun x=>by simp [World.frozen?,jb]
     have s1:w.shape? QZ =some (t1,v1.cells.size):=by simp [World.shape?,kv]
     have s2:w.shape? b2' =some (t2,v2.cells.size):=by simp [World.shape?,jb]
     simp [sameAddr,lh,f1,f2,noView,viewAt,s1,s2,mayBeOne,stringish,e1]
   exact (DU 9999 ht fQ _ _).trans rL
  ·cases h
 ·cases h
section
variable (he:dW ρ w lo env a.tmps)(hg:gn pn G ρ w)(hs:bK ρ s w)
include he hg hs
theorem ok_eq {op:BinOp}{neg oc:Bool}{et:ET}{t u:TypeId} {x' y' :Operand}{x y:bO}(hx:ew G x' =some x)(hy:ew G y' =some y)(het:sR P 8 t=some et)(h1:et≠ .int)(h2:et≠ .str)
  (nK:(op= .eql/\neg=false)\/(op= .neq/\neg=true))(hoc:oc=(tC x' || tC y'))(Xg:∀l,et= .st l->P.eqGuardType P.depth t=false)
  (h:cg C env s al (.eq et neg oc x y)=some (d,s')){o:Oper}(ho:o.op= .binOp op t x' y' u):eP P ρ w env a.tmps d s' ((execOp a.eval o).run P w):=by
 simp only [cg]at h;split at h
 ·rename_i p q hp hq;have hu:=bc hx he hg hp;have hv:=bc hy he hg hq;have fin:∀r:Bool,(eqGuard op t x' y' (a.eval x') (a.eval y')).run P w= .ok () w->ju (a.eval x')=true->(Op.equal t (a.eval x') (a.eval y')).run P w= .ok r w->(execOp a.eval o).run P w= .ok (.value (.bool (r !=neg))) w:=by
   intro r hgu FR heq;simp only [execOp,ho,Sem.run_bind,hgu,Result.andThen_ok];rcases nK with ⟨rfl,rfl⟩ | ⟨rfl,rfl⟩
   ·simp [binOp_eql FR,heq]
   ·simp [binOp_neq FR,heq]
  split at h
  ·rename_i r hr;simp only [aa,ab]at h;obtain⟨rfl,rfl⟩:=h;obtain⟨e1,e2,e3⟩:=JF hr h1 h2 hu hv;have heq:(Op.equal t (a.eval x') (a.eval y')).run P w= .ok r w:=N4 oc 8 t et het Op.maxDepth (by decide) p q r _ _ hr hu hv;rw [fin r (D6 (fun a b=>hoc ▸ e2 a b) (fun a b c d=>Xg _ (e3 a b c d).choose_spec)) e1 heq];exact .rep hs (by simp [aR])
  ·split at h
   ·split at h
    ·rename_i r hr;simp only [aa,ab]at h;obtain⟨rfl,rfl⟩:=h;have Ej:∃e m,P.underlying t=some (.pointer e)/\dC P e=some (m+1):=by
      simp only [sR]at het;split at het <;> (try cases het)
      ·rename_i e qk;split at het
       ·rename_i m hm; exact ⟨e,m,qk,hm⟩
       ·cases het
      ·split at het
       ·cases het
       ·simp at het
     obtain⟨e,m,qk,hm⟩:=Ej;obtain⟨⟨pp,YI⟩,heq⟩:=WJ (P:=P) hs qk hm hr hu hv;rw [fin r (D6 (fun a _=>by rw [YI]at a; cases a) (fun a _ b _=>by rw [YI]at b; cases b)) (by rw [YI]; rfl) heq];exact .rep hs (by simp [aR])
    ·cases h
   ·cases h
 ·cases h
end
end Go.Ab
namespace Go.Ab
open Go
variable [eh]
variable {ρ:Gh}{w:World}{P:Program}{pn:gY}{G:Gl}{X:ig}{A:mT} {s s' :St}{env:Env}{a:Act}{lo:Nat}{d:D}{C:au}{al:Option Nat}
theorem iT {n:D}{i:Nat}{v:Value}(h:idx n=some i)(hr:aR ρ w n v):∃k,v= .int k (i:Int):=by
 cases n <;> simp only [idx]at h <;> (try cases h);rename_i k m;split at h
 ·rename_i hm;simp only [aa]at h; subst h;simp only [aR]at hr;exact⟨k,by rw [hr,Int.toNat_of_nonneg hm]⟩
 ·cases h
theorem fD {t:TypeId}{n:Nat}(h:dC P t=some n):(sizeOf t).run P w= .ok n w:=by
 cases hq:P.info? t with
 | none=>simp [dC,hq]at h
 | some i=>
  have:i.size=n:=by simpa [dC,hq] using h
  simp [sizeOf,typeInfo,hq,this]
theorem zq (l:List UInt8)(x y:Nat):(⟨⟨l⟩⟩:ByteArray).extract x y=⟨⟨(l.take y).drop x⟩⟩:=by
 have h:=Lib.extract_data (⟨⟨l⟩⟩:ByteArray) x y;have h2:((⟨⟨l⟩⟩:ByteArray).extract x y).data.toList=(l.take y).drop x:=by
  rw [h,List.drop_take]
 generalize (⟨⟨l⟩⟩:ByteArray).extract x y=q at *;obtain⟨⟨m⟩⟩:=q;simp only at h2;rw [h2]
section
variable (he:dW ρ w lo env a.tmps)(hg:gn pn G ρ w)(hs:bK ρ s w)
include he hg
theorem uv {x' :Option Operand}{x:Option bO}{r:Option D}(hx:sT G x' =some x)(h:wT env x=some r):
  (r=none/\x'.map a.eval=none)\/(∃d v,r=some d/\x'.map a.eval=some v/\aR ρ w d v):=by
 cases x' with
 | none=>
  simp only [sT,aa]at hx; subst hx;simp only [wT,aa]at h; subst h;exact .inl ⟨rfl,rfl⟩
 | some y=>
  simp only [sT,aW]at hx;obtain⟨z,hz,rfl⟩:=hx;simp only [wT]at h;split at h
  ·rename_i d hd;simp only [aa]at h; subst h;exact .inr ⟨d,_,rfl,rfl,bc hz he hg hd⟩
  ·cases h
omit he hg in
theorem Dt {x:Option Value}{r:Option D}{k y:Nat}{code:BoundsCode}(hr:(r=none/\x=none)\/(∃d v,r=some d/\x=some v/\aR ρ w d v))(hi:mN k r=some y):
  (r=none/\x=none/\y=k)\/(∃v,r.isSome=true/\x=some v/\∀m,y<=m->(Instr.sliceBound v m code).run P w= .ok y w):=by
 rcases hr with ⟨rfl,rfl⟩ | ⟨d,v,rfl,rfl,h⟩
 ·simp only [mN,aa]at hi; exact .inl ⟨rfl,rfl,hi.symm⟩
 ·simp only [mN]at hi;obtain⟨kk,rfl⟩:=iT hi h;refine .inr ⟨_,rfl,rfl,fun m hm=> ?_⟩;have:(0:Int)<=(y:Int)/\(y:Int)<=(m:Int):=by omega
  simp [Instr.sliceBound,asIntOf,this]
include hs
theorem To {t:TypeId} {x' :Operand}{x:bO} {lo' hi' :Option Operand}{l0 h0:Option bO}(hx:ew G x' =some x)(hl:sT G lo' =some l0)(hh:sT G hi' =some h0)(hu:P.underlying t=some .string)
  (h:cg C env s al (.pa x l0 h0)=some (d,s')){o:Oper}(ho:o.op= .slice t x' lo' hi' none):eP P ρ w env a.tmps d s' ((execOp a.eval o).run P w):=by
 simp only [cg]at h;split at h
 ·rename_i l p q hp Sw hhi;split at h
  ·rename_i y z hy hz;split at h
   ·rename_i kv jb;simp only [aa,ab]at h;obtain⟨rfl,rfl⟩:=h;have YM:=az kv;have GL:=az jb;have hv:=bc hx he hg hp;simp only [aR]at hv;have b1:=Dt (P:=P) (code:= .sliceAlen) (uv he hg hh hhi) hz;have b2:=Dt (P:=P) (code:= .sliceB) (uv he hg hl Sw) hy;have hr:(execOp a.eval o).run P w= .ok (.value (.string ((⟨⟨l⟩⟩:ByteArray).extract y z))) w:=by
     simp only [execOp,ho,Option.map_none];rw [Sem.run_bind];have e1:(Instr.sliceAt t (a.eval x') (lo'.map a.eval) (hi'.map a.eval) none).run P w= .ok (.string ((⟨⟨l⟩⟩:ByteArray).extract y z)) w:=by
      rw [hv];simp only [Instr.sliceAt,Instr.slice,Instr.sliceBounds];rcases b1 with ⟨_,e,rfl⟩ | ⟨v1,_,e,e1⟩ <;> rcases b2 with ⟨_,f,rfl⟩ | ⟨v2,_,f,f1⟩ <;> rw [e,f]
      ·simp [run_underlying hu]; rw [zq]; simp
      ·simp [run_underlying hu,ByteArray.size_mk',f1 _ YM]
      ·simp [run_underlying hu,ByteArray.size_mk',e1 _ GL]
      ·simp [run_underlying hu,ByteArray.size_mk',e1 _ GL,f1 _ YM]
     rw [e1]; rfl
    rw [hr];exact .rep hs (by simp only [aR]; rw [zq])
   ·cases h
  ·cases h
 ·cases h
theorem PJ {t:TypeId}{i:Nat} {x' :Operand}{x:bO}{fs:Array Field}{f:Field}{m:Nat}(hx:ew G x' =some x)(hu:P.underlying t=some (.struct fs))(hf:fs[i]? =some f)(fQ:dC P f.type=some (m+1))
  (h:cg C env s al (.wU f.offset x)=some (d,s')){o:Oper}(ho:o.op= .fieldAddr t x' i):eP P ρ w env a.tmps d s' ((execOp a.eval o).run P w):=by
 have key:∀b c,a.eval x' = .pointer (some ⟨b,c,none⟩)->(execOp a.eval o).run P w= .ok (.value (.pointer (some ⟨b,c+f.offset,none⟩))) w:=by
  intro b c hv;simp only [execOp,ho,hv,Instr.fieldAt,Instr.sureAddr];simp [run_underlying hu,hf,fieldPlace,fD fQ,Addr.add_mid]
 simp only [cg]at h;split at h
 ·rename_i b c hp;split at h
  ·rename_i mM;simp only [aa,ab]at h;obtain⟨rfl,rfl⟩:=h;obtain⟨y,hy⟩:=vU mM;obtain⟨bb,h2,h3⟩:=kP hx he hg hp y hy;rw [key _ _ h3];exact .pure hs (by simp only [fe]; exact fun _ _=>⟨bb,h2,rfl⟩)
  ·cases h
 ·rename_i b c hp;simp only [aa,ab]at h;obtain⟨rfl,rfl⟩:=h;have h1:=kP hx he hg hp;simp only [fe,aR]at h1;unfold Gh.at at h1;split at h1
  ·exact h1.elim
  ·rename_i hk;obtain⟨⟨q1,q2,q3⟩,hq⟩:=h1;simp only [execOp,ho,hq,Instr.fieldAt,Instr.sureAddr];simp only [Sem.run_bind,run_underlying hu,Result.andThen_ok,hf,Sem.run_pure,fieldPlace,fD fQ];simp only [Nat.add_eq_zero_iff,Nat.one_ne_zero,and_false,gS,Sem.run_pure,Result.andThen_ok];exact .rep hs (by simp only [aR,Gh.at,hk]; exact ⟨_,rfl⟩)
  ·rename_i sz hk;obtain⟨bb,h2,h3⟩:=h1;rw [key _ _ h3];exact .rep hs (by simp only [aR,Gh.at,hk]; exact ⟨bb,h2,rfl⟩)
 ·rename_i b i2 c z hp;simp only [aa,ab]at h;obtain⟨rfl,rfl⟩:=h;have h1:=kP hx he hg hp;simp only [fe,aR]at h1;unfold Gh.at at h1;split at h1
  ·exact h1.elim
  ·rename_i hk;obtain⟨⟨q1,q2,q3⟩,hq⟩:=h1;simp only [execOp,ho,hq,Instr.fieldAt,Instr.sureAddr];simp only [Sem.run_bind,run_underlying hu,Result.andThen_ok,hf,Sem.run_pure,fieldPlace,fD fQ];simp only [Nat.add_eq_zero_iff,Nat.one_ne_zero,and_false,gS,Sem.run_pure,Result.andThen_ok];exact .rep hs (by simp only [aR,Gh.at,hk]; exact ⟨_,rfl⟩)
  ·rename_i sz hk;obtain⟨bb,h2,h3,h4,h5,h6⟩:=h1;rw [key _ _ h6];exact .rep hs (by simp only [aR,Gh.at,hk]; exact ⟨bb,h2,h3,h4,h5,by rw [ia]⟩)
 ·rename_i e c hp;simp only [aa,ab]at h;obtain⟨rfl,rfl⟩:=h;have h1:=kP hx he hg hp;simp only [fe,aR]at h1;obtain⟨b,xx,u,q1,q2,q3,q4,q5⟩:=h1;rw [key _ _ q5];exact .rep hs (by simp only [aR]; exact ⟨b,xx,u,q1,q2,q3,q4,by rw [ia]⟩)
 ·cases h
end
end Go.Ab
namespace Go.Ab
open Go
variable [eh]
variable {ρ:Gh}{w:World}{P:Program}{pn:gY}{G:Gl}{X:ig}{A:mT} {s s' :St}{env:Env}{a:Act}{lo:Nat}{d:D}{C:au}{al:Option Nat}
theorem fJ.get {sz b:Nat}:∀ {l:List D} {x i:Nat} {e:D},fJ ρ w sz b x l->l[i]? =some e->∃v,aR ρ w e v/\v.cells.size=sz/\0 < sz/\bS w b (x+i * sz) v/\e.st=true
 | [],_,i,e,_,h=>by simp at h
 | d::l,x,0,e,h,hi=>by
  simp only [fJ]at h;simp at hi; subst hi;simpa using h.1
 | d::l,x,i+1,e,h,hi=>by
  simp only [fJ]at h;simp at hi;have:=fJ.get h.2 hi;rwa [show x+(i+1) * sz=x+sz+i * sz by rw [bJ]; omega]
theorem fJ.take {sz b:Nat}:∀ {l:List D} {x:Nat} (n:Nat),fJ ρ w sz b x l->fJ ρ w sz b x (l.take n)
 | [],_,n,h=>by simp [fJ]
 | d::l,x,0,h=>by simp [fJ]
 | d::l,x,n+1,h=>by
  simp only [fJ,fZ]at *;exact⟨h.1,fJ.take n h.2⟩
theorem fJ.drop {sz b:Nat}:∀ {l:List D} {x:Nat} (n:Nat),fJ ρ w sz b x l->fJ ρ w sz b (x+n * sz) (l.drop n)
 | [],_,n,h=>by simp [fJ]
 | d::l,x,0,h=>by simpa using h
 | d::l,x,n+1,h=>by
  simp only [fJ,nA]at *;have:=fJ.drop n h.2;rwa [show x+(n+1) * sz=x+sz+n * sz by rw [bJ]; omega]
theorem sg.get {sz ty b st i:Nat}{es:List D}{e:D}(h:sg ρ w sz ty es st b)(cG:st<=ρ.ext b)(h1:ρ.sh b<=i)(h2:i < ρ.ext b)(hi:es[i]? =some e):
  ∃v,aR ρ w e v/\v.cells.size=sz/\bS w b ((i - ρ.sh b) * sz) v:=h.elems cG i e h1 h2 hi
theorem nR {sz:Nat}:∀ {es:List D} {i:Nat} {e:D},eC sz es=true->es[i]? =some e->e.flat.length=sz/\e.st=true
 | [],i,e,_,h=>by simp at h
 | d::l,0,e,h,hi=>by
  simp at hi; subst hi;simp only [eC,aB]at h;exact⟨ay h.1.1,h.1.2⟩
 | d::l,i+1,e,h,hi=>by
  simp at hi;simp only [eC,aB]at h;exact nR h.2 hi
theorem Cx {t:TypeId}{sz:Option Nat}{p d:D}{v:Value}(hs:bK ρ s w)(iC:iH P t=some sz)(h:iJ s sz p=some d)(hv:aR ρ w p v):
  ∃u,(Instr.loadAt t v).run P w= .ok u w/\aR ρ w d u:=by
 have fin:∀ {b x c:Nat} {e:D} {q:Value},aR ρ w e q->e.st=true->w.rangeAt b x q.cells.toList->part e.flat c sz=some d->v= .pointer (some ⟨b,x+c,none⟩)->∃u,(Instr.loadAt t v).run P w= .ok u w/\aR ρ w d u:=by
  intro b x c e q he cG hr hp abS;subst abS;obtain⟨hf,_⟩:=he.flat cG;have h1:=rX hf (D.mH cG) hp;have h2:=run_load (P:=P) (c:=c) hr iC;cases sz with
  | some n=>
   obtain⟨h3,h4⟩:=h1;exact⟨_,h2 h3,h4⟩
  | none=>
   obtain⟨u,h3,h4,_⟩:=h1;exact⟨u,h2 u h3,h4⟩
 cases p <;> simp only [iJ]at h <;> (try cases h)
 case ptr o c=>
  split at h
  ·rename_i ty e hx;obtain⟨b,q,k1,one,h2,h3,_,h5⟩:=hs.ok _ _ hx;simp only [aR,Gh.at,k1]at hv;obtain⟨b',iS,rfl⟩:=hv;obtain rfl:=one.2 _ iS;exact fin h2 h5 (rangeAt_of_block h3) h (by simp)
  ·cases h
 case jN o i c e=>
  split at h
  ·rename_i z ty es st hx;split at h
   ·rename_i Lm;split at h
    ·rename_i el Lf;obtain⟨hz,k1,_,_,xK,fN⟩:=hs.ok _ _ hx;simp only [aR,Gh.at,k1]at hv;obtain⟨b,hb,q1,q2,q3,q4⟩:=hv;have cG:=az Lm;obtain⟨q,r1,r2,r3⟩:=(xK b hb).get (by omega) q1 (by omega) Lf;exact fin r1 (nR fN Lf).2 (mz r3) h q4
    ·cases h
   ·cases h
  ·cases h
 case jJ e c=>
  simp only [aR]at hv;obtain⟨b,x,q,q1,q2,q3,q4,q5⟩:=hv;exact fin q2 q4.2 (mz q3) h q5
section
variable (he:dW ρ w lo env a.tmps)(hg:gn pn G ρ w)(hs:bK ρ s w)
include he hg hs
theorem Ti {t:TypeId}{sz:Option Nat} {x' :Operand}{x:bO}(hx:ew G x' =some x)(iC:iH P t=some sz)(h:cg C env s al (.load sz x)=some (d,s')){o:Oper}(ho:o.op= .load t x'):
  eP P ρ w env a.tmps d s' ((execOp a.eval o).run P w):=by
 simp only [cg]at h;split at h
 ·rename_i p hp;obtain⟨h1,rfl⟩:=js h;obtain⟨u,h2,h3⟩:=Cx (P:=P) hs iC h1 (bc hx he hg hp);have hr:(execOp a.eval o).run P w= .ok (.value u) w:=by
   simp only [execOp,ho]; rw [Sem.run_bind,h2]; rfl
  rw [hr]; exact .rep hs h3
 ·cases h
theorem Tq {t u e:TypeId}{n:Nat} {x' :Operand}{x:bO}(hx:ew G x' =some x)(ht:P.underlying t=some (.pointer e))(hu:P.underlying u=some .unsafePointer)(hn:dC P e=some (n+1))(h:cg C env s al (.Fz x)=some (d,s')){o:Oper}(ho:o.op= .convert t u x'):
  eP P ρ w env a.tmps d s' ((execOp a.eval o).run P w):=by
 simp only [cg]at h;split at h
 ·rename_i k c hp;split at h
  ·rename_i ty v hv;split at h
   ·rename_i eW;simp only [aa,ab]at h;obtain⟨rfl,rfl⟩:=h;have h1:=bc hx he hg hp;have h2:=h1;obtain⟨b,q,g1,g2,g3,g4,g5,g6⟩:=hs.ok _ _ hv;simp only [aR,Gh.at,g1]at h1;obtain⟨b',h1,h3⟩:=h1;obtain rfl:=g2.2 b' h1;have hc:c < q.cells.size:=by rw [g3.size g6]; exact az eW
    have hr:(execOp a.eval o).run P w= .ok (.value (a.eval x')) w:=by
     simp only [execOp,ho,h3,convert]
     have iC:∀ {α:Type} (f:Option (TypeId×Nat)->Sem α),(Sem.shape b' f).run P w=(f (some (ty,q.cells.size))).run P w:=fun f=>by
      simp [Sem.run,World.shape?,g4]
     simp [run_underlying ht,run_underlying hu,Conv.unsafePointer,Conv.seenAt,viewAt,cellsIn,shape,getObj,iC];have fQ:(sizeOf e).run P w= .ok (n+1) w:=by
      exact fD hn
     rw [fQ];simp only [Result.andThen];rw [aI (by omega)]
    rw [hr]; exact .rep hs h2
   ·cases h
  ·cases h
 ·cases h
theorem PM {t:TypeId}{r:Nat}{sz:Option Nat} {x' :Operand}{x:bO}(hx:ew G x' =some x)(iC:iH P t=some sz)(h:cg C env s al (.tf r sz x)=some (d,s')){o:Oper}(ho:o.op= .load t x'):
  eP P ρ w env a.tmps d s' ((execOp a.eval o).run P w):=by
 simp only [cg]at h;split at h
 ·rename_i r' c hp;split at h
  ·rename_i e hb mM;obtain rfl:=ay hb;obtain⟨h1,rfl⟩:=js h;obtain⟨b,h2,h3⟩:=kP hx he hg hp e mM;have td:=he.slot _ _ mM;simp only [dV]at td;obtain⟨b',q,el,q1,q2,q3,q4,q5,q6⟩:=td;have lh:b=b' :=by
    have:=h2.symm.trans q1;simpa using this
   subst lh;obtain⟨hf,_⟩:=q4.flat q6;have g1:=rX hf (D.mH q6) h1;have g2:=run_load (P:=P) (c:=c) (rangeAt_of_block q5) iC;simp only [aU]at g2;have fin:∀u,(Instr.loadAt t (a.eval x')).run P w= .ok u w->(execOp a.eval o).run P w= .ok (.value u) w:=by
    intro u hu;simp only [execOp,ho]; rw [Sem.run_bind,hu]; rfl
   cases sz with
   | some n=>
    obtain⟨g3,g4⟩:=g1;rw [fin _ (by rw [h3]; exact g2 g3)]; exact .rep hs g4
   | none=>
    obtain⟨u,g3,g4,_⟩:=g1;rw [fin _ (by rw [h3]; exact g2 u g3)]; exact .rep hs g4
  ·cases h
 ·cases h
theorem PL {t e:TypeId}{m:Nat} {x' i' :Operand}{x i:bO}(hx:ew G x' =some x)(hi:ew G i' =some i)(hu:P.underlying t=some (.slice e))(fQ:dC P e=some (m+1))
  (h:cg C env s al (.oP (m+1) x i)=some (d,s')){o:Oper}(ho:o.op= .indexAddr t x' i'):eP P ρ w env a.tmps d s' ((execOp a.eval o).run P w):=by
 simp only [cg]at h;split at h
 ·rename_i p n hp hn;split at h
  ·rename_i k hk;obtain⟨h1,rfl⟩:=js h;have hv:=bc hx he hg hp;obtain⟨kk,hnv⟩:=iT hk (bc hi he hg hn);have run:∀b y len cap,a.eval x' = .slice (some ⟨b,y,none⟩) len cap->k < len->(execOp a.eval o).run P w= .ok (.value (.pointer (some ⟨b,y+k * (m+1),none⟩))) w:=by
    intro b y len cap td eW;have hh:(0:Int)<=(k:Int)/\(k:Int) < (len:Int):=by omega
    simp only [execOp,ho,Instr.indexAt,td,hnv,asIntOf];simp [run_underlying hu,fD fQ,Addr.add_mid,eW]
   unfold mY at h1;split at h1
   ·rename_i nl z l;split at h1
    ·rename_i hz;obtain rfl:=ay hz;split at h1
     ·rename_i el Lf;simp only [aa]at h1; subst h1;simp only [aR]at hv;rcases hv with ⟨_,rfl,_⟩ | ⟨_,ad,cap,hv,hle,hl⟩
      ·simp at Lf
      ·rcases hl with rfl | ⟨b,y,rfl,hb,hE⟩
       ·simp at Lf
       ·obtain⟨q,r1,r2,r3,r4,r5⟩:=hE.get Lf;have eW:k < l.length:=(aj.1 Lf).1;rw [run b y _ cap hv eW];exact .rep hs (by simp only [aR]; exact ⟨b,_,q,hb,r1,r4,⟨by omega,r5⟩,rfl⟩)
     ·cases h1
    ·cases h1
   ·rename_i ob off len cp;split at h1
    ·rename_i z ty es st vT;split at h1
     ·rename_i z1 z2 z3 z4;simp only [aa]at h1; subst h1;obtain rfl:=ay z1;have y2:k < len:=by have:=az z2; omega
      obtain⟨hz,k1,_,_,xK,fN⟩:=hs.ok _ _ vT;simp only [aR,Gh.at,k1]at hv;obtain⟨b,hb,q1,q2,q3,xx,cap,q4,q5,q6,q7⟩:=hv;rw [run b xx len cap q4 y2];refine .rep hs ?_;simp only [aR,Gh.at,k1];refine⟨b,hb,by omega,by omega,by omega, ?_⟩;have Rm:xx=(off - ρ.sh b) * (m+1):=by rcases q6 with q6 | q6 <;> omega
      rw [Rm,show off+k - ρ.sh b=(off - ρ.sh b)+k by omega,bJ];rfl
     ·cases h1
    ·cases h1
   ·cases h1
  ·cases h
 ·cases h
omit he hg hs in
theorem ic {b:Builtin}{args:Array Operand}{tys:Array TypeId}{o:Oper}(ho:o.op= .call { callee:= .builtin b,args:=args,argTypes:=tys}):
  (execOp a.eval o).run P w=(builtin b tys o.type (args.map fun | .const _=>true | _=>false) (args.map a.eval)).run P w:=by
 simp only [execOp,ho,resolve];rfl
omit he hg hs in
theorem fv.length:∀ {l:List (Nat×D×D)} {es:List MapEntry},fv ρ w l es->l.length=es.length
 | [],_,h=>by simp only [fv]at h; subst h; rfl
 | (n,k,v)::l,_,h=>by
  simp only [fv]at h;obtain⟨e,r,rfl,_,_,_,h2⟩:=h;simp [fv.length h2]
theorem G1 {t:TypeId}{k:Nat} {x' :Operand}{x:bO}(hx:ew G x' =some x)(hk:(k=0/\P.underlying t=some .string)\/(∃q,k=1/\P.underlying t=some (.slice q))\/(∃q r,k=2/\P.underlying t=some (.map q r)))
  (h:cg C env s al (.len k x)=some (d,s')){o:Oper}
  (ho:o.op= .call { callee:= .builtin .len,args:= #[x'],argTypes:= #[t]}):eP P ρ w env a.tmps d s' ((execOp a.eval o).run P w):=by
 simp only [cg]at h;split at h
 ·rename_i i ex lo hi hp;split at h
  ·simp only [aa,ab]at h;obtain⟨rfl,rfl⟩:=h;have hv:=bc hx he hg hp;rcases hk with ⟨_,hu⟩ | ⟨q,hk,_⟩ | ⟨q,r,hk,_⟩
   ·simp only [aR]at hv;have hr:(Builtin.len_ #[t] o.type #[a.eval x']).run P w= .ok (goInt (eh.vs i).length) w:=by
     simp [Builtin.len_,run_underlying hu,hv.1,ByteArray.size_mk']
    rw [ic ho];simp only [builtin,eY,bT,eH];rw [Sem.run_bind,hr];refine .rep hs ?_;simp only [aR,Sym.val,goInt];exact⟨trivial,by have:=hv.2.2.1; omega,by have:=hv.2.2.2; omega⟩
   ·cases hk
   ·cases hk
  ·cases h
 ·rename_i p J2 hp;clear J2;split at h
  ·rename_i n hn;simp only [aa,ab]at h;obtain⟨rfl,rfl⟩:=h;have hv:=bc hx he hg hp;have fin:(Builtin.len_ #[t] o.type #[a.eval x']).run P w= .ok (goInt n) w->eP P ρ w env a.tmps (Gy n) s ((execOp a.eval o).run P w):=by
    intro hr;rw [ic ho];simp only [builtin,eY,bT,eH];rw [Sem.run_bind,hr];exact .rep hs (by simp [Gy,goInt,aR])
   apply fin;rcases hk with ⟨rfl,hu⟩ | ⟨q,rfl,hu⟩ | ⟨q,r,rfl,hu⟩
   ·simp only [pJ]at hn;split at hn <;> (try cases hn);simp only [aR]at hv;simp [Builtin.len_,run_underlying hu,hv,ByteArray.size_mk']
   ·simp only [pJ]at hn;split at hn <;> (try cases hn)
    ·rename_i nl z l;simp only [aR]at hv;have:∃p c,a.eval x' = .slice p l.length c:=by
      rcases hv with ⟨_,rfl,hv⟩ | ⟨_,ad,c,hv,_⟩
      ·exact⟨_,_,hv⟩
      ·exact⟨_,_,hv⟩
     obtain⟨p,c,hv⟩:=this;simp [Builtin.len_,run_underlying hu,hv]
    ·simp only [aR]at hv;obtain⟨p,c,hv⟩:=Gh.jF hv fun _ _ ⟨_,_,_,_,_,q,_⟩=>⟨_,_,q⟩;simp [Builtin.len_,run_underlying hu,hv]
   ·simp only [pJ]at hn;split at hn <;> (try cases hn)
    ·simp only [aR]at hv;simp [Builtin.len_,run_underlying hu,hv]
    ·rename_i ob;split at hn
     ·rename_i es c vT;simp only [aa]at hn; subst hn;obtain⟨b,ces,k1,one,hb,hM⟩:=hs.ok _ _ vT;simp only [aR,Gh.at,k1]at hv;obtain⟨b',iS,hv⟩:=hv;obtain rfl:=one.2 _ iS;have hl:=hM.length;simp [Builtin.len_,run_underlying hu,hv,getObj,Sem.run,hb,hl]
     ·cases hn
  ·cases h
 ·cases h
omit he hg hs in
theorem fJ.of {sz b:Nat}(hz:0 < sz):∀(l:List D) (x:Nat),(∀(i:Nat) (e:D),l[i]? =some e->∃v,aR ρ w e v/\v.cells.size=sz/\bS w b (x+i * sz) v/\e.st=true)->fJ ρ w sz b x l
 | [],_,_=>by simp [fJ]
 | d::l,x,h=>by
  simp only [fJ];obtain⟨v,h1,h2,h3,h4⟩:=h 0 d (by simp);refine⟨⟨v,h1,h2,hz,by simpa using h3,h4⟩,fJ.of hz l (x+sz) fun i e hi=> ?_⟩;obtain⟨u,g1,g2,g3,g4⟩:=h (i+1) e (by simpa using hi);exact⟨u,g1,g2,by rwa [show x+(i+1) * sz=x+sz+i * sz by rw [bJ]; omega]at g3,g4⟩
omit he hg in
theorem uF {x:D}{v:Value}{z:Nat}{l:List D}(h:items s x=some (z,l))(hv:aR ρ w x v):
  (l=[]/\∃p c,v= .slice p 0 c)\/∃b y c,v= .slice (some ⟨b,y,none⟩) l.length c/\fJ ρ w z b y l:=by
 cases x <;> simp only [items]at h <;> (try cases h)
 case vs nl=>
  simp only [aR]at hv;rcases hv with ⟨_,rfl,rfl⟩ | ⟨_,ad,c,rfl,_,hl⟩
  ·exact .inl ⟨rfl,_,_,rfl⟩
  ·rcases hl with rfl | ⟨b,y,rfl,_,hE⟩
   ·exact .inl ⟨rfl,_,_,rfl⟩
   ·exact .inr ⟨b,y,c,rfl,hE⟩
 case sl o off len cp=>
  split at h
  ·rename_i sz ty es st hx;split at h
   ·rename_i h1 h2;simp only [aa,ab]at h;obtain⟨rfl,rfl⟩:=h;have g1:=az h1;have g2:=az h2;obtain⟨hz,k1,_,_,xK,fN⟩:=hs.ok _ _ hx;simp only [aR,Gh.at,k1]at hv;obtain⟨b,hb,q1,q2,q3,xx,cap,q4,q5,q6,q7⟩:=hv;have hlen:((es.drop off).take len).length=len:=by simp; omega
    by_cases AA:len=0
    ·subst AA;exact .inl ⟨by simp,_,_,q4⟩
    ·have Rm:xx=(off - ρ.sh b) * sz:=by rcases q6 with q6 | q6 <;> omega
     refine .inr ⟨b,xx,cap,by rw [hlen]; exact q4,fJ.of hz _ _ fun i e hi=> ?_⟩;rw [da]at hi;split at hi
     ·rw [cS]at hi;obtain⟨u,r1,r2,r3⟩:=(xK b hb).get (by omega) (by omega) (by omega) hi;refine⟨u,r1,r2, ?_,(nR fN hi).2⟩;rwa [show off+i - ρ.sh b=(off - ρ.sh b)+i by omega,bJ,← Rm]at r3
     ·cases hi
   ·cases h
  ·cases h
theorem KD {t e:TypeId}{n m:Nat} {x' i' :Operand}{x i:bO}(hx:ew G x' =some x)(hi:ew G i' =some i)(hu:P.underlying t=some (.array n e))(fQ:dC P e=some (m+1))
  (h:cg C env s al (.rM n (m+1) x i)=some (d,s')){o:Oper}(ho:o.op= .indexAddr t x' i'):eP P ρ w env a.tmps d s' ((execOp a.eval o).run P w):=by
 have key:∀k kk (q:Addr),a.eval i' = .int kk (k:Nat)->k < n->a.eval x' = .pointer (some q)->(execOp a.eval o).run P w= .ok (.value (.pointer (some (q.add (k * (m+1)))))) w:=by
  intro k kk q FO eW hv;simp only [execOp,ho,hv,FO,Instr.indexAt,asIntOf,Instr.sureAddr];simp [run_underlying hu,fD fQ,eW]
 simp only [cg]at h;split at h
 ·rename_i b c k hp hn;split at h
  ·rename_i j hj;obtain⟨kk,FO⟩:=iT hj (bc hi he hg hn);split at h
   ·rename_i hb mM;simp only [aa,ab]at h;obtain⟨rfl,rfl⟩:=h;have eW:j < n:=by have:=az hb; omega
    obtain⟨y,hy⟩:=vU mM;obtain⟨bb,h2,h3⟩:=kP hx he hg hp y hy;rw [key j kk _ FO eW h3,Addr.add_mid];exact .pure hs (by simp only [fe]; exact fun _ _=>⟨bb,h2,rfl⟩)
   ·cases h
  ·cases h
 ·rename_i b c k hp hn;split at h
  ·rename_i j hj;obtain⟨kk,FO⟩:=iT hj (bc hi he hg hn);split at h
   ·rename_i hb;simp only [aa,ab]at h;obtain⟨rfl,rfl⟩:=h;have eW:j < n:=by have:=az hb; omega
    have h1:=kP hx he hg hp;simp only [fe,aR]at h1;unfold Gh.at at h1;split at h1
    ·exact h1.elim
    ·rename_i hk;obtain⟨q,hq⟩:=h1;rw [key j kk q FO eW hq];exact .rep hs (by simp only [aR,Gh.at,hk]; exact ⟨_,rfl⟩)
    ·rename_i sz hk;obtain⟨bb,h2,h3⟩:=h1;rw [key j kk _ FO eW h3,Addr.add_mid];exact .rep hs (by simp only [aR,Gh.at,hk]; exact ⟨bb,h2,rfl⟩)
   ·cases h
  ·cases h
 ·rename_i b i2 c z k hp hn;split at h
  ·rename_i j hj;obtain⟨kk,FO⟩:=iT hj (bc hi he hg hn);split at h
   ·rename_i hb;simp only [aa,ab]at h;obtain⟨rfl,rfl⟩:=h;have eW:j < n:=by have:=az hb; omega
    have h1:=kP hx he hg hp;simp only [fe,aR]at h1;unfold Gh.at at h1;split at h1
    ·exact h1.elim
    ·rename_i hk;obtain⟨q,hq⟩:=h1;rw [key j kk q FO eW hq];exact .rep hs (by simp only [aR,Gh.at,hk]; exact ⟨_,rfl⟩)
    ·rename_i sz hk;obtain⟨bb,h2,h3,h4,h5,h6⟩:=h1;rw [key j kk _ FO eW h6,Addr.add_mid];exact .rep hs (by simp only [aR,Gh.at,hk]; exact ⟨bb,h2,h3,h4,h5,by rw [ia]⟩)
   ·cases h
  ·cases h
 ·rename_i e' c k hp hn;split at h
  ·rename_i j hj;obtain⟨kk,FO⟩:=iT hj (bc hi he hg hn);split at h
   ·rename_i hb;simp only [aa,ab]at h;obtain⟨rfl,rfl⟩:=h;have eW:j < n:=by have:=az hb; omega
    have h1:=kP hx he hg hp;simp only [fe,aR]at h1;obtain⟨b,xx,u,q1,q2,q3,q4,q5⟩:=h1;rw [key j kk _ FO eW q5,Addr.add_mid];exact .rep hs (by simp only [aR]; exact ⟨b,xx,u,q1,q2,q3,q4,by rw [ia]⟩)
   ·cases h
  ·cases h
 ·cases h
theorem Tf {t e:TypeId}{n:Nat}{sz:Option Nat} {x' i' :Operand}{x i:bO}(hx:ew G x' =some x)(hi:ew G i' =some i)(hu:P.underlying t=some (.array n e))(iC:iH P e=some sz)
  (h:cg C env s al (.LO n (sz.getD 1) sz.isSome x i)=some (d,s')){o:Oper}(ho:o.op= .index t x' i'):eP P ρ w env a.tmps d s' ((execOp a.eval o).run P w):=by
 have fQ:dC P e=some (sz.getD 1):=by
  unfold iH at iC;split at iC
  ·rename_i s' h1 h2; simp only [aa]at iC; subst iC; simpa using h2
  ·rename_i h1 h2; simp only [aa]at iC; subst iC; simpa using h2
  ·cases iC
 simp only [cg]at h;split at h
 ·rename_i l k hp hn;split at h
  ·rename_i j hj;obtain⟨kk,FO⟩:=iT hj (bc hi he hg hn);split at h
   ·rename_i hb;obtain⟨h1,rfl⟩:=js h;have eW:j < n:=by have:=az hb; omega
    have hv:=bc hx he hg hp;simp only [aR]at hv;obtain⟨vs,hv,hl,J4⟩:=hv;have D7 :part l (j * sz.getD 1) sz=some d:=by
     cases sz <;> simpa using h1
    obtain⟨u,r1,r2⟩:=qc (P:=P) hl J4 iC D7;have hr:(execOp a.eval o).run P w= .ok (.value u) w:=by
     simp only [execOp,ho,hv,FO,Instr.index,asIntOf];simp [run_underlying hu,fD fQ,eW,r1]
    rw [hr]; exact .rep hs r2
   ·cases h
  ·cases h
 ·cases h
end
end Go.Ab
