/- Part. -/
import Derived.Test.YtmcdajnpdekocaaGreatDoorG14
set_option linter.unusedSectionVars false
set_option linter.unusedSimpArgs false
set_option linter.unusedVariables false
namespace Go.Ab
open Go
variable [Vals]
variable {ρ ρ' :Gh} {w w' :World}{P:Program}{pn:Pins}{G:Gl}{X:Exts}{A:Adv} {s s' :St}{env:Env}{a:Act}{lo:Nat}{d:D}{C:zAa}{al:Option Nat}
theorem etB_int {n:Nat}{t:TypeId}(h:etB P (n+1) t=some .int):∃k,P.underlying t=some (.int k):=by
 unfold etB at h
 split at h <;> (try (simp at h; done))
 ·rename_i k hk; exact ⟨k,hk⟩
 ·split at h <;> simp at h
 ·split at h
  ·cases h
  ·simp at h
theorem etB_str {n:Nat}{t:TypeId}(h:etB P (n+1) t=some .str):P.underlying t=some .string:=by
 unfold etB at h
 split at h <;> (try (simp at h; done))
 ·assumption
 ·split at h <;> simp at h
 ·split at h
  ·cases h
  ·simp at h
theorem zSu {t:TypeId}{fs:Array Field}(hu:P.underlying t=some (.struct fs))(hall:fs.toList.all (fun f=>(zPo P f.type).isSome)=true):
  ∃place:Nat→Option (Nat×Nat),(∀i f z,fs[i]? =some f→zPo P f.type=some z→place i=some (f.offset,z))∧
   ∀zv vs r,(P.info? t).bind (·.zero)=some zv→Instr.fill place zv.cells vs=some r→P.built t vs=some r:=by
 have hm:∀l:List Field,l.all (fun f=>(zPo P f.type).isSome)=true→∃pl,l.mapM (fun f:Field=>(P.info? f.type).map fun i=>(f.offset,i.size))=some pl∧∀(i:Nat) (f:Field) (z:Nat),l[i]? =some f→zPo P f.type=some z→pl[i]? =some (f.offset,z):=by
  intro l
  induction l with
  | nil=>intro _; exact ⟨[],by simp,by simp⟩
  | cons f l ih=>
   intro h
   simp only [List.all_cons,Bool.and_eq_true]at h
   obtain⟨pl,h1,h2⟩:=ih h.2
   obtain⟨z,hz⟩:=Option.isSome_iff_exists.1 h.1
   unfold zPo at hz
   simp only [Option.map_eq_some_iff]at hz
   obtain⟨i,hi,hiz⟩:=hz
   refine⟨(f.offset,i.size)::pl,by simp [List.mapM_cons,h1,hi],fun k g z' hk hz' => ?_⟩
   cases k with
   | zero=>simp at hk; subst hk; simp only [zPo,hi,Option.map_some,Option.some.injEq]at hz'; subst hz'; simp
   | succ k=>simp at hk; simpa using h2 k g z' hk hz'
 obtain⟨pl,h1,h2⟩:=hm fs.toList hall
 refine⟨(pl.toArray[·]?),fun i f z hi hz=>by simpa using h2 i f z (by simpa using hi) hz,fun zv vs r hz hf=> ?_⟩
 simp only [Option.bind_eq_some_iff]at hz
 obtain⟨it,hit,hz⟩:=hz
 simp only [Program.built,hit,hu,hz,h1]
 exact hf
theorem zUn {t e:TypeId}{n z:Nat}(hu:P.underlying t=some (.array n e))(hz:zPo P e=some z)(zv:Value)(vs:List (Nat×Value))(r:Array Value)(h:(P.info? t).bind (·.zero)=some zv)(hf:Instr.fill (fun i=>some (i * z,z)) zv.cells vs=some r):P.built t vs=some r:=by
 simp only [Option.bind_eq_some_iff]at h
 obtain⟨it,hit,h⟩:=h
 simp only [zPo,Option.map_eq_some_iff]at hz
 obtain⟨ie,hie,rfl⟩:=hz
 simp only [Program.built,hit,hu,h,hie]
 exact hf
section
variable (he:EnR ρ w lo env a.tmps)(hg:GlOk pn G ρ w)(hs:zPl ρ s w)
include he hg hs
theorem op_ok (hC:ClO pn P G C)(hX:∀f k,X f=some k→zQi P f k){o:Oper}{p:AOp}(hb:opB P G X A o=some p)(hok:okOp p=true)(h:opF C env s al p=some (d,s')):OpOk P ρ w env a.tmps d s' ((execOp a.eval o).run P w):=by
 unfold opB at hb
 cases ho:o.op <;> simp only [ho]at hb <;> (try (cases hb; done))
 case move x=>
  simp only [Option.map_eq_some_iff]at hb
  obtain⟨y,hy,rfl⟩:=hb
  exact ok_mv he hg hs hy h (.inl ho)
 case assign x=>
  simp only [Option.map_eq_some_iff]at hb
  obtain⟨y,hy,rfl⟩:=hb
  exact ok_mv he hg hs hy h (.inr ho)
 case pick c x y=>
  simp only [Option.pure_def,Option.bind_eq_bind,Option.bind_eq_some_iff,Option.some.injEq]at hb
  obtain⟨c1,h1,x1,h2,y1,h3,rfl⟩:=hb
  exact ok_pick he hg hs h1 h2 h3 h ho
 case alloc e=>
  simp only [Option.pure_def,Option.bind_eq_bind,Option.bind_eq_some_iff]at hb
  obtain⟨z,hz,hb⟩:=hb
  split at hb
  ·simp only [Option.some.injEq]at hb; subst hb; simp [opF]at h
  ·simp only [Option.some.injEq]at hb; subst hb
   obtain⟨zv,z1,z2,z3⟩:=zCi (w:=w) hz
   refine ok_box he hg hs (e:=e) (u:=zv) rfl (zCg _ _ z2) h ?_
   simp [execOp,ho,Instr.alloc,z1,newVar,newRow,newObj]
   rfl
 case box e x=>
  simp only [Option.pure_def,Option.bind_eq_bind,Option.bind_eq_some_iff]at hb
  obtain⟨y,hy,hb⟩:=hb
  split at hb
  ·simp only [Option.some.injEq]at hb; subst hb; simp [opF]at h
  ·simp only [Option.some.injEq]at hb; subst hb
   have h' :=h
   simp only [opF]at h'
   split at h'
   ·rename_i v hv
    refine ok_box he hg hs (e:=e) (u:=a.eval x) hv (opR hy he hg hv) h ?_
    simp [execOp,ho,Instr.box,newVar,newRow,newObj]
    rfl
   ·cases h'
 case build t parts=>
  simp only [Option.pure_def,Option.bind_eq_bind,Option.bind_eq_some_iff,Option.some.injEq]at hb
  obtain⟨z,hz,hb⟩:=hb
  split at hb
  ·rename_i fs hu
   split at hb
   ·rename_i hall
    simp only [Option.bind_eq_some_iff,Option.some.injEq]at hb
    obtain⟨ps,hps,rfl⟩:=hb
    obtain⟨place,q1,q2⟩:=zSu hu hall
    refine zVv he hg hs hz q2 (zFh (fun i x p hp=> ?_) _ _ hps) h ho
    simp only [Option.pure_def,Option.bind_eq_bind,Option.bind_eq_some_iff,Option.some.injEq]at hp
    obtain⟨f,hf,sz,hsz,y,hy,rfl⟩:=hp
    exact⟨q1 i f sz hf hsz,hy⟩
   ·cases hb
  ·rename_i n e hu
   simp only [Option.bind_eq_some_iff,Option.some.injEq]at hb
   obtain⟨sz,hsz,ps,hps,rfl⟩:=hb
   refine zVv he hg hs hz (zUn hu hsz) (zFh (fun i x p hp=> ?_) _ _ hps) h ho
   simp only [Option.pure_def,Option.bind_eq_bind,Option.bind_eq_some_iff,Option.some.injEq]at hp
   obtain⟨y,hy,rfl⟩:=hp
   exact⟨rfl,hy⟩
  ·cases hb
 case buildSlice t len parts=>
  simp only [Option.pure_def,Option.bind_eq_bind,Option.bind_eq_some_iff]at hb
  obtain⟨e',hu,hb⟩:=hb
  split at hb
  ·rename_i e
   simp only [Option.bind_eq_some_iff]at hb
   obtain⟨sz,hsz,hb⟩:=hb
   split at hb
   ·cases hb
   ·rename_i hbig
    simp only [Option.bind_eq_some_iff]at hb
    obtain⟨z,hz,ps,hps,hb⟩:=hb
    simp only [Bool.or_eq_true,decide_eq_true_eq,not_or]at hbig
    cases sz with
    | zero=>exact absurd rfl hbig.1
    | succ m=>
     have hrel:zDl G parts.toList ps:=zHn (fun i x p hp=>by
      simp only [Option.pure_def,Option.bind_eq_bind,Option.bind_eq_some_iff,Option.some.injEq]at hp
      obtain⟨y,hy,rfl⟩:=hp
      exact⟨rfl,hy⟩) _ _ hps
     split at hb
     ·simp only [Option.some.injEq]at hb; subst hb; exact yFc he hg hs hu hsz hbig.2 hz hrel h ho
     ·simp only [Option.some.injEq]at hb; subst hb; exact yFl he hg hs hu hsz hbig.2 hz hrel h ho
  ·cases hb
 case load t x=>
  simp only [Option.pure_def,Option.bind_eq_bind,Option.bind_eq_some_iff]at hb
  obtain⟨sz,hsz,hb⟩:=hb
  split at hb
  ·simp only [Option.bind_eq_some_iff,Option.some.injEq]at hb
   obtain⟨y,hy,rfl⟩:=hb
   exact ok_lload he hg hs hy hsz h ho
  ·simp only [Option.bind_eq_some_iff,Option.some.injEq]at hb
   obtain⟨y,hy,rfl⟩:=hb
   exact ok_load he hg hs hy hsz h ho
 case store t x v=>
  simp only [Option.pure_def,Option.bind_eq_bind,Option.bind_eq_some_iff]at hb
  obtain⟨sz,hsz,hb⟩:=hb
  split at hb
  ·cases hb
  ·split at hb
   ·simp only [Option.bind_eq_some_iff,Option.some.injEq]at hb
    obtain⟨y,hy,u,hu,rfl⟩:=hb
    simp [opF]at h
   ·simp only [Option.bind_eq_some_iff,Option.some.injEq]at hb
    obtain⟨y,hy,u,hu,rfl⟩:=hb
    exact ok_store he hg hs hy hu hsz h ho
 case nilCheck x=>
  simp only [Option.pure_def,Option.bind_eq_bind,Option.bind_eq_some_iff,Option.some.injEq]at hb
  obtain⟨y,hy,rfl⟩:=hb
  exact yFe he hg hs hy h ho
 case binOp op t x y u=>
  simp only [Option.pure_def,Option.bind_eq_bind,Option.bind_eq_some_iff]at hb
  obtain⟨x1,hx,y1,hy,e,hu,hb⟩:=hb
  split at hb
  ·simp only [Option.some.injEq]at hb; subst hb; exact ok_bin he hg hs hx hy h ho
  ·simp only [Option.some.injEq]at hb; subst hb; exact ok_bin he hg hs hx hy h ho
  ·rename_i n1 n2
   simp only [Option.bind_eq_some_iff]at hb
   obtain⟨et,het,hb⟩:=hb
   have hni:et≠ .int:=by
    rintro rfl
    obtain⟨k,hk⟩:=etB_int het
    rw [hk]at hu; simp only [Option.some.injEq]at hu
    exact n1 k hu.symm
   have hns:et≠ .str:=by
    rintro rfl
    have hk:=etB_str het
    rw [hk]at hu; simp only [Option.some.injEq]at hu
    exact n2 hu.symm
   split at hb
   ·cases hb
   ·rename_i hq
    have hst:∀l,et= .st l→P.eqGuardType P.depth t=false:=by
     rintro l rfl; simpa [ET.isSt] using hq
    unfold eqB at hb
    split at hb
    ·simp only [Option.some.injEq]at hb; subst hb
     exact ok_eq he hg hs hx hy het hni hns (.inl ⟨rfl,rfl⟩) rfl hst h ho
    ·simp only [Option.some.injEq]at hb; subst hb
     exact ok_eq he hg hs hx hy het hni hns (.inr ⟨rfl,rfl⟩) rfl hst h ho
    ·cases hb
 case unOp op t x=>
  simp only [Option.pure_def,Option.bind_eq_bind,Option.bind_eq_some_iff]at hb
  obtain⟨e,hu,hb⟩:=hb
  split at hb
  ·simp only [Option.bind_eq_some_iff,Option.some.injEq]at hb
   obtain⟨y,hy,rfl⟩:=hb
   exact ok_un he hg hs hy h ho
  ·simp only [Option.bind_eq_some_iff,Option.some.injEq]at hb
   obtain⟨y,hy,rfl⟩:=hb
   exact ok_un he hg hs hy h ho
  ·cases hb
 case convert src dst x=>
  simp only [Option.pure_def,Option.bind_eq_bind,Option.bind_eq_some_iff]at hb
  obtain⟨y,hy,hb⟩:=hb
  split at hb
  ·rename_i h1 h2
   simp only [Option.some.injEq]at hb; subst hb
   exact ok_toInt he hg hs hy h1 h2 h ho
  ·rename_i h1 h2
   simp only [Option.some.injEq]at hb; subst hb
   exact zUd he hg hs hy h1 h2 h ho
  ·rename_i h1 h2
   simp only [Option.some.injEq]at hb; subst hb
   exact ok_strId he hg hs hy h1 h2 h ho
  ·rename_i e h1 h2
   split at hb
   ·rename_i n hn
    simp only [Option.some.injEq]at hb; subst hb
    exact ok_uptr he hg hs hy h1 h2 hn h ho
   ·cases hb
  ·rename_i e h1 h2
   split at hb
   ·rename_i n hn
    simp only [Option.some.injEq]at hb; subst hb
    exact ok_upto he hg hs hy h1 h2 hn h ho
   ·cases hb
  ·rename_i e h1 h2
   split at hb
   ·rename_i h3
    simp only [Option.some.injEq]at hb; subst hb
    exact zOf he hg hs hy h1 h2 h3 h ho
   ·cases hb
  ·rename_i e h1 h2
   split at hb
   ·rename_i h3
    simp only [Option.some.injEq]at hb; subst hb
    exact zOh he hg hs hy h1 h3 h2 h ho
   ·rename_i h3
    simp only [Option.some.injEq]at hb; subst hb
    exact zOg he hg hs hy h1 h3 h2 h ho
   ·cases hb
  ·split at hb
   ·split at hb
    ·simp only [Option.some.injEq]at hb; subst hb; cases hok
    ·cases hb
   ·cases hb
  ·cases hb
 case makeInterface t x=>
  split at hb
  ·cases hb
  ·cases hb
  ·rename_i e hni hu
   simp only [Option.pure_def,Option.bind_eq_bind,Option.bind_eq_some_iff,Option.some.injEq]at hb
   obtain⟨y,hy,rfl⟩:=hb
   exact ok_mkif he hg hs hy ⟨e,hu,fun ms hms=>by exact hni _ hms⟩ h ho
 case makeFunc f x y=>
  simp only [Option.pure_def,Option.bind_eq_bind,Option.bind_eq_some_iff,Option.some.injEq]at hb
  obtain⟨x1,hx,y1,hy,rfl⟩:=hb
  exact ok_mkfn he hg hs hx hy h ho
 case makeMap t r=>
  simp only [Option.pure_def,Option.bind_eq_bind,Option.bind_eq_some_iff]at hb
  obtain⟨e',hu,hb⟩:=hb
  split at hb
  ·simp only [Option.bind_eq_some_iff,Option.some.injEq]at hb
   obtain⟨y,hy,rfl⟩:=hb
   exact ok_mkmap he hg hs hu hy h ho
  ·cases hb
 case makeSlice t l c=>
  simp only [Option.pure_def,Option.bind_eq_bind,Option.bind_eq_some_iff]at hb
  obtain⟨e',hu,hb⟩:=hb
  split at hb
  ·simp only [Option.bind_eq_some_iff]at hb
   obtain⟨sz,hsz,hb⟩:=hb
   split at hb
   ·cases hb
   ·rename_i q h0
    simp only [Option.bind_eq_some_iff,Option.some.injEq]at hb
    obtain⟨z,hz,y,hy,y2,hy2,rfl⟩:=hb
    cases sz with
    | zero=>exact absurd rfl h0
    | succ m=>
     obtain⟨i,hi⟩:∃i,P.info? q=some i:=by
      cases hq:P.info? q with
      | none=>simp [zPu,hq]at hz
      | some i=>exact ⟨i,rfl⟩
     exact zXz he hg hs hy hy2 hu hsz hz hi (by simp [Program.bytesOf,hi]) h ho
  ·cases hb
 case slice t x lo hi mx=>
  split at hb
  ·rename_i hu
   split at hb
   ·simp only [Option.pure_def,Option.bind_eq_bind,Option.bind_eq_some_iff,Option.some.injEq]at hb
    obtain⟨y,hy,l1,hl,h1,hh,rfl⟩:=hb
    exact ok_sstr he hg hs hy hl hh hu h ho
   ·cases hb
  ·rename_i e hu
   simp only [Option.pure_def,Option.bind_eq_bind,Option.bind_eq_some_iff]at hb
   obtain⟨sz,hsz,hb⟩:=hb
   split at hb
   ·cases hb
   ·rename_i hc
    simp only [Option.bind_eq_some_iff,Option.some.injEq]at hb
    obtain⟨y,hy,l1,hl,h1,hh,m1,hm,rfl⟩:=hb
    simp only [Bool.or_eq_true,Bool.and_eq_true,decide_eq_true_eq,not_or,not_and]at hc
    cases sz with
    | zero=>exact absurd rfl hc.1
    | succ m=>exact ok_ssl he hg hs hy hl hh hm hu hsz (fun hmx=>by
      have:=hc.2 hmx
      cases hi <;> simp_all) h ho
  ·rename_i n e hu
   split at hb
   ·simp only [Option.map_eq_some_iff]at hb
    obtain⟨y,hy,rfl⟩:=hb
    exact yFm he hg hs hy hu (by assumption) h ho
   ·cases hb
  ·cases hb
 case fieldAddr t x i=>
  simp only [Option.pure_def,Option.bind_eq_bind,Option.bind_eq_some_iff]at hb
  obtain⟨e',hu,hb⟩:=hb
  split at hb
  ·simp only [Option.bind_eq_some_iff]at hb
   obtain⟨f,hf,sz,hsz,hb⟩:=hb
   split at hb
   ·cases hb
   ·rename_i hz
    simp only [Option.bind_eq_some_iff,Option.some.injEq]at hb
    obtain⟨y,hy,rfl⟩:=hb
    cases sz with
    | zero=>exact absurd rfl hz
    | succ m=>exact ok_faddr he hg hs hy hu hf hsz h ho
  ·cases hb
 case field t x i=>
  simp only [Option.pure_def,Option.bind_eq_bind,Option.bind_eq_some_iff]at hb
  obtain⟨e',hu,hb⟩:=hb
  split at hb
  ·simp only [Option.bind_eq_some_iff,Option.some.injEq]at hb
   obtain⟨f,hf,sz,hsz,y,hy,rfl⟩:=hb
   exact ok_field he hg hs hy hu hf hsz h ho
  ·cases hb
 case indexAddr t x i=>
  split at hb
  ·rename_i e hu
   simp only [Option.pure_def,Option.bind_eq_bind,Option.bind_eq_some_iff]at hb
   obtain⟨sz,hsz,hb⟩:=hb
   split at hb
   ·cases hb
   ·rename_i hz
    simp only [Option.bind_eq_some_iff,Option.some.injEq]at hb
    obtain⟨y,hy,j,hj,rfl⟩:=hb
    cases sz with
    | zero=>exact absurd rfl hz
    | succ m=>exact ok_iaddr he hg hs hy hj hu hsz h ho
  ·rename_i n e hu
   simp only [Option.pure_def,Option.bind_eq_bind,Option.bind_eq_some_iff]at hb
   obtain⟨sz,hsz,hb⟩:=hb
   split at hb
   ·cases hb
   ·rename_i hz
    simp only [Option.bind_eq_some_iff,Option.some.injEq]at hb
    obtain⟨y,hy,j,hj,rfl⟩:=hb
    cases sz with
    | zero=>exact absurd rfl hz
    | succ m=>exact yFi he hg hs hy hj hu hsz h ho
  ·cases hb
 case index t x i=>
  split at hb
  ·rename_i hu
   simp only [Option.pure_def,Option.bind_eq_bind,Option.bind_eq_some_iff,Option.some.injEq]at hb
   obtain⟨y,hy,j,hj,rfl⟩:=hb
   exact ok_sidx he hg hs hy hj hu h ho
  ·rename_i n e hu
   simp only [Option.pure_def,Option.bind_eq_bind,Option.bind_eq_some_iff,Option.some.injEq]at hb
   obtain⟨sz,hsz,y,hy,j,hj,rfl⟩:=hb
   exact ok_aidx he hg hs hy hj hu hsz h ho
  ·cases hb
 case lookup t m k ok=>
  simp only [Option.pure_def,Option.bind_eq_bind,Option.bind_eq_some_iff]at hb
  obtain⟨e',hu,hb⟩:=hb
  split at hb
  ·simp only [Option.bind_eq_some_iff,Option.some.injEq]at hb
   obtain⟨et,het,z,hz,y,hy,k1,hk,rfl⟩:=hb
   exact yFg he hg hs hy hk hu het hz h ho
  ·cases hb
 case mapUpdate t m k v=>
  simp only [Option.pure_def,Option.bind_eq_bind,Option.bind_eq_some_iff]at hb
  obtain⟨e',hu,hb⟩:=hb
  split at hb
  ·simp only [Option.bind_eq_some_iff,Option.some.injEq]at hb
   obtain⟨et,het,y,hy,k1,hk,v1,hv,rfl⟩:=hb
   exact yBa he hg hs hy hk hv hu het h (.inl ho)
  ·cases hb
 case insert t m k v=>
  simp only [Option.pure_def,Option.bind_eq_bind,Option.bind_eq_some_iff]at hb
  obtain⟨e',hu,hb⟩:=hb
  split at hb
  ·simp only [Option.bind_eq_some_iff,Option.some.injEq]at hb
   obtain⟨et,het,y,hy,k1,hk,v1,hv,rfl⟩:=hb
   exact yBa he hg hs hy hk hv hu het h (.inr ho)
  ·cases hb
 case mapEntry t m k=>
  simp only [Option.pure_def,Option.bind_eq_bind,Option.bind_eq_some_iff]at hb
  obtain⟨e',hu,hb⟩:=hb
  split at hb
  ·simp only [Option.bind_eq_some_iff,Option.some.injEq]at hb
   obtain⟨et,het,z,hz,y,hy,k1,hk,rfl⟩:=hb
   exact yFf he hg hs hy hk hu het hz h ho
  ·cases hb
 case entryStore t m b v=>
  simp only [Option.pure_def,Option.bind_eq_bind,Option.bind_eq_some_iff,Option.some.injEq]at hb
  obtain⟨y,hy,k1,hk,v1,hv,rfl⟩:=hb
  exact zYa he hg hs hy hk hv h ho
 case range t x=>
  split at hb
  ·rename_i hu
   simp only [Option.pure_def,Option.bind_eq_bind,Option.bind_eq_some_iff,Option.some.injEq]at hb
   obtain⟨y,hy,rfl⟩:=hb
   exact ok_range he hg hs hy hu h ho
  ·cases hb
 case next x b=>
  cases b
  ·cases hb
  ·simp only [Option.pure_def,Option.bind_eq_bind,Option.bind_eq_some_iff,Option.some.injEq]at hb
   obtain⟨y,hy,rfl⟩:=hb
   exact ok_nexts he hg hs hy h ho
 case typeAssert x xt t ok=>
  simp only [Option.pure_def,Option.bind_eq_bind,Option.bind_eq_some_iff]at hb
  obtain⟨y,hy,hb⟩:=hb
  split at hb
  ·rename_i want hu
   split at hb
   ·rename_i hz
    simp only [Option.some.injEq]at hb; subst hb
    exact zUc he hg hs hy hu hz h ho
   ·cases hb
  ·rename_i e hni hu
   simp only [Option.bind_eq_some_iff,Option.some.injEq]at hb
   obtain⟨z,hz,rfl⟩:=hb
   exact zXy he hg hs hy hu (fun ms hms=>hni ms hms) hz h ho
  ·cases hb
 case extract x i=>
  simp only [Option.pure_def,Option.bind_eq_bind,Option.bind_eq_some_iff,Option.some.injEq]at hb
  obtain⟨y,hy,rfl⟩:=hb
  exact zYb he hg hs hy h ho
 case call c=>
  obtain⟨callee,args,argTypes⟩:=c
  simp only [callB]at hb
  split at hb
  ·rename_i b hb0
   unfold zWx at hb
   split at hb <;> (try (cases hb; done))
   ·rename_i x t ha hat
    have ea:args= #[x]:=Array.ext' ha
    have et' :argTypes= #[t]:=Array.ext' hat
    subst ea et'
    split at hb
    ·rename_i hu
     simp only [Option.map_eq_some_iff]at hb
     obtain⟨y,hy,rfl⟩:=hb
     exact zZn he hg hs hy (.inl ⟨rfl,hu⟩) h ho
    ·rename_i q hu
     simp only [Option.map_eq_some_iff]at hb
     obtain⟨y,hy,rfl⟩:=hb
     exact zZn he hg hs hy (.inr (.inl ⟨_,rfl,hu⟩)) h ho
    ·rename_i q r hu
     simp only [Option.map_eq_some_iff]at hb
     obtain⟨y,hy,rfl⟩:=hb
     exact zZn he hg hs hy (.inr (.inr ⟨_,_,rfl,hu⟩)) h ho
    ·cases hb
   ·rename_i x y t u ha hat
    have ea:args= #[x,y]:=Array.ext' ha
    have et' :argTypes= #[t,u]:=Array.ext' hat
    subst ea et'
    simp only [Option.pure_def,Option.bind_eq_bind,Option.bind_eq_some_iff]at hb
    obtain⟨e',hu,hb⟩:=hb
    split at hb
    ·rename_i e
     split at hb
     ·rename_i hap
      simp only [Option.bind_eq_some_iff]at hb
      obtain⟨sz,hsz,z,hz,i,hi,x1,hx,y1,hy,hb⟩:=hb
      split at hb
      ·rename_i hc
       simp only [Option.some.injEq]at hb; subst hb
       simp only [Bool.and_eq_true]at hc
       have h0:=Nat.le_of_ble_eq_true hc.1
       cases sz with
       | zero=>omega
       | succ m=>
        refine yFn he hg hs hx hy hu ?_ hi hsz hz hc.2 h ho
        unfold zLk at hap
        split at hap
        ·exact .inl ⟨_,by assumption⟩
        ·exact .inr (by assumption)
        ·cases hap
      ·cases hb
     ·cases hb
    ·cases hb
   ·rename_i x t ha hat
    have ea:args= #[x]:=Array.ext' ha
    have et' :argTypes= #[t]:=Array.ext' hat
    subst ea et'
    split at hb
    ·simp only [Option.map_eq_some_iff]at hb
     obtain⟨y,hy,rfl⟩:=hb
     exact yFd he hg hs hy h ho
    ·cases hb
   ·rename_i x y t u ha hat
    have ea:args= #[x,y]:=Array.ext' ha
    have et' :argTypes= #[t,u]:=Array.ext' hat
    subst ea et'
    split at hb
    ·rename_i e hu
     split at hb
     ·rename_i hsz
      simp only [Option.pure_def,Option.bind_eq_bind,Option.bind_eq_some_iff,Option.some.injEq]at hb
      obtain⟨x1,hx,y1,hy,rfl⟩:=hb
      exact ok_ustr he hg hs hx hy hu hsz h ho
     ·cases hb
    ·cases hb
   ·rename_i x y t u ha hat
    have ea:args= #[x,y]:=Array.ext' ha
    have et' :argTypes= #[t,u]:=Array.ext' hat
    subst ea et'
    simp only [Option.pure_def,Option.bind_eq_bind,Option.bind_eq_some_iff]at hb
    obtain⟨e',hu,hb⟩:=hb
    split at hb
    ·simp only [Option.bind_eq_some_iff]at hb
     obtain⟨sz,hsz,hb⟩:=hb
     split at hb
     ·cases hb
     ·rename_i h0
      simp only [Option.bind_eq_some_iff,Option.some.injEq]at hb
      obtain⟨x1,hx,y1,hy,rfl⟩:=hb
      cases sz with
      | zero=>exact absurd rfl h0
      | succ m=>exact ok_copy he hg hs hx hy hu hsz h ho
    ·cases hb
   ·rename_i x y t u ha hat
    have ea:args= #[x,y]:=Array.ext' ha
    have et' :argTypes= #[t,u]:=Array.ext' hat
    subst ea et'
    simp only [Option.pure_def,Option.bind_eq_bind,Option.bind_eq_some_iff]at hb
    obtain⟨e',hu,hb⟩:=hb
    split at hb
    ·rename_i q e
     simp only [Option.bind_eq_some_iff,Option.some.injEq]at hb
     obtain⟨et,het,y1,hy1,y2,hy2,rfl⟩:=hb
     exact yFj he hg hs hy1 hy2 hu het rfl h ho
    ·cases hb
   ·rename_i x t ha hat
    have ea:args= #[x]:=Array.ext' ha
    have et' :argTypes= #[t]:=Array.ext' hat
    subst ea et'
    split at hb
    ·rename_i e hu
     simp only [Option.pure_def,Option.bind_eq_bind,Option.bind_eq_some_iff]at hb
     obtain⟨sz,hsz,hb⟩:=hb
     split at hb
     ·cases hb
     ·rename_i h0
      simp only [Option.bind_eq_some_iff,Option.some.injEq]at hb
      obtain⟨z,hz,x1,hx,rfl⟩:=hb
      exact zVu he hg hs hx (.inr ⟨_,hu,hsz,hz,by omega⟩) h ho
    ·rename_i q e hu
     simp only [Option.pure_def,Option.bind_eq_bind,Option.bind_eq_some_iff,Option.some.injEq]at hb
     obtain⟨x1,hx,rfl⟩:=hb
     exact zVu he hg hs hx (.inl ⟨_,_,hu,rfl⟩) h ho
    ·cases hb
   ·simp only [Option.pure_def,Option.bind_eq_bind,Option.bind_eq_some_iff,Option.some.injEq]at hb
    obtain⟨l,hl,rfl⟩:=hb
    exact zRk (mx:=false) he hg hs hl h (by simpa using ho)
   ·simp only [Option.pure_def,Option.bind_eq_bind,Option.bind_eq_some_iff,Option.some.injEq]at hb
    obtain⟨l,hl,rfl⟩:=hb
    exact zRk (mx:=true) he hg hs hl h (by simpa using ho)
  ·rename_i f hb0
   simp only [Option.pure_def,Option.bind_eq_bind,Option.bind_eq_some_iff]at hb
   obtain⟨fn,hfn,hb⟩:=hb
   split at hb
   ·split at hb
    ·rename_i k hk
     simp only [Option.bind_eq_some_iff,Option.some.injEq]at hb
     obtain⟨ds,hds,rfl⟩:=hb
     exact ok_ext he hg hs (hX _ _ hk) hds h ho
    ·cases hb
   ·split at hb
    ·cases hb
    ·simp only [Option.bind_eq_some_iff,Option.some.injEq]at hb
     obtain⟨ds,hds,rfl⟩:=hb
     cases hro:A.isRo o.dst
     ·rw [hro]at h; exact ok_call he hg hs hC hds h ho
     ·rw [hro]at h; exact yFk he hg hs hC hds h ho
  ·rename_i x hnf hb0
   simp only [Option.pure_def,Option.bind_eq_bind,Option.bind_eq_some_iff,Option.some.injEq]at hb
   obtain⟨y,hy,ds,hds,rfl⟩:=hb
   exact ok_callv he hg hs hC hy hds h ho
  ·rename_i x name hb0
   simp only [Option.pure_def,Option.bind_eq_bind,Option.bind_eq_some_iff,Option.some.injEq]at hb
   obtain⟨y,hy,ds,hds,rfl⟩:=hb
   exact yFh he hg hs hC hy hds h ho
 case defer c=>
  obtain⟨callee,args,argTypes⟩:=c
  cases callee <;> simp only at hb <;> (try (cases hb; done))
  simp only [Option.pure_def,Option.bind_eq_bind,Option.bind_eq_some_iff,Option.some.injEq]at hb
  obtain⟨y,hy,z,hz,rfl⟩:=hb
  simp [opF]at h
end
end Go.Ab
