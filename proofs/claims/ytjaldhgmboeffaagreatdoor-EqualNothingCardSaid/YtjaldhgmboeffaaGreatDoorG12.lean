/- Part. -/
import Derived.Test.YtjaldhgmboeffaaGreatDoorG11
import Derived.Defers
set_option linter.unusedSimpArgs false
set_option linter.unusedVariables false
set_option linter.unusedSectionVars false
namespace Go.Ab
open Go
variable [eV]
variable {ρ ρ' :Gh} {w w' :World}{P:Program}{pn:jn}{G:Gl}{X:iw}{A:nA} {s s' :St}{env:Env}{a:Act}{lo:Nat}{d:D}{C:ay}{al:Option Nat}
theorem RC {n:Nat}{t:TypeId}(h:sK P (n+1) t=some .int):∃k,P.underlying t=some (.int k):=by
 unfold sK at h;split at h <;> (try (simp at h; done))
 ·rename_i k hk; exact ⟨k,hk⟩
 ·split at h <;> simp at h
 ·split at h
  ·cases h
  ·simp at h
theorem Q2 {n:Nat}{t:TypeId}(h:sK P (n+1) t=some .str):P.underlying t=some .string:=by
 unfold sK at h;split at h <;> (try (simp at h; done))
 ·assumption
 ·split at h <;> simp at h
 ·split at h
  ·cases h
  ·simp at h
theorem B1 {t:TypeId}{fs:Array Field}(hu:P.underlying t=some (.struct fs))(dQ:fs.toList.all (fun f=>(dO P f.type).isSome)=true):
  ∃place:Nat->Option (Nat×Nat),(∀i f z,fs[i]? =some f->dO P f.type=some z->place i=some (f.offset,z))/\
   ∀zv vs r,(P.info? t).bind (·.zero)=some zv->Instr.fill place zv.cells vs=some r->P.built t vs=some r:=by
 have hm:∀l:List Field,l.all (fun f=>(dO P f.type).isSome)=true->∃pl,l.mapM (fun f:Field=>(P.info? f.type).map fun i=>(f.offset,i.size))=some pl/\∀(i:Nat) (f:Field) (z:Nat),l[i]? =some f->dO P f.type=some z->pl[i]? =some (f.offset,z):=by
  intro l;induction l with
  | nil=>intro _; exact ⟨[],by simp,by simp⟩
  | cons f l ih=>
   intro h;simp only [gQ,aB]at h;obtain⟨pl,h1,h2⟩:=ih h.2;obtain⟨z,hz⟩:=jo.1 h.1;unfold dO at hz;simp only [bj]at hz;obtain⟨i,hi,hiz⟩:=hz;refine⟨(f.offset,i.size)::pl,by simp [jB,h1,hi],fun k g z' hk Lx => ?_⟩;cases k with
   | zero=>simp at hk; subst hk; simp only [dO,hi,da,aa]at Lx; subst Lx; simp
   | succ k=>simp at hk; simpa using h2 k g z' hk Lx
 obtain⟨pl,h1,h2⟩:=hm fs.toList dQ;refine⟨(pl.toArray[·]?),fun i f z hi hz=>by simpa using h2 i f z (by simpa using hi) hz,fun zv vs r hz hf=> ?_⟩;simp only [an]at hz;obtain⟨it,hit,hz⟩:=hz;simp only [Program.built,hit,hu,hz,h1];exact hf
theorem Ei {t e:TypeId}{n z:Nat}(hu:P.underlying t=some (.array n e))(hz:dO P e=some z)(zv:Value)(vs:List (Nat×Value))(r:Array Value)(h:(P.info? t).bind (·.zero)=some zv)(hf:Instr.fill (fun i=>some (i * z,z)) zv.cells vs=some r):P.built t vs=some r:=by
 simp only [an]at h;obtain⟨it,hit,h⟩:=h;simp only [dO,bj]at hz;obtain⟨ie,CE,rfl⟩:=hz;simp only [Program.built,hit,hu,h,CE];exact hf
section
variable (he:ew ρ w lo env a.tmps)(hg:gN pn G ρ w)(hs:ck ρ s w)
include he hg hs
theorem Yu (hC:dR pn P G C)(hX:∀f k,X f=some k->mA P f k){o:Oper}{p:eQ}(hb:Yh P G X A o=some p)(fK:XA p=true)(h:cC C env s al p=some (d,s')):fc P ρ w env a.tmps d s' ((execOp a.eval o).run P w):=by
 unfold Yh at hb;cases ho:o.op <;> simp only [ho]at hb <;> (try (cases hb; done))
 case move x=>
  simp only [bj]at hb;obtain⟨y,hy,rfl⟩:=hb;exact Up he hg hs hy h (.inl ho)
 case assign x=>
  simp only [bj]at hb;obtain⟨y,hy,rfl⟩:=hb;exact Up he hg hs hy h (.inr ho)
 case pick c x y=>
  simp only [aQ,aE,an,aa]at hb;obtain⟨c1,h1,x1,h2,y1,h3,rfl⟩:=hb;exact RX he hg hs h1 h2 h3 h ho
 case alloc e=>
  simp only [aQ,aE,an]at hb;obtain⟨z,hz,hb⟩:=hb;split at hb
  ·simp only [aa]at hb; subst hb; simp [cC]at h
  ·simp only [aa]at hb; subst hb;obtain⟨zv,z1,z2,z3⟩:=kF (w:=w) hz;refine O5 he hg hs (e:=e) (u:=zv) rfl (kq _ _ z2) h ?_;simp [execOp,ho,Instr.alloc,z1,newVar,newRow,newObj];rfl
 case box e x=>
  simp only [aQ,aE,an]at hb;obtain⟨y,hy,hb⟩:=hb;split at hb
  ·simp only [aa]at hb; subst hb; simp [cC]at h
  ·simp only [aa]at hb; subst hb;have h' :=h;simp only [cC]at h';split at h'
   ·rename_i v hv;refine O5 he hg hs (e:=e) (u:=a.eval x) hv (ba hy he hg hv) h ?_;simp [execOp,ho,Instr.box,newVar,newRow,newObj];rfl
   ·cases h'
 case build t parts=>
  simp only [aQ,aE,an,aa]at hb;obtain⟨z,hz,hb⟩:=hb;split at hb
  ·rename_i fs hu;split at hb
   ·rename_i dQ;simp only [an,aa]at hb;obtain⟨ps,PD,rfl⟩:=hb;obtain⟨place,q1,q2⟩:=B1 hu dQ;refine Ew he hg hs hz q2 (qJ (fun i x p hp=> ?_) _ _ PD) h ho;simp only [aQ,aE,an,aa]at hp;obtain⟨f,hf,sz,fS,y,hy,rfl⟩:=hp;exact⟨q1 i f sz hf fS,hy⟩
   ·cases hb
  ·rename_i n e hu;simp only [an,aa]at hb;obtain⟨sz,fS,ps,PD,rfl⟩:=hb;refine Ew he hg hs hz (Ei hu fS) (qJ (fun i x p hp=> ?_) _ _ PD) h ho;simp only [aQ,aE,an,aa]at hp;obtain⟨y,hy,rfl⟩:=hp;exact⟨rfl,hy⟩
  ·cases hb
 case buildSlice t len parts=>
  simp only [aQ,aE,an]at hb;obtain⟨e',hu,hb⟩:=hb;split at hb
  ·rename_i e;simp only [an]at hb;obtain⟨sz,fS,hb⟩:=hb;split at hb
   ·cases hb
   ·rename_i rN;simp only [an]at hb;obtain⟨z,hz,ps,PD,hb⟩:=hb;simp only [eD,aY,kK]at rN;cases sz with
    | zero=>exact absurd rfl rN.1
    | succ m=>
     have ZG:mP G parts.toList ps:=sS (fun i x p hp=>by
      simp only [aQ,aE,an,aa]at hp;obtain⟨y,hy,rfl⟩:=hp;exact⟨rfl,hy⟩) _ _ PD
     split at hb
     ·simp only [aa]at hb; subst hb; exact JZ he hg hs hu fS rN.2 hz ZG h ho
     ·simp only [aa]at hb; subst hb; exact I0 he hg hs hu fS rN.2 hz ZG h ho
  ·cases hb
 case load t x=>
  simp only [aQ,aE,an]at hb;obtain⟨sz,fS,hb⟩:=hb;split at hb
  ·simp only [an,aa]at hb;obtain⟨y,hy,rfl⟩:=hb;exact Mf he hg hs hy fS h ho
  ·simp only [an,aa]at hb;obtain⟨y,hy,rfl⟩:=hb;exact Qt he hg hs hy fS h ho
 case store t x v=>
  simp only [aQ,aE,an]at hb;obtain⟨sz,fS,hb⟩:=hb;split at hb
  ·cases hb
  ·split at hb
   ·simp only [an,aa]at hb;obtain⟨y,hy,u,hu,rfl⟩:=hb;simp [cC]at h
   ·simp only [an,aa]at hb;obtain⟨y,hy,u,hu,rfl⟩:=hb;exact Mu he hg hs hy hu fS h ho
 case nilCheck x=>
  simp only [aQ,aE,an,aa]at hb;obtain⟨y,hy,rfl⟩:=hb;exact Kc he hg hs hy h ho
 case binOp op t x y u=>
  simp only [aQ,aE,an]at hb;obtain⟨x1,hx,y1,hy,e,hu,hb⟩:=hb;split at hb
  ·simp only [aa]at hb; subst hb; exact Nh he hg hs hx hy h ho
  ·simp only [aa]at hb; subst hb; exact Nh he hg hs hx hy h ho
  ·rename_i n1 n2;simp only [an]at hb;obtain⟨et,het,hb⟩:=hb;have Pv:et≠ .int:=by
    rintro rfl;obtain⟨k,hk⟩:=RC het;rw [hk]at hu; simp only [aa]at hu;exact n1 k hu.symm
   have Pw:et≠ .str:=by
    rintro rfl;have hk:=Q2 het;rw [hk]at hu; simp only [aa]at hu;exact n2 hu.symm
   split at hb
   ·cases hb
   ·rename_i hq;have dN:∀l,et= .st l->P.eqGuardType P.depth t=false:=by
     rintro l rfl; simpa [ET.aaL] using hq
    unfold eqB at hb;split at hb
    ·simp only [aa]at hb; subst hb;exact ok_eq he hg hs hx hy het Pv Pw (.inl ⟨rfl,rfl⟩) rfl dN h ho
    ·simp only [aa]at hb; subst hb;exact ok_eq he hg hs hx hy het Pv Pw (.inr ⟨rfl,rfl⟩) rfl dN h ho
    ·cases hb
 case unOp op t x=>
  simp only [aQ,aE,an]at hb;obtain⟨e,hu,hb⟩:=hb;split at hb
  ·simp only [an,aa]at hb;obtain⟨y,hy,rfl⟩:=hb;exact S0 he hg hs hy h ho
  ·simp only [an,aa]at hb;obtain⟨y,hy,rfl⟩:=hb;exact S0 he hg hs hy h ho
  ·cases hb
 case convert src dst x=>
  simp only [aQ,aE,an]at hb;obtain⟨y,hy,hb⟩:=hb;split at hb
  ·rename_i h1 h2;simp only [aa]at hb; subst hb;exact MP he hg hs hy h1 h2 h ho
  ·rename_i h1 h2;simp only [aa]at hb; subst hb;exact C5 he hg hs hy h1 h2 h ho
  ·rename_i h1 h2;simp only [aa]at hb; subst hb;exact Ni he hg hs hy h1 h2 h ho
  ·rename_i e h1 h2;split at hb
   ·rename_i n hn;simp only [aa]at hb; subst hb;exact Qd he hg hs hy h1 h2 hn h ho
   ·cases hb
  ·rename_i e h1 h2;split at hb
   ·rename_i n hn;simp only [aa]at hb; subst hb;exact PX he hg hs hy h1 h2 hn h ho
   ·cases hb
  ·rename_i e h1 h2;split at hb
   ·rename_i h3;simp only [aa]at hb; subst hb;exact zP he hg hs hy h1 h2 h3 h ho
   ·cases hb
  ·rename_i e h1 h2;split at hb
   ·rename_i h3;simp only [aa]at hb; subst hb;exact zE he hg hs hy h1 h3 h2 h ho
   ·rename_i h3;simp only [aa]at hb; subst hb;exact zI he hg hs hy h1 h3 h2 h ho
   ·cases hb
  ·split at hb
   ·split at hb
    ·simp only [aa]at hb; subst hb; cases fK
    ·cases hb
   ·cases hb
  ·cases hb
 case makeInterface t x=>
  split at hb
  ·cases hb
  ·cases hb
  ·rename_i e Pv hu;simp only [aQ,aE,an,aa]at hb;obtain⟨y,hy,rfl⟩:=hb;exact RI he hg hs hy ⟨e,hu,fun ms hms=>by exact Pv _ hms⟩ h ho
 case makeFunc f x y=>
  simp only [aQ,aE,an,aa]at hb;obtain⟨x1,hx,y1,hy,rfl⟩:=hb;exact Se he hg hs hx hy h ho
 case makeMap t r=>
  simp only [aQ,aE,an]at hb;obtain⟨e',hu,hb⟩:=hb;split at hb
  ·simp only [an,aa]at hb;obtain⟨y,hy,rfl⟩:=hb;exact Nd he hg hs hu hy h ho
  ·cases hb
 case makeSlice t l c=>
  simp only [aQ,aE,an]at hb;obtain⟨e',hu,hb⟩:=hb;split at hb
  ·simp only [an]at hb;obtain⟨sz,fS,hb⟩:=hb;split at hb
   ·cases hb
   ·rename_i q h0;simp only [an,aa]at hb;obtain⟨z,hz,y,hy,y2,yp,rfl⟩:=hb;cases sz with
    | zero=>exact absurd rfl h0
    | succ m=>
     obtain⟨i,hi⟩:∃i,P.info? q=some i:=by
      cases hq:P.info? q with
      | none=>simp [jH,hq]at hz
      | some i=>exact ⟨i,rfl⟩
     exact F6 he hg hs hy yp hu fS hz hi (by simp [Program.bytesOf,hi]) h ho
  ·cases hb
 case slice t x lo hi mx=>
  split at hb
  ·rename_i hu;split at hb
   ·simp only [aQ,aE,an,aa]at hb;obtain⟨y,hy,l1,hl,h1,hh,rfl⟩:=hb;exact QY he hg hs hy hl hh hu h ho
   ·cases hb
  ·rename_i e hu;simp only [aQ,aE,an]at hb;obtain⟨sz,fS,hb⟩:=hb;split at hb
   ·cases hb
   ·rename_i hc;simp only [an,aa]at hb;obtain⟨y,hy,l1,hl,h1,hh,m1,hm,rfl⟩:=hb;simp only [eD,aB,aY,kK,not_and]at hc;cases sz with
    | zero=>exact absurd rfl hc.1
    | succ m=>exact Xj he hg hs hy hl hh hm hu fS (fun hmx=>by
      have:=hc.2 hmx;cases hi <;> simp_all) h ho
  ·rename_i n e hu;split at hb
   ·simp only [bj]at hb;obtain⟨y,hy,rfl⟩:=hb;exact KY he hg hs hy hu (by assumption) h ho
   ·cases hb
  ·cases hb
 case fieldAddr t x i=>
  simp only [aQ,aE,an]at hb;obtain⟨e',hu,hb⟩:=hb;split at hb
  ·simp only [an]at hb;obtain⟨f,hf,sz,fS,hb⟩:=hb;split at hb
   ·cases hb
   ·rename_i hz;simp only [an,aa]at hb;obtain⟨y,hy,rfl⟩:=hb;cases sz with
    | zero=>exact absurd rfl hz
    | succ m=>exact Nu he hg hs hy hu hf fS h ho
  ·cases hb
 case field t x i=>
  simp only [aQ,aE,an]at hb;obtain⟨e',hu,hb⟩:=hb;split at hb
  ·simp only [an,aa]at hb;obtain⟨f,hf,sz,fS,y,hy,rfl⟩:=hb;exact Ob he hg hs hy hu hf fS h ho
  ·cases hb
 case indexAddr t x i=>
  split at hb
  ·rename_i e hu;simp only [aQ,aE,an]at hb;obtain⟨sz,fS,hb⟩:=hb;split at hb
   ·cases hb
   ·rename_i hz;simp only [an,aa]at hb;obtain⟨y,hy,j,hj,rfl⟩:=hb;cases sz with
    | zero=>exact absurd rfl hz
    | succ m=>exact NA he hg hs hy hj hu fS h ho
  ·rename_i n e hu;simp only [aQ,aE,an]at hb;obtain⟨sz,fS,hb⟩:=hb;split at hb
   ·cases hb
   ·rename_i hz;simp only [an,aa]at hb;obtain⟨y,hy,j,hj,rfl⟩:=hb;cases sz with
    | zero=>exact absurd rfl hz
    | succ m=>exact J9 he hg hs hy hj hu fS h ho
  ·cases hb
 case index t x i=>
  split at hb
  ·rename_i hu;simp only [aQ,aE,an,aa]at hb;obtain⟨y,hy,j,hj,rfl⟩:=hb;exact Qq he hg hs hy hj hu h ho
  ·rename_i n e hu;simp only [aQ,aE,an,aa]at hb;obtain⟨sz,fS,y,hy,j,hj,rfl⟩:=hb;exact RP he hg hs hy hj hu fS h ho
  ·cases hb
 case lookup t m k ok=>
  simp only [aQ,aE,an]at hb;obtain⟨e',hu,hb⟩:=hb;split at hb
  ·simp only [an,aa]at hb;obtain⟨et,het,z,hz,y,hy,k1,hk,rfl⟩:=hb;exact IX he hg hs hy hk hu het hz h ho
  ·cases hb
 case mapUpdate t m k v=>
  simp only [aQ,aE,an]at hb;obtain⟨e',hu,hb⟩:=hb;split at hb
  ·simp only [an,aa]at hb;obtain⟨et,het,y,hy,k1,hk,v1,hv,rfl⟩:=hb;exact HQ he hg hs hy hk hv hu het h (.inl ho)
  ·cases hb
 case insert t m k v=>
  simp only [aQ,aE,an]at hb;obtain⟨e',hu,hb⟩:=hb;split at hb
  ·simp only [an,aa]at hb;obtain⟨et,het,y,hy,k1,hk,v1,hv,rfl⟩:=hb;exact HQ he hg hs hy hk hv hu het h (.inr ho)
  ·cases hb
 case mapEntry t m k=>
  simp only [aQ,aE,an]at hb;obtain⟨e',hu,hb⟩:=hb;split at hb
  ·simp only [an,aa]at hb;obtain⟨et,het,z,hz,y,hy,k1,hk,rfl⟩:=hb;exact KV he hg hs hy hk hu het hz h ho
  ·cases hb
 case entryStore t m b v=>
  simp only [aQ,aE,an,aa]at hb;obtain⟨y,hy,k1,hk,v1,hv,rfl⟩:=hb;exact G5 he hg hs hy hk hv h ho
 case range t x=>
  split at hb
  ·rename_i hu;simp only [aQ,aE,an,aa]at hb;obtain⟨y,hy,rfl⟩:=hb;exact LC he hg hs hy hu h ho
  ·cases hb
 case next x b=>
  cases b
  ·cases hb
  ·simp only [aQ,aE,an,aa]at hb;obtain⟨y,hy,rfl⟩:=hb;exact NU he hg hs hy h ho
 case typeAssert x xt t ok=>
  simp only [aQ,aE,an]at hb;obtain⟨y,hy,hb⟩:=hb;split at hb
  ·rename_i want hu;split at hb
   ·rename_i hz;simp only [aa]at hb; subst hb;exact E8 he hg hs hy hu hz h ho
   ·cases hb
  ·rename_i e Pv hu;simp only [an,aa]at hb;obtain⟨z,hz,rfl⟩:=hb;exact FU he hg hs hy hu (fun ms hms=>Pv ms hms) hz h ho
  ·cases hb
 case extract x i=>
  simp only [aQ,aE,an,aa]at hb;obtain⟨y,hy,rfl⟩:=hb;exact Gi he hg hs hy h ho
 case call c=>
  obtain⟨callee,args,argTypes⟩:=c;simp only [UY]at hb;split at hb
  ·rename_i b ya;unfold Dm at hb;split at hb <;> (try (cases hb; done))
   ·rename_i x t ha oM;have ea:args= #[x]:=dH ha;have et' :argTypes= #[t]:=dH oM;subst ea et';split at hb
    ·rename_i hu;simp only [bj]at hb;obtain⟨y,hy,rfl⟩:=hb;exact GO he hg hs hy (.inl ⟨rfl,hu⟩) h ho
    ·rename_i q hu;simp only [bj]at hb;obtain⟨y,hy,rfl⟩:=hb;exact GO he hg hs hy (.inr (.inl ⟨_,rfl,hu⟩)) h ho
    ·rename_i q r hu;simp only [bj]at hb;obtain⟨y,hy,rfl⟩:=hb;exact GO he hg hs hy (.inr (.inr ⟨_,_,rfl,hu⟩)) h ho
    ·cases hb
   ·rename_i x y t u ha oM;have ea:args= #[x,y]:=dH ha;have et' :argTypes= #[t,u]:=dH oM;subst ea et';simp only [aQ,aE,an]at hb;obtain⟨e',hu,hb⟩:=hb;split at hb
    ·rename_i e;split at hb
     ·rename_i hap;simp only [an]at hb;obtain⟨sz,fS,z,hz,i,hi,x1,hx,y1,hy,hb⟩:=hb;split at hb
      ·rename_i hc;simp only [aa]at hb; subst hb;simp only [aB]at hc;have h0:=az hc.1;cases sz with
       | zero=>omega
       | succ m=>
        refine IZ he hg hs hx hy hu ?_ hi fS hz hc.2 h ho;unfold wv at hap;split at hap
        ·exact .inl ⟨_,by assumption⟩
        ·exact .inr (by assumption)
        ·cases hap
      ·cases hb
     ·cases hb
    ·cases hb
   ·rename_i x t ha oM;have ea:args= #[x]:=dH ha;have et' :argTypes= #[t]:=dH oM;subst ea et';split at hb
    ·simp only [bj]at hb;obtain⟨y,hy,rfl⟩:=hb;exact KB he hg hs hy h ho
    ·cases hb
   ·rename_i x y t u ha oM;have ea:args= #[x,y]:=dH ha;have et' :argTypes= #[t,u]:=dH oM;subst ea et';split at hb
    ·rename_i e hu;split at hb
     ·rename_i fS;simp only [aQ,aE,an,aa]at hb;obtain⟨x1,hx,y1,hy,rfl⟩:=hb;exact Rt he hg hs hx hy hu fS h ho
     ·cases hb
    ·cases hb
   ·rename_i x y t u ha oM;have ea:args= #[x,y]:=dH ha;have et' :argTypes= #[t,u]:=dH oM;subst ea et';simp only [aQ,aE,an]at hb;obtain⟨e',hu,hb⟩:=hb;split at hb
    ·simp only [an]at hb;obtain⟨sz,fS,hb⟩:=hb;split at hb
     ·cases hb
     ·rename_i h0;simp only [an,aa]at hb;obtain⟨x1,hx,y1,hy,rfl⟩:=hb;cases sz with
      | zero=>exact absurd rfl h0
      | succ m=>exact QX he hg hs hx hy hu fS h ho
    ·cases hb
   ·rename_i x y t u ha oM;have ea:args= #[x,y]:=dH ha;have et' :argTypes= #[t,u]:=dH oM;subst ea et';simp only [aQ,aE,an]at hb;obtain⟨e',hu,hb⟩:=hb;split at hb
    ·rename_i q e;simp only [an,aa]at hb;obtain⟨et,het,y1,w7,y2,yp,rfl⟩:=hb;exact KK he hg hs w7 yp hu het rfl h ho
    ·cases hb
   ·rename_i x t ha oM;have ea:args= #[x]:=dH ha;have et' :argTypes= #[t]:=dH oM;subst ea et';split at hb
    ·rename_i e hu;simp only [aQ,aE,an]at hb;obtain⟨sz,fS,hb⟩:=hb;split at hb
     ·cases hb
     ·rename_i h0;simp only [an,aa]at hb;obtain⟨z,hz,x1,hx,rfl⟩:=hb;exact Ea he hg hs hx (.inr ⟨_,hu,fS,hz,by omega⟩) h ho
    ·rename_i q e hu;simp only [aQ,aE,an,aa]at hb;obtain⟨x1,hx,rfl⟩:=hb;exact Ea he hg hs hx (.inl ⟨_,_,hu,rfl⟩) h ho
    ·cases hb
   ·simp only [aQ,aE,an,aa]at hb;obtain⟨l,hl,rfl⟩:=hb;exact Au (mx:=false) he hg hs hl h (by simpa using ho)
   ·simp only [aQ,aE,an,aa]at hb;obtain⟨l,hl,rfl⟩:=hb;exact Au (mx:=true) he hg hs hl h (by simpa using ho)
  ·rename_i f ya;simp only [aQ,aE,an]at hb;obtain⟨fn,hfn,hb⟩:=hb;split at hb
   ·split at hb
    ·rename_i k hk;simp only [an,aa]at hb;obtain⟨ds,pO,rfl⟩:=hb;exact Xb he hg hs (hX _ _ hk) pO h ho
    ·cases hb
   ·split at hb
    ·cases hb
    ·simp only [an,aa]at hb;obtain⟨ds,pO,rfl⟩:=hb;cases wM:A.YO o.dst
     ·rw [wM]at h; exact Sc he hg hs hC pO h ho
     ·rw [wM]at h; exact KL he hg hs hC pO h ho
  ·rename_i x hnf ya;simp only [aQ,aE,an,aa]at hb;obtain⟨y,hy,ds,pO,rfl⟩:=hb;exact LP he hg hs hC hy pO h ho
  ·rename_i x name ya;simp only [aQ,aE,an,aa]at hb;obtain⟨y,hy,ds,pO,rfl⟩:=hb;exact Kh he hg hs hC hy pO h ho
 case defer c=>
  obtain⟨callee,args,argTypes⟩:=c;cases callee <;> simp only at hb <;> (try (cases hb; done));simp only [aQ,aE,an,aa]at hb;obtain⟨y,hy,z,hz,rfl⟩:=hb;simp [cC]at h
end
end Go.Ab
namespace Go.Ab
open Go
variable [eV]
variable {ρ ρ' ρ0:Gh}{w w' w0:World}{P:Program}{G:Gl}{X:iw}{A:nA} {s s' :St}{env:Env}{a:Act}{lo:Nat}{d:D}{C:ay}{al:Option Nat} {fr fr' :Fr}
def ix (ρ:Gh)(w:World)(lo:Nat):List (D×List D)->List Deferred->Prop
 | [],ds=>ds=[]
 | (d,l)::r,ds=>(d= .mw/\∃b t,ds= { target:= .collected b,args:= #[]}::t/\lo<=b/\ρ.own b= .qu/\w.heap[b]? =some (.deferred (some []))/\(∀m∈t,m.target≠ .collected b)/\ix ρ w lo r t)\/
   ∃f x y va vc vl t,d= .fn f x y/\ds= { target:= .fn f vc,args:=va++vl}::t/\bw ρ w x va.toList/\bw ρ w y vc.toList/\bw ρ w l vl.toList/\ix ρ w lo r t
theorem ix.gn (hK:Kr ρ w ρ' w')(hd:∀b,ρ.own b= .qu->w.heap[b]? =some (.deferred (some []))->ρ'.own b= .qu/\w'.heap[b]? =some (.deferred (some []))):∀ {l:List (D×List D)} {ds:List Deferred},ix ρ w lo l ds->ix ρ' w' lo l ds
 | [],_,h=>h
 | (d,l)::r,_,h=>by
  rcases h with ⟨h1,b,t,h2,h3,h4,h5,h6,h7⟩ | ⟨f,x,y,va,vc,vl,t,h1,h2,h3,h4,h5,h6⟩
  ·obtain⟨k1,k2⟩:=hd b h4 h5;exact .inl ⟨h1,b,t,h2,h3,k1,k2,h6,ix.gn hK hd h7⟩
  ·exact .inr ⟨f,x,y,va,vc,vl,t,h1,h2,bw.gn hK _ _ h3,bw.gn hK _ _ h4,bw.gn hK _ _ h5,ix.gn hK hd h6⟩
theorem ix.mono (hK:Kp ρ w ρ' w'){l:List (D×List D)}{ds:List Deferred}(h:ix ρ w lo l ds):ix ρ' w' lo l ds:=
 h.gn hK.r fun b hp hb=>by
  obtain⟨k1,k2⟩:=hK.kept b (gA.1 hb).1 (fun o=>by rw [hp]; simp);exact⟨k2.trans hp,k1.trans hb⟩
theorem ix.marks:∀ {l:List (D×List D)} {ds:List Deferred},ix ρ w lo l ds->∀m∈ds,∀b,m.target= .collected b->b < w.heap.size
 | [],ds,h,m,hm,b,hb=>by simp only [ix]at h; subst h; cases hm
 | (d,l)::r,ds,h,m,hm,b,hb=>by
  rcases h with ⟨h1,b',t,rfl,h3,h4,h5,h6,h7⟩ | ⟨f,x,y,va,vc,vl,t,h1,rfl,h3,h4,h5,h6⟩
  ·rcases bR.1 hm with rfl | hm
   ·simp only [Target.collected.injEq]at hb; subst hb;exact (gA.1 h5).1
   ·exact ix.marks h7 m hm b hb
  ·rcases bR.1 hm with rfl | hm
   ·cases hb
   ·exact ix.marks h6 m hm b hb
structure ri (ρ:Gh)(w:World)(lo nt:Nat)(fr:Fr)(a:Act):Prop where
 env:ew ρ w lo fr.env a.tmps
 size:nt<=a.tmps.size
 defers:ix ρ w lo fr.defers a.defers
theorem dB (e:Env)(t u:Nat)(d:D):Env.get ((t,d)::e) u=if t=u then some d else e.get u:=by
 simp only [Env.get];by_cases h:t=u
 ·rw [T.LF h,bT h]
 ·rw [T.uE h,aK h]
theorem er.Wh {tmps:Array Value}{t:Nat}{v:Value}(h:ft ρ w env tmps d v)(ht:tmps[t]? =some v)(cE:∀a c,d= .iG a c->False):er ρ w lo env tmps t d:=by
 cases d <;> simp only [ft]at h <;> simp only [er] <;> first | exact ⟨v,ht,h⟩ | exact h.elim | exact (cE _ _ rfl).elim
theorem ew.put {tmps:Array Value}{t:Nat}{v:Value}(he:ew ρ w lo env tmps)(ht:t < tmps.size)(hr:ft ρ w env tmps d v):ew ρ w lo ((t,d)::env) (tmps.setIfInBounds t v):=by
 have qU:∀x,d≠ .lv x:=by rintro x rfl; simp [ft]at hr
 have rB:(tmps.setIfInBounds t v)[t]? =some v:=by simp [ht]
 have tt:∀u,u≠t->(tmps.setIfInBounds t v)[u]? =tmps[u]? :=fun u hu=>by
  rw [dS,aK (fun e=>hu e.symm)]
 have nD:∀u x,Env.get ((t,d)::env) u=some (.lv x)->u≠t/\env.get u=some (.lv x):=fun u x h=>by
  rw [dB]at h;split at h
  ·simp only [aa]at h; exact absurd h (qU x)
  ·rename_i cE; exact ⟨fun e=>cE e.symm,h⟩
 refine⟨fun u q hq=> ?_,fun u u' x x' b cE h1 h2=> ?_⟩
 ·rw [dB]at hq;split at hq
  ·rename_i e; subst e;simp only [aa]at hq; subst hq;by_cases hp:∃a c,d= .iG a c
   ·obtain⟨a,c,rfl⟩:=hp;simp only [er];intro x hx;obtain⟨h1,h2⟩:=nD a x hx;simp only [ft]at hr;obtain⟨b,h3,h4⟩:=hr x h2;exact⟨b,by rw [tt a h1]; exact h3,by rw [rB,h4]⟩
   ·have Gm :ft ρ w ((t,d)::env) (tmps.setIfInBounds t v) d v:=by
     cases d <;> first | exact hr | exact absurd ⟨_,_,rfl⟩ hp
    exact .Wh Gm rB (fun a c e=>hp ⟨a,c,e⟩)
  ·rename_i cE;have cE:u≠t:=fun e=>cE e.symm;have:=he.slot u q hq;cases q with
   | lv x=>simp only [er]at *; rw [tt u cE]; exact this
   | iG a c=>
    simp only [er]at *;intro x hx;obtain⟨h1,h2⟩:=nD a x hx;rw [tt a h1,tt u cE];exact this x h2
   | _=>simp only [er]at *; rw [tt u cE]; exact this
 ·obtain⟨g1,g2⟩:=nD u x h1;obtain⟨g3,g4⟩:=nD u' x' h2;rw [tt u g1,tt u' g3];exact he.inj u u' x x' b cE g2 g4
theorem ri.put {nt:Nat}{dst:Option Nat}{v:Value}(h:ri ρ w lo nt fr a)(hd:∀t,dst=some t->t < nt)(hr:ft ρ w fr.env a.tmps d v):ri ρ w lo nt { fr with env:=ij fr.env dst d} (a.put dst v):=by
 cases dst with
 | none=>exact ⟨h.env,h.size,h.defers⟩
 | some t=>exact ⟨h.env.put (eK (hd t rfl) h.size) hr,by simpa [Act.put] using h.size,h.defers⟩
theorem ri.mono {nt:Nat}(hK:Kp ρ w ρ' w')(h:ri ρ w lo nt fr a):ri ρ' w' lo nt fr a:=⟨h.env.mono hK,h.size,h.defers.mono hK⟩
theorem ft.undef {tmps:Array Value}:ft ρ w env tmps (.gK []) undef:=by simp [ft,aU,bw,Go.undef]
def Inv (ρ0:Gh)(w0:World)(nt:Nat)(fr:Fr)(s:St)(a:Act)(w:World):Prop:=∃ρ,Kp ρ0 w0 ρ w/\ri ρ w w0.heap.size nt fr a/\ck ρ s w
theorem Aw {ops:Array Oper}{o:Oper}{g:Option (Nat×Bool)}{b:Bool}(he:ew ρ w lo env a.tmps)
  (hg:(match o.guard with | none=>some none | some (j,b)=>match (ops[j]?).bind (·.dst) with | some t=>some (some (t,b)) | none=>none)=some g)(h:aI env g=some b):Region.wanted o (yielded ops a.tmps)=b:=by
 unfold Region.wanted;cases OY:o.guard with
 | none=>
  simp only [OY,aa]at hg; subst hg;simp only [aI,aa]at h;exact h
 | some p=>
  obtain⟨j,q⟩:=p;simp only [OY]at hg;split at hg
  ·rename_i t ht;simp only [aa]at hg; subst hg;simp only [aI]at h;split at h
   ·rename_i c hc;simp only [aa]at h;have:=he.slot _ _ hc;simp only [er,aU]at this;obtain⟨v,hv,rfl⟩:=this;simp only [yielded,ht,Option.bind_some,hv];subst h;cases c <;> cases q <;> rfl
   ·rename_i hc;simp only [aa]at h;have:=he.slot _ _ hc;simp only [er,aU,bw]at this;obtain⟨v,hv,vs,rfl,_⟩:=this;simp only [yielded,ht,Option.bind_some,hv];subst h;rfl
   ·cases h
  ·cases hg
theorem I2 {nt:Nat}{r sz b c:Nat} {x v e' :D}{xv:Value}(hf:ri ρ w lo nt fr a)(hs:ck ρ s w)(nD:fr.env.get r=some (.lv x))(hb:a.tmps[r]? =some (.pointer (some ⟨b,0,none⟩)))(Iz:aU ρ w v xv)(Gv:x.over c v=some e')(hl:v.flat.length=sz):
  w.there b c sz/\v.st=true/\Kr ρ w ρ (w.setCells b c xv.cells.toList)/\ck ρ s (w.setCells b c xv.cells.toList)/\ri ρ (w.setCells b c xv.cells.toList) lo nt { fr with env:=(r,.lv e')::fr.env} a/\
   (∀ρ0 w0,w0.heap.size=lo->Kp ρ0 w0 ρ w->Kp ρ0 w0 ρ (w.setCells b c xv.cells.toList)):=by
 have sO:=hf.env.slot _ _ nD;simp only [er]at sO;obtain⟨b',u,el,q1,q2,q3,q4,q5,q6⟩:=sO;rw [hb]at q1;simp only [aa,Value.pointer.injEq,Addr.mk.injEq,iq]at q1;subst q1;obtain⟨u',o1,o2,o3,o4,dN⟩:=xM q4 q6 Iz Gv;have hxs:=Iz.size dN;obtain⟨⟨cs',g1,g2⟩,g3,g4,g5,g6,g7⟩:=jm xv.cells.toList c w u.cells el (0,0) q5 (by simpa using o4);have cE:∀b',ρ.own b' ≠ .qu->b' ≠b:=by rintro b' h rfl; exact h q2
 have Ya:Kr ρ w ρ (w.setCells b c xv.cells.toList):=⟨fun b' _ hi=>⟨g3 b' (cE b' (by rw [hi]; simp)),hi⟩,fun _ h=>⟨h,rfl⟩,fun _ _ h=> .inr ⟨h,fun _ hb=>⟨hb,rfl,aq _,rfl⟩⟩⟩;have qG:cs' =u'.cells:=dH (by rw [g2,o3]);refine⟨fun j hj=> ?_,dN,Ya, ?_,⟨⟨fun t q hq=> ?_,fun t t' y y' bb tz h1 h2=> ?_⟩,hf.size,hf.defers.gn Ya fun b' hp jl =>⟨hp,(g3 b' (by rintro rfl; rw [q5]at jl; cases jl)).trans jl⟩⟩,fun ρ0 w0 J4 hK=> ?_⟩
 ·have:c+j < u.cells.size:=by omega
  simp [World.cell?,World.frozen?,q5,this]
 ·refine hs.bV Ya (fun _ _=>nh) rfl (fun b' o jl =>⟨g3 b' (cE b' (by rw [jl]; simp)),rfl,rfl,rfl⟩) (fun b' jl =>hs.size b' (by omega))
 ·rw [dB]at hq;split at hq
  ·rename_i e; subst e;simp only [aa]at hq; subst hq;simp only [er];exact⟨b,u',el,hb,q2,q3,aU.gn Ya _ _ o1,by rw [g1,qG],o2⟩
  ·rename_i hrt;have:=hf.env.slot t q hq;cases q with
   | lv y=>
    simp only [er]at *;obtain⟨b2,v2,el2,p1,p2,p3,p4,p5,p6⟩:=this;have lT:b2≠b:=by
     rintro rfl;exact hf.env.inj r t x y b2 hrt nD hq hb p1
    exact⟨b2,v2,el2,p1,p2,p3,aU.gn Ya _ _ p4,by rw [g3 b2 lT]; exact p5,p6⟩
   | iG k cc=>
    simp only [er]at *;intro y hy;rw [dB]at hy;split at hy
    ·rename_i e; subst e; exact this x nD
    ·exact this y hy
   | _=>
    simp only [er]at *;obtain⟨v2,p1,p2⟩:=this;exact⟨v2,p1,aU.gn Ya _ _ p2⟩
 ·have old:∀t y,Env.get ((r,.lv e')::fr.env) t=some (.lv y)->∃y0,fr.env.get t=some (.lv y0):=fun t y h=>by
   rw [dB]at h;split at h
   ·rename_i e; subst e; exact ⟨x,nD⟩
   ·exact⟨y,h⟩
  obtain⟨y0,p1⟩:=old t y h1;obtain⟨y1,p2⟩:=old t' y' h2;exact hf.env.inj t t' y0 y1 bb tz p1 p2
 ·exact⟨g5.trans hK.os,g6.trans hK.tape,g7.trans hK.output,by have:=hK.size; omega,fun b' jl Fs=>by
   obtain⟨h1,h2⟩:=hK.kept b' jl Fs;exact⟨(g3 b' (by omega)).trans h1,h2⟩,hK.dead,hK.live⟩
theorem Rh {nt r:Nat}{x:D}{u:Value}{e:TypeId}(hf:ri ρ w lo nt fr a)(hs:ck ρ s w)(J4:lo<=w.heap.size)(hr:r < nt)(hu:aU ρ w x u)(dN:x.st=true)(Fs:fr.env.tQ r=true):
  ∃ρ',Kp ρ w ρ' (w.alloc (.cells u.cells e))/\ck ρ' s (w.alloc (.cells u.cells e))/\ri ρ' (w.alloc (.cells u.cells e)) lo nt { fr with env:=(r,.lv x)::fr.env} (a.put (some r) (.pointer (some ⟨w.heap.size,0,none⟩))):=by
 let ρ' :Gh:= { ρ with own:=fun b=>if b=w.heap.size then .qu else ρ.own b}
 have hw:(w.alloc (.cells u.cells e)).heap=w.heap.push (.cells u.cells e):=rfl;have hK:Kp ρ w ρ' (w.alloc (.cells u.cells e)):=by
  refine⟨rfl,rfl,rfl,by rw [hw]; simp,fun b hb _=>⟨iA hw hb, ?_⟩,fun _ h=>⟨h,rfl⟩,fun o z h=> .inr ⟨h,fun b hb=>⟨?_,rfl,aq _,rfl⟩⟩⟩
  ·show (if b=w.heap.size then Own.qu else ρ.own b)=ρ.own b;rw [aK (by omega)]
  ·have:=hs.jJ hb;show (if b=w.heap.size then Own.qu else ρ.own b)= .obj o;rw [aK (by omega)]; exact hb
 have hS:ck ρ' s (w.alloc (.cells u.cells e)):=by
  refine hs.bV hK.r (fun b o=> ?_) rfl (fun b o hb=>⟨iA hw (hs.jJ hb),rfl,rfl,rfl⟩) (fun b hb=> ?_)
  ·show ((if b=w.heap.size then Own.qu else ρ.own b)= .obj o)↔_;split
   ·rename_i e; subst e; rw [hs.size _ (aq _)]; simp
   ·rfl
  ·rw [hw]at hb; simp at hb;show (if b=w.heap.size then Own.qu else ρ.own b)= .zO;rw [aK (by omega)]; exact hs.size b (by omega)
 have fS:r < a.tmps.size:=eK hr hf.size;have rB:(a.tmps.setIfInBounds r (.pointer (some ⟨w.heap.size,0,none⟩)))[r]? =some (.pointer (some ⟨w.heap.size,0,none⟩)):=by simp [fS]
 have tt:∀t,t≠r->(a.tmps.setIfInBounds r (.pointer (some ⟨w.heap.size,0,none⟩)))[t]? =a.tmps[t]? :=fun t ht=>by
  rw [dS,aK (fun e=>ht e.symm)]
 have qU:∀(e:Env),e.tQ r=true->∀t k c,e.get t=some (.iG k c)->k≠r:=by
  intro e;induction e with
  | nil=>intro _ t k c h; simp [Env.get]at h
  | cons p e ih=>
   obtain⟨t0,d0⟩:=p;intro h t k c hg;rw [dB]at hg;simp only [Env.tQ]at h;split at hg
   ·simp only [aa]at hg; subst hg;simp only at h;split at h
    ·cases h
    ·rename_i hb; rintro rfl; rw [aA]at hb; cases hb
   ·split at h
    ·split at h
     ·cases h
     ·exact ih h t k c hg
    ·exact ih h t k c hg
 have hfm:=hf.mono hK;have wh:(a.put (some r) (Value.pointer (some ⟨w.heap.size,0,none⟩))).tmps=a.tmps.setIfInBounds r (.pointer (some ⟨w.heap.size,0,none⟩)):=rfl;refine⟨ρ',hK,hS,⟨⟨fun t q hq=> ?_,fun t t' y y' bb cE h1 h2 h3=> ?_⟩,by simpa [Act.put] using hf.size,hfm.defers⟩⟩
 ·rw [dB]at hq;split at hq
  ·rename_i e2; subst e2;simp only [aa]at hq; subst hq;simp only [er];exact⟨w.heap.size,u,e,rB,by show (if w.heap.size=w.heap.size then Own.qu else _)=_; rw [bT rfl],J4,hu.mono hK,mg hw,dN⟩
  ·rename_i cE;have cE:t≠r:=fun e=>cE e.symm;have:=hfm.env.slot t q hq;cases q with
   | lv y=>simp only [er]at *; rw [wh,tt t cE]; exact this
   | iG k c=>
    simp only [er]at *;intro y hy;have hk:=qU fr.env Fs t k c hq;rw [dB,aK (fun e=>hk e.symm)]at hy;rw [wh,tt k hk,tt t cE];exact this y hy
   | _=>simp only [er]at *; rw [wh,tt t cE]; exact this
 ·have key:∀t y,t≠r->Env.get ((r,.lv x)::fr.env) t=some (.lv y)->fr.env.get t=some (.lv y)/\a.tmps[t]? ≠some (.pointer (some ⟨w.heap.size,0,none⟩)):=fun t y ht h=>by
   rw [dB,aK (fun e=>ht e.symm)]at h;refine⟨h,fun hp=> ?_⟩;have:=hf.env.slot t _ h;simp only [er]at this;obtain⟨b2,v2,el2,p1,p2,p3,p4,p5,p6⟩:=this;rw [hp]at p1;simp only [aa,Value.pointer.injEq,Addr.mk.injEq,iq]at p1;have:=xj p5;omega
  rw [wh]at h3 ⊢;by_cases ht:t=r
  ·subst ht;rw [rB]at h3;simp only [aa,Value.pointer.injEq,Addr.mk.injEq,iq]at h3;subst h3;rw [tt t' (fun e=>cE e.symm)];exact (key t' y' (fun e=>cE e.symm) h2).2
  ·obtain⟨k1,k2⟩:=key t y ht h1;rw [tt t ht]at h3;by_cases Rc :t' =r
   ·subst Rc;rw [rB];intro e; rw [← e]at h3; exact k2 h3
   ·obtain⟨k3,_⟩:=key t' y' Rc h2;rw [tt t' Rc];exact hf.env.inj t t' y y' bb cE k1 k3 h3
end Go.Ab
