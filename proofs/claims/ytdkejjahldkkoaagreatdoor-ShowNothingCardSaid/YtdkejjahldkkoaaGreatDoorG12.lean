/- Part. -/
import Derived.Test.YtdkejjahldkkoaaGreatDoorG11
import Derived.Defers
set_option linter.unusedSectionVars false
set_option linter.unusedSimpArgs false
set_option linter.unusedVariables false
namespace Go.Ab
open Go
variable [eW]
variable {ρ ρ' :Gh} {w w' :World}{P:Program}{pn:iO}{G:Gl}{X:iJ}{A:nJ} {s s' :St}{env:Env}{a:Act}{lo:Nat}{d:D}{C:au}{al:Option Nat}
theorem QG {n:Nat}{t:TypeId}(h:sP P (n+1) t=some .int):∃k,P.underlying t=some (.int k):=by
 unfold sP at h;split at h <;> (try (simp at h; done))
 ·rename_i k hk; exact ⟨k,hk⟩
 ·split at h <;> simp at h
 ·split at h
  ·cases h
  ·simp at h
theorem Ru {n:Nat}{t:TypeId}(h:sP P (n+1) t=some .str):P.underlying t=some .string:=by
 unfold sP at h;split at h <;> (try (simp at h; done))
 ·assumption
 ·split at h <;> simp at h
 ·split at h
  ·cases h
  ·simp at h
theorem B0 {t:TypeId}{fs:Array Field}(hu:P.underlying t=some (.struct fs))(dK:fs.toList.all (fun f=>(dM P f.type).isSome)=true):
  ∃place:Nat->Option (Nat×Nat),(∀i f z,fs[i]? =some f->dM P f.type=some z->place i=some (f.offset,z))/\
   ∀zv vs r,(P.info? t).bind (·.zero)=some zv->Instr.fill place zv.cells vs=some r->P.built t vs=some r:=by
 have hm:∀l:List Field,l.all (fun f=>(dM P f.type).isSome)=true->∃pl,l.mapM (fun f:Field=>(P.info? f.type).map fun i=>(f.offset,i.size))=some pl/\∀(i:Nat) (f:Field) (z:Nat),l[i]? =some f->dM P f.type=some z->pl[i]? =some (f.offset,z):=by
  intro l;induction l with
  | nil=>intro _; exact ⟨[],by simp,by simp⟩
  | cons f l ih=>
   intro h;simp only [gQ,aA]at h;obtain⟨pl,h1,h2⟩:=ih h.2;obtain⟨z,hz⟩:=jo.1 h.1;unfold dM at hz;simp only [aY]at hz;obtain⟨i,hi,hiz⟩:=hz;refine⟨(f.offset,i.size)::pl,by simp [jC,h1,hi],fun k g z' hk MW => ?_⟩;cases k with
   | zero=>simp at hk; subst hk; simp only [dM,hi,dn,aa]at MW; subst MW; simp
   | succ k=>simp at hk; simpa using h2 k g z' hk MW
 obtain⟨pl,h1,h2⟩:=hm fs.toList dK;refine⟨(pl.toArray[·]?),fun i f z hi hz=>by simpa using h2 i f z (by simpa using hi) hz,fun zv vs r hz hf=> ?_⟩;simp only [aj]at hz;obtain⟨it,hit,hz⟩:=hz;simp only [Program.built,hit,hu,hz,h1];exact hf
theorem C1 {t e:TypeId}{n z:Nat}(hu:P.underlying t=some (.array n e))(hz:dM P e=some z)(zv:Value)(vs:List (Nat×Value))(r:Array Value)(h:(P.info? t).bind (·.zero)=some zv)(hf:Instr.fill (fun i=>some (i * z,z)) zv.cells vs=some r):P.built t vs=some r:=by
 simp only [aj]at h;obtain⟨it,hit,h⟩:=h;simp only [dM,aY]at hz;obtain⟨ie,FA,rfl⟩:=hz;simp only [Program.built,hit,hu,h,FA];exact hf
section
variable (he:eu ρ w lo env a.tmps)(hg:gF pn G ρ w)(hs:bZ ρ s w)
include he hg hs
theorem Y1 (hC:c9 pn P G C)(hX:∀f k,X f=some k->my P f k){o:Oper}{p:eN}(hb:XS P G X A o=some p)(fK:V6 p=true)(h:cB C env s al p=some (d,s')):fb P ρ w env a.tmps d s' ((execOp a.eval o).run P w):=by
 unfold XS at hb;cases ho:o.op <;> simp only [ho]at hb <;> (try (cases hb; done))
 case move x=>
  simp only [aY]at hb;obtain⟨y,hy,rfl⟩:=hb;exact Tz he hg hs hy h (.inl ho)
 case assign x=>
  simp only [aY]at hb;obtain⟨y,hy,rfl⟩:=hb;exact Tz he hg hs hy h (.inr ho)
 case pick c x y=>
  simp only [aP,aD,aj,aa]at hb;obtain⟨c1,h1,x1,h2,y1,h3,rfl⟩:=hb;exact Qw he hg hs h1 h2 h3 h ho
 case alloc e=>
  simp only [aP,aD,aj]at hb;obtain⟨z,hz,hb⟩:=hb;split at hb
  ·simp only [aa]at hb; subst hb; simp [cB]at h
  ·simp only [aa]at hb; subst hb;obtain⟨zv,z1,z2,z3⟩:=kz (w:=w) hz;refine LR he hg hs (e:=e) (u:=zv) rfl (kh _ _ z2) h ?_;simp [execOp,ho,Instr.alloc,z1,newVar,newRow,newObj];rfl
 case box e x=>
  simp only [aP,aD,aj]at hb;obtain⟨y,hy,hb⟩:=hb;split at hb
  ·simp only [aa]at hb; subst hb; simp [cB]at h
  ·simp only [aa]at hb; subst hb;have h' :=h;simp only [cB]at h';split at h'
   ·rename_i v hv;refine LR he hg hs (e:=e) (u:=a.eval x) hv (aZ hy he hg hv) h ?_;simp [execOp,ho,Instr.box,newVar,newRow,newObj];rfl
   ·cases h'
 case build t parts=>
  simp only [aP,aD,aj,aa]at hb;obtain⟨z,hz,hb⟩:=hb;split at hb
  ·rename_i fs hu;split at hb
   ·rename_i dK;simp only [aj,aa]at hb;obtain⟨ps,PV,rfl⟩:=hb;obtain⟨place,q1,q2⟩:=B0 hu dK;refine DG he hg hs hz q2 (qM (fun i x p hp=> ?_) _ _ PV) h ho;simp only [aP,aD,aj,aa]at hp;obtain⟨f,hf,sz,fR,y,hy,rfl⟩:=hp;exact⟨q1 i f sz hf fR,hy⟩
   ·cases hb
  ·rename_i n e hu;simp only [aj,aa]at hb;obtain⟨sz,fR,ps,PV,rfl⟩:=hb;refine DG he hg hs hz (C1 hu fR) (qM (fun i x p hp=> ?_) _ _ PV) h ho;simp only [aP,aD,aj,aa]at hp;obtain⟨y,hy,rfl⟩:=hp;exact⟨rfl,hy⟩
  ·cases hb
 case buildSlice t len parts=>
  simp only [aP,aD,aj]at hb;obtain⟨e',hu,hb⟩:=hb;split at hb
  ·rename_i e;simp only [aj]at hb;obtain⟨sz,fR,hb⟩:=hb;split at hb
   ·cases hb
   ·rename_i rX;simp only [aj]at hb;obtain⟨z,hz,ps,PV,hb⟩:=hb;simp only [eC,aX,kH]at rX;cases sz with
    | zero=>exact absurd rfl rX.1
    | succ m=>
     have Yb:mQ G parts.toList ps:=sU (fun i x p hp=>by
      simp only [aP,aD,aj,aa]at hp;obtain⟨y,hy,rfl⟩:=hp;exact⟨rfl,hy⟩) _ _ PV
     split at hb
     ·simp only [aa]at hb; subst hb; exact KO he hg hs hu fR rX.2 hz Yb h ho
     ·simp only [aa]at hb; subst hb; exact J7 he hg hs hu fR rX.2 hz Yb h ho
  ·cases hb
 case load t x=>
  simp only [aP,aD,aj]at hb;obtain⟨sz,fR,hb⟩:=hb;split at hb
  ·simp only [aj,aa]at hb;obtain⟨y,hy,rfl⟩:=hb;exact Pd he hg hs hy fR h ho
  ·simp only [aj,aa]at hb;obtain⟨y,hy,rfl⟩:=hb;exact Ri he hg hs hy fR h ho
 case store t x v=>
  simp only [aP,aD,aj]at hb;obtain⟨sz,fR,hb⟩:=hb;split at hb
  ·cases hb
  ·split at hb
   ·simp only [aj,aa]at hb;obtain⟨y,hy,u,hu,rfl⟩:=hb;simp [cB]at h
   ·simp only [aj,aa]at hb;obtain⟨y,hy,u,hu,rfl⟩:=hb;exact MH he hg hs hy hu fR h ho
 case nilCheck x=>
  simp only [aP,aD,aj,aa]at hb;obtain⟨y,hy,rfl⟩:=hb;exact K4 he hg hs hy h ho
 case binOp op t x y u=>
  simp only [aP,aD,aj]at hb;obtain⟨x1,hx,y1,hy,e,hu,hb⟩:=hb;split at hb
  ·simp only [aa]at hb; subst hb; exact L6 he hg hs hx hy h ho
  ·simp only [aa]at hb; subst hb; exact L6 he hg hs hx hy h ho
  ·rename_i n1 n2;simp only [aj]at hb;obtain⟨et,het,hb⟩:=hb;have PH:et≠ .int:=by
    rintro rfl;obtain⟨k,hk⟩:=QG het;rw [hk]at hu; simp only [aa]at hu;exact n1 k hu.symm
   have PS:et≠ .str:=by
    rintro rfl;have hk:=Ru het;rw [hk]at hu; simp only [aa]at hu;exact n2 hu.symm
   split at hb
   ·cases hb
   ·rename_i hq;have dT:∀l,et= .st l->P.eqGuardType P.depth t=false:=by
     rintro l rfl; simpa [ET.Yl] using hq
    unfold eqB at hb;split at hb
    ·simp only [aa]at hb; subst hb;exact ok_eq he hg hs hx hy het PH PS (.inl ⟨rfl,rfl⟩) rfl dT h ho
    ·simp only [aa]at hb; subst hb;exact ok_eq he hg hs hx hy het PH PS (.inr ⟨rfl,rfl⟩) rfl dT h ho
    ·cases hb
 case unOp op t x=>
  simp only [aP,aD,aj]at hb;obtain⟨e,hu,hb⟩:=hb;split at hb
  ·simp only [aj,aa]at hb;obtain⟨y,hy,rfl⟩:=hb;exact Uk he hg hs hy h ho
  ·simp only [aj,aa]at hb;obtain⟨y,hy,rfl⟩:=hb;exact Uk he hg hs hy h ho
  ·cases hb
 case convert src dst x=>
  simp only [aP,aD,aj]at hb;obtain⟨y,hy,hb⟩:=hb;split at hb
  ·rename_i h1 h2;simp only [aa]at hb; subst hb;exact M5 he hg hs hy h1 h2 h ho
  ·rename_i h1 h2;simp only [aa]at hb; subst hb;exact E4 he hg hs hy h1 h2 h ho
  ·rename_i h1 h2;simp only [aa]at hb; subst hb;exact M0 he hg hs hy h1 h2 h ho
  ·rename_i e h1 h2;split at hb
   ·rename_i n hn;simp only [aa]at hb; subst hb;exact Sy he hg hs hy h1 h2 hn h ho
   ·cases hb
  ·rename_i e h1 h2;split at hb
   ·rename_i n hn;simp only [aa]at hb; subst hb;exact RY he hg hs hy h1 h2 hn h ho
   ·cases hb
  ·rename_i e h1 h2;split at hb
   ·rename_i h3;simp only [aa]at hb; subst hb;exact zN he hg hs hy h1 h2 h3 h ho
   ·cases hb
  ·rename_i e h1 h2;split at hb
   ·rename_i h3;simp only [aa]at hb; subst hb;exact zX he hg hs hy h1 h3 h2 h ho
   ·rename_i h3;simp only [aa]at hb; subst hb;exact zU he hg hs hy h1 h3 h2 h ho
   ·cases hb
  ·split at hb
   ·split at hb
    ·simp only [aa]at hb; subst hb; cases fK
    ·cases hb
   ·cases hb
  ·cases hb
 case makeInterface t x=>
  split at hb
  ·cases hb
  ·cases hb
  ·rename_i e PH hu;simp only [aP,aD,aj,aa]at hb;obtain⟨y,hy,rfl⟩:=hb;exact RA he hg hs hy ⟨e,hu,fun ms hms=>by exact PH _ hms⟩ h ho
 case makeFunc f x y=>
  simp only [aP,aD,aj,aa]at hb;obtain⟨x1,hx,y1,hy,rfl⟩:=hb;exact Qj he hg hs hx hy h ho
 case makeMap t r=>
  simp only [aP,aD,aj]at hb;obtain⟨e',hu,hb⟩:=hb;split at hb
  ·simp only [aj,aa]at hb;obtain⟨y,hy,rfl⟩:=hb;exact Nt he hg hs hu hy h ho
  ·cases hb
 case makeSlice t l c=>
  simp only [aP,aD,aj]at hb;obtain⟨e',hu,hb⟩:=hb;split at hb
  ·simp only [aj]at hb;obtain⟨sz,fR,hb⟩:=hb;split at hb
   ·cases hb
   ·rename_i q h0;simp only [aj,aa]at hb;obtain⟨z,hz,y,hy,y2,yo,rfl⟩:=hb;cases sz with
    | zero=>exact absurd rfl h0
    | succ m=>
     obtain⟨i,hi⟩:∃i,P.info? q=some i:=by
      cases hq:P.info? q with
      | none=>simp [jI,hq]at hz
      | some i=>exact ⟨i,rfl⟩
     exact Gz he hg hs hy yo hu fR hz hi (by simp [Program.bytesOf,hi]) h ho
  ·cases hb
 case slice t x lo hi mx=>
  split at hb
  ·rename_i hu;split at hb
   ·simp only [aP,aD,aj,aa]at hb;obtain⟨y,hy,l1,hl,h1,hh,rfl⟩:=hb;exact RO he hg hs hy hl hh hu h ho
   ·cases hb
  ·rename_i e hu;simp only [aP,aD,aj]at hb;obtain⟨sz,fR,hb⟩:=hb;split at hb
   ·cases hb
   ·rename_i hc;simp only [aj,aa]at hb;obtain⟨y,hy,l1,hl,h1,hh,m1,hm,rfl⟩:=hb;simp only [eC,aA,aX,kH,not_and]at hc;cases sz with
    | zero=>exact absurd rfl hc.1
    | succ m=>exact WY he hg hs hy hl hh hm hu fR (fun hmx=>by
      have:=hc.2 hmx;cases hi <;> simp_all) h ho
  ·rename_i n e hu;split at hb
   ·simp only [aY]at hb;obtain⟨y,hy,rfl⟩:=hb;exact KB he hg hs hy hu (by assumption) h ho
   ·cases hb
  ·cases hb
 case fieldAddr t x i=>
  simp only [aP,aD,aj]at hb;obtain⟨e',hu,hb⟩:=hb;split at hb
  ·simp only [aj]at hb;obtain⟨f,hf,sz,fR,hb⟩:=hb;split at hb
   ·cases hb
   ·rename_i hz;simp only [aj,aa]at hb;obtain⟨y,hy,rfl⟩:=hb;cases sz with
    | zero=>exact absurd rfl hz
    | succ m=>exact Lx he hg hs hy hu hf fR h ho
  ·cases hb
 case field t x i=>
  simp only [aP,aD,aj]at hb;obtain⟨e',hu,hb⟩:=hb;split at hb
  ·simp only [aj,aa]at hb;obtain⟨f,hf,sz,fR,y,hy,rfl⟩:=hb;exact LF he hg hs hy hu hf fR h ho
  ·cases hb
 case indexAddr t x i=>
  split at hb
  ·rename_i e hu;simp only [aP,aD,aj]at hb;obtain⟨sz,fR,hb⟩:=hb;split at hb
   ·cases hb
   ·rename_i hz;simp only [aj,aa]at hb;obtain⟨y,hy,j,hj,rfl⟩:=hb;cases sz with
    | zero=>exact absurd rfl hz
    | succ m=>exact MS he hg hs hy hj hu fR h ho
  ·rename_i n e hu;simp only [aP,aD,aj]at hb;obtain⟨sz,fR,hb⟩:=hb;split at hb
   ·cases hb
   ·rename_i hz;simp only [aj,aa]at hb;obtain⟨y,hy,j,hj,rfl⟩:=hb;cases sz with
    | zero=>exact absurd rfl hz
    | succ m=>exact JJ he hg hs hy hj hu fR h ho
  ·cases hb
 case index t x i=>
  split at hb
  ·rename_i hu;simp only [aP,aD,aj,aa]at hb;obtain⟨y,hy,j,hj,rfl⟩:=hb;exact Qc he hg hs hy hj hu h ho
  ·rename_i n e hu;simp only [aP,aD,aj,aa]at hb;obtain⟨sz,fR,y,hy,j,hj,rfl⟩:=hb;exact R5 he hg hs hy hj hu fR h ho
  ·cases hb
 case lookup t m k ok=>
  simp only [aP,aD,aj]at hb;obtain⟨e',hu,hb⟩:=hb;split at hb
  ·simp only [aj,aa]at hb;obtain⟨et,het,z,hz,y,hy,k1,hk,rfl⟩:=hb;exact Jn he hg hs hy hk hu het hz h ho
  ·cases hb
 case mapUpdate t m k v=>
  simp only [aP,aD,aj]at hb;obtain⟨e',hu,hb⟩:=hb;split at hb
  ·simp only [aj,aa]at hb;obtain⟨et,het,y,hy,k1,hk,v1,hv,rfl⟩:=hb;exact IL he hg hs hy hk hv hu het h (.inl ho)
  ·cases hb
 case insert t m k v=>
  simp only [aP,aD,aj]at hb;obtain⟨e',hu,hb⟩:=hb;split at hb
  ·simp only [aj,aa]at hb;obtain⟨et,het,y,hy,k1,hk,v1,hv,rfl⟩:=hb;exact IL he hg hs hy hk hv hu het h (.inr ho)
  ·cases hb
 case mapEntry t m k=>
  simp only [aP,aD,aj]at hb;obtain⟨e',hu,hb⟩:=hb;split at hb
  ·simp only [aj,aa]at hb;obtain⟨et,het,z,hz,y,hy,k1,hk,rfl⟩:=hb;exact KX he hg hs hy hk hu het hz h ho
  ·cases hb
 case entryStore t m b v=>
  simp only [aP,aD,aj,aa]at hb;obtain⟨y,hy,k1,hk,v1,hv,rfl⟩:=hb;exact Gc he hg hs hy hk hv h ho
 case range t x=>
  split at hb
  ·rename_i hu;simp only [aP,aD,aj,aa]at hb;obtain⟨y,hy,rfl⟩:=hb;exact NI he hg hs hy hu h ho
  ·cases hb
 case next x b=>
  cases b
  ·cases hb
  ·simp only [aP,aD,aj,aa]at hb;obtain⟨y,hy,rfl⟩:=hb;exact LB he hg hs hy h ho
 case typeAssert x xt t ok=>
  simp only [aP,aD,aj]at hb;obtain⟨y,hy,hb⟩:=hb;split at hb
  ·rename_i want hu;split at hb
   ·rename_i hz;simp only [aa]at hb; subst hb;exact Fb he hg hs hy hu hz h ho
   ·cases hb
  ·rename_i e PH hu;simp only [aj,aa]at hb;obtain⟨z,hz,rfl⟩:=hb;exact Gx he hg hs hy hu (fun ms hms=>PH ms hms) hz h ho
  ·cases hb
 case extract x i=>
  simp only [aP,aD,aj,aa]at hb;obtain⟨y,hy,rfl⟩:=hb;exact GY he hg hs hy h ho
 case call c=>
  obtain⟨callee,args,argTypes⟩:=c;simp only [U4]at hb;split at hb
  ·rename_i b yq;unfold DH at hb;split at hb <;> (try (cases hb; done))
   ·rename_i x t ha oP;have ea:args= #[x]:=dG ha;have et' :argTypes= #[t]:=dG oP;subst ea et';split at hb
    ·rename_i hu;simp only [aY]at hb;obtain⟨y,hy,rfl⟩:=hb;exact GL he hg hs hy (.inl ⟨rfl,hu⟩) h ho
    ·rename_i q hu;simp only [aY]at hb;obtain⟨y,hy,rfl⟩:=hb;exact GL he hg hs hy (.inr (.inl ⟨_,rfl,hu⟩)) h ho
    ·rename_i q r hu;simp only [aY]at hb;obtain⟨y,hy,rfl⟩:=hb;exact GL he hg hs hy (.inr (.inr ⟨_,_,rfl,hu⟩)) h ho
    ·cases hb
   ·rename_i x y t u ha oP;have ea:args= #[x,y]:=dG ha;have et' :argTypes= #[t,u]:=dG oP;subst ea et';simp only [aP,aD,aj]at hb;obtain⟨e',hu,hb⟩:=hb;split at hb
    ·rename_i e;split at hb
     ·rename_i hap;simp only [aj]at hb;obtain⟨sz,fR,z,hz,i,hi,x1,hx,y1,hy,hb⟩:=hb;split at hb
      ·rename_i hc;simp only [aa]at hb; subst hb;simp only [aA]at hc;have h0:=ax hc.1;cases sz with
       | zero=>omega
       | succ m=>
        refine JM he hg hs hx hy hu ?_ hi fR hz hc.2 h ho;unfold wB at hap;split at hap
        ·exact .inl ⟨_,by assumption⟩
        ·exact .inr (by assumption)
        ·cases hap
      ·cases hb
     ·cases hb
    ·cases hb
   ·rename_i x t ha oP;have ea:args= #[x]:=dG ha;have et' :argTypes= #[t]:=dG oP;subst ea et';split at hb
    ·simp only [aY]at hb;obtain⟨y,hy,rfl⟩:=hb;exact JL he hg hs hy h ho
    ·cases hb
   ·rename_i x y t u ha oP;have ea:args= #[x,y]:=dG ha;have et' :argTypes= #[t,u]:=dG oP;subst ea et';split at hb
    ·rename_i e hu;split at hb
     ·rename_i fR;simp only [aP,aD,aj,aa]at hb;obtain⟨x1,hx,y1,hy,rfl⟩:=hb;exact RL he hg hs hx hy hu fR h ho
     ·cases hb
    ·cases hb
   ·rename_i x y t u ha oP;have ea:args= #[x,y]:=dG ha;have et' :argTypes= #[t,u]:=dG oP;subst ea et';simp only [aP,aD,aj]at hb;obtain⟨e',hu,hb⟩:=hb;split at hb
    ·simp only [aj]at hb;obtain⟨sz,fR,hb⟩:=hb;split at hb
     ·cases hb
     ·rename_i h0;simp only [aj,aa]at hb;obtain⟨x1,hx,y1,hy,rfl⟩:=hb;cases sz with
      | zero=>exact absurd rfl h0
      | succ m=>exact RV he hg hs hx hy hu fR h ho
    ·cases hb
   ·rename_i x y t u ha oP;have ea:args= #[x,y]:=dG ha;have et' :argTypes= #[t,u]:=dG oP;subst ea et';simp only [aP,aD,aj]at hb;obtain⟨e',hu,hb⟩:=hb;split at hb
    ·rename_i q e;simp only [aj,aa]at hb;obtain⟨et,het,y1,xc,y2,yo,rfl⟩:=hb;exact Jo he hg hs xc yo hu het rfl h ho
    ·cases hb
   ·rename_i x t ha oP;have ea:args= #[x]:=dG ha;have et' :argTypes= #[t]:=dG oP;subst ea et';split at hb
    ·rename_i e hu;simp only [aP,aD,aj]at hb;obtain⟨sz,fR,hb⟩:=hb;split at hb
     ·cases hb
     ·rename_i h0;simp only [aj,aa]at hb;obtain⟨z,hz,x1,hx,rfl⟩:=hb;exact C9 he hg hs hx (.inr ⟨_,hu,fR,hz,by omega⟩) h ho
    ·rename_i q e hu;simp only [aP,aD,aj,aa]at hb;obtain⟨x1,hx,rfl⟩:=hb;exact C9 he hg hs hx (.inl ⟨_,_,hu,rfl⟩) h ho
    ·cases hb
   ·simp only [aP,aD,aj,aa]at hb;obtain⟨l,hl,rfl⟩:=hb;exact By (mx:=false) he hg hs hl h (by simpa using ho)
   ·simp only [aP,aD,aj,aa]at hb;obtain⟨l,hl,rfl⟩:=hb;exact By (mx:=true) he hg hs hl h (by simpa using ho)
  ·rename_i f yq;simp only [aP,aD,aj]at hb;obtain⟨fn,hfn,hb⟩:=hb;split at hb
   ·split at hb
    ·rename_i k hk;simp only [aj,aa]at hb;obtain⟨ds,pL,rfl⟩:=hb;exact WC he hg hs (hX _ _ hk) pL h ho
    ·cases hb
   ·split at hb
    ·cases hb
    ·simp only [aj,aa]at hb;obtain⟨ds,pL,rfl⟩:=hb;cases wz:A.YG o.dst
     ·rw [wz]at h; exact Qo he hg hs hC pL h ho
     ·rw [wz]at h; exact J5 he hg hs hC pL h ho
  ·rename_i x hnf yq;simp only [aP,aD,aj,aa]at hb;obtain⟨y,hy,ds,pL,rfl⟩:=hb;exact L7 he hg hs hC hy pL h ho
  ·rename_i x name yq;simp only [aP,aD,aj,aa]at hb;obtain⟨y,hy,ds,pL,rfl⟩:=hb;exact Kb he hg hs hC hy pL h ho
 case defer c=>
  obtain⟨callee,args,argTypes⟩:=c;cases callee <;> simp only at hb <;> (try (cases hb; done));simp only [aP,aD,aj,aa]at hb;obtain⟨y,hy,z,hz,rfl⟩:=hb;simp [cB]at h
end
end Go.Ab
namespace Go.Ab
open Go
variable [eW]
variable {ρ ρ' ρ0:Gh}{w w' w0:World}{P:Program}{G:Gl}{X:iJ}{A:nJ} {s s' :St}{env:Env}{a:Act}{lo:Nat}{d:D}{C:au}{al:Option Nat} {fr fr' :Fr}
def iB (ρ:Gh)(w:World)(lo:Nat):List (D×List D)->List Deferred->Prop
 | [],ds=>ds=[]
 | (d,l)::r,ds=>(d= .mf/\∃b t,ds= { target:= .collected b,args:= #[]}::t/\lo<=b/\ρ.own b= .qG/\w.heap[b]? =some (.deferred (some []))/\(∀m∈t,m.target≠ .collected b)/\iB ρ w lo r t)\/
   ∃f x y va vc vl t,d= .fn f x y/\ds= { target:= .fn f vc,args:=va++vl}::t/\br ρ w x va.toList/\br ρ w y vc.toList/\br ρ w l vl.toList/\iB ρ w lo r t
theorem iB.gn (hK:Kr ρ w ρ' w')(hd:∀b,ρ.own b= .qG->w.heap[b]? =some (.deferred (some []))->ρ'.own b= .qG/\w'.heap[b]? =some (.deferred (some []))):∀ {l:List (D×List D)} {ds:List Deferred},iB ρ w lo l ds->iB ρ' w' lo l ds
 | [],_,h=>h
 | (d,l)::r,_,h=>by
  rcases h with ⟨h1,b,t,h2,h3,h4,h5,h6,h7⟩ | ⟨f,x,y,va,vc,vl,t,h1,h2,h3,h4,h5,h6⟩
  ·obtain⟨k1,k2⟩:=hd b h4 h5;exact .inl ⟨h1,b,t,h2,h3,k1,k2,h6,iB.gn hK hd h7⟩
  ·exact .inr ⟨f,x,y,va,vc,vl,t,h1,h2,br.gn hK _ _ h3,br.gn hK _ _ h4,br.gn hK _ _ h5,iB.gn hK hd h6⟩
theorem iB.mono (hK:Kp ρ w ρ' w'){l:List (D×List D)}{ds:List Deferred}(h:iB ρ w lo l ds):iB ρ' w' lo l ds:=
 h.gn hK.r fun b hp hb=>by
  obtain⟨k1,k2⟩:=hK.kept b (gy.1 hb).1 (fun o=>by rw [hp]; simp);exact⟨k2.trans hp,k1.trans hb⟩
theorem iB.marks:∀ {l:List (D×List D)} {ds:List Deferred},iB ρ w lo l ds->∀m∈ds,∀b,m.target= .collected b->b < w.heap.size
 | [],ds,h,m,hm,b,hb=>by simp only [iB]at h; subst h; cases hm
 | (d,l)::r,ds,h,m,hm,b,hb=>by
  rcases h with ⟨h1,b',t,rfl,h3,h4,h5,h6,h7⟩ | ⟨f,x,y,va,vc,vl,t,h1,rfl,h3,h4,h5,h6⟩
  ·rcases bS.1 hm with rfl | hm
   ·simp only [Target.collected.injEq]at hb; subst hb;exact (gy.1 h5).1
   ·exact iB.marks h7 m hm b hb
  ·rcases bS.1 hm with rfl | hm
   ·cases hb
   ·exact iB.marks h6 m hm b hb
structure rK (ρ:Gh)(w:World)(lo nt:Nat)(fr:Fr)(a:Act):Prop where
 env:eu ρ w lo fr.env a.tmps
 size:nt<=a.tmps.size
 defers:iB ρ w lo fr.defers a.defers
theorem dB (e:Env)(t u:Nat)(d:D):Env.get ((t,d)::e) u=if t=u then some d else e.get u:=by
 simp only [Env.get];by_cases h:t=u
 ·rw [T.OU h,bJ h]
 ·rw [T.uq h,aJ h]
theorem ej.XB {tmps:Array Value}{t:Nat}{v:Value}(h:fq ρ w env tmps d v)(ht:tmps[t]? =some v)(cC:∀a c,d= .iI a c->False):ej ρ w lo env tmps t d:=by
 cases d <;> simp only [fq]at h <;> simp only [ej] <;> first | exact ⟨v,ht,h⟩ | exact h.elim | exact (cC _ _ rfl).elim
theorem eu.put {tmps:Array Value}{t:Nat}{v:Value}(he:eu ρ w lo env tmps)(ht:t < tmps.size)(hr:fq ρ w env tmps d v):eu ρ w lo ((t,d)::env) (tmps.setIfInBounds t v):=by
 have qW:∀x,d≠ .lv x:=by rintro x rfl; simp [fq]at hr
 have rE:(tmps.setIfInBounds t v)[t]? =some v:=by simp [ht]
 have tt:∀u,u≠t->(tmps.setIfInBounds t v)[u]? =tmps[u]? :=fun u hu=>by
  rw [dR,aJ (fun e=>hu e.symm)]
 have na:∀u x,Env.get ((t,d)::env) u=some (.lv x)->u≠t/\env.get u=some (.lv x):=fun u x h=>by
  rw [dB]at h;split at h
  ·simp only [aa]at h; exact absurd h (qW x)
  ·rename_i cC; exact ⟨fun e=>cC e.symm,h⟩
 refine⟨fun u q hq=> ?_,fun u u' x x' b cC h1 h2=> ?_⟩
 ·rw [dB]at hq;split at hq
  ·rename_i e; subst e;simp only [aa]at hq; subst hq;by_cases hp:∃a c,d= .iI a c
   ·obtain⟨a,c,rfl⟩:=hp;simp only [ej];intro x hx;obtain⟨h1,h2⟩:=na a x hx;simp only [fq]at hr;obtain⟨b,h3,h4⟩:=hr x h2;exact⟨b,by rw [tt a h1]; exact h3,by rw [rE,h4]⟩
   ·have D9 :fq ρ w ((t,d)::env) (tmps.setIfInBounds t v) d v:=by
     cases d <;> first | exact hr | exact absurd ⟨_,_,rfl⟩ hp
    exact .XB D9 rE (fun a c e=>hp ⟨a,c,e⟩)
  ·rename_i cC;have cC:u≠t:=fun e=>cC e.symm;have:=he.slot u q hq;cases q with
   | lv x=>simp only [ej]at *; rw [tt u cC]; exact this
   | iI a c=>
    simp only [ej]at *;intro x hx;obtain⟨h1,h2⟩:=na a x hx;rw [tt a h1,tt u cC];exact this x h2
   | _=>simp only [ej]at *; rw [tt u cC]; exact this
 ·obtain⟨g1,g2⟩:=na u x h1;obtain⟨g3,g4⟩:=na u' x' h2;rw [tt u g1,tt u' g3];exact he.inj u u' x x' b cC g2 g4
theorem rK.put {nt:Nat}{dst:Option Nat}{v:Value}(h:rK ρ w lo nt fr a)(hd:∀t,dst=some t->t < nt)(hr:fq ρ w fr.env a.tmps d v):rK ρ w lo nt { fr with env:=iu fr.env dst d} (a.put dst v):=by
 cases dst with
 | none=>exact ⟨h.env,h.size,h.defers⟩
 | some t=>exact ⟨h.env.put (eX (hd t rfl) h.size) hr,by simpa [Act.put] using h.size,h.defers⟩
theorem rK.mono {nt:Nat}(hK:Kp ρ w ρ' w')(h:rK ρ w lo nt fr a):rK ρ' w' lo nt fr a:=⟨h.env.mono hK,h.size,h.defers.mono hK⟩
theorem fq.undef {tmps:Array Value}:fq ρ w env tmps (.gJ []) undef:=by simp [fq,aS,br,Go.undef]
def Inv (ρ0:Gh)(w0:World)(nt:Nat)(fr:Fr)(s:St)(a:Act)(w:World):Prop:=∃ρ,Kp ρ0 w0 ρ w/\rK ρ w w0.heap.size nt fr a/\bZ ρ s w
theorem Be {ops:Array Oper}{o:Oper}{g:Option (Nat×Bool)}{b:Bool}(he:eu ρ w lo env a.tmps)
  (hg:(match o.guard with | none=>some none | some (j,b)=>match (ops[j]?).bind (·.dst) with | some t=>some (some (t,b)) | none=>none)=some g)(h:aI env g=some b):Region.wanted o (yielded ops a.tmps)=b:=by
 unfold Region.wanted;cases Xw:o.guard with
 | none=>
  simp only [Xw,aa]at hg; subst hg;simp only [aI,aa]at h;exact h
 | some p=>
  obtain⟨j,q⟩:=p;simp only [Xw]at hg;split at hg
  ·rename_i t ht;simp only [aa]at hg; subst hg;simp only [aI]at h;split at h
   ·rename_i c hc;simp only [aa]at h;have:=he.slot _ _ hc;simp only [ej,aS]at this;obtain⟨v,hv,rfl⟩:=this;simp only [yielded,ht,mR,hv];subst h;cases c <;> cases q <;> rfl
   ·rename_i hc;simp only [aa]at h;have:=he.slot _ _ hc;simp only [ej,aS,br]at this;obtain⟨v,hv,vs,rfl,_⟩:=this;simp only [yielded,ht,mR,hv];subst h;rfl
   ·cases h
  ·cases hg
theorem K8 {nt:Nat}{r sz b c:Nat} {x v e' :D}{xv:Value}(hf:rK ρ w lo nt fr a)(hs:bZ ρ s w)(na:fr.env.get r=some (.lv x))(hb:a.tmps[r]? =some (.pointer (some ⟨b,0,none⟩)))(HN:aS ρ w v xv)(GW:x.over c v=some e')(hl:v.flat.length=sz):
  w.there b c sz/\v.st=true/\Kr ρ w ρ (w.setCells b c xv.cells.toList)/\bZ ρ s (w.setCells b c xv.cells.toList)/\rK ρ (w.setCells b c xv.cells.toList) lo nt { fr with env:=(r,.lv e')::fr.env} a/\
   (∀ρ0 w0,w0.heap.size=lo->Kp ρ0 w0 ρ w->Kp ρ0 w0 ρ (w.setCells b c xv.cells.toList)):=by
 have tg:=hf.env.slot _ _ na;simp only [ej]at tg;obtain⟨b',u,el,q1,q2,q3,q4,q5,q6⟩:=tg;rw [hb]at q1;simp only [aa,Value.pointer.injEq,Addr.mk.injEq,iv]at q1;subst q1;obtain⟨u',o1,o2,o3,o4,dT⟩:=x9 q4 q6 HN GW;have hxs:=HN.size dT;obtain⟨⟨cs',g1,g2⟩,g3,g4,g5,g6,g7⟩:=jn xv.cells.toList c w u.cells el (0,0) q5 (by simpa using o4);have cC:∀b',ρ.own b' ≠ .qG->b' ≠b:=by rintro b' h rfl; exact h q2
 have X2:Kr ρ w ρ (w.setCells b c xv.cells.toList):=⟨fun b' _ hi=>⟨g3 b' (cC b' (by rw [hi]; simp)),hi⟩,fun _ h=>⟨h,rfl⟩,fun _ _ h=> .inr ⟨h,fun _ hb=>⟨hb,rfl,an _,rfl⟩⟩⟩;have qN:cs' =u'.cells:=dG (by rw [g2,o3]);refine⟨fun j hj=> ?_,dT,X2, ?_,⟨⟨fun t q hq=> ?_,fun t t' y y' bb tJ h1 h2=> ?_⟩,hf.size,hf.defers.gn X2 fun b' hp jm =>⟨hp,(g3 b' (by rintro rfl; rw [q5]at jm; cases jm)).trans jm⟩⟩,fun ρ0 w0 Kx hK=> ?_⟩
 ·have:c+j < u.cells.size:=by omega
  simp [World.cell?,World.frozen?,q5,this]
 ·refine hs.bR X2 (fun _ _=>mZ) rfl (fun b' o jm =>⟨g3 b' (cC b' (by rw [jm]; simp)),rfl,rfl,rfl⟩) (fun b' jm =>hs.size b' (by omega))
 ·rw [dB]at hq;split at hq
  ·rename_i e; subst e;simp only [aa]at hq; subst hq;simp only [ej];exact⟨b,u',el,hb,q2,q3,aS.gn X2 _ _ o1,by rw [g1,qN],o2⟩
  ·rename_i hrt;have:=hf.env.slot t q hq;cases q with
   | lv y=>
    simp only [ej]at *;obtain⟨b2,v2,el2,p1,p2,p3,p4,p5,p6⟩:=this;have lS:b2≠b:=by
     rintro rfl;exact hf.env.inj r t x y b2 hrt na hq hb p1
    exact⟨b2,v2,el2,p1,p2,p3,aS.gn X2 _ _ p4,by rw [g3 b2 lS]; exact p5,p6⟩
   | iI k cc=>
    simp only [ej]at *;intro y hy;rw [dB]at hy;split at hy
    ·rename_i e; subst e; exact this x na
    ·exact this y hy
   | _=>
    simp only [ej]at *;obtain⟨v2,p1,p2⟩:=this;exact⟨v2,p1,aS.gn X2 _ _ p2⟩
 ·have old:∀t y,Env.get ((r,.lv e')::fr.env) t=some (.lv y)->∃y0,fr.env.get t=some (.lv y0):=fun t y h=>by
   rw [dB]at h;split at h
   ·rename_i e; subst e; exact ⟨x,na⟩
   ·exact⟨y,h⟩
  obtain⟨y0,p1⟩:=old t y h1;obtain⟨y1,p2⟩:=old t' y' h2;exact hf.env.inj t t' y0 y1 bb tJ p1 p2
 ·exact⟨g5.trans hK.os,g6.trans hK.tape,g7.trans hK.output,by have:=hK.size; omega,fun b' jm Ft=>by
   obtain⟨h1,h2⟩:=hK.kept b' jm Ft;exact⟨(g3 b' (by omega)).trans h1,h2⟩,hK.dead,hK.live⟩
theorem QY {nt r:Nat}{x:D}{u:Value}{e:TypeId}(hf:rK ρ w lo nt fr a)(hs:bZ ρ s w)(Kx:lo<=w.heap.size)(hr:r < nt)(hu:aS ρ w x u)(dT:x.st=true)(Ft:fr.env.tU r=true):
  ∃ρ',Kp ρ w ρ' (w.alloc (.cells u.cells e))/\bZ ρ' s (w.alloc (.cells u.cells e))/\rK ρ' (w.alloc (.cells u.cells e)) lo nt { fr with env:=(r,.lv x)::fr.env} (a.put (some r) (.pointer (some ⟨w.heap.size,0,none⟩))):=by
 let ρ' :Gh:= { ρ with own:=fun b=>if b=w.heap.size then .qG else ρ.own b}
 have hw:(w.alloc (.cells u.cells e)).heap=w.heap.push (.cells u.cells e):=rfl;have hK:Kp ρ w ρ' (w.alloc (.cells u.cells e)):=by
  refine⟨rfl,rfl,rfl,by rw [hw]; simp,fun b hb _=>⟨iz hw hb, ?_⟩,fun _ h=>⟨h,rfl⟩,fun o z h=> .inr ⟨h,fun b hb=>⟨?_,rfl,an _,rfl⟩⟩⟩
  ·show (if b=w.heap.size then Own.qG else ρ.own b)=ρ.own b;rw [aJ (by omega)]
  ·have:=hs.jN hb;show (if b=w.heap.size then Own.qG else ρ.own b)= .obj o;rw [aJ (by omega)]; exact hb
 have hS:bZ ρ' s (w.alloc (.cells u.cells e)):=by
  refine hs.bR hK.r (fun b o=> ?_) rfl (fun b o hb=>⟨iz hw (hs.jN hb),rfl,rfl,rfl⟩) (fun b hb=> ?_)
  ·show ((if b=w.heap.size then Own.qG else ρ.own b)= .obj o)↔_;split
   ·rename_i e; subst e; rw [hs.size _ (an _)]; simp
   ·rfl
  ·rw [hw]at hb; simp at hb;show (if b=w.heap.size then Own.qG else ρ.own b)= .zC;rw [aJ (by omega)]; exact hs.size b (by omega)
 have fR:r < a.tmps.size:=eX hr hf.size;have rE:(a.tmps.setIfInBounds r (.pointer (some ⟨w.heap.size,0,none⟩)))[r]? =some (.pointer (some ⟨w.heap.size,0,none⟩)):=by simp [fR]
 have tt:∀t,t≠r->(a.tmps.setIfInBounds r (.pointer (some ⟨w.heap.size,0,none⟩)))[t]? =a.tmps[t]? :=fun t ht=>by
  rw [dR,aJ (fun e=>ht e.symm)]
 have qW:∀(e:Env),e.tU r=true->∀t k c,e.get t=some (.iI k c)->k≠r:=by
  intro e;induction e with
  | nil=>intro _ t k c h; simp [Env.get]at h
  | cons p e ih=>
   obtain⟨t0,d0⟩:=p;intro h t k c hg;rw [dB]at hg;simp only [Env.tU]at h;split at hg
   ·simp only [aa]at hg; subst hg;simp only at h;split at h
    ·cases h
    ·rename_i hb; rintro rfl; rw [az]at hb; cases hb
   ·split at h
    ·split at h
     ·cases h
     ·exact ih h t k c hg
    ·exact ih h t k c hg
 have hfm:=hf.mono hK;have vy:(a.put (some r) (Value.pointer (some ⟨w.heap.size,0,none⟩))).tmps=a.tmps.setIfInBounds r (.pointer (some ⟨w.heap.size,0,none⟩)):=rfl;refine⟨ρ',hK,hS,⟨⟨fun t q hq=> ?_,fun t t' y y' bb cC h1 h2 h3=> ?_⟩,by simpa [Act.put] using hf.size,hfm.defers⟩⟩
 ·rw [dB]at hq;split at hq
  ·rename_i e2; subst e2;simp only [aa]at hq; subst hq;simp only [ej];exact⟨w.heap.size,u,e,rE,by show (if w.heap.size=w.heap.size then Own.qG else _)=_; rw [bJ rfl],Kx,hu.mono hK,lY hw,dT⟩
  ·rename_i cC;have cC:t≠r:=fun e=>cC e.symm;have:=hfm.env.slot t q hq;cases q with
   | lv y=>simp only [ej]at *; rw [vy,tt t cC]; exact this
   | iI k c=>
    simp only [ej]at *;intro y hy;have hk:=qW fr.env Ft t k c hq;rw [dB,aJ (fun e=>hk e.symm)]at hy;rw [vy,tt k hk,tt t cC];exact this y hy
   | _=>simp only [ej]at *; rw [vy,tt t cC]; exact this
 ·have key:∀t y,t≠r->Env.get ((r,.lv x)::fr.env) t=some (.lv y)->fr.env.get t=some (.lv y)/\a.tmps[t]? ≠some (.pointer (some ⟨w.heap.size,0,none⟩)):=fun t y ht h=>by
   rw [dB,aJ (fun e=>ht e.symm)]at h;refine⟨h,fun hp=> ?_⟩;have:=hf.env.slot t _ h;simp only [ej]at this;obtain⟨b2,v2,el2,p1,p2,p3,p4,p5,p6⟩:=this;rw [hp]at p1;simp only [aa,Value.pointer.injEq,Addr.mk.injEq,iv]at p1;have:=xm p5;omega
  rw [vy]at h3 ⊢;by_cases ht:t=r
  ·subst ht;rw [rE]at h3;simp only [aa,Value.pointer.injEq,Addr.mk.injEq,iv]at h3;subst h3;rw [tt t' (fun e=>cC e.symm)];exact (key t' y' (fun e=>cC e.symm) h2).2
  ·obtain⟨k1,k2⟩:=key t y ht h1;rw [tt t ht]at h3;by_cases Rn :t' =r
   ·subst Rn;rw [rE];intro e; rw [← e]at h3; exact k2 h3
   ·obtain⟨k3,_⟩:=key t' y' Rn h2;rw [tt t' Rn];exact hf.env.inj t t' y y' bb cC k1 k3 h3
end Go.Ab
