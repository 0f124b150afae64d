/- Part. -/
import Derived.Test.YthaiegafejbmoaaGreatDoorG13
import Derived.Defers
set_option linter.unusedSectionVars false
set_option linter.unusedSimpArgs false
set_option linter.unusedVariables false
namespace Go.Ab
open Go
variable [eh]
variable {ρ ρ' :Gh} {w w' :World}{P:Program}{pn:gY}{G:Gl}{X:ig}{A:mT} {s s' :St}{env:Env}{a:Act}{lo:Nat}{d:D}{C:au}{al:Option Nat}
theorem RZ {n:Nat}{t:TypeId}(h:sR P (n+1) t=some .int):∃k,P.underlying t=some (.int k):=by
 unfold sR at h;split at h <;> (try (simp at h; done))
 ·rename_i k hk; exact ⟨k,hk⟩
 ·split at h <;> simp at h
 ·split at h
  ·cases h
  ·simp at h
theorem R0 {n:Nat}{t:TypeId}(h:sR P (n+1) t=some .str):P.underlying t=some .string:=by
 unfold sR at h;split at h <;> (try (simp at h; done))
 ·assumption
 ·split at h <;> simp at h
 ·split at h
  ·cases h
  ·simp at h
theorem B7 {t:TypeId}{fs:Array Field}(hu:P.underlying t=some (.struct fs))(fN:fs.toList.all (fun f=>(dC P f.type).isSome)=true):
  ∃place:Nat->Option (Nat×Nat),(∀i f z,fs[i]? =some f->dC P f.type=some z->place i=some (f.offset,z))/\
   ∀zv vs r,(P.info? t).bind (·.zero)=some zv->Instr.fill place zv.cells vs=some r->P.built t vs=some r:=by
 have hm:∀l:List Field,l.all (fun f=>(dC P f.type).isSome)=true->∃pl,l.mapM (fun f:Field=>(P.info? f.type).map fun i=>(f.offset,i.size))=some pl/\∀(i:Nat) (f:Field) (z:Nat),l[i]? =some f->dC P f.type=some z->pl[i]? =some (f.offset,z):=by
  intro l;induction l with
  | nil=>intro _; exact ⟨[],by simp,by simp⟩
  | cons f l ih=>
   intro h;simp only [h9,aB]at h;obtain⟨pl,h1,h2⟩:=ih h.2;obtain⟨z,hz⟩:=iW.1 h.1;unfold dC at hz;simp only [aW]at hz;obtain⟨i,hi,hiz⟩:=hz;refine⟨(f.offset,i.size)::pl,by simp [jh,h1,hi],fun k g z' hk O4 => ?_⟩;cases k with
   | zero=>simp at hk; subst hk; simp only [dC,hi,dh,aa]at O4; subst O4; simp
   | succ k=>simp at hk; simpa using h2 k g z' hk O4
 obtain⟨pl,h1,h2⟩:=hm fs.toList fN;refine⟨(pl.toArray[·]?),fun i f z hi hz=>by simpa using h2 i f z (by simpa using hi) hz,fun zv vs r hz hf=> ?_⟩;simp only [ae]at hz;obtain⟨it,hit,hz⟩:=hz;simp only [Program.built,hit,hu,hz,h1];exact hf
theorem Dv {t e:TypeId}{n z:Nat}(hu:P.underlying t=some (.array n e))(hz:dC P e=some z)(zv:Value)(vs:List (Nat×Value))(r:Array Value)(h:(P.info? t).bind (·.zero)=some zv)(hf:Instr.fill (fun i=>some (i * z,z)) zv.cells vs=some r):P.built t vs=some r:=by
 simp only [ae]at h;obtain⟨it,hit,h⟩:=h;simp only [dC,aW]at hz;obtain⟨ie,Yz,rfl⟩:=hz;simp only [Program.built,hit,hu,h,Yz];exact hf
section
variable (he:dW ρ w lo env a.tmps)(hg:gn pn G ρ w)(hs:bK ρ s w)
include he hg hs
theorem aaL (hC:cm pn P G C)(hX:∀f k,X f=some k->lZ P f k){o:Oper}{p:eE}(hb:YP P G X A o=some p)(lE:XV p=true)(h:cg C env s al p=some (d,s')):eP P ρ w env a.tmps d s' ((execOp a.eval o).run P w):=by
 unfold YP at hb;cases ho:o.op <;> simp only [ho]at hb <;> (try (cases hb; done))
 case move x=>
  simp only [aW]at hb;obtain⟨y,hy,rfl⟩:=hb;exact U6 he hg hs hy h (.inl ho)
 case assign x=>
  simp only [aW]at hb;obtain⟨y,hy,rfl⟩:=hb;exact U6 he hg hs hy h (.inr ho)
 case pick c x y=>
  simp only [aL,aE,ae,aa]at hb;obtain⟨c1,h1,x1,h2,y1,h3,rfl⟩:=hb;exact Tl he hg hs h1 h2 h3 h ho
 case alloc e=>
  simp only [aL,aE,ae]at hb;obtain⟨z,hz,hb⟩:=hb;split at hb
  ·simp only [aa]at hb; subst hb; simp [cg]at h
  ·simp only [aa]at hb; subst hb;obtain⟨zv,z1,z2,z3⟩:=ki (w:=w) hz;refine PH he hg hs (e:=e) (u:=zv) rfl (jY _ _ z2) h ?_;simp [execOp,ho,Instr.alloc,z1,newVar,newRow,newObj];rfl
 case box e x=>
  simp only [aL,aE,ae]at hb;obtain⟨y,hy,hb⟩:=hb;split at hb
  ·simp only [aa]at hb; subst hb; simp [cg]at h
  ·simp only [aa]at hb; subst hb;have h' :=h;simp only [cg]at h';split at h'
   ·rename_i v hv;refine PH he hg hs (e:=e) (u:=a.eval x) hv (bc hy he hg hv) h ?_;simp [execOp,ho,Instr.box,newVar,newRow,newObj];rfl
   ·cases h'
 case build t parts=>
  simp only [aL,aE,ae,aa]at hb;obtain⟨z,hz,hb⟩:=hb;split at hb
  ·rename_i fs hu;split at hb
   ·rename_i fN;simp only [ae,aa]at hb;obtain⟨ps,Rc,rfl⟩:=hb;obtain⟨place,q1,q2⟩:=B7 hu fN;refine ED he hg hs hz q2 (qG (fun i x p hp=> ?_) _ _ Rc) h ho;simp only [aL,aE,ae,aa]at hp;obtain⟨f,hf,sz,fQ,y,hy,rfl⟩:=hp;exact⟨q1 i f sz hf fQ,hy⟩
   ·cases hb
  ·rename_i n e hu;simp only [ae,aa]at hb;obtain⟨sz,fQ,ps,Rc,rfl⟩:=hb;refine ED he hg hs hz (Dv hu fQ) (qG (fun i x p hp=> ?_) _ _ Rc) h ho;simp only [aL,aE,ae,aa]at hp;obtain⟨y,hy,rfl⟩:=hp;exact⟨rfl,hy⟩
  ·cases hb
 case buildSlice t len parts=>
  simp only [aL,aE,ae]at hb;obtain⟨e',hu,hb⟩:=hb;split at hb
  ·rename_i e;simp only [ae]at hb;obtain⟨sz,fQ,hb⟩:=hb;split at hb
   ·cases hb
   ·rename_i xq;simp only [ae]at hb;obtain⟨z,hz,ps,Rc,hb⟩:=hb;simp only [ey,bf,jr]at xq;cases sz with
    | zero=>exact absurd rfl xq.1
    | succ m=>
     have aav:mj G parts.toList ps:=tq (fun i x p hp=>by
      simp only [aL,aE,ae,aa]at hp;obtain⟨y,hy,rfl⟩:=hp;exact⟨rfl,hy⟩) _ _ Rc
     split at hb
     ·simp only [aa]at hb; subst hb; exact KJ he hg hs hu fQ xq.2 hz aav h ho
     ·simp only [aa]at hb; subst hb; exact KA he hg hs hu fQ xq.2 hz aav h ho
  ·cases hb
 case load t x=>
  simp only [aL,aE,ae]at hb;obtain⟨sz,fQ,hb⟩:=hb;split at hb
  ·simp only [ae,aa]at hb;obtain⟨y,hy,rfl⟩:=hb;exact PM he hg hs hy fQ h ho
  ·simp only [ae,aa]at hb;obtain⟨y,hy,rfl⟩:=hb;exact Ti he hg hs hy fQ h ho
 case store t x v=>
  simp only [aL,aE,ae]at hb;obtain⟨sz,fQ,hb⟩:=hb;split at hb
  ·cases hb
  ·split at hb
   ·simp only [ae,aa]at hb;obtain⟨y,hy,u,hu,rfl⟩:=hb;simp [cg]at h
   ·simp only [ae,aa]at hb;obtain⟨y,hy,u,hu,rfl⟩:=hb;exact PS he hg hs hy hu fQ h ho
 case nilCheck x=>
  simp only [aL,aE,ae,aa]at hb;obtain⟨y,hy,rfl⟩:=hb;exact KH he hg hs hy h ho
 case binOp op t x y u=>
  simp only [aL,aE,ae]at hb;obtain⟨x1,hx,y1,hy,e,hu,hb⟩:=hb;split at hb
  ·simp only [aa]at hb; subst hb; exact PG he hg hs hx hy h ho
  ·simp only [aa]at hb; subst hb; exact PG he hg hs hx hy h ho
  ·rename_i n1 n2;simp only [ae]at hb;obtain⟨et,het,hb⟩:=hb;have Ra:et≠ .int:=by
    rintro rfl;obtain⟨k,hk⟩:=RZ het;rw [hk]at hu; simp only [aa]at hu;exact n1 k hu.symm
   have Rb:et≠ .str:=by
    rintro rfl;have hk:=R0 het;rw [hk]at hu; simp only [aa]at hu;exact n2 hu.symm
   split at hb
   ·cases hb
   ·rename_i hq;have cG:∀l,et= .st l->P.eqGuardType P.depth t=false:=by
     rintro l rfl; simpa [ET.aaD] using hq
    unfold eqB at hb;split at hb
    ·simp only [aa]at hb; subst hb;exact ok_eq he hg hs hx hy het Ra Rb (.inl ⟨rfl,rfl⟩) rfl cG h ho
    ·simp only [aa]at hb; subst hb;exact ok_eq he hg hs hx hy het Ra Rb (.inr ⟨rfl,rfl⟩) rfl cG h ho
    ·cases hb
 case unOp op t x=>
  simp only [aL,aE,ae]at hb;obtain⟨e,hu,hb⟩:=hb;split at hb
  ·simp only [ae,aa]at hb;obtain⟨y,hy,rfl⟩:=hb;exact U7 he hg hs hy h ho
  ·simp only [ae,aa]at hb;obtain⟨y,hy,rfl⟩:=hb;exact U7 he hg hs hy h ho
  ·cases hb
 case convert src dst x=>
  simp only [aL,aE,ae]at hb;obtain⟨y,hy,hb⟩:=hb;split at hb
  ·rename_i h1 h2;simp only [aa]at hb; subst hb;exact PU he hg hs hy h1 h2 h ho
  ·rename_i h1 h2;simp only [aa]at hb; subst hb;exact EG he hg hs hy h1 h2 h ho
  ·rename_i h1 h2;simp only [aa]at hb; subst hb;exact PT he hg hs hy h1 h2 h ho
  ·rename_i e h1 h2;split at hb
   ·rename_i n hn;simp only [aa]at hb; subst hb;exact Tq he hg hs hy h1 h2 hn h ho
   ·cases hb
  ·rename_i e h1 h2;split at hb
   ·rename_i n hn;simp only [aa]at hb; subst hb;exact Tp he hg hs hy h1 h2 hn h ho
   ·cases hb
  ·rename_i e h1 h2;split at hb
   ·rename_i h3;simp only [aa]at hb; subst hb;exact AJ he hg hs hy h1 h2 h3 h ho
   ·cases hb
  ·rename_i e h1 h2;split at hb
   ·rename_i h3;simp only [aa]at hb; subst hb;exact AH he hg hs hy h1 h3 h2 h ho
   ·rename_i h3;simp only [aa]at hb; subst hb;exact AI he hg hs hy h1 h3 h2 h ho
   ·cases hb
  ·split at hb
   ·split at hb
    ·simp only [aa]at hb; subst hb; cases lE
    ·cases hb
   ·cases hb
  ·cases hb
 case makeInterface t x=>
  split at hb
  ·cases hb
  ·cases hb
  ·rename_i e Ra hu;simp only [aL,aE,ae,aa]at hb;obtain⟨y,hy,rfl⟩:=hb;exact Tk he hg hs hy ⟨e,hu,fun ms hms=>by exact Ra _ hms⟩ h ho
 case makeFunc f x y=>
  simp only [aL,aE,ae,aa]at hb;obtain⟨x1,hx,y1,hy,rfl⟩:=hb;exact Tj he hg hs hx hy h ho
 case makeMap t r=>
  simp only [aL,aE,ae]at hb;obtain⟨e',hu,hb⟩:=hb;split at hb
  ·simp only [ae,aa]at hb;obtain⟨y,hy,rfl⟩:=hb;exact PN he hg hs hu hy h ho
  ·cases hb
 case makeSlice t l c=>
  simp only [aL,aE,ae]at hb;obtain⟨e',hu,hb⟩:=hb;split at hb
  ·simp only [ae]at hb;obtain⟨sz,fQ,hb⟩:=hb;split at hb
   ·cases hb
   ·rename_i q h0;simp only [ae,aa]at hb;obtain⟨z,hz,y,hy,y2,y9,rfl⟩:=hb;cases sz with
    | zero=>exact absurd rfl h0
    | succ m=>
     obtain⟨i,hi⟩:∃i,P.info? q=some i:=by
      cases hq:P.info? q with
      | none=>simp [jA,hq]at hz
      | some i=>exact ⟨i,rfl⟩
     exact G3 he hg hs hy y9 hu fQ hz hi (by simp [Program.bytesOf,hi]) h ho
  ·cases hb
 case slice t x lo hi mx=>
  split at hb
  ·rename_i hu;split at hb
   ·simp only [aL,aE,ae,aa]at hb;obtain⟨y,hy,l1,hl,h1,hh,rfl⟩:=hb;exact To he hg hs hy hl hh hu h ho
   ·cases hb
  ·rename_i e hu;simp only [aL,aE,ae]at hb;obtain⟨sz,fQ,hb⟩:=hb;split at hb
   ·cases hb
   ·rename_i hc;simp only [ae,aa]at hb;obtain⟨y,hy,l1,hl,h1,hh,m1,hm,rfl⟩:=hb;simp only [ey,aB,bf,jr,not_and]at hc;cases sz with
    | zero=>exact absurd rfl hc.1
    | succ m=>exact XX he hg hs hy hl hh hm hu fQ (fun hmx=>by
      have:=hc.2 hmx;cases hi <;> simp_all) h ho
  ·rename_i n e hu;split at hb
   ·simp only [aW]at hb;obtain⟨y,hy,rfl⟩:=hb;exact Kz he hg hs hy hu (by assumption) h ho
   ·cases hb
  ·cases hb
 case fieldAddr t x i=>
  simp only [aL,aE,ae]at hb;obtain⟨e',hu,hb⟩:=hb;split at hb
  ·simp only [ae]at hb;obtain⟨f,hf,sz,fQ,hb⟩:=hb;split at hb
   ·cases hb
   ·rename_i hz;simp only [ae,aa]at hb;obtain⟨y,hy,rfl⟩:=hb;cases sz with
    | zero=>exact absurd rfl hz
    | succ m=>exact PJ he hg hs hy hu hf fQ h ho
  ·cases hb
 case field t x i=>
  simp only [aL,aE,ae]at hb;obtain⟨e',hu,hb⟩:=hb;split at hb
  ·simp only [ae,aa]at hb;obtain⟨f,hf,sz,fQ,y,hy,rfl⟩:=hb;exact PK he hg hs hy hu hf fQ h ho
  ·cases hb
 case indexAddr t x i=>
  split at hb
  ·rename_i e hu;simp only [aL,aE,ae]at hb;obtain⟨sz,fQ,hb⟩:=hb;split at hb
   ·cases hb
   ·rename_i hz;simp only [ae,aa]at hb;obtain⟨y,hy,j,hj,rfl⟩:=hb;cases sz with
    | zero=>exact absurd rfl hz
    | succ m=>exact PL he hg hs hy hj hu fQ h ho
  ·rename_i n e hu;simp only [aL,aE,ae]at hb;obtain⟨sz,fQ,hb⟩:=hb;split at hb
   ·cases hb
   ·rename_i hz;simp only [ae,aa]at hb;obtain⟨y,hy,j,hj,rfl⟩:=hb;cases sz with
    | zero=>exact absurd rfl hz
    | succ m=>exact KD he hg hs hy hj hu fQ h ho
  ·cases hb
 case index t x i=>
  split at hb
  ·rename_i hu;simp only [aL,aE,ae,aa]at hb;obtain⟨y,hy,j,hj,rfl⟩:=hb;exact Tn he hg hs hy hj hu h ho
  ·rename_i n e hu;simp only [aL,aE,ae,aa]at hb;obtain⟨sz,fQ,y,hy,j,hj,rfl⟩:=hb;exact Tf he hg hs hy hj hu fQ h ho
  ·cases hb
 case lookup t m k ok=>
  simp only [aL,aE,ae]at hb;obtain⟨e',hu,hb⟩:=hb;split at hb
  ·simp only [ae,aa]at hb;obtain⟨et,het,z,hz,y,hy,k1,hk,rfl⟩:=hb;exact KF he hg hs hy hk hu het hz h ho
  ·cases hb
 case mapUpdate t m k v=>
  simp only [aL,aE,ae]at hb;obtain⟨e',hu,hb⟩:=hb;split at hb
  ·simp only [ae,aa]at hb;obtain⟨et,het,y,hy,k1,hk,v1,hv,rfl⟩:=hb;exact Iu he hg hs hy hk hv hu het h (.inl ho)
  ·cases hb
 case insert t m k v=>
  simp only [aL,aE,ae]at hb;obtain⟨e',hu,hb⟩:=hb;split at hb
  ·simp only [ae,aa]at hb;obtain⟨et,het,y,hy,k1,hk,v1,hv,rfl⟩:=hb;exact Iu he hg hs hy hk hv hu het h (.inr ho)
  ·cases hb
 case mapEntry t m k=>
  simp only [aL,aE,ae]at hb;obtain⟨e',hu,hb⟩:=hb;split at hb
  ·simp only [ae,aa]at hb;obtain⟨et,het,z,hz,y,hy,k1,hk,rfl⟩:=hb;exact KG he hg hs hy hk hu het hz h ho
  ·cases hb
 case entryStore t m b v=>
  simp only [aL,aE,ae,aa]at hb;obtain⟨y,hy,k1,hk,v1,hv,rfl⟩:=hb;exact G2 he hg hs hy hk hv h ho
 case range t x=>
  split at hb
  ·rename_i hu;simp only [aL,aE,ae,aa]at hb;obtain⟨y,hy,rfl⟩:=hb;exact PR he hg hs hy hu h ho
  ·cases hb
 case next x b=>
  cases b
  ·cases hb
  ·simp only [aL,aE,ae,aa]at hb;obtain⟨y,hy,rfl⟩:=hb;exact PO he hg hs hy h ho
 case typeAssert x xt t ok=>
  simp only [aL,aE,ae]at hb;obtain⟨y,hy,hb⟩:=hb;split at hb
  ·rename_i want hu;split at hb
   ·rename_i hz;simp only [aa]at hb; subst hb;exact EH he hg hs hy hu hz h ho
   ·cases hb
  ·rename_i e Ra hu;simp only [ae,aa]at hb;obtain⟨z,hz,rfl⟩:=hb;exact G4 he hg hs hy hu (fun ms hms=>Ra ms hms) hz h ho
  ·cases hb
 case extract x i=>
  simp only [aL,aE,ae,aa]at hb;obtain⟨y,hy,rfl⟩:=hb;exact G0 he hg hs hy h ho
 case call c=>
  obtain⟨callee,args,argTypes⟩:=c;simp only [Uj]at hb;split at hb
  ·rename_i b yO;unfold Dw at hb;split at hb <;> (try (cases hb; done))
   ·rename_i x t ha uy;have ea:args= #[x]:=cZ ha;have et' :argTypes= #[t]:=cZ uy;subst ea et';split at hb
    ·rename_i hu;simp only [aW]at hb;obtain⟨y,hy,rfl⟩:=hb;exact G1 he hg hs hy (.inl ⟨rfl,hu⟩) h ho
    ·rename_i q hu;simp only [aW]at hb;obtain⟨y,hy,rfl⟩:=hb;exact G1 he hg hs hy (.inr (.inl ⟨_,rfl,hu⟩)) h ho
    ·rename_i q r hu;simp only [aW]at hb;obtain⟨y,hy,rfl⟩:=hb;exact G1 he hg hs hy (.inr (.inr ⟨_,_,rfl,hu⟩)) h ho
    ·cases hb
   ·rename_i x y t u ha uy;have ea:args= #[x,y]:=cZ ha;have et' :argTypes= #[t,u]:=cZ uy;subst ea et';simp only [aL,aE,ae]at hb;obtain⟨e',hu,hb⟩:=hb;split at hb
    ·rename_i e;split at hb
     ·rename_i WZ;simp only [ae]at hb;obtain⟨sz,fQ,z,hz,i,hi,x1,hx,y1,hy,hb⟩:=hb;split at hb
      ·rename_i hc;simp only [aa]at hb; subst hb;simp only [aB]at hc;have h0:=az hc.1;cases sz with
       | zero=>omega
       | succ m=>
        refine Ky he hg hs hx hy hu ?_ hi fQ hz hc.2 h ho;unfold wG at WZ;split at WZ
        ·exact .inl ⟨_,by assumption⟩
        ·exact .inr (by assumption)
        ·cases WZ
      ·cases hb
     ·cases hb
    ·cases hb
   ·rename_i x t ha uy;have ea:args= #[x]:=cZ ha;have et' :argTypes= #[t]:=cZ uy;subst ea et';split at hb
    ·simp only [aW]at hb;obtain⟨y,hy,rfl⟩:=hb;exact KI he hg hs hy h ho
    ·cases hb
   ·rename_i x y t u ha uy;have ea:args= #[x,y]:=cZ ha;have et' :argTypes= #[t,u]:=cZ uy;subst ea et';split at hb
    ·rename_i e hu;split at hb
     ·rename_i fQ;simp only [aL,aE,ae,aa]at hb;obtain⟨x1,hx,y1,hy,rfl⟩:=hb;exact Ts he hg hs hx hy hu fQ h ho
     ·cases hb
    ·cases hb
   ·rename_i x y t u ha uy;have ea:args= #[x,y]:=cZ ha;have et' :argTypes= #[t,u]:=cZ uy;subst ea et';simp only [aL,aE,ae]at hb;obtain⟨e',hu,hb⟩:=hb;split at hb
    ·simp only [ae]at hb;obtain⟨sz,fQ,hb⟩:=hb;split at hb
     ·cases hb
     ·rename_i h0;simp only [ae,aa]at hb;obtain⟨x1,hx,y1,hy,rfl⟩:=hb;cases sz with
      | zero=>exact absurd rfl h0
      | succ m=>exact Th he hg hs hx hy hu fQ h ho
    ·cases hb
   ·rename_i x y t u ha uy;have ea:args= #[x,y]:=cZ ha;have et' :argTypes= #[t,u]:=cZ uy;subst ea et';simp only [aL,aE,ae]at hb;obtain⟨e',hu,hb⟩:=hb;split at hb
    ·rename_i q e;simp only [ae,aa]at hb;obtain⟨et,het,y1,AD,y2,y9,rfl⟩:=hb;exact KC he hg hs AD y9 hu het rfl h ho
    ·cases hb
   ·rename_i x t ha uy;have ea:args= #[x]:=cZ ha;have et' :argTypes= #[t]:=cZ uy;subst ea et';split at hb
    ·rename_i e hu;simp only [aL,aE,ae]at hb;obtain⟨sz,fQ,hb⟩:=hb;split at hb
     ·cases hb
     ·rename_i h0;simp only [ae,aa]at hb;obtain⟨z,hz,x1,hx,rfl⟩:=hb;exact EF he hg hs hx (.inr ⟨_,hu,fQ,hz,by omega⟩) h ho
    ·rename_i q e hu;simp only [aL,aE,ae,aa]at hb;obtain⟨x1,hx,rfl⟩:=hb;exact EF he hg hs hx (.inl ⟨_,_,hu,rfl⟩) h ho
    ·cases hb
   ·simp only [aL,aE,ae,aa]at hb;obtain⟨l,hl,rfl⟩:=hb;exact By (mx:=false) he hg hs hl h (by simpa using ho)
   ·simp only [aL,aE,ae,aa]at hb;obtain⟨l,hl,rfl⟩:=hb;exact By (mx:=true) he hg hs hl h (by simpa using ho)
  ·rename_i f yO;simp only [aL,aE,ae]at hb;obtain⟨fn,hfn,hb⟩:=hb;split at hb
   ·split at hb
    ·rename_i k hk;simp only [ae,aa]at hb;obtain⟨ds,pk,rfl⟩:=hb;exact XW he hg hs (hX _ _ hk) pk h ho
    ·cases hb
   ·split at hb
    ·cases hb
    ·simp only [ae,aa]at hb;obtain⟨ds,pk,rfl⟩:=hb;cases qZ:A.aaC o.dst
     ·rw [qZ]at h; exact Tg he hg hs hC pk h ho
     ·rw [qZ]at h; exact KB he hg hs hC pk h ho
  ·rename_i x hnf yO;simp only [aL,aE,ae,aa]at hb;obtain⟨y,hy,ds,pk,rfl⟩:=hb;exact PI he hg hs hC hy pk h ho
  ·rename_i x name yO;simp only [aL,aE,ae,aa]at hb;obtain⟨y,hy,ds,pk,rfl⟩:=hb;exact KE he hg hs hC hy pk h ho
 case defer c=>
  obtain⟨callee,args,argTypes⟩:=c;cases callee <;> simp only at hb <;> (try (cases hb; done));simp only [aL,aE,ae,aa]at hb;obtain⟨y,hy,z,hz,rfl⟩:=hb;simp [cg]at h
end
end Go.Ab
namespace Go.Ab
open Go
variable [eh]
variable {ρ ρ' ρ0:Gh}{w w' w0:World}{P:Program}{G:Gl}{X:ig}{A:mT} {s s' :St}{env:Env}{a:Act}{lo:Nat}{d:D}{C:au}{al:Option Nat} {fr fr' :Fr}
def gX (ρ:Gh)(w:World)(lo:Nat):List (D×List D)->List Deferred->Prop
 | [],ds=>ds=[]
 | (d,l)::r,ds=>(d= .lX/\∃b t,ds= { target:= .collected b,args:= #[]}::t/\lo<=b/\ρ.own b= .qH/\w.heap[b]? =some (.deferred (some []))/\(∀m∈t,m.target≠ .collected b)/\gX ρ w lo r t)\/
   ∃f x y va vc vl t,d= .fn f x y/\ds= { target:= .fn f vc,args:=va++vl}::t/\bu ρ w x va.toList/\bu ρ w y vc.toList/\bu ρ w l vl.toList/\gX ρ w lo r t
theorem gX.fX (hK:Kr ρ w ρ' w')(hd:∀b,ρ.own b= .qH->w.heap[b]? =some (.deferred (some []))->ρ'.own b= .qH/\w'.heap[b]? =some (.deferred (some []))):∀ {l:List (D×List D)} {ds:List Deferred},gX ρ w lo l ds->gX ρ' w' lo l ds
 | [],_,h=>h
 | (d,l)::r,_,h=>by
  rcases h with ⟨h1,b,t,h2,h3,h4,h5,h6,h7⟩ | ⟨f,x,y,va,vc,vl,t,h1,h2,h3,h4,h5,h6⟩
  ·obtain⟨k1,k2⟩:=hd b h4 h5;exact .inl ⟨h1,b,t,h2,h3,k1,k2,h6,gX.fX hK hd h7⟩
  ·exact .inr ⟨f,x,y,va,vc,vl,t,h1,h2,bu.fX hK _ _ h3,bu.fX hK _ _ h4,bu.fX hK _ _ h5,gX.fX hK hd h6⟩
theorem gX.mono (hK:Kp ρ w ρ' w'){l:List (D×List D)}{ds:List Deferred}(h:gX ρ w lo l ds):gX ρ' w' lo l ds:=
 h.fX hK.r fun b hp hb=>by
  obtain⟨k1,k2⟩:=hK.kept b (fR.1 hb).1 (fun o=>by rw [hp]; simp);exact⟨k2.trans hp,k1.trans hb⟩
theorem gX.marks:∀ {l:List (D×List D)} {ds:List Deferred},gX ρ w lo l ds->∀m∈ds,∀b,m.target= .collected b->b < w.heap.size
 | [],ds,h,m,hm,b,hb=>by simp only [gX]at h; subst h; cases hm
 | (d,l)::r,ds,h,m,hm,b,hb=>by
  rcases h with ⟨h1,b',t,rfl,h3,h4,h5,h6,h7⟩ | ⟨f,x,y,va,vc,vl,t,h1,rfl,h3,h4,h5,h6⟩
  ·rcases aN.1 hm with rfl | hm
   ·simp only [Target.collected.injEq]at hb; subst hb;exact (fR.1 h5).1
   ·exact gX.marks h7 m hm b hb
  ·rcases aN.1 hm with rfl | hm
   ·cases hb
   ·exact gX.marks h6 m hm b hb
structure rp (ρ:Gh)(w:World)(lo nt:Nat)(fr:Fr)(a:Act):Prop where
 env:dW ρ w lo fr.env a.tmps
 size:nt<=a.tmps.size
 defers:gX ρ w lo fr.defers a.defers
theorem cY (e:Env)(t u:Nat)(d:D):Env.get ((t,d)::e) u=if t=u then some d else e.get u:=by
 simp only [Env.get];by_cases h:t=u
 ·rw [T.Mc h,bQ h]
 ·rw [T.ui h,aI h]
theorem dV.XU {tmps:Array Value}{t:Nat}{v:Value}(h:fe ρ w env tmps d v)(ht:tmps[t]? =some v)(dn:∀a c,d= .iE a c->False):dV ρ w lo env tmps t d:=by
 cases d <;> simp only [fe]at h <;> simp only [dV] <;> first | exact ⟨v,ht,h⟩ | exact h.elim | exact (dn _ _ rfl).elim
theorem dW.put {tmps:Array Value}{t:Nat}{v:Value}(he:dW ρ w lo env tmps)(ht:t < tmps.size)(hr:fe ρ w env tmps d v):dW ρ w lo ((t,d)::env) (tmps.setIfInBounds t v):=by
 have qS:∀x,d≠ .lv x:=by rintro x rfl; simp [fe]at hr
 have rL:(tmps.setIfInBounds t v)[t]? =some v:=by simp [ht]
 have tK:∀u,u≠t->(tmps.setIfInBounds t v)[u]? =tmps[u]? :=fun u hu=>by
  rw [dE,aI (fun e=>hu e.symm)]
 have mM:∀u x,Env.get ((t,d)::env) u=some (.lv x)->u≠t/\env.get u=some (.lv x):=fun u x h=>by
  rw [cY]at h;split at h
  ·simp only [aa]at h; exact absurd h (qS x)
  ·rename_i dn; exact ⟨fun e=>dn e.symm,h⟩
 refine⟨fun u q hq=> ?_,fun u u' x x' b dn h1 h2=> ?_⟩
 ·rw [cY]at hq;split at hq
  ·rename_i e; subst e;simp only [aa]at hq; subst hq;by_cases hp:∃a c,d= .iE a c
   ·obtain⟨a,c,rfl⟩:=hp;simp only [dV];intro x hx;obtain⟨h1,h2⟩:=mM a x hx;simp only [fe]at hr;obtain⟨b,h3,h4⟩:=hr x h2;exact⟨b,by rw [tK a h1]; exact h3,by rw [rL,h4]⟩
   ·have OU :fe ρ w ((t,d)::env) (tmps.setIfInBounds t v) d v:=by
     cases d <;> first | exact hr | exact absurd ⟨_,_,rfl⟩ hp
    exact .XU OU rL (fun a c e=>hp ⟨a,c,e⟩)
  ·rename_i dn;have dn:u≠t:=fun e=>dn e.symm;have:=he.slot u q hq;cases q with
   | lv x=>simp only [dV]at *; rw [tK u dn]; exact this
   | iE a c=>
    simp only [dV]at *;intro x hx;obtain⟨h1,h2⟩:=mM a x hx;rw [tK a h1,tK u dn];exact this x h2
   | _=>simp only [dV]at *; rw [tK u dn]; exact this
 ·obtain⟨g1,g2⟩:=mM u x h1;obtain⟨g3,g4⟩:=mM u' x' h2;rw [tK u g1,tK u' g3];exact he.inj u u' x x' b dn g2 g4
theorem rp.put {nt:Nat}{dst:Option Nat}{v:Value}(h:rp ρ w lo nt fr a)(hd:∀t,dst=some t->t < nt)(hr:fe ρ w fr.env a.tmps d v):rp ρ w lo nt { fr with env:=iq fr.env dst d} (a.put dst v):=by
 cases dst with
 | none=>exact ⟨h.env,h.size,h.defers⟩
 | some t=>exact ⟨h.env.put (cC (hd t rfl) h.size) hr,by simpa [Act.put] using h.size,h.defers⟩
theorem rp.mono {nt:Nat}(hK:Kp ρ w ρ' w')(h:rp ρ w lo nt fr a):rp ρ' w' lo nt fr a:=⟨h.env.mono hK,h.size,h.defers.mono hK⟩
theorem fe.undef {tmps:Array Value}:fe ρ w env tmps (.gW []) undef:=by simp [fe,aR,bu,Go.undef]
def Inv (ρ0:Gh)(w0:World)(nt:Nat)(fr:Fr)(s:St)(a:Act)(w:World):Prop:=∃ρ,Kp ρ0 w0 ρ w/\rp ρ w w0.heap.size nt fr a/\bK ρ s w
theorem BZ {ops:Array Oper}{o:Oper}{g:Option (Nat×Bool)}{b:Bool}(he:dW ρ w lo env a.tmps)
  (hg:(match o.guard with | none=>some none | some (j,b)=>match (ops[j]?).bind (·.dst) with | some t=>some (some (t,b)) | none=>none)=some g)(h:aJ env g=some b):Region.wanted o (yielded ops a.tmps)=b:=by
 unfold Region.wanted;cases Xg:o.guard with
 | none=>
  simp only [Xg,aa]at hg; subst hg;simp only [aJ,aa]at h;exact h
 | some p=>
  obtain⟨j,q⟩:=p;simp only [Xg]at hg;split at hg
  ·rename_i t ht;simp only [aa]at hg; subst hg;simp only [aJ]at h;split at h
   ·rename_i c hc;simp only [aa]at h;have:=he.slot _ _ hc;simp only [dV,aR]at this;obtain⟨v,hv,rfl⟩:=this;simp only [yielded,ht,mh,hv];subst h;cases c <;> cases q <;> rfl
   ·rename_i hc;simp only [aa]at h;have:=he.slot _ _ hc;simp only [dV,aR,bu]at this;obtain⟨v,hv,vs,rfl,_⟩:=this;simp only [yielded,ht,mh,hv];subst h;rfl
   ·cases h
  ·cases hg
theorem Km {nt:Nat}{r sz b c:Nat} {x v e' :D}{xv:Value}(hf:rp ρ w lo nt fr a)(hs:bK ρ s w)(mM:fr.env.get r=some (.lv x))(hb:a.tmps[r]? =some (.pointer (some ⟨b,0,none⟩)))(Ig:aR ρ w v xv)(GJ:x.over c v=some e')(hl:v.flat.length=sz):
  w.there b c sz/\v.st=true/\Kr ρ w ρ (w.setCells b c xv.cells.toList)/\bK ρ s (w.setCells b c xv.cells.toList)/\rp ρ (w.setCells b c xv.cells.toList) lo nt { fr with env:=(r,.lv e')::fr.env} a/\
   (∀ρ0 w0,w0.heap.size=lo->Kp ρ0 w0 ρ w->Kp ρ0 w0 ρ (w.setCells b c xv.cells.toList)):=by
 have td:=hf.env.slot _ _ mM;simp only [dV]at td;obtain⟨b',u,el,q1,q2,q3,q4,q5,q6⟩:=td;rw [hb]at q1;simp only [aa,Value.pointer.injEq,Addr.mk.injEq,ix]at q1;subst q1;obtain⟨u',o1,o2,o3,o4,cG⟩:=zF q4 q6 Ig GJ;have hxs:=Ig.size cG;obtain⟨⟨cs',g1,g2⟩,g3,g4,g5,g6,g7⟩:=iZ xv.cells.toList c w u.cells el (0,0) q5 (by simpa using o4);have dn:∀b',ρ.own b' ≠ .qH->b' ≠b:=by rintro b' h rfl; exact h q2
 have Yv:Kr ρ w ρ (w.setCells b c xv.cells.toList):=⟨fun b' _ hi=>⟨g3 b' (dn b' (by rw [hi]; simp)),hi⟩,fun _ h=>⟨h,rfl⟩,fun _ _ h=> .inr ⟨h,fun _ hb=>⟨hb,rfl,aq _,rfl⟩⟩⟩;have qW:cs' =u'.cells:=cZ (by rw [g2,o3]);refine⟨fun j hj=> ?_,cG,Yv, ?_,⟨⟨fun t q hq=> ?_,fun t t' y y' bb tJ h1 h2=> ?_⟩,hf.size,hf.defers.fX Yv fun b' hp iS =>⟨hp,(g3 b' (by rintro rfl; rw [q5]at iS; cases iS)).trans iS⟩⟩,fun ρ0 w0 Sw hK=> ?_⟩
 ·have:c+j < u.cells.size:=by omega
  simp [World.cell?,World.frozen?,q5,this]
 ·refine hs.bM Yv (fun _ _=>kN) rfl (fun b' o iS =>⟨g3 b' (dn b' (by rw [iS]; simp)),rfl,rfl,rfl⟩) (fun b' iS =>hs.size b' (by omega))
 ·rw [cY]at hq;split at hq
  ·rename_i e; subst e;simp only [aa]at hq; subst hq;simp only [dV];exact⟨b,u',el,hb,q2,q3,aR.fX Yv _ _ o1,by rw [g1,qW],o2⟩
  ·rename_i hrt;have:=hf.env.slot t q hq;cases q with
   | lv y=>
    simp only [dV]at *;obtain⟨b2,v2,el2,p1,p2,p3,p4,p5,p6⟩:=this;have lh:b2≠b:=by
     rintro rfl;exact hf.env.inj r t x y b2 hrt mM hq hb p1
    exact⟨b2,v2,el2,p1,p2,p3,aR.fX Yv _ _ p4,by rw [g3 b2 lh]; exact p5,p6⟩
   | iE k cc=>
    simp only [dV]at *;intro y hy;rw [cY]at hy;split at hy
    ·rename_i e; subst e; exact this x mM
    ·exact this y hy
   | _=>
    simp only [dV]at *;obtain⟨v2,p1,p2⟩:=this;exact⟨v2,p1,aR.fX Yv _ _ p2⟩
 ·have old:∀t y,Env.get ((r,.lv e')::fr.env) t=some (.lv y)->∃y0,fr.env.get t=some (.lv y0):=fun t y h=>by
   rw [cY]at h;split at h
   ·rename_i e; subst e; exact ⟨x,mM⟩
   ·exact⟨y,h⟩
  obtain⟨y0,p1⟩:=old t y h1;obtain⟨y1,p2⟩:=old t' y' h2;exact hf.env.inj t t' y0 y1 bb tJ p1 p2
 ·exact⟨g5.trans hK.os,g6.trans hK.tape,g7.trans hK.output,by have:=hK.size; omega,fun b' iS FQ=>by
   obtain⟨h1,h2⟩:=hK.kept b' iS FQ;exact⟨(g3 b' (by omega)).trans h1,h2⟩,hK.dead,hK.live⟩
theorem SW {nt r:Nat}{x:D}{u:Value}{e:TypeId}(hf:rp ρ w lo nt fr a)(hs:bK ρ s w)(Sw:lo<=w.heap.size)(hr:r < nt)(hu:aR ρ w x u)(cG:x.st=true)(FQ:fr.env.vn r=true):
  ∃ρ',Kp ρ w ρ' (w.alloc (.cells u.cells e))/\bK ρ' s (w.alloc (.cells u.cells e))/\rp ρ' (w.alloc (.cells u.cells e)) lo nt { fr with env:=(r,.lv x)::fr.env} (a.put (some r) (.pointer (some ⟨w.heap.size,0,none⟩))):=by
 let ρ' :Gh:= { ρ with own:=fun b=>if b=w.heap.size then .qH else ρ.own b}
 have hw:(w.alloc (.cells u.cells e)).heap=w.heap.push (.cells u.cells e):=rfl;have hK:Kp ρ w ρ' (w.alloc (.cells u.cells e)):=by
  refine⟨rfl,rfl,rfl,by rw [hw]; simp,fun b hb _=>⟨hZ hw hb, ?_⟩,fun _ h=>⟨h,rfl⟩,fun o z h=> .inr ⟨h,fun b hb=>⟨?_,rfl,aq _,rfl⟩⟩⟩
  ·show (if b=w.heap.size then Own.qH else ρ.own b)=ρ.own b;rw [aI (by omega)]
  ·have:=hs.jG hb;show (if b=w.heap.size then Own.qH else ρ.own b)= .obj o;rw [aI (by omega)]; exact hb
 have hS:bK ρ' s (w.alloc (.cells u.cells e)):=by
  refine hs.bM hK.r (fun b o=> ?_) rfl (fun b o hb=>⟨hZ hw (hs.jG hb),rfl,rfl,rfl⟩) (fun b hb=> ?_)
  ·show ((if b=w.heap.size then Own.qH else ρ.own b)= .obj o)↔_;split
   ·rename_i e; subst e; rw [hs.size _ (aq _)]; simp
   ·rfl
  ·rw [hw]at hb; simp at hb;show (if b=w.heap.size then Own.qH else ρ.own b)= .za;rw [aI (by omega)]; exact hs.size b (by omega)
 have fQ:r < a.tmps.size:=cC hr hf.size;have rL:(a.tmps.setIfInBounds r (.pointer (some ⟨w.heap.size,0,none⟩)))[r]? =some (.pointer (some ⟨w.heap.size,0,none⟩)):=by simp [fQ]
 have tK:∀t,t≠r->(a.tmps.setIfInBounds r (.pointer (some ⟨w.heap.size,0,none⟩)))[t]? =a.tmps[t]? :=fun t ht=>by
  rw [dE,aI (fun e=>ht e.symm)]
 have qS:∀(e:Env),e.vn r=true->∀t k c,e.get t=some (.iE k c)->k≠r:=by
  intro e;induction e with
  | nil=>intro _ t k c h; simp [Env.get]at h
  | cons p e ih=>
   obtain⟨t0,d0⟩:=p;intro h t k c hg;rw [cY]at hg;simp only [Env.vn]at h;split at hg
   ·simp only [aa]at hg; subst hg;simp only at h;split at h
    ·cases h
    ·rename_i hb; rintro rfl; rw [aA]at hb; cases hb
   ·split at h
    ·split at h
     ·cases h
     ·exact ih h t k c hg
    ·exact ih h t k c hg
 have hfm:=hf.mono hK;have vR:(a.put (some r) (Value.pointer (some ⟨w.heap.size,0,none⟩))).tmps=a.tmps.setIfInBounds r (.pointer (some ⟨w.heap.size,0,none⟩)):=rfl;refine⟨ρ',hK,hS,⟨⟨fun t q hq=> ?_,fun t t' y y' bb dn h1 h2 h3=> ?_⟩,by simpa [Act.put] using hf.size,hfm.defers⟩⟩
 ·rw [cY]at hq;split at hq
  ·rename_i e2; subst e2;simp only [aa]at hq; subst hq;simp only [dV];exact⟨w.heap.size,u,e,rL,by show (if w.heap.size=w.heap.size then Own.qH else _)=_; rw [bQ rfl],Sw,hu.mono hK,lN hw,cG⟩
  ·rename_i dn;have dn:t≠r:=fun e=>dn e.symm;have:=hfm.env.slot t q hq;cases q with
   | lv y=>simp only [dV]at *; rw [vR,tK t dn]; exact this
   | iE k c=>
    simp only [dV]at *;intro y hy;have hk:=qS fr.env FQ t k c hq;rw [cY,aI (fun e=>hk e.symm)]at hy;rw [vR,tK k hk,tK t dn];exact this y hy
   | _=>simp only [dV]at *; rw [vR,tK t dn]; exact this
 ·have key:∀t y,t≠r->Env.get ((r,.lv x)::fr.env) t=some (.lv y)->fr.env.get t=some (.lv y)/\a.tmps[t]? ≠some (.pointer (some ⟨w.heap.size,0,none⟩)):=fun t y ht h=>by
   rw [cY,aI (fun e=>ht e.symm)]at h;refine⟨h,fun hp=> ?_⟩;have:=hf.env.slot t _ h;simp only [dV]at this;obtain⟨b2,v2,el2,p1,p2,p3,p4,p5,p6⟩:=this;rw [hp]at p1;simp only [aa,Value.pointer.injEq,Addr.mk.injEq,ix]at p1;have:=xL p5;omega
  rw [vR]at h3 ⊢;by_cases ht:t=r
  ·subst ht;rw [rL]at h3;simp only [aa,Value.pointer.injEq,Addr.mk.injEq,ix]at h3;subst h3;rw [tK t' (fun e=>dn e.symm)];exact (key t' y' (fun e=>dn e.symm) h2).2
  ·obtain⟨k1,k2⟩:=key t y ht h1;rw [tK t ht]at h3;by_cases SH :t' =r
   ·subst SH;rw [rL];intro e; rw [← e]at h3; exact k2 h3
   ·obtain⟨k3,_⟩:=key t' y' SH h2;rw [tK t' SH];exact hf.env.inj t t' y y' bb dn k1 k3 h3
end Go.Ab
