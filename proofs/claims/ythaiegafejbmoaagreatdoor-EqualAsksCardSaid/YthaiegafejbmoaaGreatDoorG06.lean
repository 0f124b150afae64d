/- Part. -/
import Derived.Test.YthaiegafejbmoaaGreatDoorG05
set_option linter.unusedSectionVars false
set_option linter.unusedSimpArgs false
set_option linter.unusedVariables false
namespace Go.Ab
open Go
variable [eh]
variable {ρ:Gh}{w:World}{P:Program}{G:Gl}{X:ig}{A:mT} {s s' :St}{env:Env}{a:Act}{lo:Nat}{d:D}{C:au}{al:Option Nat}
theorem wL {em:Bool}{n:Nat}{xs:Array Value}{lx:List D}{f:TypeId->Option ET}(hx:bu ρ w lx xs.toList)(SG:lx.all D.sc=true)
  (ih:∀t e,f t=some e->∀x u,oT e x=true->aR ρ w x u->(Instr.checkKey em n t u).run P w= .ok () w):
  ∀(fs:List Field) (l:Vq),sR.fieldsB P f fs=some l->Ik l lx=true->
   ((forIn fs PUnit.unit fun f _=>do
     if f.name ≠ "_" then do
      let v ← Go.part f.type xs f.offset
      Instr.checkKey em n f.type v
      pure (ForInStep.yield PUnit.unit)
     else pure (ForInStep.yield PUnit.unit):Sem PUnit)).run P w= .ok PUnit.unit w
 | [],_,_,_=>by simp
 | x::fs,l,h,hk=>by
  simp only [sR.fieldsB]at h;split at h
  ·cases h
  ·rename_i hn;split at h
   ·rename_i s e l' h1 h2 h3;simp only [aa]at h; subst h;simp only [Ik]at hk;split at hk
    ·rename_i p hp;simp only [aB]at hk;obtain⟨u,hu1,hu2⟩:=qc (P:=P) hx SG h1 hp;have dn : x.name ≠ "_" := by simpa using hn
     have hi:=ih x.type e h2 p u hk.1 hu2;have OV:=wL hx SG ih fs l' h3 hk.2;simp only [List.forIn_cons,dn,ne_eq,cT,ei,Sem.run_bind,hu1,hi,Result.andThen_ok,Sem.run_pure];exact OV
    ·cases hk
   ·cases h
theorem pe (em:Bool):∀(n:Nat) (t:TypeId) (et:ET),sR P n t=some et->∀(k:Nat),n<=k->∀(x:D) (u:Value),oT et x=true->aR ρ w x u->(Instr.checkKey em k t u).run P w= .ok () w:=by
 intro n;induction n with
 | zero=>intro t et h; simp [sR]at h
 | succ n ih=>
  intro t et h k J1 x u C9 hu;obtain⟨k,rfl⟩:∃j,k=j+1:=⟨k - 1,by omega⟩;simp only [sR]at h;split at h
  ·rename_i qk;simp only [aa]at h; subst h;simp only [oT]at C9;split at C9 <;> (try cases C9)
   ·simp only [aR]at hu; subst hu;simp [Instr.checkKey,run_underlying qk]
   ·simp only [aR]at hu; subst hu;simp [Instr.checkKey,run_underlying qk]
  ·rename_i kk qk;simp only [aa]at h; subst h;simp only [oT]at C9;split at C9 <;> (try cases C9)
   ·simp only [aR]at hu; subst hu;simp [Instr.checkKey,run_underlying qk]
   ·simp only [aR]at hu; obtain ⟨rfl,_⟩:=hu;simp [Instr.checkKey,run_underlying qk]
  ·rename_i qk;simp only [aa]at h; subst h;simp only [oT]at C9;split at C9 <;> (try cases C9)
   ·simp only [aR]at hu; subst hu;simp [Instr.checkKey,run_underlying qk]
   ·simp only [aR]at hu; obtain ⟨rfl,_⟩:=hu;simp [Instr.checkKey,run_underlying qk]
  ·split at h <;> simp at h; subst h; simp [oT]at C9
  ·simp only [aa]at h; subst h; simp [oT]at C9
  ·simp only [aa]at h; subst h; simp [oT]at C9
  ·simp only [aa]at h; subst h; simp [oT]at C9
  ·simp only [aa]at h; subst h; simp [oT]at C9
  ·rename_i fs qk;split at h
   ·cases h
   ·simp only [aW]at h;obtain⟨l,hl,rfl⟩:=h;simp only [oT]at C9;split at C9
    ·simp only [aR]at hu;obtain⟨xs,rfl,vS,vT⟩:=hu;simp only [Instr.checkKey,Sem.run_bind,run_underlying qk,Result.andThen_ok];rw [← Array.forIn_toList];have:=wL (P:=P) (w:=w) (ρ:=ρ) (em:=em) (n:=k) vS vT (fun t' e' h' x' u' hh O0 =>ih t' e' h' k (by omega) x' u' hh O0) fs.toList l hl C9;rw [this]; rfl
    ·cases C9
  ·cases h
def Found (ρ:Gh)(w:World):Option (Nat×D)->Option (Nat×Value)->Prop
 | none,r=>r=none
 | some (i,d),r=>∃v,r=some (i,v)/\aR ρ w d v
theorem He {t:TypeId}{e:TypeDesc}{et:ET}{x y:D}{u v:Value} {r r' :Bool}(hu:P.underlying t=some e)(het:sR P 8 t=some et)(h:sC false et x y=some r) (h' :Instr.sameNow e u v=some r')(hx:aR ρ w x u)(hy:aR ρ w y v):r' =r:=by
 simp only [sR,hu]at het;cases e <;> simp only [Instr.sameNow]at h' <;> (try cases h')
 ·simp only [aa]at het; subst het;simp only [sC]at h;obtain⟨p,q,rfl,rfl,rfl⟩:=vF h hx hy;simp only [aa]at h'; exact h'.symm
 ·simp only [aa]at het; subst het;simp only [sC]at h;obtain⟨k,p,q,rfl,rfl,rfl⟩:=yG h hx hy;simp only [ei,aa]at h'; exact h'.symm
 ·simp only [aa]at het; subst het;simp only [sC]at h;obtain⟨p,q,rfl,rfl,rfl⟩:=yH h hx hy;simp only [aa]at h';rw [← h',beq_toListBytes,ByteArray.toList_eq,ByteArray.toList_eq]
theorem yK {t:TypeId}{e:TypeDesc}{et:ET}{k:D}{u:Value}(hu:P.underlying t=some e)(het:sR P 8 t=some et)(hk:aR ρ w k u):
  ∀(es:List (Nat×D×D)) (ces:List MapEntry) (i:Nat) (r:Option (Nat×D)) (r' :Option (Nat×Value)),fv ρ w es ces->findKey et k es i=some r->Instr.findNow e u ces i=some r' ->Found ρ w r r'
 | [],_,i,r,r',hM,h,h' =>by
  simp only [fv]at hM; subst hM;simp only [findKey,aa]at h; subst h;simp only [Instr.findNow,aa]at h'; subst h';rfl
 | (n,k',v)::es,_,i,r,r',hM,h,h' =>by
  simp only [fv]at hM;obtain⟨c,cs,rfl,_,h1,h2,h3⟩:=hM;simp only [findKey]at h;simp only [Instr.findNow]at h';cases hs:Instr.sameNow e u c.key with
  | none=>simp [hs]at h'
  | some b' =>
   cases hq:sC false et k k' with
   | none=>simp [hq]at h
   | some b=>
    have hb:=He (P:=P) hu het hq hs hk h1;subst hb;cases b'
    ·simp only [hq]at h;simp only [hs]at h';exact yK hu het hk es cs (i+1) r r' h3 h h'
    ·simp only [hq,aa]at h;simp only [hs,aa]at h';subst h h';exact⟨_,rfl,h2⟩
theorem sY {t:TypeId}{et:ET}{k:D}{u:Value}(het:sR P 8 t=some et)(hk:aR ρ w k u):
  ∀(es:List (Nat×D×D)) (ces:List MapEntry) (i:Nat) (r:Option (Nat×D)),fv ρ w es ces->findKey et k es i=some r->∃r',(Instr.findAsking t u ces i).run P w= .ok r' w/\Found ρ w r r'
 | [],_,i,r,hM,h=>by
  simp only [fv]at hM; subst hM;simp only [findKey,aa]at h; subst h;exact⟨none,by simp [Instr.findAsking],rfl⟩
 | (n,k',v)::es,_,i,r,hM,h=>by
  simp only [fv]at hM;obtain⟨c,cs,rfl,_,h1,h2,h3⟩:=hM;simp only [findKey]at h;cases hq:sC false et k k' with
  | none=>simp [hq]at h
  | some b=>
   have he:(Op.equal t u c.key).run P w= .ok b w:=N4 false 8 t et het Op.maxDepth (by decide) k k' b _ _ hq hk h1;cases b
   ·simp only [hq]at h;obtain⟨r',g1,g2⟩:=sY het hk es cs (i+1) r h3 h;exact⟨r',by simp [Instr.findAsking,he,g1],g2⟩
   ·simp only [hq,aa]at h; subst h;exact⟨some (i,c.val),by simp [Instr.findAsking,he],_,rfl,h2⟩
theorem kT {t:TypeId}{et:ET}{k:D}{u:Value}(het:sR P 8 t=some et)(hk:aR ρ w k u){es:List (Nat×D×D)}{ces:List MapEntry}{r:Option (Nat×D)}(hM:fv ρ w es ces)(h:findKey et k es 0=some r):
  ∃r',(Instr.findKey t u ces).run P w= .ok r' w/\Found ρ w r r' :=by
 cases hu:P.underlying t with
 | none=>simp [sR,hu]at het
 | some e=>
  simp only [Instr.findKey,Sem.run_bind,run_underlying hu,Result.andThen_ok];cases hn:Instr.findNow e u ces 0 with
  | some r' =>exact ⟨r',by simp,yK hu het hk es ces 0 r r' hM h hn⟩
  | none=>
   obtain⟨r',g1,g2⟩:=sY (P:=P) het hk es ces 0 r hM h;exact⟨r',by simpa using g1,g2⟩
end Go.Ab
namespace Go.Ab
open Go
variable [eh]
variable {ρ:Gh}{w:World}{P:Program}{pn:gY}{G:Gl}{X:ig}{A:mT} {s s' :St}{env:Env}{a:Act}{lo:Nat}{d:D}{C:au}{al:Option Nat}
theorem ki {t:TypeId}{z:D}(h:jA P t=some z):∃v,(zeroValue t).run P w= .ok v w/\w8 v=some z/\(P.info? t).bind (·.zero)=some v:=by
 unfold jA at h;simp only [ae]at h;obtain⟨v,⟨i,h1,h2⟩,h3⟩:=h;exact⟨v,by simp [zeroValue,typeInfo,h1,h2],h3,by simp [h1,h2]⟩
theorem wy {t e:TypeId}{sz:Nat}{p:Option Addr}{len cap y z M:Nat} {lo' hi' mx' :Option Value}(hu:P.underlying t=some (.slice e))(fQ:dC P e=some sz)
  (YM:y<=z)(hzM:z<=M)(hM:M<=cap)
  (bm:(mx' =none/\M=cap)\/(hi'.isSome=true/\∃v,mx' =some v/\∀code m,M<=m->(Instr.sliceBound v m code).run P w= .ok M w))
  (bh:(hi' =none/\z=len)\/(∃v,hi' =some v/\∀code m,z<=m->(Instr.sliceBound v m code).run P w= .ok z w))
  (bl:(lo' =none/\y=0)\/(∃v,lo' =some v/\∀code m,y<=m->(Instr.sliceBound v m code).run P w= .ok y w)):
  (Instr.sliceAt t (.slice p len cap) lo' hi' mx').run P w= .ok (.slice (if M=y then p else p.map (·.add (y * sz))) (z - y) (M - y)) w:=by
 have e1:(Instr.sliceBounds true len cap lo' hi' mx').run P w= .ok (y,z,M) w:=by
  unfold Instr.sliceBounds;rcases bm with ⟨rfl,rfl⟩ | ⟨hh,v1,rfl,b1⟩
  ·rcases bh with ⟨rfl,rfl⟩ | ⟨v2,rfl,b2⟩ <;> rcases bl with ⟨rfl,rfl⟩ | ⟨v3,rfl,b3⟩
   ·simp
   ·simp [b3 _ _ YM]
   ·simp [b2 _ _ hzM]
   ·simp [b2 _ _ hzM,b3 _ _ YM]
  ·rcases bh with ⟨rfl,rfl⟩ | ⟨v2,rfl,b2⟩
   ·simp at hh
   ·rcases bl with ⟨rfl,rfl⟩ | ⟨v3,rfl,b3⟩
    ·simp [b1 _ _ hM,b2 _ _ hzM]
    ·simp [b1 _ _ hM,b2 _ _ hzM,b3 _ _ YM]
 simp only [Instr.sliceAt,Sem.run_bind,run_underlying hu,Result.andThen_ok,Instr.slice,e1,fD fQ,Sem.run_pure]
theorem vy {x:Option Value}{r:Option D}{k y:Nat}(hr:(r=none/\x=none)\/(∃d v,r=some d/\x=some v/\aR ρ w d v))(hi:mN k r=some y):
  (r=none/\x=none/\y=k)\/(r.isSome=true/\∃v,x=some v/\∀code m,y<=m->(Instr.sliceBound v m code).run P w= .ok y w):=by
 rcases hr with ⟨rfl,rfl⟩ | ⟨d,v,rfl,rfl,h⟩
 ·simp only [mN,aa]at hi; exact .inl ⟨rfl,rfl,hi.symm⟩
 ·simp only [mN]at hi;obtain⟨kk,rfl⟩:=iT hi h;refine .inr ⟨rfl,_,rfl,fun code m hm=> ?_⟩;have:(0:Int)<=(y:Int)/\(y:Int)<=(m:Int):=by omega
  simp [Instr.sliceBound,asIntOf,this]
section
variable (he:dW ρ w lo env a.tmps)(hg:gn pn G ρ w)(hs:bK ρ s w)
include he hg hs
theorem XX {t e:TypeId}{m:Nat} {x' :Operand}{x:bO} {lo' hi' mx' :Option Operand}{l0 h0 m0:Option bO}(hx:ew G x' =some x)(hl:sT G lo' =some l0)(hh:sT G hi' =some h0)(hm:sT G mx' =some m0)
  (hu:P.underlying t=some (.slice e))(fQ:dC P e=some (m+1))(hmh:mx'.isSome=true->hi'.isSome=true)
  (h:cg C env s al (.KT (m+1) x l0 h0 m0)=some (d,s')){o:Oper}(ho:o.op= .slice t x' lo' hi' mx'):eP P ρ w env a.tmps d s' ((execOp a.eval o).run P w):=by
 simp only [cg]at h;split at h
 ·rename_i p ra rb rc hp hra hrb hrc;split at h
  ·rename_i y z M hy hz hM;split at h
   ·rename_i zz l hit;split at h
    ·rename_i GL;obtain⟨h1,rfl⟩:=js h;have hv:=bc hx he hg hp;have bl:=vy (P:=P) (uv he hg hl hra) hy;have bh:=vy (P:=P) (uv he hg hh hrb) hz;have bm:=vy (P:=P) (uv he hg hm hrc) hM;have fin:∀v,(Instr.sliceAt t (a.eval x') (lo'.map a.eval) (hi'.map a.eval) (mx'.map a.eval)).run P w= .ok v w->(execOp a.eval o).run P w= .ok (.value v) w:=by
      intro v hv;simp only [execOp,ho];rw [Sem.run_bind,hv]; rfl
     have bl' :(lo'.map a.eval=none/\y=0)\/(∃v,lo'.map a.eval=some v/\∀code m,y<=m->(Instr.sliceBound v m code).run P w= .ok y w):=by
      rcases bl with ⟨_,h1,h2⟩ | ⟨_,h1⟩
      ·exact .inl ⟨h1,h2⟩
      ·exact .inr h1
     cases p with
     | vs nl zz' l' =>
      simp only [items,aa,ab]at hit;obtain⟨hzz,Eh⟩:=hit;subst zz' l';simp only [yr]at h1;split at h1
      ·rename_i c1 c2 c3;simp only [aa]at h1; subst h1;have c1:=az c1;have c2:=az c2;have c3:=az c3;simp only [aR]at hv;have O4 :∀len,len=l.length->(hi'.map a.eval=none/\Option.getD (gD rb z) l.length=len)\/(∃v,hi'.map a.eval=some v/\∀code m,Option.getD (gD rb z) l.length<=m->(Instr.sliceBound v m code).run P w= .ok (Option.getD (gD rb z) l.length) w):=by
        intro len hlen;rcases bh with ⟨rfl,g1,g2⟩ | ⟨g0,v,g1,g2⟩
        ·exact .inl ⟨g1,by simp [gD,hlen]⟩
        ·cases rb with
         | none=>simp at g0
         | some q=>exact .inr ⟨v,g1,by simpa [gD] using g2⟩
       generalize Option.getD (gD rb z) l.length=Z at *;have hM' :∀cap,l.length<=cap->∃MM,Z<=MM/\MM<=cap/\((mx'.map a.eval=none/\MM=cap)\/((hi'.map a.eval).isSome=true/\∃v,mx'.map a.eval=some v/\∀code m,MM<=m->(Instr.sliceBound v m code).run P w= .ok MM w)):=by
        intro cap pI;rcases bm with ⟨rfl,g1,g2⟩ | ⟨g0,v,g1,g2⟩
        ·exact⟨cap,by simp [gD]at c2 c3; omega,aq _,.inl ⟨g1,rfl⟩⟩
        ·cases rc with
         | none=>simp at g0
         | some q=>
          simp only [gD,eB]at c2 c3;refine⟨M,c2,by omega,.inr ⟨?_,v,g1,g2⟩⟩;have:mx'.isSome=true:=by cases mx' <;> simp_all
          have:=hmh this;cases hi' <;> simp_all
       rcases hv with ⟨rfl,rfl,hv⟩ | ⟨rfl,ad,cap,hv,hle,Lg⟩
       ·obtain⟨MM,m1,m2,m3⟩:=hM' 0 (by simp);have hr:=wy (P:=P) (w:=w) (p:=none) (len:=0) (cap:=0) hu fQ c1 m1 m2 m3 (O4 0 (by simp)) bl';rw [fin _ (by rw [hv]; exact hr)];refine .rep hs ?_;simp only [aR];refine .inl ⟨trivial,by simp, ?_⟩;have:MM=0:=by omega
        subst this;have:Z=0:=by omega
        subst this;simp
       ·obtain⟨MM,m1,m2,m3⟩:=hM' cap hle;have hr:=wy (P:=P) (w:=w) (p:=some ad) (len:=l.length) (cap:=cap) hu fQ c1 m1 m2 m3 (O4 _ rfl) bl';rw [fin _ (by rw [hv]; exact hr)];refine .rep hs ?_;have hZl:Z<=l.length:=by
         rcases bm with ⟨rfl,_,_⟩ | ⟨g0,v,_,_⟩
         ·simpa [gD] using c2
         ·omega
        have hlen:((l.take Z).drop y).length=Z - y:=by simp; omega
        simp only [aR];refine .inr ⟨trivial, ?_⟩;by_cases ZP:MM=y
        ·refine⟨ad,MM - y,by rw [bQ ZP,hlen],by rw [hlen]; omega,.inl ?_⟩;exact List.eq_nil_of_length_eq_zero (by rw [hlen]; omega)
        ·refine⟨ad.add (y * (m+1)),MM - y, ?_,by rw [hlen]; omega, ?_⟩
         ·rw [aI ZP,hlen]; first | rfl | simp
         ·rcases Lg with rfl | ⟨b,q,rfl,hb,hE⟩
          ·exact .inl (by simp)
          ·by_cases hzz:l=[]
           ·subst hzz; exact .inl (by simp)
           ·have YN:zz=m+1:=by
             simp only [ey]at GL;rcases GL with GL | GL
             ·exact ay GL
             ·split at GL <;> simp_all
            subst YN;exact .inr ⟨b,q+y * (m+1),by simp [Addr.add_mid],hb,(hE.take Z).drop y⟩
      ·cases h1
     | sl ob off len cp=>
      simp only [items]at hit;split at hit
      ·rename_i z2 ty es st vT;split at hit
       ·rename_i i1 i2;simp only [aa,ab]at hit;obtain⟨rfl,rfl⟩:=hit;obtain⟨hz0,k1,_,_,xK,fN⟩:=hs.ok _ _ vT;simp only [aR,Gh.at,k1]at hv;obtain⟨b,hb,q1,q2,q3,xx,cap,q4,q5,q6,q7⟩:=hv;simp only [yr]at h1;have O4 :(hi'.map a.eval=none/\Option.getD (gD rb z) len=len)\/(∃v,hi'.map a.eval=some v/\∀code m,Option.getD (gD rb z) len<=m->(Instr.sliceBound v m code).run P w= .ok (Option.getD (gD rb z) len) w):=by
         rcases bh with ⟨rfl,g1,g2⟩ | ⟨g0,v,g1,g2⟩
         ·exact .inl ⟨g1,by simp [gD]⟩
         ·cases rb with
          | none=>simp at g0
          | some q=>exact .inr ⟨v,g1,by simpa [gD] using g2⟩
        generalize Option.getD (gD rb z) len=Z at *
        have key:∀MM,y<=Z->Z<=MM->MM<=cap->((mx'.map a.eval=none/\MM=cap)\/((hi'.map a.eval).isSome=true/\∃v,mx'.map a.eval=some v/\∀code m,MM<=m->(Instr.sliceBound v m code).run P w= .ok MM w))->
          ∀cp',Z<=cp' ->cp' <=MM->cp' <=cp->z2=m+1->eP P ρ w env a.tmps (.sl ob (off+y) (Z - y) (cp' - y)) s' ((execOp a.eval o).run P w):=by
         intro MM hyZ hZM hMc hm3 cp' g1 g2 g3 YN;subst YN;have hr:=wy (P:=P) (w:=w) (p:=some ⟨b,xx,none⟩) (len:=len) (cap:=cap) hu fQ hyZ hZM hMc hm3 O4 bl';rw [fin _ (by rw [q4]; exact hr)];refine .rep hs ?_;simp only [aR,Gh.at,k1];by_cases ZP:MM=y
         ·refine⟨b,hb,by omega,by omega,by omega,xx,MM - y,by rw [bQ ZP],by omega,.inl (by omega),by omega⟩
         ·refine⟨b,hb,by omega,by omega,by omega,xx+y * (m+1),MM - y, ?_,by omega,.inr ?_,by omega⟩
          ·rw [aI ZP]; simp [Addr.add_mid]
          ·rcases q6 with q6 | q6
           ·omega
           ·rw [q6,show off+y - ρ.sh b=(off - ρ.sh b)+y by omega,bJ]
        have YN:z2=m+1:=by
         simp only [ey]at GL;rcases GL with GL | GL
         ·exact ay GL
         ·simp at GL
        rcases bm with ⟨rfl,g1,g2⟩ | ⟨g0,v,g1,g2⟩
        ·simp only [gD]at h1;split at h1
         ·rename_i c1 c2;simp only [aa]at h1; subst h1;have c1:=az c1;have c2:=az c2;exact key cap c1 (by omega) (aq _) (.inl ⟨g1,rfl⟩) cp c2 q5 (aq _) YN
         ·cases h1
        ·cases rc with
         | none=>simp at g0
         | some q=>
          simp only [gD]at h1;split at h1
          ·rename_i c1 c2 c3;simp only [aa]at h1; subst h1;have c1:=az c1;have c2:=az c2;have c3:=az c3;have hmi:(hi'.map a.eval).isSome=true:=by
            have:mx'.isSome=true:=by cases mx' <;> simp_all
            have:=hmh this;cases hi' <;> simp_all
           exact key M c1 c2 (by omega) (.inr ⟨hmi,v,g1,g2⟩) M c2 (aq _) c3 YN
          ·cases h1
       ·cases hit
      ·cases hit
     | _=>simp [items]at hit
    ·cases h
   ·cases h
  ·cases h
 ·cases h
end
end Go.Ab
namespace Go.Ab
open Go
variable [eh]
variable {ρ ρ' :Gh} {w w' :World}{P:Program}{pn:gY}{G:Gl}{X:ig}{A:mT} {s s' :St}{env:Env}{a:Act}{lo:Nat}{d:D}{C:au}{al:Option Nat}
theorem oC.kd {o:Nat}{x:Obj}(h:oC ρ w o x):ρ.kd o≠ .fresh:=by
 cases x with
 | var ty d=>obtain ⟨_,_,h1,_⟩:=h; rw [h1]; simp
 | arr sz ty es st=>obtain ⟨_,h1,_⟩:=h; rw [h1]; simp
 | map es c=>obtain ⟨_,_,h1,_⟩:=h; rw [h1]; simp
 | oW l p=>obtain ⟨_,h1,_⟩:=h; rw [h1]; simp
 | loop k st=>obtain ⟨h1,_⟩:=h; rw [h1]; simp
 | dead=>rw [show ρ.kd o= .dead from h]; simp
theorem oC.bM {o:Nat}{x:Obj}(hK:Kr ρ w ρ' w')(kA:∀b,ρ'.own b= .obj o↔ρ.own b= .obj o)(kM:ρ'.kd o=ρ.kd o)
  (hb:∀b,ρ.own b= .obj o->w'.heap[b]? =w.heap[b]? /\ρ'.sh b=ρ.sh b/\ρ'.ext b=ρ.ext b/\ρ'.cap b=ρ.cap b)(h:oC ρ w o x):oC ρ' w' o x:=by
 have one:∀b,ρ.one o b->ρ'.one o b:=fun b h=>⟨(kA b).2 h.1,fun b' h' =>h.2 b' ((kA b').1 h')⟩;cases x with
 | var ty d=>
  obtain⟨b,v,h1,h2,h3,h4,h5⟩:=h;exact⟨b,v,kM.trans h1,one b h2,aR.fX hK _ _ h3,(hb b h2.1).1.trans h4,h5⟩
 | arr sz ty es st=>
  obtain⟨h0,h1,h2,⟨cur,c1,c2,c3⟩,h4,h5⟩:=h;refine⟨h0,kM.trans h1,h2,⟨cur,(kA _).2 c1,(hb _ c1).2.2.1.trans c2,fun b p q=>c3 b ((kA b).1 p) (by rw [← (hb _ ((kA b).1 p)).2.2.1]; exact q)⟩,fun b p=> ?_,h5⟩;have p' :=(kA b).1 p;obtain⟨e1,e2,e3,e4⟩:=hb b p';have q:=h4 b p';refine⟨by rw [e3]; exact q.ext,by rw [e2,e3]; exact q.sh,by rw [e2,e3,e4]; exact q.room,fun j hj=> ?_,by rw [e1]; exact q.shape,fun g i d a1 a2 a3=> ?_⟩
  ·rw [cell?_of_heap e1,frozen?_of_heap e1]; exact q.cells j (by rw [← e4]; exact hj)
  ·rw [e3]at g a2; rw [e2]at a1 ⊢;obtain⟨v,v1,v2,v3⟩:=q.elems g i d a1 a2 a3;exact⟨v,aR.fX hK _ _ v1,v2,v3.of_heap e1⟩
 | map es c=>
  obtain⟨b,ces,h1,h2,h3,h4⟩:=h;exact⟨b,ces,kM.trans h1,one b h2,(hb b h2.1).1.trans h3,fv.fX hK _ _ h4⟩
 | oW l p=>
  obtain⟨b,h1,h2,h3⟩:=h;exact⟨b,kM.trans h1,one b h2,(hb b h2.1).1.trans h3⟩
 | loop k st=>
  obtain⟨h1,h2,h3,h4⟩:=h;obtain⟨e1,e2⟩:=hK.dead k h2;exact⟨kM.trans h1,e1,by rw [e2]; exact one _ h3,by rw [e2]; exact (hb _ h3.1).1.trans h4⟩
 | dead=>exact kM.trans h
theorem bK.QM (hs:bK ρ s w)(hK:Kp ρ w ρ' w')(k:Nat)(x:Obj)
  (kA:∀b o,o≠k->ρ.kd o≠ .dead->(ρ'.own b= .obj o↔ρ.own b= .obj o))(kM:∀o,o≠k->ρ'.kd o=ρ.kd o)
  (hb:∀b o,o≠k->ρ.kd o≠ .dead->ρ.own b= .obj o->w'.heap[b]? =w.heap[b]? /\ρ'.sh b=ρ.sh b/\ρ'.ext b=ρ.ext b/\ρ'.cap b=ρ.cap b)
  (hx:oC ρ' w' k x)(fQ:∀b,w'.heap.size<=b->ρ'.own b= .za)
  (hn:k < s'.n)(UO:s.n<=s'.n)(jn:∀o,s'.get o=if o=k then some x else s.get o):bK ρ' s' w' :=by
 refine⟨fun o y hy=> ?_,fun o y hy=> ?_,fun o hy=> ?_,fun b o Sp=> ?_,fQ⟩
 ·rw [jn]at hy;split at hy
  ·rename_i h; rw [h]; exact hn
  ·exact cC (hs.lt o y hy) UO
 ·rw [jn]at hy;split at hy
  ·rename_i h; simp only [aa]at hy; subst hy; rw [h]; exact hx
  ·rename_i h;have h0:=hs.ok o y hy;by_cases hd:ρ.kd o= .dead
   ·have Q5 :ρ'.kd o= .dead:=(kM o h).trans hd;cases y with
    | dead=>exact Q5
    | var ty d=>obtain ⟨_,_,h1,_⟩:=h0; rw [h1]at hd; cases hd
    | arr sz ty es st=>obtain ⟨_,h1,_⟩:=h0; rw [h1]at hd; cases hd
    | map es c=>obtain ⟨_,_,h1,_⟩:=h0; rw [h1]at hd; cases hd
    | oW l p=>obtain ⟨_,h1,_⟩:=h0; rw [h1]at hd; cases hd
    | loop k st=>obtain ⟨h1,_⟩:=h0; rw [h1]at hd; cases hd
   ·exact h0.bM hK.r (fun b=>kA b o h hd) (kM o h) (fun b=>hb b o h hd)
 ·rw [jn]at hy;split at hy
  ·cases hy
  ·rename_i h; rw [kM o h]; exact hs.no o hy
 ·by_cases h:o=k
  ·rw [h]; exact hx.kd
  ·rw [kM o h];by_cases hd:ρ.kd o= .dead
   ·rw [hd]; simp
   ·exact hs.live b o ((kA b o h hd).1 Sp)
theorem bK.bM (hs:bK ρ s w)(hK:Kr ρ w ρ' w')(kA:∀b o,ρ'.own b= .obj o↔ρ.own b= .obj o)(kM:ρ'.kd=ρ.kd)
  (hb:∀b o,ρ.own b= .obj o->w'.heap[b]? =w.heap[b]? /\ρ'.sh b=ρ.sh b/\ρ'.ext b=ρ.ext b/\ρ'.cap b=ρ.cap b)
  (fQ:∀b,w'.heap.size<=b->ρ'.own b= .za):bK ρ' s w' :=
 ⟨hs.lt,fun o y hy=>(hs.ok o y hy).bM hK (fun b=>kA b o) (by rw [kM]) (fun b=>hb b o),fun o ho=>by rw [kM]; exact hs.no o ho,fun b o h=>by rw [kM]; exact hs.live b o ((kA b o).1 h),fQ⟩
theorem St.eS (s:St)(k:Nat)(x:Obj)(o:Nat):(s.bn k x).get o=if o=k then some x else s.get o:=by
 simp only [St.get,St.bn,T.pj]
theorem St.vM (s:St)(x:Obj)(o:Nat):(s.aZ x).get o=if o=s.n then some x else s.get o:=by
 simp only [St.get,St.aZ,T.pj]
theorem St.qf {o:Nat}{x:Obj}(h:s.set o x=some s'):s' =s.bn o x:=by
 unfold St.set at h;split at h
 ·cases h
 ·split at h
  ·cases h
  ·simpa using h.symm
theorem Ir (hs:bK ρ s w){k:Nat}{x:Obj}(h:s.mk' al x=some (k,s')):s.get k=none/\k < s'.n/\s.n<=s'.n/\(∀o,s'.get o=if o=k then some x else s.get o):=by
 unfold St.mk' at h;split at h
 ·cases h
 ·split at h
  ·simp only [aa,ab]at h;obtain⟨rfl,rfl⟩:=h;refine⟨?_,by simp [St.aZ],by simp [St.aZ],St.vM s x⟩;cases hg:s.get s.n with
   | none=>rfl
   | some y=>exact absurd (hs.lt _ _ hg) (fP _)
  ·split at h
   ·rename_i hg;split at h
    ·rename_i eW;simp only [aa,ab]at h;obtain⟨rfl,rfl⟩:=h;exact⟨hg,az eW,aq _,St.eS s _ x⟩
    ·cases h
   ·cases h
def Gh.new (ρ:Gh)(b k sz ex cp:Nat):Gh:=
 {own:=fun x=>if x=b then .obj k else ρ.own x
  sh:=fun x=>if x=b then 0 else ρ.sh x
  ext:=fun x=>if x=b then ex else ρ.ext x
  cap:=fun x=>if x=b then cp else ρ.cap x
  kd:=fun o=>if o=k then .live sz else ρ.kd o
  lp:=ρ.lp}
theorem hZ {ob:Go.Obj}(hh:w'.heap=w.heap.push ob){b:Nat}(hb:b < w.heap.size):w'.heap[b]? =w.heap[b]? :=by
 rw [hh,jd]; simp; omega
theorem lN {ob:Go.Obj}(hh:w'.heap=w.heap.push ob):w'.heap[w.heap.size]? =some ob:=by
 rw [hh]; simp
theorem bK.jG (hs:bK ρ s w){b o:Nat}(h:ρ.own b= .obj o):b < w.heap.size:=by
 rcases aP b w.heap.size with hb | hb
 ·exact hb
 ·rw [hs.size b hb]at h; cases h
theorem XP (hs:bK ρ s w){k:Nat}(hk:s.get k=none)(sz ex cp:Nat){ob:Go.Obj}(hh:w'.heap=w.heap.push ob)(ho:w'.os=w.os)(ht:w'.tape=w.tape)(hu:w'.output=w.output):
  Kp ρ w (ρ.new w.heap.size k sz ex cp) w' :=by
 have hf:=hs.no k hk;refine⟨ho,ht,hu,by rw [hh]; simp,fun b hb _=>⟨hZ hh hb, ?_⟩,fun o h=> ?_,fun o z h=> .inr ⟨?_,fun b hb=> ?_⟩⟩
 ·simp only [Gh.new]; rw [aI (by omega)]
 ·simp only [Gh.new]; split
  ·rename_i e; rw [e,hf]at h; cases h
  ·exact⟨h,trivial⟩
 ·simp only [Gh.new]; split
  ·rename_i e; rw [e,hf]at h; cases h
  ·exact h
 ·have:=hs.jG hb;simp only [Gh.new,aI (show ¬ b=w.heap.size by omega)];exact⟨hb,trivial,aq _,trivial⟩
theorem Ta (hs:bK ρ s w){k:Nat}(hk:s.get k=none)(sz ex cp:Nat):(ρ.new w.heap.size k sz ex cp).one k w.heap.size:=by
 refine⟨by simp [Gh.new],fun b hb=> ?_⟩;simp only [Gh.new]at hb;split at hb
 ·assumption
 ·exact absurd (hs.no k hk) (hs.live _ _ hb)
theorem zy (hs:bK ρ s w){k:Nat}{x:Obj}(hm:s.mk' al x=some (k,s'))(sz ex cp:Nat){ob:Go.Obj}(hh:w'.heap=w.heap.push ob)(ho:w'.os=w.os)(ht:w'.tape=w.tape)(hu:w'.output=w.output)
  (hx:Kp ρ w (ρ.new w.heap.size k sz ex cp) w' ->(ρ.new w.heap.size k sz ex cp).one k w.heap.size->w'.heap[w.heap.size]? =some ob->oC (ρ.new w.heap.size k sz ex cp) w' k x):
  Kp ρ w (ρ.new w.heap.size k sz ex cp) w' /\bK (ρ.new w.heap.size k sz ex cp) s' w' /\(ρ.new w.heap.size k sz ex cp).own w.heap.size= .obj k/\(ρ.new w.heap.size k sz ex cp).kd k= .live sz:=by
 obtain⟨h1,h2,h3,h4⟩:=Ir hs hm;have hK:=XP (w' :=w') hs h1 sz ex cp hh ho ht hu;have oO:=Ta hs h1 sz ex cp;refine⟨hK,hs.QM hK k x (fun b o dn _=> ?_) (fun o dn=> ?_) (fun b o dn _ hb=> ?_) (hx hK oO (lN hh)) (fun b hb=> ?_) h2 h3 h4,oO.1,by simp [Gh.new]⟩
 ·simp only [Gh.new]; split
  ·rename_i e;subst e;rw [hs.size _ (aq _)];simp; exact fun e=>dn e.symm
  ·rfl
 ·simp only [Gh.new]; rw [aI dn]
 ·have:=hs.jG hb;simp only [Gh.new,aI (show ¬ b=w.heap.size by omega)];exact⟨hZ hh this,trivial,trivial,trivial⟩
 ·rw [hh]at hb; simp at hb;simp only [Gh.new,aI (show ¬ b=w.heap.size by omega)];exact hs.size b (by omega)
def fT (ρ:Gh)(w:World)(sz:Nat):List D->List Value->Prop
 | [],vs=>vs=[]
 | d::l,vs=>∃v r,vs=v.cells.toList++r/\aR ρ w d v/\v.cells.size=sz/\d.st=true/\fT ρ w sz l r
theorem fT.mono (hK:Kp ρ w ρ' w'){sz:Nat}:∀ {l:List D} {vs:List Value},fT ρ w sz l vs->fT ρ' w' sz l vs
 | [],_,h=>h
 | d::l,_,h=>by
  obtain⟨v,r,h1,h2,h3,h4,h5⟩:=h;exact⟨v,r,h1,h2.mono hK,h3,h4,fT.mono hK h5⟩
theorem fT.length {sz:Nat}:∀ {l:List D} {vs:List Value},fT ρ w sz l vs->vs.length=l.length * sz
 | [],_,h=>by simp only [fT]at h; subst h; simp
 | d::l,_,h=>by
  obtain⟨v,r,rfl,h2,h3,h4,h5⟩:=h;simp [fT.length h5,h3,bJ]; omega
theorem fT.append {sz:Nat}:∀ {l l' :List D} {vs vs' :List Value},fT ρ w sz l vs->fT ρ w sz l' vs' ->fT ρ w sz (l++l') (vs++vs')
 | [],_,_,_,h,h' =>by simp only [fT]at h; subst h; exact h'
 | d::l,_,_,_,h,h' =>by
  obtain⟨v,r,rfl,h2,h3,h4,h5⟩:=h;exact⟨v,_,by simp,h2,h3,h4,fT.append h5 h'⟩
theorem fT.one {sz:Nat}{l:List D}{vs:List Value}:∀(_:fT ρ w sz l vs),∀u∈vs,u.oneCell' =true:=by
 induction l generalizing vs with
 | nil=>intro h u hu; simp only [fT]at h; subst h; cases hu
 | cons d l ih=>
  rintro⟨v,r,rfl,h2,h3,h4,h5⟩ u hu;rcases cN.1 hu with hu | hu
  ·exact (h2.flat h4).2 u hu
  ·exact ih h5 u hu
theorem fT.single {d:D}{v:Value}{sz:Nat}(h:aR ρ w d v)(hz:v.cells.size=sz)(hs:d.st=true):fT ρ w sz [d] v.cells.toList:=⟨v,[],by simp,h,hz,hs,rfl⟩
theorem fT.eC {sz:Nat}:∀ {l:List D} {vs:List Value},fT ρ w sz l vs->eC sz l=true
 | [],_,_=>rfl
 | d::l,_,h=>by
  obtain⟨v,r,rfl,h2,h3,h4,h5⟩:=h;have:=h2.size h4;simp [Ab.eC,h4,fT.eC h5,← this,h3]
theorem fJ.row {sz b:Nat}:∀ {l:List D} {x:Nat},fJ ρ w sz b x l->∃vs,fT ρ w sz l vs/\w.rangeAt b x vs
 | [],x,_=>⟨[],rfl,fun j v h=>by simp at h⟩
 | d::l,x,h=>by
  simp only [fJ]at h;obtain⟨⟨v,h1,h2,h3,h4,h5⟩,h6⟩:=h;obtain⟨r,g1,g2⟩:=fJ.row h6;refine⟨v.cells.toList++r,⟨v,r,rfl,h1,h2,h5,g1⟩,fun j u hj=> ?_⟩;rcases aP j v.cells.size with eW | vO
  ·rw [aK (by simpa using eW)]at hj;exact mz h4 j u hj
  ·rw [aF (by simpa using vO)]at hj;have:=g2 _ u hj;simp only [eO]at this;rwa [show x+sz+(j - v.cells.size)=x+j by omega]at this
theorem fT.get {sz b:Nat}:∀ {l:List D} {x:Nat} {vs:List Value},fT ρ w sz l vs->w'.rangeAt b x vs->∀(i:Nat) (d:D),l[i]? =some d->∃v,aR ρ w d v/\v.cells.size=sz/\bS w' b (x+i * sz) v/\d.st=true
 | [],_,_,_,_,i,d,hi=>by simp at hi
 | e::l,x,_,h,hr,i,d,hi=>by
  obtain⟨v,r,rfl,h2,h3,h4,h5⟩:=h;cases i with
  | zero=>
   simp at hi; subst hi;refine⟨v,h2,h3, ?_,h4⟩;refine vB fun j u hj=> ?_;have eW:j < v.cells.toList.length:=(aj.1 hj).1;simpa using hr j u (by rw [aK eW]; exact hj)
  | succ i=>
   simp at hi
   have OU :w'.rangeAt b (x+sz) r:=fun j u hj=>by
    have:=hr (v.cells.size+j) u (by rw [aF (by simp)]; simpa using hj);rwa [show x+sz+j=x+(v.cells.size+j) by omega]
   obtain⟨u,q1,q2,q3,q4⟩:=fT.get h5 OU i d hi;exact⟨u,q1,q2,by rwa [show x+(i+1) * sz=x+sz+i * sz by rw [bJ]; omega],q4⟩
theorem sK {α:Type}:∀(l:List α) (n:Nat) (c:α) (r:List α),n < l.length->over l n (c::r)=over (l.set n c) (n+1) r
 | [],n,_,_,h=>by simp at h
 | x::l,0,c,r,_=>by cases l <;> simp [over]
 | x::l,n+1,c,r,h=>by simp only [over,List.set_cons_succ]; rw [sK l n c r (by simpa using h)]
theorem mP {α:Type}:∀(l:List α) (n:Nat),over l n []=l
 | [],0=>rfl
 | [],n+1=>rfl
 | x::l,0=>by simp [over]
 | x::l,n+1=>by simp only [over]; rw [mP l n]
theorem jz {α:Type}:∀(l:List α) (n:Nat) (v:List α),n+v.length<=l.length->(over l n v).length=l.length
 | [],0,v,h=>by simp at h; subst h; simp [over]
 | [],n+1,v,_=>by simp [over]
 | x::l,0,v,h=>by simp [over]at *; omega
 | x::l,n+1,v,h=>by simp only [over,aT]at *; rw [jz l n v (by omega)]
theorem nO {α:Type}:∀(l:List α) (n:Nat) (v:List α),n<=l.length->over l n v=l.take n++v++l.drop (n+v.length)
 | l,0,v,_=>by cases l <;> simp [over]
 | [],n+1,v,h=>by simp at h
 | x::l,n+1,v,h=>by
  simp only [over]; rw [nO l n v (by simpa using h)];simp [show n+1+v.length=(n+v.length)+1 by omega]
theorem bu.over {cs ds:List D}{vs us:List Value}(h:bu ρ w cs vs) (h' :bu ρ w ds us){n:Nat}(hn:n<=cs.length):bu ρ w (over cs n ds) (over vs n us):=by
 rw [nO _ _ _ hn,nO _ _ _ (by rw [← h.length]; exact hn),h'.length];exact ((h.take n).append h').append (h.drop _)
theorem CH {cs ds:List D}(h:cs.all D.sc=true) (h' :ds.all D.sc=true){n:Nat}(hn:n<=cs.length):(over cs n ds).all D.sc=true:=by
 rw [nO _ _ _ hn];simp only [List.all_append,aB];exact⟨⟨c9.2 fun x hx=>c9.1 h x (fG hx),h'⟩,c9.2 fun x hx=>c9.1 h x (mJ hx)⟩
theorem vI (off:Nat):∀(us:List Value) (k:Nat) (cells:Array Value),off+k+us.length<=cells.size->
  (List.foldl (fun (cs:Array Value) (x:Value×Nat)=>cs.setIfInBounds (off+x.2) x.1) cells (us.zipIdx k)).toList=over cells.toList (off+k) us
 | [],k,cells,_=>by simp [mP]
 | u::us,k,cells,h=>by
  simp only [aT]at h;simp only [List.zipIdx_cons,mU];rw [vI off us (k+1) _ (by simp; omega),sK _ _ _ _ (by simp; omega)];simp [ia]
def uc (G:Gl)(place:Nat->Option (Nat×Nat)):List (Nat×Operand)->List (Nat×Nat×bO)->Prop
 | [],[]=>True
 | (i,x)::r,(o,z,y)::q=>place i=some (o,z)/\ew G x=some y/\uc G place r q
 | _,_=>False
theorem HY (he:dW ρ w lo env a.tmps)(hg:gn pn G ρ w){place:Nat->Option (Nat×Nat)}:∀(ps' :List (Nat×Operand)) (ps:List (Nat×Nat×bO)) (l:List (Nat×Nat×D)) (cs:List D) (vs:Array Value) (cs' :List D),
  uc G place ps' ps->ph env ps=some l->bu ρ w cs vs.toList->cs.all D.sc=true->D0 cs l=some cs' ->
  ∃vs',Instr.fill place vs (ps'.map fun p=>(p.1,a.eval p.2))=some vs' /\bu ρ w cs' vs'.toList/\cs'.all D.sc=true
 | [],[],l,cs,vs,cs',_,h1,h2,h3,h4=>by
  simp only [ph,aa]at h1; subst h1;simp only [D0,aa]at h4; subst h4;exact⟨vs,by simp [Instr.fill],h2,h3⟩
 | [],_::_,_,_,_,_,h,_,_,_,_=>h.elim
 | _::_,[],_,_,_,_,h,_,_,_,_=>h.elim
 | (i,x)::r,(o,z,y)::q,l,cs,vs,cs',⟨p1,p2,p3⟩,h1,h2,h3,h4=>by
  simp only [ph]at h1;split at h1
  ·rename_i d hd;split at h1
   ·rename_i l' Q8;simp only [aa]at h1; subst h1;simp only [D0]at h4;split at h4
    ·rename_i e1 e2;split at h4
     ·rename_i e3;have hv:=bc p2 he hg hd;have hz:=ay e1;have hle:=az e3;have fQ:=hv.size e2;have hlen:=h2.length;simp only [eO]at hlen;have hf:=hv.flat e2;have UH:=vI o (a.eval x).cells.toList 0 vs (by simp; omega);simp only [fu]at UH;have hc: ¬ ((a.eval x).cells.size≠z\/o+(a.eval x).cells.size > vs.size):=by omega
      obtain⟨vs',g1,g2,g3⟩:=HY he hg r q l' (over cs o d.flat) (List.foldl (fun (cs:Array Value) (x:Value×Nat)=>cs.setIfInBounds (o+x.2) x.1) vs ((a.eval x).cells.toList.zipIdx 0)) cs' p3 Q8
       (by rw [UH]; exact h2.over hf.1 (by omega)) (CH h3 (D.mH e2) (by omega)) h4
      refine⟨vs', ?_,g2,g3⟩;simp only [bT,Instr.fill,p1];rw [aI (by simpa using hc)];rw [← g1]
      congr 1
      rw [← Array.foldl_toList,Array.toList_zipIdx]
     ·cases h4
    ·cases h4
   ·cases h1
  ·cases h1
end Go.Ab
