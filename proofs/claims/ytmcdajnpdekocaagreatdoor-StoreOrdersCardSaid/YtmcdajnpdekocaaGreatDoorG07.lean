/- Part. -/
import Derived.Test.YtmcdajnpdekocaaGreatDoorG06
set_option linter.unusedSectionVars false
set_option linter.unusedSimpArgs false
set_option linter.unusedVariables false
namespace Go.Ab
open Go
variable [Vals]
variable {ρ:Gh}{w:World}{P:Program}{pn:Pins}{G:Gl}{X:Exts}{A:Adv} {s s' :St}{env:Env}{a:Act}{lo:Nat}{d:D}{C:zAa}{al:Option Nat}
theorem zCi {t:TypeId}{z:D}(h:zPu P t=some z):∃v,(zeroValue t).run P w= .ok v w∧ofV v=some z∧(P.info? t).bind (·.zero)=some v:=by
 unfold zPu at h
 simp only [Option.bind_eq_some_iff]at h
 obtain⟨v,⟨i,h1,h2⟩,h3⟩:=h
 exact⟨v,by simp [zeroValue,typeInfo,h1,h2],h3,by simp [h1,h2]⟩
theorem zJw {t e:TypeId}{sz:Nat}{p:Option Addr}{len cap y z M:Nat} {lo' hi' mx' :Option Value}(hu:P.underlying t=some (.slice e))(hsz:zPo P e=some sz)
  (hyz:y≤z)(hzM:z≤M)(hM:M≤cap)
  (bm:(mx' =none∧M=cap)∨(hi'.isSome=true∧∃v,mx' =some v∧∀code m,M≤m→(Instr.sliceBound v m code).run P w= .ok M w))
  (bh:(hi' =none∧z=len)∨(∃v,hi' =some v∧∀code m,z≤m→(Instr.sliceBound v m code).run P w= .ok z w))
  (bl:(lo' =none∧y=0)∨(∃v,lo' =some v∧∀code m,y≤m→(Instr.sliceBound v m code).run P w= .ok y w)):
  (Instr.sliceAt t (.slice p len cap) lo' hi' mx').run P w= .ok (.slice (if M=y then p else p.map (·.add (y * sz))) (z - y) (M - y)) w:=by
 have e1:(Instr.sliceBounds true len cap lo' hi' mx').run P w= .ok (y,z,M) w:=by
  unfold Instr.sliceBounds
  rcases bm with ⟨rfl,rfl⟩ | ⟨hh,v1,rfl,b1⟩
  ·rcases bh with ⟨rfl,rfl⟩ | ⟨v2,rfl,b2⟩ <;> rcases bl with ⟨rfl,rfl⟩ | ⟨v3,rfl,b3⟩
   ·simp
   ·simp [b3 _ _ hyz]
   ·simp [b2 _ _ hzM]
   ·simp [b2 _ _ hzM,b3 _ _ hyz]
  ·rcases bh with ⟨rfl,rfl⟩ | ⟨v2,rfl,b2⟩
   ·simp at hh
   ·rcases bl with ⟨rfl,rfl⟩ | ⟨v3,rfl,b3⟩
    ·simp [b1 _ _ hM,b2 _ _ hzM]
    ·simp [b1 _ _ hM,b2 _ _ hzM,b3 _ _ hyz]
 simp only [Instr.sliceAt,Sem.run_bind,run_underlying hu,Result.andThen_ok,Instr.slice,e1,zAk hsz,Sem.run_pure]
theorem zKn {x:Option Value}{r:Option D}{k y:Nat}(hr:(r=none∧x=none)∨(∃d v,r=some d∧x=some v∧Rep ρ w d v))(hi:idxo k r=some y):
  (r=none∧x=none∧y=k)∨(r.isSome=true∧∃v,x=some v∧∀code m,y≤m→(Instr.sliceBound v m code).run P w= .ok y w):=by
 rcases hr with ⟨rfl,rfl⟩ | ⟨d,v,rfl,rfl,h⟩
 ·simp only [idxo,Option.some.injEq]at hi; exact .inl ⟨rfl,rfl,hi.symm⟩
 ·simp only [idxo]at hi
  obtain⟨kk,rfl⟩:=zBo hi h
  refine .inr ⟨rfl,_,rfl,fun code m hm=> ?_⟩
  have:(0:Int)≤(y:Int)∧(y:Int)≤(m:Int):=by omega
  simp [Instr.sliceBound,asIntOf,this]
section
variable (he:EnR ρ w lo env a.tmps)(hg:GlOk pn G ρ w)(hs:zPl ρ s w)
include he hg hs
theorem ok_ssl {t e:TypeId}{m:Nat} {x' :Operand}{x:Opd} {lo' hi' mx' :Option Operand}{l0 h0 m0:Option Opd}(hx:opd G x' =some x)(hl:opdo G lo' =some l0)(hh:opdo G hi' =some h0)(hm:opdo G mx' =some m0)
  (hu:P.underlying t=some (.slice e))(hsz:zPo P e=some (m+1))(hmh:mx'.isSome=true→hi'.isSome=true)
  (h:opF C env s al (.ssl (m+1) x l0 h0 m0)=some (d,s')){o:Oper}(ho:o.op= .slice t x' lo' hi' mx'):OpOk P ρ w env a.tmps d s' ((execOp a.eval o).run P w):=by
 simp only [opF]at h
 split at h
 ·rename_i p ra rb rc hp hra hrb hrc
  split at h
  ·rename_i y z M hy hz hM
   split at h
   ·rename_i zz l hit
    split at h
    ·rename_i hzl
     obtain⟨h1,rfl⟩:=zBu h
     have hv:=opR hx he hg hp
     have bl:=zKn (P:=P) (zJq he hg hl hra) hy
     have bh:=zKn (P:=P) (zJq he hg hh hrb) hz
     have bm:=zKn (P:=P) (zJq he hg hm hrc) hM
     have fin:∀v,(Instr.sliceAt t (a.eval x') (lo'.map a.eval) (hi'.map a.eval) (mx'.map a.eval)).run P w= .ok v w→(execOp a.eval o).run P w= .ok (.value v) w:=by
      intro v hv
      simp only [execOp,ho]
      rw [Sem.run_bind,hv]; rfl
     have bl' :(lo'.map a.eval=none∧y=0)∨(∃v,lo'.map a.eval=some v∧∀code m,y≤m→(Instr.sliceBound v m code).run P w= .ok y w):=by
      rcases bl with ⟨_,h1,h2⟩ | ⟨_,h1⟩
      ·exact .inl ⟨h1,h2⟩
      ·exact .inr h1
     cases p with
     | vs nl zz' l' =>
      simp only [items,Option.some.injEq,Prod.mk.injEq]at hit
      obtain⟨hzz,hll⟩:=hit
      subst zz' l'
      simp only [cutD]at h1
      split at h1
      ·rename_i c1 c2 c3
       simp only [Option.some.injEq]at h1; subst h1
       have c1:=Nat.le_of_ble_eq_true c1
       have c2:=Nat.le_of_ble_eq_true c2
       have c3:=Nat.le_of_ble_eq_true c3
       simp only [Rep]at hv
       have hz' :∀len,len=l.length→(hi'.map a.eval=none∧Option.getD (zBe rb z) l.length=len)∨(∃v,hi'.map a.eval=some v∧∀code m,Option.getD (zBe rb z) l.length≤m→(Instr.sliceBound v m code).run P w= .ok (Option.getD (zBe rb z) l.length) w):=by
        intro len hlen
        rcases bh with ⟨rfl,g1,g2⟩ | ⟨g0,v,g1,g2⟩
        ·exact .inl ⟨g1,by simp [zBe,hlen]⟩
        ·cases rb with
         | none=>simp at g0
         | some q=>exact .inr ⟨v,g1,by simpa [zBe] using g2⟩
       generalize Option.getD (zBe rb z) l.length=Z at *
       have hM' :∀cap,l.length≤cap→∃MM,Z≤MM∧MM≤cap∧((mx'.map a.eval=none∧MM=cap)∨((hi'.map a.eval).isSome=true∧∃v,mx'.map a.eval=some v∧∀code m,MM≤m→(Instr.sliceBound v m code).run P w= .ok MM w)):=by
        intro cap hcap
        rcases bm with ⟨rfl,g1,g2⟩ | ⟨g0,v,g1,g2⟩
        ·exact⟨cap,by simp [zBe]at c2 c3; omega,Nat.le_refl _,.inl ⟨g1,rfl⟩⟩
        ·cases rc with
         | none=>simp at g0
         | some q=>
          simp only [zBe,Option.getD_some]at c2 c3
          refine⟨M,c2,by omega,.inr ⟨?_,v,g1,g2⟩⟩
          have:mx'.isSome=true:=by cases mx' <;> simp_all
          have:=hmh this
          cases hi' <;> simp_all
       rcases hv with ⟨rfl,rfl,hv⟩ | ⟨rfl,ad,cap,hv,hle,hl2⟩
       ·obtain⟨MM,m1,m2,m3⟩:=hM' 0 (by simp)
        have hr:=zJw (P:=P) (w:=w) (p:=none) (len:=0) (cap:=0) hu hsz c1 m1 m2 m3 (hz' 0 (by simp)) bl'
        rw [fin _ (by rw [hv]; exact hr)]
        refine .rep hs ?_
        simp only [Rep]
        refine .inl ⟨trivial,by simp, ?_⟩
        have:MM=0:=by omega
        subst this
        have:Z=0:=by omega
        subst this
        simp
       ·obtain⟨MM,m1,m2,m3⟩:=hM' cap hle
        have hr:=zJw (P:=P) (w:=w) (p:=some ad) (len:=l.length) (cap:=cap) hu hsz c1 m1 m2 m3 (hz' _ rfl) bl'
        rw [fin _ (by rw [hv]; exact hr)]
        refine .rep hs ?_
        have hZl:Z≤l.length:=by
         rcases bm with ⟨rfl,_,_⟩ | ⟨g0,v,_,_⟩
         ·simpa [zBe] using c2
         ·omega
        have hlen:((l.take Z).drop y).length=Z - y:=by simp; omega
        simp only [Rep]
        refine .inr ⟨trivial, ?_⟩
        by_cases hMy:MM=y
        ·refine⟨ad,MM - y,by rw [if_pos hMy,hlen],by rw [hlen]; omega,.inl ?_⟩
         exact List.eq_nil_of_length_eq_zero (by rw [hlen]; omega)
        ·refine⟨ad.add (y * (m+1)),MM - y, ?_,by rw [hlen]; omega, ?_⟩
         ·rw [if_neg hMy,hlen]; first | rfl | simp
         ·rcases hl2 with rfl | ⟨b,q,rfl,hb,hE⟩
          ·exact .inl (by simp)
          ·by_cases hzz:l=[]
           ·subst hzz; exact .inl (by simp)
           ·have hzm:zz=m+1:=by
             simp only [Bool.or_eq_true]at hzl
             rcases hzl with hzl | hzl
             ·exact Nat.eq_of_beq_eq_true hzl
             ·split at hzl <;> simp_all
            subst hzm
            exact .inr ⟨b,q+y * (m+1),by simp [Addr.add_mid],hb,(hE.take Z).drop y⟩
      ·cases h1
     | sl ob off len cp=>
      simp only [items]at hit
      split at hit
      ·rename_i z2 ty es st hx2
       split at hit
       ·rename_i i1 i2
        simp only [Option.some.injEq,Prod.mk.injEq]at hit
        obtain⟨rfl,rfl⟩:=hit
        obtain⟨hz0,k1,_,_,hbl,hall⟩:=hs.ok _ _ hx2
        simp only [Rep,Gh.at,k1]at hv
        obtain⟨b,hb,q1,q2,q3,xx,cap,q4,q5,q6,q7⟩:=hv
        simp only [cutD]at h1
        have hz' :(hi'.map a.eval=none∧Option.getD (zBe rb z) len=len)∨(∃v,hi'.map a.eval=some v∧∀code m,Option.getD (zBe rb z) len≤m→(Instr.sliceBound v m code).run P w= .ok (Option.getD (zBe rb z) len) w):=by
         rcases bh with ⟨rfl,g1,g2⟩ | ⟨g0,v,g1,g2⟩
         ·exact .inl ⟨g1,by simp [zBe]⟩
         ·cases rb with
          | none=>simp at g0
          | some q=>exact .inr ⟨v,g1,by simpa [zBe] using g2⟩
        generalize Option.getD (zBe rb z) len=Z at *
        have key:∀MM,y≤Z→Z≤MM→MM≤cap→((mx'.map a.eval=none∧MM=cap)∨((hi'.map a.eval).isSome=true∧∃v,mx'.map a.eval=some v∧∀code m,MM≤m→(Instr.sliceBound v m code).run P w= .ok MM w))→
          ∀cp',Z≤cp' →cp' ≤MM→cp' ≤cp→z2=m+1→OpOk P ρ w env a.tmps (.sl ob (off+y) (Z - y) (cp' - y)) s' ((execOp a.eval o).run P w):=by
         intro MM hyZ hZM hMc hm3 cp' g1 g2 g3 hzm
         subst hzm
         have hr:=zJw (P:=P) (w:=w) (p:=some ⟨b,xx,none⟩) (len:=len) (cap:=cap) hu hsz hyZ hZM hMc hm3 hz' bl'
         rw [fin _ (by rw [q4]; exact hr)]
         refine .rep hs ?_
         simp only [Rep,Gh.at,k1]
         by_cases hMy:MM=y
         ·refine⟨b,hb,by omega,by omega,by omega,xx,MM - y,by rw [if_pos hMy],by omega,.inl (by omega),by omega⟩
         ·refine⟨b,hb,by omega,by omega,by omega,xx+y * (m+1),MM - y, ?_,by omega,.inr ?_,by omega⟩
          ·rw [if_neg hMy]; simp [Addr.add_mid]
          ·rcases q6 with q6 | q6
           ·omega
           ·rw [q6,show off+y - ρ.sh b=(off - ρ.sh b)+y by omega,Nat.add_mul]
        have hzm:z2=m+1:=by
         simp only [Bool.or_eq_true]at hzl
         rcases hzl with hzl | hzl
         ·exact Nat.eq_of_beq_eq_true hzl
         ·simp at hzl
        rcases bm with ⟨rfl,g1,g2⟩ | ⟨g0,v,g1,g2⟩
        ·simp only [zBe]at h1
         split at h1
         ·rename_i c1 c2
          simp only [Option.some.injEq]at h1; subst h1
          have c1:=Nat.le_of_ble_eq_true c1
          have c2:=Nat.le_of_ble_eq_true c2
          exact key cap c1 (by omega) (Nat.le_refl _) (.inl ⟨g1,rfl⟩) cp c2 q5 (Nat.le_refl _) hzm
         ·cases h1
        ·cases rc with
         | none=>simp at g0
         | some q=>
          simp only [zBe]at h1
          split at h1
          ·rename_i c1 c2 c3
           simp only [Option.some.injEq]at h1; subst h1
           have c1:=Nat.le_of_ble_eq_true c1
           have c2:=Nat.le_of_ble_eq_true c2
           have c3:=Nat.le_of_ble_eq_true c3
           have hmi:(hi'.map a.eval).isSome=true:=by
            have:mx'.isSome=true:=by cases mx' <;> simp_all
            have:=hmh this
            cases hi' <;> simp_all
           exact key M c1 c2 (by omega) (.inr ⟨hmi,v,g1,g2⟩) M c2 (Nat.le_refl _) c3 hzm
          ·cases h1
       ·cases hit
      ·cases hit
     | _=>simp [items]at hit
    ·cases h
   ·cases h
  ·cases h
 ·cases h
end
end Go.Ab
namespace Go.Ab
open Go
variable [Vals]
variable {ρ ρ' :Gh} {w w' :World}{P:Program}{pn:Pins}{G:Gl}{X:Exts}{A:Adv} {s s' :St}{env:Env}{a:Act}{lo:Nat}{d:D}{C:zAa}{al:Option Nat}
theorem zQt.kd {o:Nat}{x:Obj}(h:zQt ρ w o x):ρ.kd o≠ .fresh:=by
 cases x with
 | var ty d=>obtain ⟨_,_,h1,_⟩:=h; rw [h1]; simp
 | arr sz ty es st=>obtain ⟨_,h1,_⟩:=h; rw [h1]; simp
 | map es c=>obtain ⟨_,_,h1,_⟩:=h; rw [h1]; simp
 | siter l p=>obtain ⟨_,h1,_⟩:=h; rw [h1]; simp
 | loop k st=>obtain ⟨h1,_⟩:=h; rw [h1]; simp
 | dead=>rw [show ρ.kd o= .dead from h]; simp
theorem zQt.keep {o:Nat}{x:Obj}(hK:Kr ρ w ρ' w')(hown:∀b,ρ'.own b= .obj o↔ρ.own b= .obj o)(hkd:ρ'.kd o=ρ.kd o)
  (hb:∀b,ρ.own b= .obj o→w'.heap[b]? =w.heap[b]? ∧ρ'.sh b=ρ.sh b∧ρ'.ext b=ρ.ext b∧ρ'.cap b=ρ.cap b)(h:zQt ρ w o x):zQt ρ' w' o x:=by
 have one:∀b,ρ.one o b→ρ'.one o b:=fun b h=>⟨(hown b).2 h.1,fun b' h' =>h.2 b' ((hown b').1 h')⟩
 cases x with
 | var ty d=>
  obtain⟨b,v,h1,h2,h3,h4,h5⟩:=h
  exact⟨b,v,hkd.trans h1,one b h2,Rep.mono' hK _ _ h3,(hb b h2.1).1.trans h4,h5⟩
 | arr sz ty es st=>
  obtain⟨h0,h1,h2,⟨cur,c1,c2,c3⟩,h4,h5⟩:=h
  refine⟨h0,hkd.trans h1,h2,⟨cur,(hown _).2 c1,(hb _ c1).2.2.1.trans c2,fun b p q=>c3 b ((hown b).1 p) (by rw [← (hb _ ((hown b).1 p)).2.2.1]; exact q)⟩,fun b p=> ?_,h5⟩
  have p' :=(hown b).1 p
  obtain⟨e1,e2,e3,e4⟩:=hb b p'
  have q:=h4 b p'
  refine⟨by rw [e3]; exact q.ext,by rw [e2,e3]; exact q.sh,by rw [e2,e3,e4]; exact q.room,fun j hj=> ?_,by rw [e1]; exact q.shape,fun g i d a1 a2 a3=> ?_⟩
  ·rw [cell?_of_heap e1,frozen?_of_heap e1]; exact q.cells j (by rw [← e4]; exact hj)
  ·rw [e3]at g a2; rw [e2]at a1 ⊢
   obtain⟨v,v1,v2,v3⟩:=q.elems g i d a1 a2 a3
   exact⟨v,Rep.mono' hK _ _ v1,v2,v3.of_heap e1⟩
 | map es c=>
  obtain⟨b,ces,h1,h2,h3,h4⟩:=h
  exact⟨b,ces,hkd.trans h1,one b h2,(hb b h2.1).1.trans h3,RepM.mono' hK _ _ h4⟩
 | siter l p=>
  obtain⟨b,h1,h2,h3⟩:=h
  exact⟨b,hkd.trans h1,one b h2,(hb b h2.1).1.trans h3⟩
 | loop k st=>
  obtain⟨h1,h2,h3,h4⟩:=h
  obtain⟨e1,e2⟩:=hK.dead k h2
  exact⟨hkd.trans h1,e1,by rw [e2]; exact one _ h3,by rw [e2]; exact (hb _ h3.1).1.trans h4⟩
 | dead=>exact hkd.trans h
theorem zPl.upd (hs:zPl ρ s w)(hK:Kp ρ w ρ' w')(k:Nat)(x:Obj)
  (hown:∀b o,o≠k→ρ.kd o≠ .dead→(ρ'.own b= .obj o↔ρ.own b= .obj o))(hkd:∀o,o≠k→ρ'.kd o=ρ.kd o)
  (hb:∀b o,o≠k→ρ.kd o≠ .dead→ρ.own b= .obj o→w'.heap[b]? =w.heap[b]? ∧ρ'.sh b=ρ.sh b∧ρ'.ext b=ρ.ext b∧ρ'.cap b=ρ.cap b)
  (hx:zQt ρ' w' k x)(hsz:∀b,w'.heap.size≤b→ρ'.own b= .imm)
  (hn:k < s'.n)(hnn:s.n≤s'.n)(hget:∀o,s'.get o=if o=k then some x else s.get o):zPl ρ' s' w' :=by
 refine⟨fun o y hy=> ?_,fun o y hy=> ?_,fun o hy=> ?_,fun b o hbo=> ?_,hsz⟩
 ·rw [hget]at hy
  split at hy
  ·rename_i h; rw [h]; exact hn
  ·exact Nat.lt_of_lt_of_le (hs.lt o y hy) hnn
 ·rw [hget]at hy
  split at hy
  ·rename_i h; simp only [Option.some.injEq]at hy; subst hy; rw [h]; exact hx
  ·rename_i h
   have h0:=hs.ok o y hy
   by_cases hd:ρ.kd o= .dead
   ·have hd' :ρ'.kd o= .dead:=(hkd o h).trans hd
    cases y with
    | dead=>exact hd'
    | var ty d=>obtain ⟨_,_,h1,_⟩:=h0; rw [h1]at hd; cases hd
    | arr sz ty es st=>obtain ⟨_,h1,_⟩:=h0; rw [h1]at hd; cases hd
    | map es c=>obtain ⟨_,_,h1,_⟩:=h0; rw [h1]at hd; cases hd
    | siter l p=>obtain ⟨_,h1,_⟩:=h0; rw [h1]at hd; cases hd
    | loop k st=>obtain ⟨h1,_⟩:=h0; rw [h1]at hd; cases hd
   ·exact h0.keep hK.r (fun b=>hown b o h hd) (hkd o h) (fun b=>hb b o h hd)
 ·rw [hget]at hy
  split at hy
  ·cases hy
  ·rename_i h; rw [hkd o h]; exact hs.no o hy
 ·by_cases h:o=k
  ·rw [h]; exact hx.kd
  ·rw [hkd o h]
   by_cases hd:ρ.kd o= .dead
   ·rw [hd]; simp
   ·exact hs.live b o ((hown b o h hd).1 hbo)
theorem zPl.keep (hs:zPl ρ s w)(hK:Kr ρ w ρ' w')(hown:∀b o,ρ'.own b= .obj o↔ρ.own b= .obj o)(hkd:ρ'.kd=ρ.kd)
  (hb:∀b o,ρ.own b= .obj o→w'.heap[b]? =w.heap[b]? ∧ρ'.sh b=ρ.sh b∧ρ'.ext b=ρ.ext b∧ρ'.cap b=ρ.cap b)
  (hsz:∀b,w'.heap.size≤b→ρ'.own b= .imm):zPl ρ' s w' :=
 ⟨hs.lt,fun o y hy=>(hs.ok o y hy).keep hK (fun b=>hown b o) (by rw [hkd]) (fun b=>hb b o),fun o ho=>by rw [hkd]; exact hs.no o ho,fun b o h=>by rw [hkd]; exact hs.live b o ((hown b o).1 h),hsz⟩
theorem St.get_set0 (s:St)(k:Nat)(x:Obj)(o:Nat):(s.set0 k x).get o=if o=k then some x else s.get o:=by
 simp only [St.get,St.set0,T.get_set]
theorem St.get_push0 (s:St)(x:Obj)(o:Nat):(s.push0 x).get o=if o=s.n then some x else s.get o:=by
 simp only [St.get,St.push0,T.get_set]
theorem St.set_some {o:Nat}{x:Obj}(h:s.set o x=some s'):s' =s.set0 o x:=by
 unfold St.set at h
 split at h
 ·cases h
 ·split at h
  ·cases h
  ·simpa using h.symm
theorem yBc (hs:zPl ρ s w){k:Nat}{x:Obj}(h:s.mk' al x=some (k,s')):s.get k=none∧k < s'.n∧s.n≤s'.n∧(∀o,s'.get o=if o=k then some x else s.get o):=by
 unfold St.mk' at h
 split at h
 ·cases h
 ·split at h
  ·simp only [Option.some.injEq,Prod.mk.injEq]at h
   obtain⟨rfl,rfl⟩:=h
   refine⟨?_,by simp [St.push0],by simp [St.push0],St.get_push0 s x⟩
   cases hg:s.get s.n with
   | none=>rfl
   | some y=>exact absurd (hs.lt _ _ hg) (Nat.lt_irrefl _)
  ·split at h
   ·rename_i hg
    split at h
    ·rename_i hlt
     simp only [Option.some.injEq,Prod.mk.injEq]at h
     obtain⟨rfl,rfl⟩:=h
     exact⟨hg,Nat.le_of_ble_eq_true hlt,Nat.le_refl _,St.get_set0 s _ x⟩
    ·cases h
   ·cases h
def Gh.new (ρ:Gh)(b k sz ex cp:Nat):Gh:=
 {own:=fun x=>if x=b then .obj k else ρ.own x
  sh:=fun x=>if x=b then 0 else ρ.sh x
  ext:=fun x=>if x=b then ex else ρ.ext x
  cap:=fun x=>if x=b then cp else ρ.cap x
  kd:=fun o=>if o=k then .live sz else ρ.kd o
  lp:=ρ.lp}
theorem zAy {ob:Go.Obj}(hh:w'.heap=w.heap.push ob){b:Nat}(hb:b < w.heap.size):w'.heap[b]? =w.heap[b]? :=by
 rw [hh,Array.getElem?_push]; simp; omega
theorem zCu {ob:Go.Obj}(hh:w'.heap=w.heap.push ob):w'.heap[w.heap.size]? =some ob:=by
 rw [hh]; simp
theorem zPl.own_lt (hs:zPl ρ s w){b o:Nat}(h:ρ.own b= .obj o):b < w.heap.size:=by
 rcases Nat.lt_or_ge b w.heap.size with hb | hb
 ·exact hb
 ·rw [hs.size b hb]at h; cases h
theorem new_kp (hs:zPl ρ s w){k:Nat}(hk:s.get k=none)(sz ex cp:Nat){ob:Go.Obj}(hh:w'.heap=w.heap.push ob)(ho:w'.os=w.os)(ht:w'.tape=w.tape)(hu:w'.output=w.output):
  Kp ρ w (ρ.new w.heap.size k sz ex cp) w' :=by
 have hf:=hs.no k hk
 refine⟨ho,ht,hu,by rw [hh]; simp,fun b hb _=>⟨zAy hh hb, ?_⟩,fun o h=> ?_,fun o z h=> .inr ⟨?_,fun b hb=> ?_⟩⟩
 ·simp only [Gh.new]; rw [if_neg (by omega)]
 ·simp only [Gh.new]; split
  ·rename_i e; rw [e,hf]at h; cases h
  ·exact⟨h,trivial⟩
 ·simp only [Gh.new]; split
  ·rename_i e; rw [e,hf]at h; cases h
  ·exact h
 ·have:=hs.own_lt hb
  simp only [Gh.new,if_neg (show ¬ b=w.heap.size by omega)]
  exact⟨hb,trivial,Nat.le_refl _,trivial⟩
theorem new_one (hs:zPl ρ s w){k:Nat}(hk:s.get k=none)(sz ex cp:Nat):(ρ.new w.heap.size k sz ex cp).one k w.heap.size:=by
 refine⟨by simp [Gh.new],fun b hb=> ?_⟩
 simp only [Gh.new]at hb
 split at hb
 ·assumption
 ·exact absurd (hs.no k hk) (hs.live _ _ hb)
theorem zOl (hs:zPl ρ s w){k:Nat}{x:Obj}(hm:s.mk' al x=some (k,s'))(sz ex cp:Nat){ob:Go.Obj}(hh:w'.heap=w.heap.push ob)(ho:w'.os=w.os)(ht:w'.tape=w.tape)(hu:w'.output=w.output)
  (hx:Kp ρ w (ρ.new w.heap.size k sz ex cp) w' →(ρ.new w.heap.size k sz ex cp).one k w.heap.size→w'.heap[w.heap.size]? =some ob→zQt (ρ.new w.heap.size k sz ex cp) w' k x):
  Kp ρ w (ρ.new w.heap.size k sz ex cp) w' ∧zPl (ρ.new w.heap.size k sz ex cp) s' w' ∧(ρ.new w.heap.size k sz ex cp).own w.heap.size= .obj k∧(ρ.new w.heap.size k sz ex cp).kd k= .live sz:=by
 obtain⟨h1,h2,h3,h4⟩:=yBc hs hm
 have hK:=new_kp (w' :=w') hs h1 sz ex cp hh ho ht hu
 have hone:=new_one hs h1 sz ex cp
 refine⟨hK,hs.upd hK k x (fun b o hne _=> ?_) (fun o hne=> ?_) (fun b o hne _ hb=> ?_) (hx hK hone (zCu hh)) (fun b hb=> ?_) h2 h3 h4,hone.1,by simp [Gh.new]⟩
 ·simp only [Gh.new]; split
  ·rename_i e
   subst e
   rw [hs.size _ (Nat.le_refl _)]
   simp; exact fun e=>hne e.symm
  ·rfl
 ·simp only [Gh.new]; rw [if_neg hne]
 ·have:=hs.own_lt hb
  simp only [Gh.new,if_neg (show ¬ b=w.heap.size by omega)]
  exact⟨zAy hh this,trivial,trivial,trivial⟩
 ·rw [hh]at hb; simp at hb
  simp only [Gh.new,if_neg (show ¬ b=w.heap.size by omega)]
  exact hs.size b (by omega)
def RepC (ρ:Gh)(w:World)(sz:Nat):List D→List Value→Prop
 | [],vs=>vs=[]
 | d::l,vs=>∃v r,vs=v.cells.toList++r∧Rep ρ w d v∧v.cells.size=sz∧d.st=true∧RepC ρ w sz l r
theorem RepC.mono (hK:Kp ρ w ρ' w'){sz:Nat}:∀ {l:List D} {vs:List Value},RepC ρ w sz l vs→RepC ρ' w' sz l vs
 | [],_,h=>h
 | d::l,_,h=>by
  obtain⟨v,r,h1,h2,h3,h4,h5⟩:=h
  exact⟨v,r,h1,h2.mono hK,h3,h4,RepC.mono hK h5⟩
theorem RepC.length {sz:Nat}:∀ {l:List D} {vs:List Value},RepC ρ w sz l vs→vs.length=l.length * sz
 | [],_,h=>by simp only [RepC]at h; subst h; simp
 | d::l,_,h=>by
  obtain⟨v,r,rfl,h2,h3,h4,h5⟩:=h
  simp [RepC.length h5,h3,Nat.add_mul]; omega
theorem RepC.append {sz:Nat}:∀ {l l' :List D} {vs vs' :List Value},RepC ρ w sz l vs→RepC ρ w sz l' vs' →RepC ρ w sz (l++l') (vs++vs')
 | [],_,_,_,h,h' =>by simp only [RepC]at h; subst h; exact h'
 | d::l,_,_,_,h,h' =>by
  obtain⟨v,r,rfl,h2,h3,h4,h5⟩:=h
  exact⟨v,_,by simp,h2,h3,h4,RepC.append h5 h'⟩
theorem RepC.one {sz:Nat}{l:List D}{vs:List Value}:∀(_:RepC ρ w sz l vs),∀u∈vs,u.oneCell' =true:=by
 induction l generalizing vs with
 | nil=>intro h u hu; simp only [RepC]at h; subst h; cases hu
 | cons d l ih=>
  rintro⟨v,r,rfl,h2,h3,h4,h5⟩ u hu
  rcases List.mem_append.1 hu with hu | hu
  ·exact (h2.flat h4).2 u hu
  ·exact ih h5 u hu
theorem RepC.single {d:D}{v:Value}{sz:Nat}(h:Rep ρ w d v)(hz:v.cells.size=sz)(hs:d.st=true):RepC ρ w sz [d] v.cells.toList:=⟨v,[],by simp,h,hz,hs,rfl⟩
theorem RepC.allSz {sz:Nat}:∀ {l:List D} {vs:List Value},RepC ρ w sz l vs→allSz sz l=true
 | [],_,_=>rfl
 | d::l,_,h=>by
  obtain⟨v,r,rfl,h2,h3,h4,h5⟩:=h
  have:=h2.size h4
  simp [Ab.allSz,h4,RepC.allSz h5,← this,h3]
theorem RepE.row {sz b:Nat}:∀ {l:List D} {x:Nat},RepE ρ w sz b x l→∃vs,RepC ρ w sz l vs∧w.rangeAt b x vs
 | [],x,_=>⟨[],rfl,fun j v h=>by simp at h⟩
 | d::l,x,h=>by
  simp only [RepE]at h
  obtain⟨⟨v,h1,h2,h3,h4,h5⟩,h6⟩:=h
  obtain⟨r,g1,g2⟩:=RepE.row h6
  refine⟨v.cells.toList++r,⟨v,r,rfl,h1,h2,h5,g1⟩,fun j u hj=> ?_⟩
  rcases Nat.lt_or_ge j v.cells.size with hlt | hge
  ·rw [List.getElem?_append_left (by simpa using hlt)]at hj
   exact zCy h4 j u hj
  ·rw [List.getElem?_append_right (by simpa using hge)]at hj
   have:=g2 _ u hj
   simp only [Array.length_toList]at this
   rwa [show x+sz+(j - v.cells.size)=x+j by omega]at this
theorem RepC.get {sz b:Nat}:∀ {l:List D} {x:Nat} {vs:List Value},RepC ρ w sz l vs→w'.rangeAt b x vs→∀(i:Nat) (d:D),l[i]? =some d→∃v,Rep ρ w d v∧v.cells.size=sz∧CeA w' b (x+i * sz) v∧d.st=true
 | [],_,_,_,_,i,d,hi=>by simp at hi
 | e::l,x,_,h,hr,i,d,hi=>by
  obtain⟨v,r,rfl,h2,h3,h4,h5⟩:=h
  cases i with
  | zero=>
   simp at hi; subst hi
   refine⟨v,h2,h3, ?_,h4⟩
   refine zIs fun j u hj=> ?_
   have hlt:j < v.cells.toList.length:=(List.getElem?_eq_some_iff.1 hj).1
   simpa using hr j u (by rw [List.getElem?_append_left hlt]; exact hj)
  | succ i=>
   simp at hi
   have hr' :w'.rangeAt b (x+sz) r:=fun j u hj=>by
    have:=hr (v.cells.size+j) u (by rw [List.getElem?_append_right (by simp)]; simpa using hj)
    rwa [show x+sz+j=x+(v.cells.size+j) by omega]
   obtain⟨u,q1,q2,q3,q4⟩:=RepC.get h5 hr' i d hi
   exact⟨u,q1,q2,by rwa [show x+(i+1) * sz=x+sz+i * sz by rw [Nat.add_mul]; omega],q4⟩
theorem zHh {α:Type}:∀(l:List α) (n:Nat) (c:α) (r:List α),n < l.length→over l n (c::r)=over (l.set n c) (n+1) r
 | [],n,_,_,h=>by simp at h
 | x::l,0,c,r,_=>by cases l <;> simp [over]
 | x::l,n+1,c,r,h=>by simp only [over,List.set_cons_succ]; rw [zHh l n c r (by simpa using h)]
theorem zDr {α:Type}:∀(l:List α) (n:Nat),over l n []=l
 | [],0=>rfl
 | [],n+1=>rfl
 | x::l,0=>by simp [over]
 | x::l,n+1=>by simp only [over]; rw [zDr l n]
theorem zBr {α:Type}:∀(l:List α) (n:Nat) (v:List α),n+v.length≤l.length→(over l n v).length=l.length
 | [],0,v,h=>by simp at h; subst h; simp [over]
 | [],n+1,v,_=>by simp [over]
 | x::l,0,v,h=>by simp [over]at *; omega
 | x::l,n+1,v,h=>by simp only [over,List.length_cons]at *; rw [zBr l n v (by omega)]
theorem zEl {α:Type}:∀(l:List α) (n:Nat) (v:List α),n≤l.length→over l n v=l.take n++v++l.drop (n+v.length)
 | l,0,v,_=>by cases l <;> simp [over]
 | [],n+1,v,h=>by simp at h
 | x::l,n+1,v,h=>by
  simp only [over]; rw [zEl l n v (by simpa using h)]
  simp [show n+1+v.length=(n+v.length)+1 by omega]
theorem RepL.over {cs ds:List D}{vs us:List Value}(h:RepL ρ w cs vs) (h' :RepL ρ w ds us){n:Nat}(hn:n≤cs.length):RepL ρ w (over cs n ds) (over vs n us):=by
 rw [zEl _ _ _ hn,zEl _ _ _ (by rw [← h.length]; exact hn),h'.length]
 exact ((h.take n).append h').append (h.drop _)
theorem zTd {cs ds:List D}(h:cs.all D.sc=true) (h' :ds.all D.sc=true){n:Nat}(hn:n≤cs.length):(over cs n ds).all D.sc=true:=by
 rw [zEl _ _ _ hn]
 simp only [List.all_append,Bool.and_eq_true]
 exact⟨⟨List.all_eq_true.2 fun x hx=>List.all_eq_true.1 h x (List.mem_of_mem_take hx),h'⟩,List.all_eq_true.2 fun x hx=>List.all_eq_true.1 h x (List.mem_of_mem_drop hx)⟩
theorem zKg (off:Nat):∀(us:List Value) (k:Nat) (cells:Array Value),off+k+us.length≤cells.size→
  (List.foldl (fun (cs:Array Value) (x:Value×Nat)=>cs.setIfInBounds (off+x.2) x.1) cells (us.zipIdx k)).toList=over cells.toList (off+k) us
 | [],k,cells,_=>by simp [zDr]
 | u::us,k,cells,h=>by
  simp only [List.length_cons]at h
  simp only [List.zipIdx_cons,List.foldl_cons]
  rw [zKg off us (k+1) _ (by simp; omega),zHh _ _ _ _ (by simp; omega)]
  simp [Nat.add_assoc]
def zJh (G:Gl)(place:Nat→Option (Nat×Nat)):List (Nat×Operand)→List (Nat×Nat×Opd)→Prop
 | [],[]=>True
 | (i,x)::r,(o,z,y)::q=>place i=some (o,z)∧opd G x=some y∧zJh G place r q
 | _,_=>False
theorem yBl (he:EnR ρ w lo env a.tmps)(hg:GlOk pn G ρ w){place:Nat→Option (Nat×Nat)}:∀(ps' :List (Nat×Operand)) (ps:List (Nat×Nat×Opd)) (l:List (Nat×Nat×D)) (cs:List D) (vs:Array Value) (cs' :List D),
  zJh G place ps' ps→zFd env ps=some l→RepL ρ w cs vs.toList→cs.all D.sc=true→zZg cs l=some cs' →
  ∃vs',Instr.fill place vs (ps'.map fun p=>(p.1,a.eval p.2))=some vs' ∧RepL ρ w cs' vs'.toList∧cs'.all D.sc=true
 | [],[],l,cs,vs,cs',_,h1,h2,h3,h4=>by
  simp only [zFd,Option.some.injEq]at h1; subst h1
  simp only [zZg,Option.some.injEq]at h4; subst h4
  exact⟨vs,by simp [Instr.fill],h2,h3⟩
 | [],_::_,_,_,_,_,h,_,_,_,_=>h.elim
 | _::_,[],_,_,_,_,h,_,_,_,_=>h.elim
 | (i,x)::r,(o,z,y)::q,l,cs,vs,cs',⟨p1,p2,p3⟩,h1,h2,h3,h4=>by
  simp only [zFd]at h1
  split at h1
  ·rename_i d hd
   split at h1
   ·rename_i l' hl'
    simp only [Option.some.injEq]at h1; subst h1
    simp only [zZg]at h4
    split at h4
    ·rename_i e1 e2
     split at h4
     ·rename_i e3
      have hv:=opR p2 he hg hd
      have hz:=Nat.eq_of_beq_eq_true e1
      have hle:=Nat.le_of_ble_eq_true e3
      have hsz:=hv.size e2
      have hlen:=h2.length
      simp only [Array.length_toList]at hlen
      have hf:=hv.flat e2
      have hfo:=zKg o (a.eval x).cells.toList 0 vs (by simp; omega)
      simp only [Nat.add_zero]at hfo
      have hc: ¬ ((a.eval x).cells.size≠z∨o+(a.eval x).cells.size > vs.size):=by omega
      obtain⟨vs',g1,g2,g3⟩:=yBl he hg r q l' (over cs o d.flat) (List.foldl (fun (cs:Array Value) (x:Value×Nat)=>cs.setIfInBounds (o+x.2) x.1) vs ((a.eval x).cells.toList.zipIdx 0)) cs' p3 hl'
       (by rw [hfo]; exact h2.over hf.1 (by omega)) (zTd h3 (D.st_flat e2) (by omega)) h4
      refine⟨vs', ?_,g2,g3⟩
      simp only [List.map_cons,Instr.fill,p1]
      rw [if_neg (by simpa using hc)]
      rw [← g1]
      congr 1
      rw [← Array.foldl_toList,Array.toList_zipIdx]
     ·cases h4
    ·cases h4
   ·cases h1
  ·cases h1
end Go.Ab
