/- Part. -/
import Derived.Test.YtmcdajnpdekocaaGreatDoorG08
set_option linter.unusedSectionVars false
set_option linter.unusedSimpArgs false
set_option linter.unusedVariables false
namespace Go.Ab
open Go
variable [Vals]
variable {ρ ρ' :Gh} {w w' :World}{P:Program}{pn:Pins}{G:Gl}{X:Exts}{A:Adv} {s s' :St}{env:Env}{a:Act}{lo:Nat}{d:D}{C:zAa}{al:Option Nat}
theorem RepM.modify {f:Nat×D×D→Nat×D×D} {f' :MapEntry→MapEntry}
  (hf:∀(x:Nat×D×D) (e:MapEntry),e.born=x.1→Rep ρ w x.2.1 e.key→Rep ρ w x.2.2 e.val→(f' e).born=(f x).1∧Rep ρ w (f x).2.1 (f' e).key∧Rep ρ w (f x).2.2 (f' e).val):
  ∀ {es:List (Nat×D×D)} {ces:List MapEntry} (i:Nat),RepM ρ w es ces→RepM ρ w (setAt es i f) (ces.modify i f')
 | [],_,i,h=>by simp only [RepM]at h; subst h; simp [setAt,RepM]
 | (n,k,v)::es,_,i,h=>by
  simp only [RepM]at h
  obtain⟨e,r,rfl,h1,h2,h3,h4⟩:=h
  cases i with
  | zero=>
   obtain⟨g1,g2,g3⟩:=hf (n,k,v) e h1 h2 h3
   simp only [setAt,List.modify_zero_cons]
   rw [show f (n,k,v)=((f (n,k,v)).1,(f (n,k,v)).2.1,(f (n,k,v)).2.2) from rfl]
   simp only [RepM]
   exact⟨_,_,rfl,g1,g2,g3,h4⟩
  | succ i=>
   simp only [setAt,List.modify_succ_cons,RepM]
   exact⟨e,_,rfl,h1,h2,h3,RepM.modify hf i h4⟩
theorem RepM.snoc {c:Nat}{k v:D}{e:MapEntry}(h1:e.born=c)(h2:Rep ρ w k e.key)(h3:Rep ρ w v e.val):∀ {es:List (Nat×D×D)} {ces:List MapEntry},RepM ρ w es ces→RepM ρ w (es++ [(c,k,v)]) (ces++ [e])
 | [],_,h=>by simp only [RepM]at h; subst h; simp only [List.nil_append,RepM]; exact ⟨e,[],rfl,h1,h2,h3,rfl⟩
 | (n,k',v')::es,_,h=>by
  simp only [RepM]at h
  obtain⟨e',r,rfl,g1,g2,g3,g4⟩:=h
  simp only [List.cons_append,RepM]
  exact⟨e',_,rfl,g1,g2,g3,RepM.snoc h1 h2 h3 g4⟩
theorem RepM.get:∀ {es:List (Nat×D×D)} {ces:List MapEntry} {i:Nat} {x:Nat×D×D},RepM ρ w es ces→es[i]? =some x→∃e,ces[i]? =some e∧e.born=x.1∧Rep ρ w x.2.1 e.key∧Rep ρ w x.2.2 e.val
 | [],_,i,x,h,hi=>by simp at hi
 | (n,k,v)::es,_,i,x,h,hi=>by
  simp only [RepM]at h
  obtain⟨e,r,rfl,h1,h2,h3,h4⟩:=h
  cases i with
  | zero=>simp at hi; subst hi; exact ⟨e,by simp,h1,h2,h3⟩
  | succ i=>simp at hi; simpa using RepM.get h4 hi
theorem zCb {b c:Nat}{ces:Array MapEntry}(hb:w.heap[b]? =some (.map ces c)):(getObj b).run P w= .ok (.map ces c) w:=by simp [getObj,Sem.run,hb]
theorem zCa {b c:Nat}{ces:Array MapEntry}(ob:Go.Obj)(hb:w.heap[b]? =some (.map ces c)):(setObj b ob).run P w= .ok () { w with heap:=w.heap.setIfInBounds b ob}:=by simp [setObj,Sem.run,hb]
theorem zLw {k k' :D} {u u' :Value}(h:zZd k k' =true)(h1:Rep ρ w k u)(h2:Rep ρ w k' u'):(Instr.keyThatStays u u').run P w= .ok u' w:=by
 have:Instr.sameBits 10000 u u' =true:=by
  unfold zZd at h
  split at h
  ·simp only [Rep]at h1 h2; subst h1 h2; simpa [Instr.sameBits] using h
  ·simp only [Rep]at h1 h2; subst h1 h2; simpa [Instr.sameBits] using h
  ·simp only [Rep]at h1 h2; subst h1 h2
   simp only [beq_iff_eq]at h
   subst h
   simp only [Instr.sameBits]
   rw [beq_toListBytes]; simp
  ·cases h
 simp [Instr.keyThatStays,this]
theorem zKy {b:Int}:∀ {es:List (Nat×D×D)} {ces:List MapEntry} {k i:Nat},RepM ρ w es ces→zHd b es k=some i→∃m,i=k+m∧ces.findIdx? (fun e=>(e.born:Int)==b)=some m
 | [],_,k,i,h,hf=>by simp [zHd]at hf
 | (n,q,v)::es,_,k,i,h,hf=>by
  simp only [RepM]at h
  obtain⟨e,r,rfl,h1,h2,h3,h4⟩:=h
  simp only [zHd]at hf
  split at hf
  ·rename_i hn
   simp only [Option.some.injEq]at hf
   refine⟨0,by omega, ?_⟩
   rw [List.findIdx?_cons,h1]; simp [hn]
  ·rename_i hn
   obtain⟨m,g1,g2⟩:=zKy h4 hf
   refine⟨m+1,by omega, ?_⟩
   rw [List.findIdx?_cons,h1,g2]; simp [hn]
section
variable (he:EnR ρ w lo env a.tmps)(hg:GlOk pn G ρ w)(hs:zPl ρ s w)
include he hg hs
omit he hg in
theorem zCt {o b c c' :Nat} {es es' :List (Nat×D×D)} {ces ces' :Array MapEntry}(hob:s.get o=some (.map es c))(k1:ρ.kd o= .live 1)(one:ρ.one o b)(hb:w.heap[b]? =some (.map ces c))(hM:RepM ρ w es' ces'.toList)
  (hset:s.set o (.map es' c')=some s'):Kp ρ w ρ { w with heap:=w.heap.setIfInBounds b (.map ces' c')}∧zPl ρ s' { w with heap:=w.heap.setIfInBounds b (.map ces' c')}:=
 zHe hs hset one.1 (hs.lt _ _ hob) (fun _ h=>zKw h) (by simp) rfl rfl rfl fun hK=>⟨b,ces',k1,one,zKx (zNc hb),hM.mono hK⟩
theorem yBa {t q e:TypeId}{et:ET} {m' k' v' :Operand}{m k v:Opd}(hm:opd G m' =some m)(hk:opd G k' =some k)(hv:opd G v' =some v)(hu:P.underlying t=some (.map q e))(het:etB P 8 q=some et)
  (h:opF C env s al (.mupd et m k v)=some (d,s')){o:Oper}(ho:o.op= .mapUpdate t m' k' v' ∨o.op= .insert t m' k' v'):OpOk P ρ w env a.tmps d s' ((execOp a.eval o).run P w):=by
 have fin:∀w',(Instr.mapUpdate t (a.eval m') (a.eval k') (a.eval v')).run P w= .ok () w' →(execOp a.eval o).run P w= .ok .skip w' :=by
  intro w' hw
  rcases ho with ho | ho <;> · simp only [execOp,ho]; rw [Sem.run_bind,hw]; rfl
 simp only [opF]at h
 split at h
 ·rename_i ob dk dv hdm hdk hdv
  split at h
  ·cases h
  ·rename_i hkd
   split at h
   ·rename_i es c hob
    have hmv:=opR hm he hg hdm
    have hkv:=opR hk he hg hdk
    have hvv:=opR hv he hg hdv
    have hck:∀em,(Instr.checkKey em 10000 q (a.eval k')).run P w= .ok () w:=fun em=>zEv em 8 q et het 10000 (by decide) dk _ hkd hkv
    obtain⟨b,ces,k1,one,hb,hM⟩:=hs.ok _ _ hob
    simp only [Rep,Gh.at,k1]at hmv
    obtain⟨b',hb',hmv⟩:=hmv
    obtain rfl:=one.2 _ hb'
    split at h
    ·rename_i i v0 hf
     split at h
     ·rename_i n0 k0 v1 hei
      split at h
      ·rename_i hsk
       obtain⟨h1,rfl⟩:=zBd h
       obtain⟨r',g1,g2⟩:=zCn (P:=P) het hkv hM hf
       obtain⟨u0,rfl,g3⟩:=g2
       obtain⟨ent,e1,e2,e3,e4⟩:=hM.get hei
       have e1' :ces[i]? =some ent:=by simpa using e1
       have hkey:=zLw (P:=P) hsk e3 hkv
       obtain⟨n1,n2⟩:=zCt (ces' :=ces.modify i fun e=> { e with key:=a.eval k',val:=a.eval v' }) hs hob k1 one hb (by
        rw [Array.toList_modify]
        exact hM.modify (f:=fun x=>(x.1,dk,dv)) (f' :=fun e=> { e with key:=a.eval k',val:=a.eval v' }) (fun x e q1 q2 q3=>⟨q1,hkv,hvv⟩) i) h1
       have hr:(Instr.mapUpdate t (a.eval m') (a.eval k') (a.eval v')).run P w= .ok () { w with heap:=w.heap.setIfInBounds b' (.map (ces.modify i fun e=> { e with key:=a.eval k',val:=a.eval v' }) c)}:=by
        unfold Instr.mapUpdate
        rw [Sem.run_bind,run_underlying hu]
        simp [hmv,zCb hb,hck,g1,e1',hkey,zCa _ hb]
       rw [fin _ hr]
       exact⟨ρ,n1,n2,rfl⟩
      ·cases h
     ·cases h
    ·rename_i hf
     obtain⟨h1,rfl⟩:=zBd h
     obtain⟨r',g1,g2⟩:=zCn (P:=P) het hkv hM hf
     simp only [Found]at g2; subst g2
     obtain⟨n1,n2⟩:=zCt (ces' :=ces.push { key:=a.eval k',val:=a.eval v',born:=c}) hs hob k1 one hb (by
      rw [Array.toList_push]
      exact RepM.snoc (e:= { key:=a.eval k',val:=a.eval v',born:=c}) rfl hkv hvv hM) h1
     have hr:(Instr.mapUpdate t (a.eval m') (a.eval k') (a.eval v')).run P w= .ok () { w with heap:=w.heap.setIfInBounds b' (.map (ces.push { key:=a.eval k',val:=a.eval v',born:=c}) (c+1))}:=by
      unfold Instr.mapUpdate
      rw [Sem.run_bind,run_underlying hu]
      simp [hmv,zCb hb,hck,g1,zCa _ hb]
     rw [fin _ hr]
     exact⟨ρ,n1,n2,rfl⟩
    ·cases h
   ·cases h
 ·cases h
theorem yFf {t q e:TypeId}{et:ET}{z:D} {m' k' :Operand}{m k:Opd}(hm:opd G m' =some m)(hk:opd G k' =some k)(hu:P.underlying t=some (.map q e))(het:etB P 8 q=some et)(hz:zPu P e=some z)
  (h:opF C env s al (.mentry et z m k)=some (d,s')){o:Oper}(ho:o.op= .mapEntry t m' k'):OpOk P ρ w env a.tmps d s' ((execOp a.eval o).run P w):=by
 have fin:∀u w',(Instr.mapEntry t (a.eval m') (a.eval k')).run P w= .ok u w' →(execOp a.eval o).run P w= .ok (.value u) w' :=by
  intro u w' hw
  simp only [execOp,ho]; rw [Sem.run_bind,hw]; rfl
 simp only [opF]at h
 split at h
 ·rename_i ob dk hdm hdk
  split at h
  ·cases h
  ·rename_i hkd
   split at h
   ·rename_i es c hob
    have hmv:=opR hm he hg hdm
    have hkv:=opR hk he hg hdk
    have hck:∀em,(Instr.checkKey em 10000 q (a.eval k')).run P w= .ok () w:=fun em=>zEv em 8 q et het 10000 (by decide) dk _ hkd hkv
    obtain⟨b,ces,k1,one,hb,hM⟩:=hs.ok _ _ hob
    simp only [Rep,Gh.at,k1]at hmv
    obtain⟨b',hb',hmv⟩:=hmv
    obtain rfl:=one.2 _ hb'
    split at h
    ·rename_i i v0 hf
     split at h
     ·rename_i n0 k0 v1 hei
      split at h
      ·rename_i hsk
       obtain⟨h1,rfl⟩:=zBd h
       obtain⟨r',g1,g2⟩:=zCn (P:=P) het hkv hM hf
       obtain⟨u0,rfl,g3⟩:=g2
       obtain⟨ent,e1,e2,e3,e4⟩:=hM.get hei
       have e1' :ces[i]? =some ent:=by simpa using e1
       have hkey:=zLw (P:=P) hsk e3 hkv
       obtain⟨n1,n2⟩:=zCt (ces' :=ces.modify i fun e=> { e with key:=a.eval k' }) hs hob k1 one hb (by
        rw [Array.toList_modify]
        exact hM.modify (f:=fun x=>(x.1,dk,x.2.2)) (f' :=fun e=> { e with key:=a.eval k' }) (fun x e q1 q2 q3=>⟨q1,hkv,q3⟩) i) h1
       have hr:(Instr.mapEntry t (a.eval m') (a.eval k')).run P w= .ok (.tuple #[u0,goInt n0]) { w with heap:=w.heap.setIfInBounds b' (.map (ces.modify i fun e=> { e with key:=a.eval k' }) c)}:=by
        unfold Instr.mapEntry
        rw [Sem.run_bind,run_underlying hu]
        simp [hmv,zCb hb,hck,g1,e1',hkey,zCa _ hb,e2]
       rw [fin _ _ hr]
       refine .val n1 n2 ?_
       simp [Rep,RepL,goI,goInt,g3.mono n1]
      ·cases h
     ·cases h
    ·rename_i hf
     obtain⟨h1,rfl⟩:=zBd h
     obtain⟨r',g1,g2⟩:=zCn (P:=P) het hkv hM hf
     simp only [Found]at g2; subst g2
     obtain⟨zv,z1,z2,z3⟩:=zCi (w:=w) hz
     have hzv:=zCg (ρ:=ρ) (w:=w) zv z z2
     obtain⟨n1,n2⟩:=zCt (ces' :=ces.push { key:=a.eval k',val:=zv,born:=c}) hs hob k1 one hb (by
      rw [Array.toList_push]
      exact RepM.snoc (e:= { key:=a.eval k',val:=zv,born:=c}) rfl hkv hzv hM) h1
     have hr:(Instr.mapEntry t (a.eval m') (a.eval k')).run P w= .ok (.tuple #[zv,goInt c]) { w with heap:=w.heap.setIfInBounds b' (.map (ces.push { key:=a.eval k',val:=zv,born:=c}) (c+1))}:=by
      unfold Instr.mapEntry
      rw [Sem.run_bind,run_underlying hu]
      simp [hmv,zCb hb,hck,g1,z1,zCa _ hb]
     rw [fin _ _ hr]
     refine .val n1 n2 ?_
     simp [Rep,RepL,goI,goInt,hzv.mono n1]
    ·cases h
   ·cases h
 ·cases h
theorem zYa {t:TypeId} {m' k' v' :Operand}{m k v:Opd}(hm:opd G m' =some m)(hk:opd G k' =some k)(hv:opd G v' =some v)
  (h:opF C env s al (.mestore m k v)=some (d,s')){o:Oper}(ho:o.op= .entryStore t m' k' v'):OpOk P ρ w env a.tmps d s' ((execOp a.eval o).run P w):=by
 simp only [opF]at h
 split at h
 ·rename_i ob kk n dv hdm hdk hdv
  split at h
  ·rename_i es c hob
   split at h
   ·rename_i i hfb
    obtain⟨h1,rfl⟩:=zBd h
    have hmv:=opR hm he hg hdm
    have hkv:=opR hk he hg hdk
    have hvv:=opR hv he hg hdv
    obtain⟨b,ces,k1,one,hb,hM⟩:=hs.ok _ _ hob
    simp only [Rep,Gh.at,k1]at hmv hkv
    obtain⟨b',hb',hmv⟩:=hmv
    obtain rfl:=one.2 _ hb'
    obtain⟨j,hj,hfi⟩:=zKy hM hfb
    have hfi' :ces.findIdx? (fun e=>(e.born:Int)==n)=some i:=by
     have:ces.toList.toArray.findIdx? (fun e=>(e.born:Int)==n)=ces.toList.findIdx? (fun e=>(e.born:Int)==n):=List.findIdx?_toArray _ _
     simp only [Array.toArray_toList]at this
     rw [this,hfi]; simp; omega
    obtain⟨n1,n2⟩:=zCt (ces' :=ces.modify i fun e=> { e with val:=a.eval v' }) hs hob k1 one hb (by
     rw [Array.toList_modify]
     exact hM.modify (f:=fun x=>(x.1,x.2.1,dv)) (f' :=fun e=> { e with val:=a.eval v' }) (fun x e q1 q2 q3=>⟨q1,q2,hvv⟩) i) h1
    have hr:(execOp a.eval o).run P w= .ok .skip { w with heap:=w.heap.setIfInBounds b' (.map (ces.modify i fun e=> { e with val:=a.eval v' }) c)}:=by
     simp only [execOp,ho]
     simp [Instr.entryStore,hmv,hkv,zCb hb,asInt,asIntOf,hfi',zCa _ hb]
    rw [hr]
    exact⟨ρ,n1,n2,rfl⟩
   ·cases h
  ·cases h
 ·cases h
end
end Go.Ab
namespace Go.Ab
open Go
variable [Vals]
variable {ρ ρ' :Gh} {w w' :World}{P:Program}{pn:Pins}{G:Gl}{X:Exts}{A:Adv} {s s' :St}{env:Env}{a:Act}{lo:Nat}{d:D}{C:zAa}{al:Option Nat}
theorem zCq {b:Nat}{cs:Array Value}{e:TypeId}{f:Nat×Nat}(h:w.heap[b]? =some (.cells cs e f)){vs rest:List Value}(hv:cs.toList=vs++rest):w.rangeAt b 0 vs:=fun j u hj=>by
 have hlt:j < vs.length:=(List.getElem?_eq_some_iff.1 hj).1
 rw [zAc h,← Array.getElem?_toList,hv,List.getElem?_append_left (by omega)]
 exact (by simpa using hj)
theorem zTg (hs:zPl ρ s w){z cp:Nat}{l:List D}{vs rest:List Value}{cs:Array Value}{e:TypeId}{k:Nat}(z0:0 < z)(hm:s.mk' al (.arr z e l 0)=some (k,s'))(hl:RepC ρ w z l vs)(hcs:cs.toList=vs++rest)(hsz:cs.size=cp * z)(hle:l.length≤cp)
  (hh:w'.heap=w.heap.push (.cells cs e))(ho:w'.os=w.os)(ht:w'.tape=w.tape)(hu:w'.output=w.output):
  ∃ρ',Kp ρ w ρ' w' ∧zPl ρ' s' w' ∧Rep ρ' w' (.sl k 0 l.length l.length) (.slice (some ⟨w.heap.size,0,none⟩) l.length cp):=by
 obtain⟨n1,n2,n3,n4⟩:=zOl (w' :=w') hs hm z l.length cp hh ho ht hu (fun hK hone hb=>by
  refine⟨z0,by simp [Gh.new],by omega,⟨w.heap.size,hone.1,by simp [Gh.new],fun b h _=>hone.2 b h⟩,fun b hb' => ?_,hl.allSz⟩
  obtain rfl:=hone.2 b hb'
  refine⟨by simp [Gh.new],by simp [Gh.new],by simp [Gh.new]; exact hle,fun j hj=> ?_,⟨_,_,hb⟩,fun _ i d h1 h2 h3=> ?_⟩
  ·simp only [Gh.new,if_true]at hj
   rw [← hsz]at hj
   refine⟨by rw [zAc hb]; simp [hj],by simp [World.frozen?,hb]⟩
  ·obtain⟨v,v1,v2,v3,v4⟩:=(hl.mono hK).get (w' :=w') (zCq hb hcs) i d h3
   refine⟨v,v1,v2, ?_⟩
   simpa [Gh.new] using v3)
 refine⟨_,n1,n2, ?_⟩
 simp only [Rep,Gh.at,n4]
 exact⟨w.heap.size,n3,by simp [Gh.new],by simp [Gh.new],Nat.le_refl _,0,cp,rfl,hle,.inr (by simp),by simp [Gh.new]⟩
theorem RepC.set {z:Nat}{x:D}{v:Value}(hv:Rep ρ w x v)(hz:v.cells.size=z)(hst:x.st=true):∀ {l:List D} {vs:List Value} {i:Nat},RepC ρ w z l vs→i < l.length→RepC ρ w z (l.set i x) (over vs (i * z) v.cells.toList)
 | [],_,i,_,hi=>by simp at hi
 | d::l,_,0,h,_=>by
  obtain⟨u,r,rfl,h2,h3,h4,h5⟩:=h
  refine⟨v,r, ?_,hv,hz,hst,h5⟩
  rw [zEl _ _ _ (by omega)]
  have:v.cells.toList.length=u.cells.toList.length:=by simp; omega
  rw [Nat.zero_mul,Nat.zero_add,this,List.drop_left]
  simp
 | d::l,_,i+1,h,hi=>by
  obtain⟨u,r,rfl,h2,h3,h4,h5⟩:=h
  have ih:=RepC.set hv hz hst (i:=i) h5 (by simpa using hi)
  refine⟨u,_, ?_,h2,h3,h4,ih⟩
  have hl:u.cells.toList.length=z:=by simpa using h3
  have hr:=h5.length
  have hlt:i * z≤r.length:=by rw [hr]; exact Nat.mul_le_mul_right _ (by simp at hi; omega)
  rw [zEl _ _ _ (by simp [hr,h3,Nat.add_mul]at *; omega),zEl _ _ _ hlt]
  rw [Nat.add_mul,Nat.one_mul,List.take_append,List.drop_append,hl]
  rw [List.take_of_length_le (by omega),List.drop_of_length_le (by omega)]
  simp [Nat.add_sub_cancel,show i * z+z+v.cells.size - z=i * z+v.cells.size by omega]
theorem RepC.replicate {z:Nat}{x:D}{v:Value}(hv:Rep ρ w x v)(hz:v.cells.size=z)(hst:x.st=true):∀n,RepC ρ w z (List.replicate n x) (List.replicate n v.cells.toList).flatten
 | 0=>rfl
 | n+1=>⟨v,_,by simp [List.replicate_succ],hv,hz,hst,RepC.replicate hv hz hst n⟩
theorem zHg (zs:Array Value)(h0:0 < zs.size):∀n,((Array.range (n * zs.size)).map (fun i=>zs[i % zs.size]!)).toList=(List.replicate n zs.toList).flatten
 | 0=>by simp
 | n+1=>by
  rw [List.replicate_succ',List.flatten_append,← zHg zs h0 n]
  simp only [Array.toList_map,Array.toList_range,List.flatten_cons,List.flatten_nil,List.append_nil]
  rw [Nat.add_mul,Nat.one_mul,List.range_add,List.map_append]
  congr 1
  refine List.ext_getElem (by simp) fun j h1 h2=> ?_
  have hj:j < zs.size:=by simpa using h2
  have:(n * zs.size+j) % zs.size=j:=by rw [Nat.mul_comm,Nat.mul_add_mod,Nat.mod_eq_of_lt hj]
  simp only [List.getElem_map,List.getElem_range,this]
  rw [getElem!_pos zs j hj,Array.getElem_toList]
def zDl (G:Gl):List (Nat×Operand)→List (Nat×Opd)→Prop
 | [],[]=>True
 | (i,x)::r,(o,y)::q=>i=o∧opd G x=some y∧zDl G r q
 | _,_=>False
theorem zHn {F:Nat×Operand→Option (Nat×Opd)}(hF:∀i x p,F (i,x)=some p→p.1=i∧opd G x=some p.2):
  ∀(l:List (Nat×Operand)) (r:List (Nat×Opd)),l.mapM F=some r→zDl G l r
 | [],r,h=>by simp at h; subst h; trivial
 | (i,x)::l,r,h=>by
  simp only [List.mapM_cons,Option.pure_def,Option.bind_eq_bind,Option.bind_eq_some_iff]at h
  obtain⟨p,h1,q,h2,h3⟩:=h
  simp only [Option.some.injEq]at h3; subst h3
  obtain⟨g1,g2⟩:=hF i x p h1
  exact⟨g1.symm,g2,zHn hF l q h2⟩
theorem zWe (he:EnR ρ w lo env a.tmps)(hg:GlOk pn G ρ w){z:Nat}:∀(ps' :List (Nat×Operand)) (ps:List (Nat×Opd)) (l:List (Nat×D)) (cs:List D) (vs:Array Value) (cs' :List D),
  zDl G ps' ps→zBw env ps=some l→RepC ρ w z cs vs.toList→zQy z cs l=some cs' →
  ∃vs',Instr.fill (fun i=>some (i * z,z)) vs (ps'.map fun p=>(p.1,a.eval p.2))=some vs' ∧RepC ρ w z cs' vs'.toList∧cs'.length=cs.length
 | [],[],l,cs,vs,cs',_,h1,h2,h4=>by
  simp only [zBw,Option.some.injEq]at h1; subst h1
  simp only [zQy,Option.some.injEq]at h4; subst h4
  exact⟨vs,by simp [Instr.fill],h2,rfl⟩
 | [],_::_,_,_,_,_,h,_,_,_=>h.elim
 | _::_,[],_,_,_,_,h,_,_,_=>h.elim
 | (i,x)::r,(o,y)::q,l,cs,vs,cs',⟨p1,p2,p3⟩,h1,h2,h4=>by
  subst p1
  simp only [zBw]at h1
  split at h1
  ·rename_i d hd
   split at h1
   ·rename_i l' hl'
    simp only [Option.some.injEq]at h1; subst h1
    simp only [zQy]at h4
    split at h4
    ·rename_i e1 e2
     split at h4
     ·rename_i e3
      have hv:=opR p2 he hg hd
      have hz:=Nat.eq_of_beq_eq_true e1
      have hlt:=Nat.le_of_ble_eq_true e3
      have hsz:=hv.size e2
      have hlen:=h2.length
      simp only [Array.length_toList]at hlen
      have hfit:i * z+z≤vs.size:=by
       rw [hlen]
       have:=Nat.mul_le_mul_right z (show i+1≤cs.length by omega)
       rw [Nat.add_mul]at this; omega
      have hfo:=zKg (i * z) (a.eval x).cells.toList 0 vs (by simp; omega)
      simp only [Nat.add_zero]at hfo
      have hc: ¬ ((a.eval x).cells.size≠z∨i * z+(a.eval x).cells.size > vs.size):=by omega
      obtain⟨vs',g1,g2,g3⟩:=zWe he hg r q l' (cs.set i d) (List.foldl (fun (cs:Array Value) (x:Value×Nat)=>cs.setIfInBounds (i * z+x.2) x.1) vs ((a.eval x).cells.toList.zipIdx 0)) cs' p3 hl'
       (by rw [hfo]; exact h2.set hv (by omega) e2 (by omega)) h4
      refine⟨vs', ?_,g2,by simpa using g3⟩
      simp only [List.map_cons,Instr.fill]
      rw [if_neg (by simpa using hc)]
      rw [← g1]
      congr 1
      rw [← Array.foldl_toList,Array.toList_zipIdx]
     ·cases h4
    ·cases h4
   ·cases h1
  ·cases h1
section
variable (he:EnR ρ w lo env a.tmps)(hg:GlOk pn G ρ w)(hs:zPl ρ s w)
include he hg hs
omit hs in
theorem zLy {t e:TypeId}{m len:Nat}{z:D} {ps' :Array (Nat×Operand)}{ps:List (Nat×Opd)}{l:List (Nat×D)}{es:List D}(hu:P.underlying t=some (.slice e))(hsz:zPo P e=some (m+1))(hbig: ¬ (len * (m+1) > 2 ^ 24))(hz:zPu P e=some z)
  (hall:allSz (m+1) [z]=true)(hp:zDl G ps'.toList ps)(hl:zBw env ps=some l)(hes:zQy (m+1) (List.replicate len z) l=some es):
  ∃cs:Array Value,(Instr.buildSlice t len (ps'.map fun (i,x)=>(i,a.eval x))).run P w= .ok (.slice (some ⟨w.heap.size,0,none⟩) len len) (w.alloc (.cells cs e))∧RepC ρ w (m+1) es cs.toList∧es.length=len:=by
 obtain⟨zv,z1,z2,z3⟩:=zCi (w:=w) hz
 have hzv:=zCg (ρ:=ρ) (w:=w) zv z z2
 have hzs:zv.cells.size=m+1∧z.st=true:=by
  have:=zBf.1 hall z (by simp)
  exact⟨by rw [hzv.size this.2]; exact this.1,this.2⟩
 have hbase:=RepC.replicate hzv hzs.1 hzs.2 len
 rw [← zHg zv.cells (by omega) len,hzs.1]at hbase
 obtain⟨cs,g1,g2,g3⟩:=zWe he hg ps'.toList ps l _ _ es hp hl hbase hes
 refine⟨cs, ?_,g2,by simpa using g3⟩
 have hmap:(ps'.map fun (i,x)=>(i,a.eval x)).toList=ps'.toList.map fun p=>(p.1,a.eval p.2):=by simp
 unfold Instr.buildSlice
 rw [Sem.run_bind,run_underlying hu]
 simp only [Result.andThen_ok,Sem.run_bind,zAk hsz]
 rw [if_neg hbig]
 by_cases h0:len * (m+1)=0
 ·have hlen:len=0:=by
   rcases Nat.mul_eq_zero.1 h0 with h | h
   ·exact h
   ·omega
  subst hlen
  have hE:∀f:Nat→Value,Array.map f (Array.range 0)= #[]:=fun f=>by apply Array.ext'; simp
  rw [Nat.zero_mul,hE]at g1
  simp only [Nat.zero_mul,if_true,Sem.run_bind,Sem.run_pure,Result.andThen_ok,hE,hmap,g1]
  rfl
 ·simp only [if_neg h0,Sem.run_bind,Sem.run_pure,Result.andThen_ok,Sem.run_map,z1,hzs.1,hmap,g1]
  rfl
theorem yFl {t e:TypeId}{m len:Nat}{z:D} {ps' :Array (Nat×Operand)}{ps:List (Nat×Opd)}(hu:P.underlying t=some (.slice e))(hsz:zPo P e=some (m+1))(hbig: ¬ (len * (m+1) > 2 ^ 24))(hz:zPu P e=some z)
  (hp:zDl G ps'.toList ps)(h:opF C env s al (.bslice (m+1) e z len ps)=some (d,s')){o:Oper}(ho:o.op= .buildSlice t len ps'):OpOk P ρ w env a.tmps d s' ((execOp a.eval o).run P w):=by
 simp only [opF]at h
 split at h
 ·rename_i l hl hall
  split at h
  ·rename_i es hes
   split at h
   ·rename_i k s2 hm
    simp only [Option.some.injEq,Prod.mk.injEq]at h
    obtain⟨rfl,rfl⟩:=h
    obtain⟨cs,g1,g2,g3⟩:=zLy (P:=P) he hg hu hsz hbig hz hall hp hl hes
    have hcl:=g2.length
    simp only [Array.length_toList]at hcl
    obtain⟨ρ',n1,n2,n3⟩:=zTg (w' :=w.alloc (.cells cs e)) (rest:=[]) hs (Nat.succ_pos m) hm g2 (by simp) hcl (Nat.le_refl _) rfl rfl rfl rfl
    have hr:(execOp a.eval o).run P w= .ok (.value (.slice (some ⟨w.heap.size,0,none⟩) len len)) (w.alloc (.cells cs e)):=by
     simp only [execOp,ho]; rw [Sem.run_bind,g1]; rfl
    rw [hr]
    rw [g3]at n3
    exact .val n1 n2 n3
   ·cases h
  ·cases h
 ·cases h
theorem yFc {t e:TypeId}{m len:Nat}{z:D} {ps' :Array (Nat×Operand)}{ps:List (Nat×Opd)}(hu:P.underlying t=some (.slice e))(hsz:zPo P e=some (m+1))(hbig: ¬ (len * (m+1) > 2 ^ 24))(hz:zPu P e=some z)
  (hp:zDl G ps'.toList ps)(h:opF C env s al (.vslice (m+1) z len ps)=some (d,s')){o:Oper}(ho:o.op= .buildSlice t len ps'):OpOk P ρ w env a.tmps d s' ((execOp a.eval o).run P w):=by
 simp only [opF]at h
 split at h
 ·rename_i l hl hall
  split at h
  ·rename_i es hes
   simp only [Option.some.injEq,Prod.mk.injEq]at h
   obtain⟨rfl,rfl⟩:=h
   obtain⟨cs,g1,g2,g3⟩:=zLy (P:=P) he hg hu hsz hbig hz hall hp hl hes
   have hr:(execOp a.eval o).run P w= .ok (.value (.slice (some ⟨w.heap.size,0,none⟩) len len)) (w.alloc (.cells cs e)):=by
    simp only [execOp,ho]; rw [Sem.run_bind,g1]; rfl
   rw [hr]
   have hK:Kp ρ w ρ (w.alloc (.cells cs e)):=⟨rfl,rfl,rfl,(by show w.heap.size≤(w.heap.push _).size; simp),fun b hb _=>⟨zAy rfl hb,rfl⟩,fun _ h=>⟨h,rfl⟩,fun _ _ h=> .inr ⟨h,fun _ hb=>⟨hb,rfl,Nat.le_refl _,rfl⟩⟩⟩
   have hS:zPl ρ s (w.alloc (.cells cs e)):=hs.keep hK.r (fun _ _=>Iff.rfl) rfl (fun b o hb=>⟨zAy rfl (hs.own_lt hb),rfl,rfl,rfl⟩) (fun b hb=>hs.size b (by have hb:(w.heap.push (.cells cs e)).size≤b:=hb; simp at hb; omega))
   refine .val hK hS ?_
   simp only [Rep]
   refine .inr ⟨trivial,⟨w.heap.size,0,none⟩,len,by rw [g3],by omega,.inr ⟨_,_,rfl,hs.size _ (Nat.le_refl _),RepE.of (Nat.succ_pos m) _ _ fun i x hi=> ?_⟩⟩
   exact (g2.mono hK).get (zCq (zCu (w:=w) rfl) (rest:=[]) (by simp)) i x hi
  ·cases h
 ·cases h
end
end Go.Ab
