/- Part. -/
import Derived.Test.YtdkejjahldkkoaaGreatDoorG06
set_option linter.unusedSectionVars false
set_option linter.unusedSimpArgs false
set_option linter.unusedVariables false
namespace Go.Ab
open Go
variable [eW]
variable {ρ ρ' :Gh} {w w' :World}{P:Program}{pn:iO}{G:Gl}{X:iJ}{A:nJ} {s s' :St}{env:Env}{a:Act}{lo:Nat}{d:D}{C:au}{al:Option Nat}
theorem fO.modify {f:Nat×D×D->Nat×D×D} {f' :MapEntry->MapEntry}
  (hf:∀(x:Nat×D×D) (e:MapEntry),e.born=x.1->aS ρ w x.2.1 e.key->aS ρ w x.2.2 e.val->(f' e).born=(f x).1/\aS ρ w (f x).2.1 (f' e).key/\aS ρ w (f x).2.2 (f' e).val):
  ∀ {es:List (Nat×D×D)} {ces:List MapEntry} (i:Nat),fO ρ w es ces->fO ρ w (setAt es i f) (ces.modify i f')
 | [],_,i,h=>by simp only [fO]at h; subst h; simp [setAt,fO]
 | (n,k,v)::es,_,i,h=>by
  simp only [fO]at h;obtain⟨e,r,rfl,h1,h2,h3,h4⟩:=h;cases i with
  | zero=>
   obtain⟨g1,g2,g3⟩:=hf (n,k,v) e h1 h2 h3;simp only [setAt,List.modify_zero_cons];rw [show f (n,k,v)=((f (n,k,v)).1,(f (n,k,v)).2.1,(f (n,k,v)).2.2) from rfl];simp only [fO];exact⟨_,_,rfl,g1,g2,g3,h4⟩
  | succ i=>
   simp only [setAt,List.modify_succ_cons,fO];exact⟨e,_,rfl,h1,h2,h3,fO.modify hf i h4⟩
theorem fO.snoc {c:Nat}{k v:D}{e:MapEntry}(h1:e.born=c)(h2:aS ρ w k e.key)(h3:aS ρ w v e.val):∀ {es:List (Nat×D×D)} {ces:List MapEntry},fO ρ w es ces->fO ρ w (es++ [(c,k,v)]) (ces++ [e])
 | [],_,h=>by simp only [fO]at h; subst h; simp only [cA,fO]; exact ⟨e,[],rfl,h1,h2,h3,rfl⟩
 | (n,k',v')::es,_,h=>by
  simp only [fO]at h;obtain⟨e',r,rfl,g1,g2,g3,g4⟩:=h;simp only [iL,fO];exact⟨e',_,rfl,g1,g2,g3,fO.snoc h1 h2 h3 g4⟩
theorem fO.get:∀ {es:List (Nat×D×D)} {ces:List MapEntry} {i:Nat} {x:Nat×D×D},fO ρ w es ces->es[i]? =some x->∃e,ces[i]? =some e/\e.born=x.1/\aS ρ w x.2.1 e.key/\aS ρ w x.2.2 e.val
 | [],_,i,x,h,hi=>by simp at hi
 | (n,k,v)::es,_,i,x,h,hi=>by
  simp only [fO]at h;obtain⟨e,r,rfl,h1,h2,h3,h4⟩:=h;cases i with
  | zero=>simp at hi; subst hi; exact ⟨e,by simp,h1,h2,h3⟩
  | succ i=>simp at hi; simpa using fO.get h4 hi
theorem kC {b c:Nat}{ces:Array MapEntry}(hb:w.heap[b]? =some (.map ces c)):(getObj b).run P w= .ok (.map ces c) w:=by simp [getObj,Sem.run,hb]
theorem ku {b c:Nat}{ces:Array MapEntry}(ob:Go.Obj)(hb:w.heap[b]? =some (.map ces c)):(setObj b ob).run P w= .ok () { w with heap:=w.heap.setIfInBounds b ob}:=by simp [setObj,Sem.run,hb]
theorem xZ {k k' :D} {u u' :Value}(h:EB k k' =true)(h1:aS ρ w k u)(h2:aS ρ w k' u'):(Instr.keyThatStays u u').run P w= .ok u' w:=by
 have:Instr.sameBits 10000 u u' =true:=by
  unfold EB at h;split at h
  ·simp only [aS]at h1 h2; subst h1 h2; simpa [Instr.sameBits] using h
  ·simp only [aS]at h1 h2; subst h1 h2; simpa [Instr.sameBits] using h
  ·simp only [aS]at h1 h2; subst h1 h2;simp only [ij]at h;subst h;simp only [Instr.sameBits];rw [beq_toListBytes]; simp
  ·cases h
 simp [Instr.keyThatStays,this]
theorem wX {b:Int}:∀ {es:List (Nat×D×D)} {ces:List MapEntry} {k i:Nat},fO ρ w es ces->rT b es k=some i->∃m,i=k+m/\ces.findIdx? (fun e=>(e.born:Int)==b)=some m
 | [],_,k,i,h,hf=>by simp [rT]at hf
 | (n,q,v)::es,_,k,i,h,hf=>by
  simp only [fO]at h;obtain⟨e,r,rfl,h1,h2,h3,h4⟩:=h;simp only [rT]at hf;split at hf
  ·rename_i hn;simp only [aa]at hf;refine⟨0,by omega, ?_⟩;rw [List.findIdx?_cons,h1]; simp [hn]
  ·rename_i hn;obtain⟨m,g1,g2⟩:=wX h4 hf;refine⟨m+1,by omega, ?_⟩;rw [List.findIdx?_cons,h1,g2]; simp [hn]
section
variable (he:eu ρ w lo env a.tmps)(hg:gF pn G ρ w)(hs:bZ ρ s w)
include he hg hs
omit he hg in
theorem lP {o b c c' :Nat} {es es' :List (Nat×D×D)} {ces ces' :Array MapEntry}(lF:s.get o=some (.map es c))(k1:ρ.kd o= .live 1)(one:ρ.one o b)(hb:w.heap[b]? =some (.map ces c))(hM:fO ρ w es' ces'.toList)
  (gL:s.set o (.map es' c')=some s'):Kp ρ w ρ { w with heap:=w.heap.setIfInBounds b (.map ces' c')}/\bZ ρ s' { w with heap:=w.heap.setIfInBounds b (.map ces' c')}:=
 sw hs gL one.1 (hs.lt _ _ lF) (fun _ h=>wP h) (by simp) rfl rfl rfl fun hK=>⟨b,ces',k1,one,w9 (xm hb),hM.mono hK⟩
theorem IL {t q e:TypeId}{et:ET} {m' k' v' :Operand}{m k v:bP}(hm:eK G m' =some m)(hk:eK G k' =some k)(hv:eK G v' =some v)(hu:P.underlying t=some (.map q e))(het:sP P 8 q=some et)
  (h:cB C env s al (.Ac et m k v)=some (d,s')){o:Oper}(ho:o.op= .mapUpdate t m' k' v' \/o.op= .insert t m' k' v'):fb P ρ w env a.tmps d s' ((execOp a.eval o).run P w):=by
 have fin:∀w',(Instr.mapUpdate t (a.eval m') (a.eval k') (a.eval v')).run P w= .ok () w' ->(execOp a.eval o).run P w= .ok .skip w' :=by
  intro w' hw;rcases ho with ho | ho <;> · simp only [execOp,ho]; rw [Sem.run_bind,hw]; rfl
 simp only [cB]at h;split at h
 ·rename_i ob dk dv Xy WG VI;split at h
  ·cases h
  ·rename_i gW;split at h
   ·rename_i es c lF;have xE:=aZ hm he hg Xy;have ya:=aZ hk he hg WG;have SB:=aZ hv he hg VI;have Fx:∀em,(Instr.checkKey em 10000 q (a.eval k')).run P w= .ok () w:=fun em=>pM em 8 q et het 10000 (by decide) dk _ gW ya;obtain⟨b,ces,k1,one,hb,hM⟩:=hs.ok _ _ lF;simp only [aS,Gh.at,k1]at xE;obtain⟨b',jm,xE⟩:=xE;obtain rfl:=one.2 _ jm;split at h
    ·rename_i i v0 hf;split at h
     ·rename_i n0 k0 v1 hei;split at h
      ·rename_i zd;obtain⟨h1,rfl⟩:=iq h;obtain⟨r',g1,g2⟩:=lL (P:=P) het ya hM hf;obtain⟨u0,rfl,g3⟩:=g2;obtain⟨ent,e1,e2,e3,e4⟩:=hM.get hei;have e1' :ces[i]? =some ent:=by simpa using e1
       have BP:=xZ (P:=P) zd e3 ya
       obtain⟨n1,n2⟩:=lP (ces' :=ces.modify i fun e=> { e with key:=a.eval k',val:=a.eval v' }) hs lF k1 one hb (by
        rw [nY];exact hM.modify (f:=fun x=>(x.1,dk,dv)) (f' :=fun e=> { e with key:=a.eval k',val:=a.eval v' }) (fun x e q1 q2 q3=>⟨q1,ya,SB⟩) i) h1
       have hr:(Instr.mapUpdate t (a.eval m') (a.eval k') (a.eval v')).run P w= .ok () { w with heap:=w.heap.setIfInBounds b' (.map (ces.modify i fun e=> { e with key:=a.eval k',val:=a.eval v' }) c)}:=by
        unfold Instr.mapUpdate;rw [Sem.run_bind,run_underlying hu];simp [xE,kC hb,Fx,g1,e1',BP,ku _ hb]
       rw [fin _ hr];exact⟨ρ,n1,n2,rfl⟩
      ·cases h
     ·cases h
    ·rename_i hf;obtain⟨h1,rfl⟩:=iq h;obtain⟨r',g1,g2⟩:=lL (P:=P) het ya hM hf;simp only [Found]at g2; subst g2
     obtain⟨n1,n2⟩:=lP (ces' :=ces.push { key:=a.eval k',val:=a.eval v',born:=c}) hs lF k1 one hb (by
      rw [Array.toList_push];exact fO.snoc (e:= { key:=a.eval k',val:=a.eval v',born:=c}) rfl ya SB hM) h1
     have hr:(Instr.mapUpdate t (a.eval m') (a.eval k') (a.eval v')).run P w= .ok () { w with heap:=w.heap.setIfInBounds b' (.map (ces.push { key:=a.eval k',val:=a.eval v',born:=c}) (c+1))}:=by
      unfold Instr.mapUpdate;rw [Sem.run_bind,run_underlying hu];simp [xE,kC hb,Fx,g1,ku _ hb]
     rw [fin _ hr];exact⟨ρ,n1,n2,rfl⟩
    ·cases h
   ·cases h
 ·cases h
theorem KX {t q e:TypeId}{et:ET}{z:D} {m' k' :Operand}{m k:bP}(hm:eK G m' =some m)(hk:eK G k' =some k)(hu:P.underlying t=some (.map q e))(het:sP P 8 q=some et)(hz:jI P e=some z)
  (h:cB C env s al (.tN et z m k)=some (d,s')){o:Oper}(ho:o.op= .mapEntry t m' k'):fb P ρ w env a.tmps d s' ((execOp a.eval o).run P w):=by
 have fin:∀u w',(Instr.mapEntry t (a.eval m') (a.eval k')).run P w= .ok u w' ->(execOp a.eval o).run P w= .ok (.value u) w' :=by
  intro u w' hw;simp only [execOp,ho]; rw [Sem.run_bind,hw]; rfl
 simp only [cB]at h;split at h
 ·rename_i ob dk Xy WG;split at h
  ·cases h
  ·rename_i gW;split at h
   ·rename_i es c lF;have xE:=aZ hm he hg Xy;have ya:=aZ hk he hg WG;have Fx:∀em,(Instr.checkKey em 10000 q (a.eval k')).run P w= .ok () w:=fun em=>pM em 8 q et het 10000 (by decide) dk _ gW ya;obtain⟨b,ces,k1,one,hb,hM⟩:=hs.ok _ _ lF;simp only [aS,Gh.at,k1]at xE;obtain⟨b',jm,xE⟩:=xE;obtain rfl:=one.2 _ jm;split at h
    ·rename_i i v0 hf;split at h
     ·rename_i n0 k0 v1 hei;split at h
      ·rename_i zd;obtain⟨h1,rfl⟩:=iq h;obtain⟨r',g1,g2⟩:=lL (P:=P) het ya hM hf;obtain⟨u0,rfl,g3⟩:=g2;obtain⟨ent,e1,e2,e3,e4⟩:=hM.get hei;have e1' :ces[i]? =some ent:=by simpa using e1
       have BP:=xZ (P:=P) zd e3 ya
       obtain⟨n1,n2⟩:=lP (ces' :=ces.modify i fun e=> { e with key:=a.eval k' }) hs lF k1 one hb (by
        rw [nY];exact hM.modify (f:=fun x=>(x.1,dk,x.2.2)) (f' :=fun e=> { e with key:=a.eval k' }) (fun x e q1 q2 q3=>⟨q1,ya,q3⟩) i) h1
       have hr:(Instr.mapEntry t (a.eval m') (a.eval k')).run P w= .ok (.tuple #[u0,goInt n0]) { w with heap:=w.heap.setIfInBounds b' (.map (ces.modify i fun e=> { e with key:=a.eval k' }) c)}:=by
        unfold Instr.mapEntry;rw [Sem.run_bind,run_underlying hu];simp [xE,kC hb,Fx,g1,e1',BP,ku _ hb,e2]
       rw [fin _ _ hr];refine .val n1 n2 ?_;simp [aS,br,Fy,goInt,g3.mono n1]
      ·cases h
     ·cases h
    ·rename_i hf;obtain⟨h1,rfl⟩:=iq h;obtain⟨r',g1,g2⟩:=lL (P:=P) het ya hM hf;simp only [Found]at g2; subst g2;obtain⟨zv,z1,z2,z3⟩:=kz (w:=w) hz;have zH:=kh (ρ:=ρ) (w:=w) zv z z2
     obtain⟨n1,n2⟩:=lP (ces' :=ces.push { key:=a.eval k',val:=zv,born:=c}) hs lF k1 one hb (by
      rw [Array.toList_push];exact fO.snoc (e:= { key:=a.eval k',val:=zv,born:=c}) rfl ya zH hM) h1
     have hr:(Instr.mapEntry t (a.eval m') (a.eval k')).run P w= .ok (.tuple #[zv,goInt c]) { w with heap:=w.heap.setIfInBounds b' (.map (ces.push { key:=a.eval k',val:=zv,born:=c}) (c+1))}:=by
      unfold Instr.mapEntry;rw [Sem.run_bind,run_underlying hu];simp [xE,kC hb,Fx,g1,z1,ku _ hb]
     rw [fin _ _ hr];refine .val n1 n2 ?_;simp [aS,br,Fy,goInt,zH.mono n1]
    ·cases h
   ·cases h
 ·cases h
theorem Gc {t:TypeId} {m' k' v' :Operand}{m k v:bP}(hm:eK G m' =some m)(hk:eK G k' =some k)(hv:eK G v' =some v)
  (h:cB C env s al (.pE m k v)=some (d,s')){o:Oper}(ho:o.op= .entryStore t m' k' v'):fb P ρ w env a.tmps d s' ((execOp a.eval o).run P w):=by
 simp only [cB]at h;split at h
 ·rename_i ob kk n dv Xy WG VI;split at h
  ·rename_i es c lF;split at h
   ·rename_i i hfb;obtain⟨h1,rfl⟩:=iq h;have xE:=aZ hm he hg Xy;have ya:=aZ hk he hg WG;have SB:=aZ hv he hg VI;obtain⟨b,ces,k1,one,hb,hM⟩:=hs.ok _ _ lF;simp only [aS,Gh.at,k1]at xE ya;obtain⟨b',jm,xE⟩:=xE;obtain rfl:=one.2 _ jm;obtain⟨j,hj,hfi⟩:=wX hM hfb;have abM :ces.findIdx? (fun e=>(e.born:Int)==n)=some i:=by
     have:ces.toList.toArray.findIdx? (fun e=>(e.born:Int)==n)=ces.toList.findIdx? (fun e=>(e.born:Int)==n):=List.findIdx?_toArray _ _;simp only [Array.toArray_toList]at this;rw [this,hfi]; simp; omega
    obtain⟨n1,n2⟩:=lP (ces' :=ces.modify i fun e=> { e with val:=a.eval v' }) hs lF k1 one hb (by
     rw [nY];exact hM.modify (f:=fun x=>(x.1,x.2.1,dv)) (f' :=fun e=> { e with val:=a.eval v' }) (fun x e q1 q2 q3=>⟨q1,q2,SB⟩) i) h1
    have hr:(execOp a.eval o).run P w= .ok .skip { w with heap:=w.heap.setIfInBounds b' (.map (ces.modify i fun e=> { e with val:=a.eval v' }) c)}:=by
     simp only [execOp,ho];simp [Instr.entryStore,xE,ya,kC hb,asInt,asIntOf,abM,ku _ hb]
    rw [hr];exact⟨ρ,n1,n2,rfl⟩
   ·cases h
  ·cases h
 ·cases h
end
end Go.Ab
namespace Go.Ab
open Go
variable [eW]
variable {ρ ρ' :Gh} {w w' :World}{P:Program}{pn:iO}{G:Gl}{X:iJ}{A:nJ} {s s' :St}{env:Env}{a:Act}{lo:Nat}{d:D}{C:au}{al:Option Nat}
theorem l9 {b:Nat}{cs:Array Value}{e:TypeId}{f:Nat×Nat}(h:w.heap[b]? =some (.cells cs e f)){vs rest:List Value}(hv:cs.toList=vs++rest):w.rangeAt b 0 vs:=fun j u hj=>by
 have dQ:j < vs.length:=(af.1 hj).1;rw [ew h,← Array.getElem?_toList,hv,aO (by omega)];exact (by simpa using hj)
theorem BI (hs:bZ ρ s w){z cp:Nat}{l:List D}{vs rest:List Value}{cs:Array Value}{e:TypeId}{k:Nat}(z0:0 < z)(hm:s.mk' al (.arr z e l 0)=some (k,s'))(hl:fY ρ w z l vs)(qN:cs.toList=vs++rest)(fR:cs.size=cp * z)(hle:l.length<=cp)
  (hh:w'.heap=w.heap.push (.cells cs e))(ho:w'.os=w.os)(ht:w'.tape=w.tape)(hu:w'.output=w.output):
  ∃ρ',Kp ρ w ρ' w' /\bZ ρ' s' w' /\aS ρ' w' (.sl k 0 l.length l.length) (.slice (some ⟨w.heap.size,0,none⟩) l.length cp):=by
 obtain⟨n1,n2,n3,n4⟩:=yu (w' :=w') hs hm z l.length cp hh ho ht hu (fun hK nM hb=>by
  refine⟨z0,by simp [Gh.new],by omega,⟨w.heap.size,nM.1,by simp [Gh.new],fun b h _=>nM.2 b h⟩,fun b jm => ?_,hl.eG⟩;obtain rfl:=nM.2 b jm;refine⟨by simp [Gh.new],by simp [Gh.new],by simp [Gh.new]; exact hle,fun j hj=> ?_,⟨_,_,hb⟩,fun _ i d h1 h2 h3=> ?_⟩
  ·simp only [Gh.new,ep]at hj;rw [← fR]at hj;refine⟨by rw [ew hb]; simp [hj],by simp [World.frozen?,hb]⟩
  ·obtain⟨v,v1,v2,v3,v4⟩:=(hl.mono hK).get (w' :=w') (l9 hb qN) i d h3;refine⟨v,v1,v2, ?_⟩;simpa [Gh.new] using v3)
 refine⟨_,n1,n2, ?_⟩;simp only [aS,Gh.at,n4];exact⟨w.heap.size,n3,by simp [Gh.new],by simp [Gh.new],an _,0,cp,rfl,hle,.inr (by simp),by simp [Gh.new]⟩
theorem fY.set {z:Nat}{x:D}{v:Value}(hv:aS ρ w x v)(hz:v.cells.size=z)(dT:x.st=true):∀ {l:List D} {vs:List Value} {i:Nat},fY ρ w z l vs->i < l.length->fY ρ w z (l.set i x) (over vs (i * z) v.cells.toList)
 | [],_,i,_,hi=>by simp at hi
 | d::l,_,0,h,_=>by
  obtain⟨u,r,rfl,h2,h3,h4,h5⟩:=h;refine⟨v,r, ?_,hv,hz,dT,h5⟩;rw [ou _ _ _ (by omega)];have:v.cells.toList.length=u.cells.toList.length:=by simp; omega
  rw [oy,aM,this,List.drop_left];simp
 | d::l,_,i+1,h,hi=>by
  obtain⟨u,r,rfl,h2,h3,h4,h5⟩:=h;have ih:=fY.set hv hz dT (i:=i) h5 (by simpa using hi);refine⟨u,_, ?_,h2,h3,h4,ih⟩;have hl:u.cells.toList.length=z:=by simpa using h3
  have hr:=h5.length;have dQ:i * z<=r.length:=by rw [hr]; exact dw _ (by simp at hi; omega)
  rw [ou _ _ _ (by simp [hr,h3,bT]at *; omega),ou _ _ _ dQ];rw [bT,Nat.one_mul,List.take_append,List.drop_append,hl];rw [eY (by omega),dI (by omega)];simp [Nat.add_sub_cancel,show i * z+z+v.cells.size - z=i * z+v.cells.size by omega]
theorem fY.replicate {z:Nat}{x:D}{v:Value}(hv:aS ρ w x v)(hz:v.cells.size=z)(dT:x.st=true):∀n,fY ρ w z (List.replicate n x) (List.replicate n v.cells.toList).flatten
 | 0=>rfl
 | n+1=>⟨v,_,by simp [lu],hv,hz,dT,fY.replicate hv hz dT n⟩
theorem sq (zs:Array Value)(h0:0 < zs.size):∀n,((Array.range (n * zs.size)).map (fun i=>zs[i % zs.size]!)).toList=(List.replicate n zs.toList).flatten
 | 0=>by simp
 | n+1=>by
  rw [nD,List.flatten_append,← sq zs h0 n];simp only [jD,Array.toList_range,List.flatten_cons,List.flatten_nil,dY];rw [bT,Nat.one_mul,List.range_add,jc]
  congr 1
  refine List.ext_getElem (by simp) fun j h1 h2=> ?_;have hj:j < zs.size:=by simpa using h2
  have:(n * zs.size+j) % zs.size=j:=by rw [jQ,Nat.mul_add_mod,kQ hj]
  simp only [List.getElem_map,List.getElem_range,this];rw [getElem!_pos zs j hj,Array.getElem_toList]
def mQ (G:Gl):List (Nat×Operand)->List (Nat×bP)->Prop
 | [],[]=>True
 | (i,x)::r,(o,y)::q=>i=o/\eK G x=some y/\mQ G r q
 | _,_=>False
theorem sU {F:Nat×Operand->Option (Nat×bP)}(hF:∀i x p,F (i,x)=some p->p.1=i/\eK G x=some p.2):
  ∀(l:List (Nat×Operand)) (r:List (Nat×bP)),l.mapM F=some r->mQ G l r
 | [],r,h=>by simp at h; subst h; trivial
 | (i,x)::l,r,h=>by
  simp only [jC,aP,aD,aj]at h;obtain⟨p,h1,q,h2,h3⟩:=h;simp only [aa]at h3; subst h3;obtain⟨g1,g2⟩:=hF i x p h1;exact⟨g1.symm,g2,sU hF l q h2⟩
theorem D8 (he:eu ρ w lo env a.tmps)(hg:gF pn G ρ w){z:Nat}:∀(ps' :List (Nat×Operand)) (ps:List (Nat×bP)) (l:List (Nat×D)) (cs:List D) (vs:Array Value) (cs' :List D),
  mQ G ps' ps->jx env ps=some l->fY ρ w z cs vs.toList->sY z cs l=some cs' ->
  ∃vs',Instr.fill (fun i=>some (i * z,z)) vs (ps'.map fun p=>(p.1,a.eval p.2))=some vs' /\fY ρ w z cs' vs'.toList/\cs'.length=cs.length
 | [],[],l,cs,vs,cs',_,h1,h2,h4=>by
  simp only [jx,aa]at h1; subst h1;simp only [sY,aa]at h4; subst h4;exact⟨vs,by simp [Instr.fill],h2,rfl⟩
 | [],_::_,_,_,_,_,h,_,_,_=>h.elim
 | _::_,[],_,_,_,_,h,_,_,_=>h.elim
 | (i,x)::r,(o,y)::q,l,cs,vs,cs',⟨p1,p2,p3⟩,h1,h2,h4=>by
  subst p1;simp only [jx]at h1;split at h1
  ·rename_i d hd;split at h1
   ·rename_i l' Fs;simp only [aa]at h1; subst h1;simp only [sY]at h4;split at h4
    ·rename_i e1 e2;split at h4
     ·rename_i e3;have hv:=aZ p2 he hg hd;have hz:=aF e1;have dQ:=ax e3;have fR:=hv.size e2;have hlen:=h2.length;simp only [fa]at hlen;have RB:i * z+z<=vs.size:=by
       rw [hlen];have:=dw z (show i+1<=cs.length by omega);rw [bT]at this; omega
      have R3:=vC (i * z) (a.eval x).cells.toList 0 vs (by simp; omega);simp only [fP]at R3;have hc: ¬ ((a.eval x).cells.size≠z\/i * z+(a.eval x).cells.size > vs.size):=by omega
      obtain⟨vs',g1,g2,g3⟩:=D8 he hg r q l' (cs.set i d) (List.foldl (fun (cs:Array Value) (x:Value×Nat)=>cs.setIfInBounds (i * z+x.2) x.1) vs ((a.eval x).cells.toList.zipIdx 0)) cs' p3 Fs
       (by rw [R3]; exact h2.set hv (by omega) e2 (by omega)) h4
      refine⟨vs', ?_,g2,by simpa using g3⟩;simp only [bG,Instr.fill];rw [aJ (by simpa using hc)];rw [← g1]
      congr 1
      rw [← Array.foldl_toList,Array.toList_zipIdx]
     ·cases h4
    ·cases h4
   ·cases h1
  ·cases h1
section
variable (he:eu ρ w lo env a.tmps)(hg:gF pn G ρ w)(hs:bZ ρ s w)
include he hg hs
omit hs in
theorem zi {t e:TypeId}{m len:Nat}{z:D} {ps' :Array (Nat×Operand)}{ps:List (Nat×bP)}{l:List (Nat×D)}{es:List D}(hu:P.underlying t=some (.slice e))(fR:dM P e=some (m+1))(rX: ¬ (len * (m+1) > 2 ^ 24))(hz:jI P e=some z)
  (dK:eG (m+1) [z]=true)(hp:mQ G ps'.toList ps)(hl:jx env ps=some l)(vj:sY (m+1) (List.replicate len z) l=some es):
  ∃cs:Array Value,(Instr.buildSlice t len (ps'.map fun (i,x)=>(i,a.eval x))).run P w= .ok (.slice (some ⟨w.heap.size,0,none⟩) len len) (w.alloc (.cells cs e))/\fY ρ w (m+1) es cs.toList/\es.length=len:=by
 obtain⟨zv,z1,z2,z3⟩:=kz (w:=w) hz;have zH:=kh (ρ:=ρ) (w:=w) zv z z2;have Ix:zv.cells.size=m+1/\z.st=true:=by
  have:=iK.1 dK z (by simp);exact⟨by rw [zH.size this.2]; exact this.1,this.2⟩
 have Ue:=fY.replicate zH Ix.1 Ix.2 len;rw [← sq zv.cells (by omega) len,Ix.1]at Ue;obtain⟨cs,g1,g2,g3⟩:=D8 he hg ps'.toList ps l _ _ es hp hl Ue vj;refine⟨cs, ?_,g2,by simpa using g3⟩;have Gi:(ps'.map fun (i,x)=>(i,a.eval x)).toList=ps'.toList.map fun p=>(p.1,a.eval p.2):=by simp
 unfold Instr.buildSlice;rw [Sem.run_bind,run_underlying hu];simp only [Result.andThen_ok,Sem.run_bind,fU fR];rw [aJ rX];by_cases h0:len * (m+1)=0
 ·have hlen:len=0:=by
   rcases Nat.mul_eq_zero.1 h0 with h | h
   ·exact h
   ·omega
  subst hlen;have hE:∀f:Nat->Value,Array.map f (Array.range 0)= #[]:=fun f=>by apply dG; simp
  rw [oy,hE]at g1;simp only [oy,ep,Sem.run_bind,Sem.run_pure,Result.andThen_ok,hE,Gi,g1];rfl
 ·simp only [aJ h0,Sem.run_bind,Sem.run_pure,Result.andThen_ok,Sem.run_map,z1,Ix.1,Gi,g1];rfl
theorem J7 {t e:TypeId}{m len:Nat}{z:D} {ps' :Array (Nat×Operand)}{ps:List (Nat×bP)}(hu:P.underlying t=some (.slice e))(fR:dM P e=some (m+1))(rX: ¬ (len * (m+1) > 2 ^ 24))(hz:jI P e=some z)
  (hp:mQ G ps'.toList ps)(h:cB C env s al (.tQ (m+1) e z len ps)=some (d,s')){o:Oper}(ho:o.op= .buildSlice t len ps'):fb P ρ w env a.tmps d s' ((execOp a.eval o).run P w):=by
 simp only [cB]at h;split at h
 ·rename_i l hl dK;split at h
  ·rename_i es vj;split at h
   ·rename_i k s2 hm;simp only [aa,ab]at h;obtain⟨rfl,rfl⟩:=h;obtain⟨cs,g1,g2,g3⟩:=zi (P:=P) he hg hu fR rX hz dK hp hl vj;have zf:=g2.length;simp only [fa]at zf;obtain⟨ρ',n1,n2,n3⟩:=BI (w' :=w.alloc (.cells cs e)) (rest:=[]) hs (kP m) hm g2 (by simp) zf (an _) rfl rfl rfl rfl;have hr:(execOp a.eval o).run P w= .ok (.value (.slice (some ⟨w.heap.size,0,none⟩) len len)) (w.alloc (.cells cs e)):=by
     simp only [execOp,ho]; rw [Sem.run_bind,g1]; rfl
    rw [hr];rw [g3]at n3;exact .val n1 n2 n3
   ·cases h
  ·cases h
 ·cases h
theorem KO {t e:TypeId}{m len:Nat}{z:D} {ps' :Array (Nat×Operand)}{ps:List (Nat×bP)}(hu:P.underlying t=some (.slice e))(fR:dM P e=some (m+1))(rX: ¬ (len * (m+1) > 2 ^ 24))(hz:jI P e=some z)
  (hp:mQ G ps'.toList ps)(h:cB C env s al (.qe (m+1) z len ps)=some (d,s')){o:Oper}(ho:o.op= .buildSlice t len ps'):fb P ρ w env a.tmps d s' ((execOp a.eval o).run P w):=by
 simp only [cB]at h;split at h
 ·rename_i l hl dK;split at h
  ·rename_i es vj;simp only [aa,ab]at h;obtain⟨rfl,rfl⟩:=h;obtain⟨cs,g1,g2,g3⟩:=zi (P:=P) he hg hu fR rX hz dK hp hl vj;have hr:(execOp a.eval o).run P w= .ok (.value (.slice (some ⟨w.heap.size,0,none⟩) len len)) (w.alloc (.cells cs e)):=by
    simp only [execOp,ho]; rw [Sem.run_bind,g1]; rfl
   rw [hr];have hK:Kp ρ w ρ (w.alloc (.cells cs e)):=⟨rfl,rfl,rfl,(by show w.heap.size<=(w.heap.push _).size; simp),fun b hb _=>⟨iz rfl hb,rfl⟩,fun _ h=>⟨h,rfl⟩,fun _ _ h=> .inr ⟨h,fun _ hb=>⟨hb,rfl,an _,rfl⟩⟩⟩;have hS:bZ ρ s (w.alloc (.cells cs e)):=hs.bR hK.r (fun _ _=>mZ) rfl (fun b o hb=>⟨iz rfl (hs.jN hb),rfl,rfl,rfl⟩) (fun b hb=>hs.size b (by have hb:(w.heap.push (.cells cs e)).size<=b:=hb; simp at hb; omega));refine .val hK hS ?_;simp only [aS];refine .inr ⟨trivial,⟨w.heap.size,0,none⟩,len,by rw [g3],by omega,.inr ⟨_,_,rfl,hs.size _ (an _),fX.of (kP m) _ _ fun i x hi=> ?_⟩⟩;exact (g2.mono hK).get (l9 (lY (w:=w) rfl) (rest:=[]) (by simp)) i x hi
  ·cases h
 ·cases h
end
end Go.Ab
