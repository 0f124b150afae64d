/- Part. -/
import Derived.Test.YthaiegafejbmoaaGreatDoorG07
set_option linter.unusedSectionVars false
set_option linter.unusedSimpArgs false
set_option linter.unusedVariables false
namespace Go.Ab
open Go
variable [eh]
variable {ρ ρ' :Gh} {w w' :World}{P:Program}{pn:gY}{G:Gl}{X:ig}{A:mT} {s s' :St}{env:Env}{a:Act}{lo:Nat}{d:D}{C:au}{al:Option Nat}
theorem lS {b:Nat}{cs:Array Value}{e:TypeId}{f:Nat×Nat}(h:w.heap[b]? =some (.cells cs e f)){vs rest:List Value}(hv:cs.toList=vs++rest):w.rangeAt b 0 vs:=fun j u hj=>by
 have eW:j < vs.length:=(aj.1 hj).1;rw [dX h,← Array.getElem?_toList,hv,aK (by omega)];exact (by simpa using hj)
theorem CC (hs:bK ρ s w){z cp:Nat}{l:List D}{vs rest:List Value}{cs:Array Value}{e:TypeId}{k:Nat}(z0:0 < z)(hm:s.mk' al (.arr z e l 0)=some (k,s'))(hl:fT ρ w z l vs)(qW:cs.toList=vs++rest)(fQ:cs.size=cp * z)(hle:l.length<=cp)
  (hh:w'.heap=w.heap.push (.cells cs e))(ho:w'.os=w.os)(ht:w'.tape=w.tape)(hu:w'.output=w.output):
  ∃ρ',Kp ρ w ρ' w' /\bK ρ' s' w' /\aR ρ' w' (.sl k 0 l.length l.length) (.slice (some ⟨w.heap.size,0,none⟩) l.length cp):=by
 obtain⟨n1,n2,n3,n4⟩:=zy (w' :=w') hs hm z l.length cp hh ho ht hu (fun hK oO hb=>by
  refine⟨z0,by simp [Gh.new],by omega,⟨w.heap.size,oO.1,by simp [Gh.new],fun b h _=>oO.2 b h⟩,fun b iS => ?_,hl.eC⟩;obtain rfl:=oO.2 b iS;refine⟨by simp [Gh.new],by simp [Gh.new],by simp [Gh.new]; exact hle,fun j hj=> ?_,⟨_,_,hb⟩,fun _ i d h1 h2 h3=> ?_⟩
  ·simp only [Gh.new,ei]at hj;rw [← fQ]at hj;refine⟨by rw [dX hb]; simp [hj],by simp [World.frozen?,hb]⟩
  ·obtain⟨v,v1,v2,v3,v4⟩:=(hl.mono hK).get (w' :=w') (lS hb qW) i d h3;refine⟨v,v1,v2, ?_⟩;simpa [Gh.new] using v3)
 refine⟨_,n1,n2, ?_⟩;simp only [aR,Gh.at,n4];exact⟨w.heap.size,n3,by simp [Gh.new],by simp [Gh.new],aq _,0,cp,rfl,hle,.inr (by simp),by simp [Gh.new]⟩
theorem fT.set {z:Nat}{x:D}{v:Value}(hv:aR ρ w x v)(hz:v.cells.size=z)(cG:x.st=true):∀ {l:List D} {vs:List Value} {i:Nat},fT ρ w z l vs->i < l.length->fT ρ w z (l.set i x) (over vs (i * z) v.cells.toList)
 | [],_,i,_,hi=>by simp at hi
 | d::l,_,0,h,_=>by
  obtain⟨u,r,rfl,h2,h3,h4,h5⟩:=h;refine⟨v,r, ?_,hv,hz,cG,h5⟩;rw [nO _ _ _ (by omega)];have:v.cells.toList.length=u.cells.toList.length:=by simp; omega
  rw [nF,aU,this,List.drop_left];simp
 | d::l,_,i+1,h,hi=>by
  obtain⟨u,r,rfl,h2,h3,h4,h5⟩:=h;have ih:=fT.set hv hz cG (i:=i) h5 (by simpa using hi);refine⟨u,_, ?_,h2,h3,h4,ih⟩;have hl:u.cells.toList.length=z:=by simpa using h3
  have hr:=h5.length;have eW:i * z<=r.length:=by rw [hr]; exact cX _ (by simp at hi; omega)
  rw [nO _ _ _ (by simp [hr,h3,bJ]at *; omega),nO _ _ _ eW];rw [bJ,Nat.one_mul,List.take_append,List.drop_append,hl];rw [fc (by omega),dH (by omega)];simp [Nat.add_sub_cancel,show i * z+z+v.cells.size - z=i * z+v.cells.size by omega]
theorem fT.replicate {z:Nat}{x:D}{v:Value}(hv:aR ρ w x v)(hz:v.cells.size=z)(cG:x.st=true):∀n,fT ρ w z (List.replicate n x) (List.replicate n v.cells.toList).flatten
 | 0=>rfl
 | n+1=>⟨v,_,by simp [je],hv,hz,cG,fT.replicate hv hz cG n⟩
theorem sL (zs:Array Value)(h0:0 < zs.size):∀n,((Array.range (n * zs.size)).map (fun i=>zs[i % zs.size]!)).toList=(List.replicate n zs.toList).flatten
 | 0=>by simp
 | n+1=>by
  rw [j7,List.flatten_append,← sL zs h0 n];simp only [jf,Array.toList_range,List.flatten_cons,List.flatten_nil,de];rw [bJ,Nat.one_mul,List.range_add,eX]
  congr 1
  refine List.ext_getElem (by simp) fun j h1 h2=> ?_;have hj:j < zs.size:=by simpa using h2
  have:(n * zs.size+j) % zs.size=j:=by rw [kr,Nat.mul_add_mod,kq hj]
  simp only [List.getElem_map,List.getElem_range,this];rw [getElem!_pos zs j hj,Array.getElem_toList]
def mj (G:Gl):List (Nat×Operand)->List (Nat×bO)->Prop
 | [],[]=>True
 | (i,x)::r,(o,y)::q=>i=o/\ew G x=some y/\mj G r q
 | _,_=>False
theorem tq {F:Nat×Operand->Option (Nat×bO)}(hF:∀i x p,F (i,x)=some p->p.1=i/\ew G x=some p.2):
  ∀(l:List (Nat×Operand)) (r:List (Nat×bO)),l.mapM F=some r->mj G l r
 | [],r,h=>by simp at h; subst h; trivial
 | (i,x)::l,r,h=>by
  simp only [jh,aL,aE,ae]at h;obtain⟨p,h1,q,h2,h3⟩:=h;simp only [aa]at h3; subst h3;obtain⟨g1,g2⟩:=hF i x p h1;exact⟨g1.symm,g2,tq hF l q h2⟩
theorem D1 (he:dW ρ w lo env a.tmps)(hg:gn pn G ρ w){z:Nat}:∀(ps' :List (Nat×Operand)) (ps:List (Nat×bO)) (l:List (Nat×D)) (cs:List D) (vs:Array Value) (cs' :List D),
  mj G ps' ps->jk env ps=some l->fT ρ w z cs vs.toList->sX z cs l=some cs' ->
  ∃vs',Instr.fill (fun i=>some (i * z,z)) vs (ps'.map fun p=>(p.1,a.eval p.2))=some vs' /\fT ρ w z cs' vs'.toList/\cs'.length=cs.length
 | [],[],l,cs,vs,cs',_,h1,h2,h4=>by
  simp only [jk,aa]at h1; subst h1;simp only [sX,aa]at h4; subst h4;exact⟨vs,by simp [Instr.fill],h2,rfl⟩
 | [],_::_,_,_,_,_,h,_,_,_=>h.elim
 | _::_,[],_,_,_,_,h,_,_,_=>h.elim
 | (i,x)::r,(o,y)::q,l,cs,vs,cs',⟨p1,p2,p3⟩,h1,h2,h4=>by
  subst p1;simp only [jk]at h1;split at h1
  ·rename_i d hd;split at h1
   ·rename_i l' Q8;simp only [aa]at h1; subst h1;simp only [sX]at h4;split at h4
    ·rename_i e1 e2;split at h4
     ·rename_i e3;have hv:=bc p2 he hg hd;have hz:=ay e1;have eW:=az e3;have fQ:=hv.size e2;have hlen:=h2.length;simp only [eO]at hlen;have Sq:i * z+z<=vs.size:=by
       rw [hlen];have:=cX z (show i+1<=cs.length by omega);rw [bJ]at this; omega
      have UH:=vI (i * z) (a.eval x).cells.toList 0 vs (by simp; omega);simp only [fu]at UH;have hc: ¬ ((a.eval x).cells.size≠z\/i * z+(a.eval x).cells.size > vs.size):=by omega
      obtain⟨vs',g1,g2,g3⟩:=D1 he hg r q l' (cs.set i d) (List.foldl (fun (cs:Array Value) (x:Value×Nat)=>cs.setIfInBounds (i * z+x.2) x.1) vs ((a.eval x).cells.toList.zipIdx 0)) cs' p3 Q8
       (by rw [UH]; exact h2.set hv (by omega) e2 (by omega)) h4
      refine⟨vs', ?_,g2,by simpa using g3⟩;simp only [bT,Instr.fill];rw [aI (by simpa using hc)];rw [← g1]
      congr 1
      rw [← Array.foldl_toList,Array.toList_zipIdx]
     ·cases h4
    ·cases h4
   ·cases h1
  ·cases h1
section
variable (he:dW ρ w lo env a.tmps)(hg:gn pn G ρ w)(hs:bK ρ s w)
include he hg hs
omit hs in
theorem zV {t e:TypeId}{m len:Nat}{z:D} {ps' :Array (Nat×Operand)}{ps:List (Nat×bO)}{l:List (Nat×D)}{es:List D}(hu:P.underlying t=some (.slice e))(fQ:dC P e=some (m+1))(xq: ¬ (len * (m+1) > 2 ^ 24))(hz:jA P e=some z)
  (fN:eC (m+1) [z]=true)(hp:mj G ps'.toList ps)(hl:jk env ps=some l)(vm:sX (m+1) (List.replicate len z) l=some es):
  ∃cs:Array Value,(Instr.buildSlice t len (ps'.map fun (i,x)=>(i,a.eval x))).run P w= .ok (.slice (some ⟨w.heap.size,0,none⟩) len len) (w.alloc (.cells cs e))/\fT ρ w (m+1) es cs.toList/\es.length=len:=by
 obtain⟨zv,z1,z2,z3⟩:=ki (w:=w) hz;have Aq:=jY (ρ:=ρ) (w:=w) zv z z2;have Ii:zv.cells.size=m+1/\z.st=true:=by
  have:=gL.1 fN z (by simp);exact⟨by rw [Aq.size this.2]; exact this.1,this.2⟩
 have Uy:=fT.replicate Aq Ii.1 Ii.2 len;rw [← sL zv.cells (by omega) len,Ii.1]at Uy;obtain⟨cs,g1,g2,g3⟩:=D1 he hg ps'.toList ps l _ _ es hp hl Uy vm;refine⟨cs, ?_,g2,by simpa using g3⟩;have GI:(ps'.map fun (i,x)=>(i,a.eval x)).toList=ps'.toList.map fun p=>(p.1,a.eval p.2):=by simp
 unfold Instr.buildSlice;rw [Sem.run_bind,run_underlying hu];simp only [Result.andThen_ok,Sem.run_bind,fD fQ];rw [aI xq];by_cases h0:len * (m+1)=0
 ·have hlen:len=0:=by
   rcases Nat.mul_eq_zero.1 h0 with h | h
   ·exact h
   ·omega
  subst hlen;have hE:∀f:Nat->Value,Array.map f (Array.range 0)= #[]:=fun f=>by apply cZ; simp
  rw [nF,hE]at g1;simp only [nF,ei,Sem.run_bind,Sem.run_pure,Result.andThen_ok,hE,GI,g1];rfl
 ·simp only [aI h0,Sem.run_bind,Sem.run_pure,Result.andThen_ok,Sem.run_map,z1,Ii.1,GI,g1];rfl
theorem KA {t e:TypeId}{m len:Nat}{z:D} {ps' :Array (Nat×Operand)}{ps:List (Nat×bO)}(hu:P.underlying t=some (.slice e))(fQ:dC P e=some (m+1))(xq: ¬ (len * (m+1) > 2 ^ 24))(hz:jA P e=some z)
  (hp:mj G ps'.toList ps)(h:cg C env s al (.tw (m+1) e z len ps)=some (d,s')){o:Oper}(ho:o.op= .buildSlice t len ps'):eP P ρ w env a.tmps d s' ((execOp a.eval o).run P w):=by
 simp only [cg]at h;split at h
 ·rename_i l hl fN;split at h
  ·rename_i es vm;split at h
   ·rename_i k s2 hm;simp only [aa,ab]at h;obtain⟨rfl,rfl⟩:=h;obtain⟨cs,g1,g2,g3⟩:=zV (P:=P) he hg hu fQ xq hz fN hp hl vm;have Oy:=g2.length;simp only [eO]at Oy;obtain⟨ρ',n1,n2,n3⟩:=CC (w' :=w.alloc (.cells cs e)) (rest:=[]) hs (ku m) hm g2 (by simp) Oy (aq _) rfl rfl rfl rfl;have hr:(execOp a.eval o).run P w= .ok (.value (.slice (some ⟨w.heap.size,0,none⟩) len len)) (w.alloc (.cells cs e)):=by
     simp only [execOp,ho]; rw [Sem.run_bind,g1]; rfl
    rw [hr];rw [g3]at n3;exact .val n1 n2 n3
   ·cases h
  ·cases h
 ·cases h
theorem KJ {t e:TypeId}{m len:Nat}{z:D} {ps' :Array (Nat×Operand)}{ps:List (Nat×bO)}(hu:P.underlying t=some (.slice e))(fQ:dC P e=some (m+1))(xq: ¬ (len * (m+1) > 2 ^ 24))(hz:jA P e=some z)
  (hp:mj G ps'.toList ps)(h:cg C env s al (.pP (m+1) z len ps)=some (d,s')){o:Oper}(ho:o.op= .buildSlice t len ps'):eP P ρ w env a.tmps d s' ((execOp a.eval o).run P w):=by
 simp only [cg]at h;split at h
 ·rename_i l hl fN;split at h
  ·rename_i es vm;simp only [aa,ab]at h;obtain⟨rfl,rfl⟩:=h;obtain⟨cs,g1,g2,g3⟩:=zV (P:=P) he hg hu fQ xq hz fN hp hl vm;have hr:(execOp a.eval o).run P w= .ok (.value (.slice (some ⟨w.heap.size,0,none⟩) len len)) (w.alloc (.cells cs e)):=by
    simp only [execOp,ho]; rw [Sem.run_bind,g1]; rfl
   rw [hr];have hK:Kp ρ w ρ (w.alloc (.cells cs e)):=⟨rfl,rfl,rfl,(by show w.heap.size<=(w.heap.push _).size; simp),fun b hb _=>⟨hZ rfl hb,rfl⟩,fun _ h=>⟨h,rfl⟩,fun _ _ h=> .inr ⟨h,fun _ hb=>⟨hb,rfl,aq _,rfl⟩⟩⟩;have hS:bK ρ s (w.alloc (.cells cs e)):=hs.bM hK.r (fun _ _=>kN) rfl (fun b o hb=>⟨hZ rfl (hs.jG hb),rfl,rfl,rfl⟩) (fun b hb=>hs.size b (by have hb:(w.heap.push (.cells cs e)).size<=b:=hb; simp at hb; omega));refine .val hK hS ?_;simp only [aR];refine .inr ⟨trivial,⟨w.heap.size,0,none⟩,len,by rw [g3],by omega,.inr ⟨_,_,rfl,hs.size _ (aq _),fJ.of (ku m) _ _ fun i x hi=> ?_⟩⟩;exact (g2.mono hK).get (lS (lN (w:=w) rfl) (rest:=[]) (by simp)) i x hi
  ·cases h
 ·cases h
end
end Go.Ab
