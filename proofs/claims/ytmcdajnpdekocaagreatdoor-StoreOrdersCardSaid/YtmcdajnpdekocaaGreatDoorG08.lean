/- Part. -/
import Derived.Test.YtmcdajnpdekocaaGreatDoorG07
set_option linter.unusedSectionVars false
set_option linter.unusedSimpArgs false
set_option linter.unusedVariables false
namespace Go.Ab
open Go
variable [Vals]
variable {ρ ρ' :Gh} {w w' :World}{P:Program}{pn:Pins}{G:Gl}{X:Exts}{A:Adv} {s s' :St}{env:Env}{a:Act}{lo:Nat}{d:D}{C:zAa}{al:Option Nat}
theorem OpOk.val {v:Value}{tmps:Array Value}(hK:Kp ρ w ρ' w')(hS:zPl ρ' s' w')(hR:Rep ρ' w' d v):OpOk P ρ w env tmps d s' (.ok (.value v) w'):=⟨ρ',hK,hS,.of_rep hR⟩
def Gh.grow (ρ:Gh)(b ex:Nat):Gh:= { ρ with ext:=fun x=>if x=b then ex else ρ.ext x}
theorem Gh.grow_self (ρ:Gh)(b:Nat):ρ.grow b (ρ.ext b)=ρ:=by
 unfold Gh.grow
 have:(fun x=>if x=b then ρ.ext b else ρ.ext x)=ρ.ext:=by funext x; split <;> simp_all
 rw [this]
theorem yIa (hs:zPl ρ s w){o b:Nat}{x:Obj}(hset:s.set o x=some s')(hb:ρ.own b= .obj o)(hlt:o < s.n)(hh:∀b',b' ≠b→w'.heap[b']? =w.heap[b']?)(hsz:w'.heap.size=w.heap.size)
  (ho:w'.os=w.os)(ht:w'.tape=w.tape)(hu:w'.output=w.output){ex:Nat}(hex:ρ.ext b≤ex)(hx:Kp ρ w (ρ.grow b ex) w' →zQt (ρ.grow b ex) w' o x):
  Kp ρ w (ρ.grow b ex) w' ∧zPl (ρ.grow b ex) s' w' :=by
 have hK:Kp ρ w (ρ.grow b ex) w' :=by
  refine⟨ho,ht,hu,by omega,fun b' _ hn=>⟨hh b' (fun e=>hn o (e ▸ hb)),rfl⟩,fun _ h=>⟨h,rfl⟩,fun o' z h=> .inr ⟨h,fun b' hb' =>⟨hb',rfl, ?_,rfl⟩⟩⟩
  simp only [Gh.grow]; split
  ·rename_i e; rw [e]; exact hex
  ·exact Nat.le_refl _
 have:=St.set_some hset; subst this
 refine⟨hK,hs.upd hK o x (fun _ _ _ _=>Iff.rfl) (fun _ _=>rfl) (fun b' o' hne _ hb' => ?_) (hx hK) (fun b' h=>hs.size b' (by omega)) hlt (Nat.le_refl _) (St.get_set0 s o x)⟩
 have hne' :b' ≠b:=fun e=>by rw [e,hb]at hb'; simp at hb'; exact hne hb'.symm
 exact⟨hh b' hne',rfl,by simp [Gh.grow,hne'],rfl⟩
theorem zHe (hs:zPl ρ s w){o b:Nat}{x:Obj}(hset:s.set o x=some s')(hb:ρ.own b= .obj o)(hlt:o < s.n)(hh:∀b',b' ≠b→w'.heap[b']? =w.heap[b']?)(hsz:w'.heap.size=w.heap.size)
  (ho:w'.os=w.os)(ht:w'.tape=w.tape)(hu:w'.output=w.output)(hx:Kp ρ w ρ w' →zQt ρ w' o x):Kp ρ w ρ w' ∧zPl ρ s' w' :=by
 have:=yIa (ex:=ρ.ext b) hs hset hb hlt hh hsz ho ht hu (Nat.le_refl _)
 rw [Gh.grow_self]at this
 exact this hx
theorem zKw {b b' :Nat}{ob:Go.Obj}(h:b' ≠b):({ w with heap:=w.heap.setIfInBounds b ob}:World).heap[b']? =w.heap[b']? :=by
 show (w.heap.setIfInBounds b ob)[b']? =_
 rw [Array.getElem?_setIfInBounds,if_neg (fun e=>h e.symm)]
theorem zKx {b:Nat}{ob:Go.Obj}(h:b < w.heap.size):({ w with heap:=w.heap.setIfInBounds b ob}:World).heap[b]? =some ob:=by
 show (w.heap.setIfInBounds b ob)[b]? =_
 rw [Array.getElem?_setIfInBounds,if_pos rfl,if_pos h]
theorem zNc {b:Nat}{ob:Go.Obj}(h:w.heap[b]? =some ob):b < w.heap.size:=by
 rcases Nat.lt_or_ge b w.heap.size with hb | hb
 ·exact hb
 ·simp [Array.getElem?_eq_none hb]at h
section
variable (he:EnR ρ w lo env a.tmps)(hg:GlOk pn G ρ w)(hs:zPl ρ s w)
include he hg hs
theorem yFg {t q e:TypeId}{et:ET}{z:D}{ok:Bool} {m' k' :Operand}{m k:Opd}(hm:opd G m' =some m)(hk:opd G k' =some k)(hu:P.underlying t=some (.map q e))(het:etB P 8 q=some et)(hz:zPu P e=some z)
  (h:opF C env s al (.lookup et z ok m k)=some (d,s')){o:Oper}(ho:o.op= .lookup t m' k' ok):OpOk P ρ w env a.tmps d s' ((execOp a.eval o).run P w):=by
 simp only [opF]at h
 split at h
 ·rename_i mm kk hm1 hk1
  split at h
  ·cases h
  ·rename_i hkd
   have hv:=opR hm he hg hm1
   have hkv:=opR hk he hg hk1
   have hck:∀em,(Instr.checkKey em 10000 q (a.eval k')).run P w= .ok () w:=fun em=>zEv em 8 q et het 10000 (by decide) kk _ hkd hkv
   obtain⟨zv,z1,z2,z3⟩:=zCi (w:=w) hz
   have hzv:=zCg (ρ:=ρ) (w:=w) zv z z2
   have key:∀es (ces:Array MapEntry) r,RepM ρ w es ces.toList→Ab.findKey et kk es 0=some r→
     ((a.eval m' = .map none∧ces= #[])∨∃b c,a.eval m' = .map (some b)∧w.heap[b]? =some (.map ces c))→
     OpOk P ρ w env a.tmps (match r with | some (_,v)=>okD ok v true | none=>okD ok z false) s ((execOp a.eval o).run P w):=by
    intro es ces r hM hf hc
    obtain⟨r',g1,g2⟩:=zCn (P:=P) het hkv hM hf
    have fin:∀u,(Instr.lookup t (a.eval m') (a.eval k') ok).run P w= .ok u w→(execOp a.eval o).run P w= .ok (.value u) w:=by
     intro u hu'
     simp only [execOp,ho]; rw [Sem.run_bind,hu']; rfl
    have hes:(Instr.lookup t (a.eval m') (a.eval k') ok).run P w= .ok (match r' with | some (_,v)=>(if ok then .tuple #[v,.bool true] else v) | none=>(if ok then .tuple #[zv,.bool false] else zv)) w:=by
     unfold Instr.lookup
     rw [Sem.run_bind,run_underlying hu]
     rcases hc with ⟨hc,rfl⟩ | ⟨b,c,hc,hb⟩
     ·simp only [hc]
      have g1:(Instr.findKey q (a.eval k') []).run P w= .ok r' w:=g1
      cases r' <;> cases ok <;> simp [hck,g1,z1]
     ·simp only [hc]
      cases r' <;> cases ok <;> simp [hck,g1,z1,getObj,Sem.run,hb]
    cases r with
    | none=>
     simp only [Found]at g2; subst g2
     simp only at hes
     rw [fin _ hes]
     cases ok
     ·exact .rep hs hzv
     ·refine .rep hs ?_
      simp [okD,Rep,RepL,hzv]
    | some p=>
     obtain⟨i,dv⟩:=p
     obtain⟨v,rfl,g3⟩:=g2
     simp only at hes
     rw [fin _ hes]
     cases ok
     ·exact .rep hs g3
     ·refine .rep hs ?_
      simp [okD,Rep,RepL,g3]
   cases mm <;> simp only at h <;> (try (cases h; done))
   case nilm=>
    simp only [Option.some.injEq,Prod.mk.injEq]at h
    obtain⟨rfl,rfl⟩:=h
    simp only [Rep]at hv
    exact key [] #[] none (by simp [RepM]) (by simp [Ab.findKey]) (.inl ⟨hv,rfl⟩)
   case mp ob=>
    split at h
    ·rename_i es c hx
     obtain⟨b,ces,k1,one,hb,hM⟩:=hs.ok _ _ hx
     simp only [Rep,Gh.at,k1]at hv
     obtain⟨b',hb',hv⟩:=hv
     obtain rfl:=one.2 _ hb'
     split at h
     ·rename_i i v hf
      simp only [Option.some.injEq,Prod.mk.injEq]at h
      obtain⟨rfl,rfl⟩:=h
      exact key es ces (some (i,v)) hM hf (.inr ⟨b',c,hv,hb⟩)
     ·rename_i hf
      simp only [Option.some.injEq,Prod.mk.injEq]at h
      obtain⟨rfl,rfl⟩:=h
      exact key es ces none hM hf (.inr ⟨b',c,hv,hb⟩)
     ·cases h
    ·cases h
 ·cases h
omit he hg hs in
theorem flat_st {z:D}(h:z.flat.all D.sc=true):z.st=true:=by
 cases z <;> simp_all [D.flat,D.st,D.sc]
omit he hg hs in
theorem zFh {place:Nat→Option (Nat×Nat)}{F:Nat×Operand→Option (Nat×Nat×Opd)}(hF:∀i x p,F (i,x)=some p→place i=some (p.1,p.2.1)∧opd G x=some p.2.2):
  ∀(l:List (Nat×Operand)) (r:List (Nat×Nat×Opd)),l.mapM F=some r→zJh G place l r
 | [],r,h=>by simp at h; subst h; trivial
 | (i,x)::l,r,h=>by
  simp only [List.mapM_cons,Option.pure_def,Option.bind_eq_bind,Option.bind_eq_some_iff]at h
  obtain⟨p,h1,q,h2,h3⟩:=h
  simp only [Option.some.injEq]at h3; subst h3
  obtain⟨g1,g2⟩:=hF i x p h1
  exact⟨g1,g2,zFh hF l q h2⟩
theorem zVv {t:TypeId}{zt:D} {ps' :Array (Nat×Operand)}{ps:List (Nat×Nat×Opd)}{place:Nat→Option (Nat×Nat)}(hz:zPu P t=some zt)
  (hb:∀zv vs r,(P.info? t).bind (·.zero)=some zv→Instr.fill place zv.cells vs=some r→P.built t vs=some r)(hp:zJh G place ps'.toList ps)
  (h:opF C env s al (.build zt.flat ps)=some (d,s')){o:Oper}(ho:o.op= .build t ps'):OpOk P ρ w env a.tmps d s' ((execOp a.eval o).run P w):=by
 simp only [opF]at h
 split at h
 ·rename_i l hl hsc
  split at h
  ·rename_i cs hcs
   simp only [Option.some.injEq,Prod.mk.injEq]at h
   obtain⟨rfl,rfl⟩:=h
   obtain⟨zv,z1,z2,z3⟩:=zCi (w:=w) hz
   have hzv:=zCg (ρ:=ρ) (w:=w) zv zt z2
   obtain⟨vs',g1,g2,g3⟩:=yBl he hg _ _ l zt.flat zv.cells cs hp hl (hzv.flat (flat_st hsc)).1 hsc hcs
   have hr:(execOp a.eval o).run P w= .ok (.value (.agg vs')) w:=by
    simp only [execOp,ho]
    rw [Sem.run_bind,run_build w t _ vs' (by
     rw [Array.toList_map]
     exact hb zv _ vs' z3 g1)]
    rfl
   rw [hr]
   exact .rep hs (by simp only [Rep]; exact ⟨vs',rfl,g2,g3⟩)
  ·cases h
 ·cases h
end
theorem zNo {e e' v:D}{u x:Value}{c:Nat}(he:Rep ρ w e u)(hst:e.st=true)(hv:Rep ρ w v x)(h:e.over c v=some e'):
  ∃u',Rep ρ w e' u' ∧e'.st=true∧u'.cells.toList=over u.cells.toList c x.cells.toList∧c+x.cells.size≤u.cells.size∧v.st=true:=by
 unfold D.over at h
 split at h
 ·cases h
 ·rename_i hvst
  have hf:=hv.flat hvst
  have hxs:=hv.size hvst
  split at h
  ·rename_i cs
   split at h
   ·rename_i hle
    simp only [Option.some.injEq]at h; subst h
    have hle:=Nat.le_of_ble_eq_true hle
    simp only [Rep]at he
    obtain⟨vs,rfl,h1,h2⟩:=he
    have hl:=h1.length
    simp only [Array.length_toList]at hl
    refine⟨.agg (over vs.toList c x.cells.toList).toArray, ?_, ?_,by simp [Value.cells],(by show c+x.cells.size≤vs.size; omega),hvst⟩
    ·simp only [Rep]
     exact⟨_,rfl,by simpa using h1.over hf.1 (by omega),zTd h2 (D.st_flat hvst) (by omega)⟩
    ·simp only [D.st]; exact zTd h2 (D.st_flat hvst) (by omega)
   ·cases h
  ·rename_i hna
   split at h
   ·rename_i h0 hsc
    simp only [Option.some.injEq]at h; subst h
    obtain rfl:=Nat.eq_of_beq_eq_true h0
    have hesc:e.sc=true:=by
     rcases D.st_cases hst with ⟨l,rfl,_⟩ | h
     ·exact absurd rfl (hna _)
     ·exact h
    have c1:=(he.sc hesc).2
    have c2:=(hv.sc hsc).2
    exact⟨x,hv,D.sc_st hsc,by rw [c1,c2]; simp [over],by rw [c1,c2]; simp,hvst⟩
   ·cases h
theorem zBj {b:Nat}:∀(us:List Value) (c:Nat) (w:World) (cs:Array Value) (e:TypeId) (f:Nat×Nat),w.heap[b]? =some (.cells cs e f)→c+us.length≤cs.size→
  (∃cs' :Array Value,(w.setCells b c us).heap[b]? =some (.cells cs' e f)∧cs'.toList=over cs.toList c us)∧(∀b',b' ≠b→(w.setCells b c us).heap[b']? =w.heap[b']?)∧(w.setCells b c us).heap.size=w.heap.size∧
  (w.setCells b c us).os=w.os∧(w.setCells b c us).tape=w.tape∧(w.setCells b c us).output=w.output
 | [],c,w,cs,e,f,h,_=>⟨⟨cs,h,by rw [zDr]⟩,fun _ _=>rfl,rfl,rfl,rfl,rfl⟩
 | u::us,c,w,cs,e,f,h,hle=>by
  simp only [List.length_cons]at hle
  have hlt:=zNc h
  have h1:(w.setCell ⟨b,c,none⟩ u).heap[b]? =some (.cells (cs.setIfInBounds c u) e f):=by
   simp [World.setCell,Array.getElem?_modify,h]
  have h2:∀b',b' ≠b→(w.setCell ⟨b,c,none⟩ u).heap[b']? =w.heap[b']? :=by
   intro b' hne
   simp [World.setCell,Array.getElem?_modify]
   exact fun e=>absurd e.symm hne
  obtain⟨⟨cs',g1,g2⟩,g3,g4,g5,g6,g7⟩:=zBj us (c+1) (w.setCell ⟨b,c,none⟩ u) _ e f h1 (by simp; omega)
  refine⟨⟨cs',g1, ?_⟩,fun b' hne=>(g3 b' hne).trans (h2 b' hne),g4.trans (by simp [World.setCell]),g5,g6,g7⟩
  rw [g2,zHh _ _ _ _ (by simp; omega)]
  simp
theorem zFl {α:Type}:∀(l:List α) (n:Nat) (v:List α) (k:Nat),n+v.length≤l.length→(over l n v)[k]? =if n≤k∧k < n+v.length then v[k - n]? else l[k]? :=by
 intro l n v k h
 rw [zEl _ _ _ (by omega),List.append_assoc]
 rcases Nat.lt_or_ge k n with hk | hk
 ·rw [List.getElem?_append_left (by simp; omega),if_neg (by omega),List.getElem?_take,if_pos hk]
 ·rw [List.getElem?_append_right (by simp; omega)]
  simp only [List.length_take]
  rw [show min n l.length=n by omega]
  rcases Nat.lt_or_ge k (n+v.length) with h2 | h2
  ·rw [List.getElem?_append_left (by omega),if_pos ⟨hk,h2⟩]
  ·rw [List.getElem?_append_right (by omega),if_neg (by omega),List.getElem?_drop]
   congr 1; omega
theorem zBf {sz:Nat}:∀ {l:List D},allSz sz l=true↔∀d∈l,d.flat.length=sz∧d.st=true
 | []=>by simp [allSz]
 | d::l=>by
  simp only [allSz,Bool.and_eq_true,List.mem_cons,zBf (l:=l)]
  constructor
  ·rintro⟨⟨h1,h2⟩,h3⟩ x (rfl | hx)
   ·exact⟨Nat.eq_of_beq_eq_true h1,h2⟩
   ·exact h3 x hx
  ·intro h
   refine⟨⟨?_,(h d (.inl rfl)).2⟩,fun x hx=>h x (.inr hx)⟩
   rw [(h d (.inl rfl)).1]; exact Nat.beq_refl _
theorem zYz {sz:Nat} {l l' :List D}(h:allSz sz l=true) (h' :allSz sz l' =true){n:Nat}(hn:n≤l.length):allSz sz (over l n l')=true:=by
 rw [zBf]at *
 intro d hd
 rw [zEl _ _ _ hn,List.mem_append,List.mem_append]at hd
 rcases hd with (hd | hd) | hd
 ·exact h d (List.mem_of_mem_take hd)
 ·exact h' d hd
 ·exact h d (List.mem_of_mem_drop hd)
theorem zAc {b j:Nat}{cs:Array Value}{e:TypeId}{f:Nat×Nat}(h:w.heap[b]? =some (.cells cs e f)):w.cell? ⟨b,j,none⟩=cs[j]? :=by
 simp [World.cell?,h]
theorem zGr (hs:zPl ρ s w){o b z st i e:Nat}{es l:List D}{vs:List Value} {cs cs' :Array Value}{f:Nat×Nat}(hob:s.get o=some (.arr z e es st))(hb:ρ.own b= .obj o)(hex:ρ.ext b=es.length)(hi:ρ.sh b≤i)
  (hl:RepC ρ w z l vs)(hle:i+l.length≤es.length)(hcs:w.heap[b]? =some (.cells cs e f)) (hcs' :w'.heap[b]? =some (.cells cs' e f))(hov:cs'.toList=over cs.toList ((i - ρ.sh b) * z) vs)
  (hh:∀b',b' ≠b→w'.heap[b']? =w.heap[b']?)(hsz:w'.heap.size=w.heap.size)(ho:w'.os=w.os)(ht:w'.tape=w.tape)(hu:w'.output=w.output)(hset:s.set o (.arr z e (over es i l) es.length)=some s'):
  Kp ρ w ρ w' ∧zPl ρ s' w' :=by
 obtain⟨z0,k1,hst1,⟨cur,c1,c2,c3⟩,hbl,hall⟩:=hs.ok _ _ hob
 have hB:=hbl b hb
 have hvl:=hl.length
 have hroom:=hB.room
 have hcap:∀j,j < ρ.cap b * z→j < cs.size:=fun j hj=>by
  have:=(hB.cells j hj).1
  rw [zAc hcs]at this
  rcases Nat.lt_or_ge j cs.size with h | h
  ·exact h
  ·simp [Array.getElem?_eq_none h]at this
 have hcapsz:ρ.cap b * z≤cs.size:=by
  rcases Nat.eq_zero_or_pos (ρ.cap b * z) with h | h
  ·omega
  ·have:=hcap (ρ.cap b * z - 1) (by omega); omega
 have hin:(i - ρ.sh b) * z+vs.length≤ρ.cap b * z:=by
  rw [hvl,← Nat.add_mul]; exact Nat.mul_le_mul_right _ (by omega)
 have hlen:(over es i l).length=es.length:=zBr _ _ _ hle
 have hsize:cs'.size=cs.size:=by
  have:=congrArg List.length hov
  rw [zBr _ _ _ (by simp; omega)]at this
  simpa using this
 have hget:∀j,cs'[j]? =if (i - ρ.sh b) * z≤j∧j < (i - ρ.sh b) * z+vs.length then vs[j - (i - ρ.sh b) * z]? else cs[j]? :=fun j=>by
  have:=zFl cs.toList ((i - ρ.sh b) * z) vs j (by simp; omega)
  rw [← hov]at this
  simpa using this
 refine zHe hs hset hb (hs.lt _ _ hob) hh hsz ho ht hu fun hK=>⟨z0,k1,by rw [hlen]; exact Nat.le_refl _,⟨cur,c1,by rw [hlen]; exact c2,fun b' h1 h2=>c3 b' h1 (by rw [← hlen]; exact h2)⟩,fun b' hb' => ?_,zYz hall hl.allSz (by omega)⟩
 by_cases hbb:b' =b
 ·subst hbb
  refine⟨by rw [hlen]; exact hB.ext,hB.sh,hB.room,fun j hj=> ?_,⟨_,_,hcs'⟩,fun g i2 d a1 a2 a3=> ?_⟩
  ·have:=hcap j hj
   refine⟨by rw [zAc hcs']; simp [hsize,this], ?_⟩
   have:=(hB.cells j hj).2
   simp only [World.frozen?,hcs]at this
   simp only [World.frozen?,hcs']
   exact this
  ·rw [zFl _ _ _ _ hle]at a3
   split at a3
   ·rename_i hin2
    have hr:w'.rangeAt b' ((i - ρ.sh b') * z) vs:=fun j u hj=>by
     have hlt:j < vs.length:=(List.getElem?_eq_some_iff.1 hj).1
     rw [zAc hcs',hget,if_pos (by omega)]
     rwa [Nat.add_sub_cancel_left]
    obtain⟨v,v1,v2,v3,v4⟩:=(hl.mono hK).get hr (i2 - i) d a3
    refine⟨v,v1,v2, ?_⟩
    rwa [← Nat.add_mul,show i - ρ.sh b' +(i2 - i)=i2 - ρ.sh b' by omega]at v3
   ·rename_i hout
    obtain⟨v,v1,v2,v3⟩:=hB.elems (by omega) i2 d a1 a2 a3
    refine⟨v,v1.mono hK,v2,fun j hj=> ?_⟩
    have:=v3 j hj
    rw [zAc hcs]at this
    rw [zAc hcs',hget,if_neg,this]
    rcases Nat.lt_or_ge i2 i with hlt | hge
    ·have:(i2 - ρ.sh b' +1) * z≤(i - ρ.sh b') * z:=Nat.mul_le_mul_right _ (by omega)
     rw [Nat.add_mul]at this
     omega
    ·have:(i - ρ.sh b' +l.length) * z≤(i2 - ρ.sh b') * z:=Nat.mul_le_mul_right _ (by omega)
     rw [Nat.add_mul,← hvl]at this
     omega
 ·have hB' :=hbl b' hb'
  have e1:=hh b' hbb
  refine⟨by rw [hlen]; exact hB'.ext,hB'.sh,hB'.room,fun j hj=> ?_,by rw [e1]; exact hB'.shape,fun g i2 d a1 a2 a3=> ?_⟩
  ·rw [cell?_of_heap e1,frozen?_of_heap e1]; exact hB'.cells j hj
  ·have h1:ρ.ext b' =es.length:=Nat.le_antisymm hB'.ext g
   exact absurd ((c3 b' hb' h1).trans (c3 b hb hex).symm) hbb
theorem zLx {t:TypeId}{sz b c:Nat}{v:D}{x:Value}(hsz:zPo P t=some sz)(hv:Rep ρ w v x)(hst:v.st=true)(hl:v.flat.length=sz)(ht:w.there b c sz):
  (Instr.storeAt t (.pointer (some ⟨b,c,none⟩)) x).run P w= .ok () (w.setCells b c x.cells.toList):=by
 have hs:=hv.size hst
 have h1:=run_storeCells_cells (P:=P) b c x.cells.toList 0 w (fun j hj=>by simpa using (ht j (by simp at hj; omega)).1) (fun j hj=>by simpa using (ht j (by simp at hj; omega)).2) (hv.flat hst).2
 simp only [Nat.add_zero]at h1
 have hne: ¬ (x.cells.size≠sz):=by omega
 simp [Instr.storeAt,Instr.sureAddr,storeVar,zAk hsz,h1,show x.cells.size=sz by omega]
section
variable (he:EnR ρ w lo env a.tmps)(hg:GlOk pn G ρ w)(hs:zPl ρ s w)
include he hg hs
theorem ok_box {e:TypeId}{v:D}{x:Opd}{u:Value}(hx:x.ev env=some v)(hv:Rep ρ w v u)(h:opF C env s al (.box e x)=some (d,s')){o:Oper}
  (hr:(execOp a.eval o).run P w= .ok (.value (.pointer (some ⟨w.heap.size,0,none⟩))) (w.alloc (.cells u.cells e))):OpOk P ρ w env a.tmps d s' ((execOp a.eval o).run P w):=by
 simp only [opF,hx]at h
 split at h
 ·rename_i hst
  simp only [Bool.and_eq_true]at hst
  split at h
  ·rename_i k s2 hm
   simp only [Option.some.injEq,Prod.mk.injEq]at h
   obtain⟨rfl,rfl⟩:=h
   have hl:=Nat.le_of_ble_eq_true hst.2
   have hsz:=hv.size hst.1
   obtain⟨n1,n2,n3,n4⟩:=zOl (w' :=w.alloc (.cells u.cells e)) hs hm 1 0 0 rfl rfl rfl rfl (fun hK hone hh=>⟨w.heap.size,u,by simp [Gh.new],hone,hv.mono hK,hh,by omega,hst.1⟩)
   rw [hr]
   exact .val n1 n2 (by simp only [Rep,Gh.at,n4]; exact ⟨_,n3,rfl⟩)
  ·cases h
 ·cases h
theorem ok_mkmap {t:TypeId}{q e:TypeId}(hu:P.underlying t=some (.map q e)) {r' :Option Operand}{r:Option Opd}(hr:opdo G r' =some r)(h:opF C env s al (.mkmap r)=some (d,s')){o:Oper}(ho:o.op= .makeMap t r'):
  OpOk P ρ w env a.tmps d s' ((execOp a.eval o).run P w):=by
 simp only [opF]at h
 split at h
 ·rename_i hok
  split at h
  ·rename_i k s2 hm
   simp only [Option.some.injEq,Prod.mk.injEq]at h
   obtain⟨rfl,rfl⟩:=h
   obtain⟨n1,n2,n3,n4⟩:=zOl (w' :=w.alloc (.map #[] 0)) hs hm 1 0 0 rfl rfl rfl rfl (fun hK hone hh=>⟨w.heap.size, #[],by simp [Gh.new],hone,hh,by simp [RepM]⟩)
   have hrun:(execOp a.eval o).run P w= .ok (.value (.map (some w.heap.size))) (w.alloc (.map #[] 0)):=by
    simp only [execOp,ho]
    cases r' with
    | none=>simp [Instr.makeMap,newObj,Sem.run]
    | some x' =>
     simp only [opdo,Option.map_eq_some_iff]at hr
     obtain⟨x,hx,rfl⟩:=hr
     simp only [evo]at hok
     cases hxe:x.ev env with
     | none=>simp [hxe]at hok
     | some dx=>
      simp only [hxe]at hok
      have hxr:=opR hx he hg hxe
      cases dx <;> simp at hok
      simp only [Rep]at hxr
      simp [Instr.makeMap,run_underlying hu,hxr,asInt,asIntOf,newObj]
      rfl
   rw [hrun]
   exact .val n1 n2 (by simp only [Rep,Gh.at,n4]; exact ⟨_,n3,rfl⟩)
  ·cases h
 ·cases h
omit he hg in
theorem zOv {sz:Nat}{dp v:D}{pv xv:Value}(hpv:Rep ρ w dp pv)(hxv:Rep ρ w v xv)(h1:zCd s sz dp v=some s'):
  ∃b c,pv= .pointer (some ⟨b,c,none⟩)∧v.st=true∧v.flat.length=sz∧w.there b c sz∧Kp ρ w ρ (w.setCells b c xv.cells.toList)∧zPl ρ s' (w.setCells b c xv.cells.toList):=by
 unfold zCd at h1
 split at h1
 ·cases h1
 ·rename_i hl
  have hl:=Nat.eq_of_beq_eq_true hl
  split at h1
  ·rename_i ob c
   split at h1
   ·rename_i el e hob
    split at h1
    ·rename_i e' hov
     obtain⟨b,u,k1,one,r1,r2,r3,r4⟩:=hs.ok _ _ hob
     simp only [Rep,Gh.at,k1]at hpv
     obtain⟨b',hb',hpv⟩:=hpv
     obtain rfl:=one.2 _ hb'
     obtain⟨u',o1,o2,o3,o4,hst⟩:=zNo r1 r4 hxv hov
     have hxs:=hxv.size hst
     obtain⟨⟨cs',g1,g2⟩,g3,g4,g5,g6,g7⟩:=zBj xv.cells.toList c w u.cells el (0,0) r2 (by simpa using o4)
     have hth:w.there b' c sz:=(fun j hj=>by
      have:c+j < u.cells.size:=by omega
      simp [World.cell?,World.frozen?,r2,this])
     have hcs:cs' =u'.cells:=Array.ext' (by rw [g2,o3])
     obtain⟨n1,n2⟩:=zHe (w' :=w.setCells b' c xv.cells.toList) hs h1 one.1 (hs.lt _ _ hob) g3 g4 g5 g6 g7 (fun hK=>by
      refine⟨b',u',k1,one,o1.mono hK,by rw [g1,hcs], ?_,o2⟩
      have:u'.cells.toList.length=u.cells.toList.length:=by rw [o3,zBr]; simpa using o4
      simp at this; omega)
     exact⟨b',c,hpv,hst,hl,hth,n1,n2⟩
    ·cases h1
   ·cases h1
  ·rename_i ob i c e
   split at h1
   ·rename_i z ty es st hob
    split at h1
    ·rename_i hend
     obtain rfl:=Nat.eq_of_beq_eq_true hend
     split at h1
     ·rename_i el hel
      split at h1
      ·rename_i el' hov
       obtain⟨z0,k1,hst1,⟨cur,c1,c2,c3⟩,hbl,hall⟩:=hs.ok _ _ hob
       simp only [Rep,Gh.at,k1]at hpv
       obtain⟨b,hb,q1,q2,q3,hpv⟩:=hpv
       have hB:=hbl b hb
       have hex:ρ.ext b=es.length:=Nat.le_antisymm hB.ext q3
       obtain⟨u,u1,u2,u3⟩:=hB.elems (by omega) i el q1 (by omega) hel
       obtain⟨u',o1,o2,o3,o4,hst⟩:=zNo u1 (zEf hall hel).2 hxv hov
       have hxs:=hxv.size hst
       obtain⟨cs,f,hcell⟩:=hB.shape
       have hzb:(i - ρ.sh b+1) * z≤ρ.cap b * z:=Nat.mul_le_mul_right _ (by have:=hB.room; omega)
       rw [Nat.add_mul]at hzb
       have hth:∀j,j < sz→(w.cell? ⟨b,(i - ρ.sh b) * z+c+j,none⟩).isSome=true∧w.frozen? ⟨b,(i - ρ.sh b) * z+c+j,none⟩=false:=fun j hj=>hB.cells _ (by omega)
       have hlast:(i - ρ.sh b) * z+z≤cs.size:=by
        have:=(hB.cells ((i - ρ.sh b) * z+z - 1) (by omega)).1
        rw [zAc hcell]at this
        rcases Nat.lt_or_ge ((i - ρ.sh b) * z+z - 1) cs.size with h | h
        ·omega
        ·simp [Array.getElem?_eq_none h]at this
       obtain⟨⟨cs',g1,g2⟩,g3,g4,g5,g6,g7⟩:=zBj xv.cells.toList ((i - ρ.sh b) * z+c) w cs ty f hcell (by simp; omega)
       have hu' :u'.cells.size=z:=by
        have:=congrArg List.length o3
        rw [zBr _ _ _ (by simpa using o4)]at this
        simp at this; omega
       have hovr:cs'.toList=over cs.toList ((i - ρ.sh b) * z) u'.cells.toList:=by
        rw [g2,o3]
        refine List.ext_getElem? fun k=> ?_
        rw [zFl _ _ _ _ (by simp; omega),zFl _ _ _ _ (by rw [zBr _ _ _ (by simpa using o4)]; simp; omega),zBr _ _ _ (by simpa using o4)]
        simp only [Array.length_toList]
        by_cases hk:(i - ρ.sh b) * z≤k∧k < (i - ρ.sh b) * z+u.cells.size
        ·rw [if_pos hk,zFl _ _ _ _ (by simpa using o4)]
         simp only [Array.length_toList]
         by_cases hk2:(i - ρ.sh b) * z+c≤k∧k < (i - ρ.sh b) * z+c+xv.cells.size
         ·rw [if_pos hk2,if_pos (by omega)]
          congr 1; omega
         ·rw [if_neg hk2,if_neg (by omega)]
          have:=u3 (k - (i - ρ.sh b) * z) (by omega)
          rw [zAc hcell,show (i - ρ.sh b) * z+(k - (i - ρ.sh b) * z)=k by omega]at this
          simpa using this
        ·rw [if_neg hk,if_neg (by omega)]
       have hset:s.set ob (.arr z ty (over es i [el']) es.length)=some s' :=by
        rw [← h1]; congr 2
        have hil:i < es.length:=by omega
        rw [zHh _ _ _ _ hil,zDr]
       obtain⟨n1,n2⟩:=zGr (w' :=w.setCells b ((i - ρ.sh b) * z+c) xv.cells.toList) (vs:=u'.cells.toList) (l:=[el']) hs hob hb hex q1 (RepC.single o1 hu' o2) (by simp; omega) hcell g1 hovr g3 g4 g5 g6 g7 hset
       exact⟨b,_,hpv,hst,hl,hth,n1,n2⟩
      ·cases h1
     ·cases h1
    ·cases h1
   ·cases h1
  ·cases h1
theorem ok_store {t:TypeId}{sz:Nat} {p' x' :Operand}{p x:Opd}(hp:opd G p' =some p)(hx:opd G x' =some x)(hsz:zPo P t=some sz)
  (h:opF C env s al (.store sz p x)=some (d,s')){o:Oper}(ho:o.op= .store t p' x'):OpOk P ρ w env a.tmps d s' ((execOp a.eval o).run P w):=by
 simp only [opF]at h
 split at h
 ·rename_i dp v hdp hdv
  obtain⟨h1,rfl⟩:=zBd h
  have hpv:=opR hp he hg hdp
  have hxv:=opR hx he hg hdv
  have fin:∀w',(Instr.storeAt t (a.eval p') (a.eval x')).run P w= .ok () w' →(execOp a.eval o).run P w= .ok .skip w' :=by
   intro w' hw
   simp only [execOp,ho]; rw [Sem.run_bind,hw]; rfl
  obtain⟨b,c,e1,e2,e3,e4,n1,n2⟩:=zOv hs hpv hxv h1
  rw [fin _ (by rw [e1]; exact zLx (P:=P) hsz hxv e2 e3 e4)]
  exact⟨ρ,n1,n2,rfl⟩
 ·cases h
end
end Go.Ab
