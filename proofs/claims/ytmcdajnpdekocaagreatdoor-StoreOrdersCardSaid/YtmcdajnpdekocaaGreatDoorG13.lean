/- Part. -/
import Derived.Test.YtmcdajnpdekocaaGreatDoorG12
import Derived.Laws.IdiomCopy
import Derived.Lib.ConvBytes
import Derived.Lib.UnsafeStr
set_option linter.unusedSectionVars false
set_option linter.unusedSimpArgs false
set_option linter.unusedVariables false
namespace Go.Ab
open Go
variable [Vals]
variable {ρ ρ' :Gh} {w w' :World}{P:Program}{pn:Pins}{G:Gl}{X:Exts}{A:Adv} {s s' :St}{env:Env}{a:Act}{lo:Nat}{d:D}{C:zAa}{al:Option Nat}
theorem zOx {d:D} {v v' :Value}(h:Rep ρ w d v) (h' :Rep ρ w d v')(hd:zOj d=true):v=v' :=by
 cases d <;> simp only [zOj,Bool.false_eq_true]at hd <;> simp only [Rep]at h h' <;> rw [h,h']
theorem zOw:∀ {l:List D} {vs vs' :List Value},RepL ρ w l vs→RepL ρ w l vs' →l.all zOj=true→vs=vs'
 | [],_,_,h,h',_=>by simp only [RepL]at h h'; rw [h,h']
 | d::l,_,_,h,h',hd=>by
  simp only [RepL]at h h'
  obtain⟨v,r,rfl,h1,h2⟩:=h
  obtain⟨v',r',rfl,h1',h2'⟩:=h'
  simp only [List.all_cons,Bool.and_eq_true]at hd
  rw [zOx h1 h1' hd.1,zOw h2 h2' hd.2]
theorem yEy {d:D} {v v' :Value}(h:Rep ρ w d v) (h' :Rep ρ w d v')(hd:zUr d=true):v=v' :=by
 cases d
 case agg l=>
  simp only [Rep]at h h'
  obtain⟨vs,rfl,h1,_⟩:=h
  obtain⟨vs',rfl,h1',_⟩:=h'
  have:=zOw h1 h1' hd
  congr 1
  exact Array.ext' this
 all_goals exact zOx h h' hd
theorem yAd {sz:Nat}:∀ {l:List D} {vs vs' :List Value},RepC ρ w sz l vs→RepC ρ w sz l vs' →l.all zUr=true→vs=vs'
 | [],_,_,h,h',_=>by simp only [RepC]at h h'; rw [h,h']
 | d::l,_,_,h,h',hd=>by
  simp only [RepC]at h h'
  obtain⟨v,r,rfl,h1,_,_,h2⟩:=h
  obtain⟨v',r',rfl,h1',_,_,h2'⟩:=h'
  simp only [List.all_cons,Bool.and_eq_true]at hd
  rw [yEy h1 h1' hd.1,yAd h2 h2' hd.2]
theorem zSq {w:World}{b o:Nat}{v:Value}(h:w.cell? ⟨b,o,none⟩=some v):w.setCell ⟨b,o,none⟩ v=w:=by
 have e:(w.setCell ⟨b,o,none⟩ v).heap=w.heap:=by
  apply Array.ext
  ·simp [World.setCell]
  ·intro i h1 h2
   simp only [World.setCell,Array.getElem_modify]
   split
   ·rename_i hi
    subst hi
    simp only [World.cell?]at h
    rw [Array.getElem?_eq_getElem h2]at h
    cases hb:w.heap[b] with
    | cells c el f=>
     rw [hb]at h
     simp only [Option.isSome_none,Bool.false_eq_true,if_false]at h ⊢
     have:c.setIfInBounds o v=c:=by
      apply Array.ext_getElem?
      intro j
      rw [Array.getElem?_setIfInBounds]
      split
      ·rename_i hj; subst hj
       rw [h,if_pos (Array.getElem?_eq_some_iff.mp h).1]
      ·rfl
     rw [this]
    | _=>rfl
   ·rfl
 cases w
 simp only [World.setCell]at e ⊢
 rw [e]
theorem zHm:∀ {vs:List Value} {w:World} {b o:Nat},(∀j u,vs[j]? =some u→w.cell? ⟨b,o+j,none⟩=some u)→w.setCells b o vs=w
 | [],_,_,_,_=>rfl
 | v::vs,w,b,o,h=>by
  show (w.setCell ⟨b,o,none⟩ v).setCells b (o+1) vs=w
  rw [show w.setCell ⟨b,o,none⟩ v=w from zSq (by simpa using h 0 v rfl)]
  exact zHm fun j u hj=>by have:=h (j+1) u hj; rwa [show o+(j+1)=o+1+j by omega]at this
theorem zRx (hs:zPl ρ s w){sz:Nat}{x:D}{v:Value}{l:List D}{vs:List Value}(hx:Rep ρ w x v)(hl:RepC ρ w sz l vs)(h:zBn s sz x l=some s'):
  ∃p n c w',v= .slice p n c∧l.length≤n∧Kp ρ w ρ w' ∧zPl ρ s' w' ∧((l=[]∧w' =w)∨∃b y,p=some ⟨b,y,none⟩∧(storeCells ⟨b,y,none⟩ vs).run P w= .ok () w'):=by
 unfold zBn at h
 split at h
 ·rename_i o off len cp
  split at h
  ·rename_i z ty es st hob
   split at h
   ·rename_i h1 h2 h3
    obtain rfl:=Nat.eq_of_beq_eq_true h1
    have h2:=Nat.eq_of_beq_eq_true h2
    have h3:=Nat.le_of_ble_eq_true h3
    obtain⟨z0,k1,hst1,⟨cur,c1,c2,c3⟩,hbl,hall⟩:=hs.ok _ _ hob
    simp only [Rep,Gh.at,k1]at hx
    obtain⟨b,hb,q1,q2,q3,y,cap,q4,q5,q6,q7⟩:=hx
    have hB:=hbl b hb
    have hex:ρ.ext b=es.length:=by have:=hB.ext; omega
    obtain⟨cs,f,hcs⟩:=hB.shape
    have hvl:=hl.length
    by_cases hl0:l=[]
    ·subst hl0
     simp only [RepC]at hl; subst hl
     obtain⟨n1,n2⟩:=zGr (w' :=w) (i:=off) (l:=[]) (vs:=[]) (cs' :=cs) hs hob hb hex q1 rfl (by simp; omega) hcs hcs (by rw [zDr]) (fun _ _=>rfl) rfl rfl rfl rfl h
     exact⟨_,_,_,w,q4,by simp,n1,n2,.inl ⟨rfl,rfl⟩⟩
    ·have hlpos:0 < l.length:=List.length_pos_iff.2 hl0
     have hy:y=(off - ρ.sh b) * z:=by rcases q6 with q6 | q6 <;> omega
     have hroom:=hB.room
     have hin:y+vs.length≤ρ.cap b * z:=by
      rw [hy,hvl,← Nat.add_mul]; exact Nat.mul_le_mul_right _ (by omega)
     have hcap:∀j,j < ρ.cap b * z→j < cs.size:=fun j hj=>by
      have:=(hB.cells j hj).1
      rw [zAc hcs]at this
      rcases Nat.lt_or_ge j cs.size with h | h
      ·exact h
      ·simp [Array.getElem?_eq_none h]at this
     have hcsz:y+vs.length≤cs.size:=by
      rcases Nat.eq_zero_or_pos (y+vs.length) with h0 | h0
      ·omega
      ·have:=hcap (y+vs.length - 1) (by omega); omega
     obtain⟨⟨cs',g1,g2⟩,g3,g4,g5,g6,g7⟩:=zBj vs y w cs ty f hcs hcsz
     obtain⟨n1,n2⟩:=zGr (w' :=w.setCells b y vs) (i:=off) hs hob hb hex q1 hl (by omega) hcs g1 (by rw [g2,hy]) g3 g4 g5 g6 g7 h
     have hrun:=run_storeCells_cells (P:=P) b y vs 0 w (fun j hj=>(hB.cells (y+0+j) (by omega)).1) (fun j hj=>(hB.cells (y+0+j) (by omega)).2) hl.one
     exact⟨_,_,_,w.setCells b y vs,q4,h3,n1,n2,.inr ⟨b,y,rfl,hrun⟩⟩
   ·rename_i h1 h2 h3
    split at h
    ·rename_i h4
     simp only [Option.some.injEq]at h; subst h
     simp only [Bool.and_eq_true]at h4
     obtain⟨⟨h5,h6⟩,h7,h8⟩:=h4
     obtain rfl:=Nat.eq_of_beq_eq_true h1
     have h3:=Nat.le_of_ble_eq_true h3
     have h5:=Nat.le_of_ble_eq_true h5
     have h6:=Nat.le_of_ble_eq_true h6
     have h8:=D.beqs_eq _ _ h8
     obtain⟨z0,k1,hst1,⟨cur,c1,c2,c3⟩,hbl,hall⟩:=hs.ok _ _ hob
     simp only [Rep,Gh.at,k1]at hx
     obtain⟨b,hb,q1,q2,q3,y,cap,q4,q5,q6,q7⟩:=hx
     have hB:=hbl b hb
     by_cases hl0:l=[]
     ·exact⟨_,_,_,w,q4,h3,Kp.refl _ _,hs,.inl ⟨hl0,rfl⟩⟩
     ·have hlpos:0 < l.length:=List.length_pos_iff.2 hl0
      have hy:y=(off - ρ.sh b) * z:=by rcases q6 with q6 | q6 <;> omega
      have hE:RepE ρ w z b y l:=by
       refine RepE.of z0 _ _ fun i e he=> ?_
       have hi:i < l.length:=(List.getElem?_eq_some_iff.mp he).1
       have he2:es[off+i]? =some e:=by
        rw [← h8,List.getElem?_take,if_pos hi,List.getElem?_drop]at he
        exact he
       obtain⟨u,u1,u2,u3⟩:=hB.elems (by omega) (off+i) e (by omega) (by omega) he2
       have hst:e.st=true:=by
        have:=zBf.1 hall e (List.mem_of_getElem? he2)
        exact this.2
       refine⟨u,u1,u2, ?_,hst⟩
       rw [hy,← Nat.add_mul,show off - ρ.sh b+i=off+i - ρ.sh b by omega]
       exact u3
      obtain⟨vs0,r1,r2⟩:=hE.row
      have hvs:=yAd hl r1 h7
      subst hvs
      have hroom:=hB.room
      have hvl:=hl.length
      have hin:y+vs.length≤ρ.cap b * z:=by
       rw [hy,hvl,← Nat.add_mul]; exact Nat.mul_le_mul_right _ (by omega)
      have hrun:=run_storeCells_cells (P:=P) b y vs 0 w (fun j hj=>(hB.cells (y+0+j) (by omega)).1) (fun j hj=>(hB.cells (y+0+j) (by omega)).2) hl.one
      rw [Nat.add_zero,zHm r2]at hrun
      exact⟨_,_,_,w,q4,h3,Kp.refl _ _,hs,.inr ⟨b,y,rfl,hrun⟩⟩
    ·cases h
   ·cases h
  ·cases h
 ·split at h
  ·simp only [Option.some.injEq]at h; subst h
   simp only [Rep]at hx
   rcases hx with ⟨_,_,rfl⟩ | ⟨_,ad,cap,rfl,_⟩
   ·exact⟨_,_,_,w,rfl,by simp,Kp.refl _ _,hs,.inl ⟨rfl,rfl⟩⟩
   ·exact⟨_,_,_,w,rfl,by simp,Kp.refl _ _,hs,.inl ⟨rfl,rfl⟩⟩
  ·cases h
 ·cases h
theorem zVw {x:D}{v:Value}{n:Nat}(h:lenD s 1 x=some n)(hx:Rep ρ w x v):∃p c,v= .slice p n c:=by
 simp only [lenD]at h
 split at h
 ·simp only [Option.some.injEq]at h; subst h
  simp only [Rep]at hx
  rcases hx with ⟨_,rfl,rfl⟩ | ⟨_,ad,cap,rfl,_⟩
  ·exact⟨_,_,rfl⟩
  ·exact⟨_,_,rfl⟩
 ·simp only [Option.some.injEq]at h; subst h
  simp only [Rep]at hx
  obtain⟨p,c,rfl⟩:=Gh.at_any hx fun _ _ ⟨_,_,_,_,_,q,_⟩=>⟨_,_,q⟩
  exact⟨_,_,rfl⟩
 ·cases h
theorem nil_or0 {z k:Nat}{l:List D}(h:(Nat.beq z k || (match l with | []=>true | _=>false))=true):z=k∨l=[]:=by
 simp only [Bool.or_eq_true]at h
 rcases h with h | h
 ·exact .inl (Nat.eq_of_beq_eq_true h)
 ·cases l with
  | nil=>exact .inr rfl
  | cons _ _=>simp at h
section
variable (he:EnR ρ w lo env a.tmps)(hg:GlOk pn G ρ w)(hs:zPl ρ s w)
include he hg hs
theorem ok_copy {t u e:TypeId}{m:Nat} {x' y' :Operand}{x y:Opd}(hx:opd G x' =some x)(hy:opd G y' =some y)(hu:P.underlying t=some (.slice e))(hsz:zPo P e=some (m+1))
  (h:opF C env s al (.copy (m+1) x y)=some (d,s')){o:Oper}(ho:o.op= .call { callee:= .builtin .copy,args:= #[x',y'],argTypes:= #[t,u]}):OpOk P ρ w env a.tmps d s' ((execOp a.eval o).run P w):=by
 have fin:∀(dx:D) (l:List D) (vs:List Value) (n k:Nat),Rep ρ w dx (a.eval x')→lenD s 1 dx=some n→RepC ρ w (m+1) l vs→l.length=min k n→(Builtin.lenOf (a.eval y')).run P w= .ok k w→(Builtin.firstCells (m+1) (min k n) (a.eval y')).run P w= .ok vs.toArray w→
   ofS (goI (min (k:Int) (n:Int))) (zBn s (m+1) dx l)=some (d,s')→OpOk P ρ w env a.tmps d s' ((execOp a.eval o).run P w):=by
  intro dx l vs n k hdx hln hl hll hlen hcells h
  obtain⟨h1,rfl⟩:=zBd h
  obtain⟨p,nn,c,w',e1,e2,e3,e4,e5⟩:=zRx (P:=P) hs hdx hl h1
  obtain⟨p',c',e6⟩:=zVw hln hdx
  rw [e6]at e1
  simp only [Value.slice.injEq]at e1
  obtain⟨rfl,rfl,rfl⟩:=e1
  have hst:∀q,p' =some q→(storeCells q vs).run P w= .ok () w' :=fun q hq=>by
   rcases e5 with ⟨hl0,rfl⟩ | ⟨b,yy,hp,hrun⟩
   ·subst hl0
    simp only [RepC]at hl; subst hl
    rfl
   ·rw [hq]at hp; simp only [Option.some.injEq]at hp; subst hp; exact hrun
  have hnone:p' =none→w' =w:=fun hq=>by
   rcases e5 with ⟨_,h⟩ | ⟨b,yy,hp,_⟩
   ·exact h
   ·rw [hq]at hp; cases hp
  have hmin:∀q:Nat,Nat.min q n=min q n:=fun _=>rfl
  have hrun:(Builtin.copy_ #[t,u] o.type #[a.eval x',a.eval y']).run P w= .ok (goInt (min k n:Nat)) w' :=by
   unfold Builtin.copy_
   simp only [List.getElem?_toArray,List.getElem?_cons_zero,List.getElem?_cons_succ]
   rw [Sem.run_bind,run_underlying hu]
   rw [e6]
   simp only [Result.andThen_ok,Sem.run_bind,hlen,zAk hsz,hmin,hcells]
   cases p' with
   | none=>simp [hnone rfl]
   | some q=>simp [hst q rfl]
  rw [zAz (b:= .copy) ho]
  simp only [builtin,List.map_toArray,List.map_cons,List.map_nil]
  rw [Sem.run_bind,hrun]
  have hc:((min k n:Nat):Int)=min (k:Int) (n:Int):=by omega
  exact .val e3 e4 (by simp only [Rep,goI,goInt,hc])
 simp only [opF]at h
 split at h
 ·rename_i dx l hdx hdy
  split at h
  ·rename_i n h1 hln
   have hm:m+1=1:=Nat.eq_of_beq_eq_true h1
   have hy' :=opR hy he hg hdy
   simp only [Rep]at hy'
   refine fin dx ((l.take n).map fun b=> .int .u8 b.toNat) ((l.take n).map fun b=>Value.int .u8 b.toNat) n l.length (opR hx he hg hdx) hln (by rw [hm]; exact zEj _) (by simp [Nat.min_comm]) (by rw [hy']; simp [Builtin.lenOf,ByteArray.size_mk']) ?_ h
   rw [hy',hm]
   simp only [Builtin.firstCells,Sem.run_pure]
   congr 1
   apply Array.ext'
   simp [Nat.min_comm]
  ·cases h
 ·rename_i dx dy hns hdx hdy
  split at h
  ·rename_i z l n hit hln
   split at h
   ·rename_i h1 h2
    have hz:=nil_or0 h1
    have hyv:=opR hy he hg hdy
    rcases zJc hs hit hyv with ⟨rfl,p,c,hv⟩ | ⟨b,q,c,hv,hE⟩
    ·refine fin dx [] [] n 0 (opR hx he hg hdx) hln rfl (by simp) (by rw [hv]; rfl) ?_ (by simpa using h)
     rw [hv]
     cases p with
     | none=>simp [Builtin.firstCells]
     | some q=>simp [Builtin.firstCells,loadCells,loadCellsFrom]
    ·by_cases hl0:l=[]
     ·subst hl0
      refine fin dx [] [] n 0 (opR hx he hg hdx) hln rfl (by simp) (by rw [hv]; rfl) ?_ (by simpa using h)
      rw [hv]; simp [Builtin.firstCells,loadCells,loadCellsFrom]
     ·obtain rfl:=hz.resolve_right hl0
      obtain⟨vs,g1,g2⟩:=(hE.take n).row
      refine fin dx (l.take n) vs n l.length (opR hx he hg hdx) hln g1 (by simp [Nat.min_comm]) (by rw [hv]; rfl) ?_ h
      rw [hv]
      have hll:=g1.length
      have hg2:∀j u,vs[j]? =some u→w.cell? ((⟨b,q,none⟩:Addr).add j)=some u:=fun j u hj=>by rw [Addr.add_mid]; exact g2 j u hj
      exact run_firstCells_some w (m+1) (min l.length n) _ _ c vs (by rw [hll]; simp [Nat.min_comm]) hg2
   ·cases h
  ·cases h
 ·cases h
theorem zVu {t:TypeId}{sz:Nat}{z:D} {x' :Operand}{x:Opd}(hx:opd G x' =some x)
  (hk:(∃q e,P.underlying t=some (.map q e)∧z= .tup [])∨∃e,P.underlying t=some (.slice e)∧zPo P e=some sz∧zPu P e=some z∧0 < sz)
  (h:opF C env s al (.clear sz z x)=some (d,s')){o:Oper}(ho:o.op= .call { callee:= .builtin .clear,args:= #[x'],argTypes:= #[t]}):OpOk P ρ w env a.tmps d s' ((execOp a.eval o).run P w):=by
 have fin:∀w',(Builtin.clear_ #[t] o.type #[a.eval x']).run P w= .ok (.tuple #[]) w' →(execOp a.eval o).run P w= .ok (.value (.tuple #[])) w' :=by
  intro w' hw
  rw [zAz (b:= .clear) ho]
  simp only [builtin,List.map_toArray,List.map_cons,List.map_nil]
  rw [Sem.run_bind,hw]; rfl
 have hund:∃q,P.underlying t=some q:=by
  rcases hk with ⟨_,_,h,_⟩ | ⟨_,h,_⟩ <;> exact ⟨_,h⟩
 simp only [opF]at h
 split at h
 ·rename_i hp
  have hv:=opR hx he hg hp
  simp only [Rep]at hv
  simp only [Option.some.injEq,Prod.mk.injEq]at h
  obtain⟨rfl,rfl⟩:=h
  obtain⟨q,hq⟩:=hund
  have hr:(Builtin.clear_ #[t] o.type #[a.eval x']).run P w= .ok (.tuple #[]) w:=by
   unfold Builtin.clear_
   simp [hv,run_underlying hq]
  rw [fin _ hr]
  exact .rep hs (by simp [Rep,RepL])
 ·rename_i ob hp
  have hv:=opR hx he hg hp
  split at h
  ·rename_i es c hob
   obtain⟨h1,rfl⟩:=zBd h
   obtain⟨b,ces,k1,one,hb,hM⟩:=hs.ok _ _ hob
   simp only [Rep,Gh.at,k1]at hv
   obtain⟨b',hb',hv⟩:=hv
   obtain rfl:=one.2 _ hb'
   obtain⟨q,hq⟩:=hund
   obtain⟨n1,n2⟩:=zCt (ces' := #[]) hs hob k1 one hb (by simp [RepM]) h1
   have hr:(Builtin.clear_ #[t] o.type #[a.eval x']).run P w= .ok (.tuple #[]) { w with heap:=w.heap.setIfInBounds b' (.map #[] c)}:=by
    unfold Builtin.clear_
    simp [hv,run_underlying hq,zCb hb,zCa _ hb]
   rw [fin _ hr]
   exact .val n1 n2 (by simp [Rep,RepL])
  ·cases h
 ·rename_i dx h1 h2 hp
  clear h1 h2
  have hv:=opR hx he hg hp
  split at h
  ·rename_i n hn
   split at h
   ·rename_i hall
    obtain⟨h1,rfl⟩:=zBd h
    rcases hk with ⟨q,e,hu,rfl⟩ | ⟨e,hu,hsz,hz,hpos⟩
    ·simp [allSz,D.st,D.sc]at hall
    ·obtain⟨zv,z1,z2,z3⟩:=zCi (w:=w) hz
     have hzv:=zCg (ρ:=ρ) (w:=w) zv z z2
     have hzs:zv.cells.size=sz∧z.st=true:=by
      have:=zBf.1 hall z (by simp)
      exact⟨by rw [hzv.size this.2]; exact this.1,this.2⟩
     have hcs:(Builtin.zeroCells zv.cells n).toList=(List.replicate n zv.cells.toList).flatten:=zHg zv.cells (by omega) n
     obtain⟨p,nn,c,w',e1,e2,e3,e4,e5⟩:=zRx (P:=P) hs hv (RepC.replicate hzv hzs.1 hzs.2 n) h1
     obtain⟨p',c',e6⟩:=zVw hn hv
     rw [e6]at e1
     simp only [Value.slice.injEq]at e1
     obtain⟨rfl,rfl,rfl⟩:=e1
     have hr:(Builtin.clear_ #[t] o.type #[a.eval x']).run P w= .ok (.tuple #[]) w' :=by
      unfold Builtin.clear_
      simp only [List.getElem?_toArray,List.getElem?_cons_zero]
      rw [Sem.run_bind,run_underlying hu,e6]
      rcases e5 with ⟨hl0,rfl⟩ | ⟨b,yy,hpp,hrun⟩
      ·have hn0:n=0:=by cases n with | zero=>rfl | succ n=>simp [List.replicate_succ]at hl0
       subst hn0
       cases p' <;> simp
      ·subst hpp
       rw [← hcs]at hrun
       cases n with
       | zero=>
        have hz0:(Builtin.zeroCells zv.cells 0).toList=[]:=by rw [hcs]; rfl
        rw [hz0]at hrun
        simp only [storeCells,Sem.run_pure,Result.ok.injEq,true_and]at hrun
        subst hrun
        simp
       | succ n=>simp [z1,hrun]
     rw [fin _ hr]
     exact .val e3 e4 (by simp [Rep,RepL])
   ·cases h
  ·cases h
 ·cases h
end
end Go.Ab
namespace Go.Ab
open Go
variable [Vals]
variable {ρ ρ' :Gh} {w w' :World}{P:Program}{pn:Pins}{G:Gl}{X:Exts}{A:Adv} {s s' :St}{env:Env}{a:Act}{lo:Nat}{d:D}{C:zAa}{al:Option Nat}
theorem new_rowf (hs:zPl ρ s w){z cp:Nat}{l:List D}{vs rest:List Value}{cs:Array Value}{e:TypeId}{k f1 f2:Nat}(hf:cs.size≤f1)(z0:0 < z)(hm:s.mk' al (.arr z e l 0)=some (k,s'))(hl:RepC ρ w z l vs)(hcs:cs.toList=vs++rest)(hsz:cs.size=cp * z)(hle:l.length≤cp)
  (hh:w'.heap=w.heap.push (.cells cs e (f1,f2)))(ho:w'.os=w.os)(ht:w'.tape=w.tape)(hu:w'.output=w.output):
  ∃ρ',Kp ρ w ρ' w' ∧zPl ρ' s' w' ∧Rep ρ' w' (.sl k 0 l.length l.length) (.slice (some ⟨w.heap.size,0,none⟩) l.length cp):=by
 obtain⟨n1,n2,n3,n4⟩:=zOl (w' :=w') hs hm z l.length cp hh ho ht hu (fun hK hone hb=>by
  refine⟨z0,by simp [Gh.new],by omega,⟨w.heap.size,hone.1,by simp [Gh.new],fun b h _=>hone.2 b h⟩,fun b hb' => ?_,hl.allSz⟩
  obtain rfl:=hone.2 b hb'
  refine⟨by simp [Gh.new],by simp [Gh.new],by simp [Gh.new]; exact hle,fun j hj=> ?_,⟨_,_,hb⟩,fun _ i d h1 h2 h3=> ?_⟩
  ·simp only [Gh.new,if_true]at hj
   rw [← hsz]at hj
   refine⟨by rw [zAc hb]; simp [hj], ?_⟩
   have: ¬ f1≤j:=by omega
   simp [World.frozen?,hb,this]
  ·obtain⟨v,v1,v2,v3,v4⟩:=(hl.mono hK).get (w' :=w') (zCq hb hcs) i d h3
   refine⟨v,v1,v2, ?_⟩
   simpa [Gh.new] using v3)
 refine⟨_,n1,n2, ?_⟩
 simp only [Rep,Gh.at,n4]
 exact⟨w.heap.size,n3,by simp [Gh.new],by simp [Gh.new],Nat.le_refl _,0,cp,rfl,hle,.inr (by simp),by simp [Gh.new]⟩
section
variable (he:EnR ρ w lo env a.tmps)(hg:GlOk pn G ρ w)(hs:zPl ρ s w)
include he hg hs
theorem zOf {t u e:TypeId} {x' :Operand}{x:Opd}(hx:opd G x' =some x)(ht:P.underlying t=some .string)(hu:P.underlying u=some (.slice e))(he8:P.underlying e=some (.int .u8))(h:opF C env s al (.strToBytes e x)=some (d,s')){o:Oper}(ho:o.op= .convert t u x'):
  OpOk P ρ w env a.tmps d s' ((execOp a.eval o).run P w):=by
 simp only [opF]at h
 split at h
 ·rename_i l hp
  have hv:=opR hx he hg hp
  simp only [Rep]at hv
  split at h
  ·rename_i hle
   have hle:=Nat.le_of_ble_eq_true hle
   split at h
   ·rename_i k s2 hm
    simp only [Option.some.injEq,Prod.mk.injEq]at h
    obtain⟨rfl,rfl⟩:=h
    let S:ByteArray:=⟨⟨l⟩⟩
    have hS:S.size=l.length:=by simp [S,ByteArray.size_mk']
    have hcap:l.length≤grownCap w S.size 0 e:=by
     have:=grownCap_ge w S.size 0 e
     omega
    have hcs:(Lib.bytesCells w e S).toList=(l.map fun b=>Value.int .u8 b.toNat)++List.replicate (grownCap w S.size 0 e - S.size) (.int .u8 0):=by
     simp [Lib.bytesCells,S]
    have hsz:(Lib.bytesCells w e S).size=grownCap w S.size 0 e * 1:=by
     have:=congrArg List.length hcs
     simp at this
     omega
    have hheap:(Lib.bytesWorld w e S).heap=w.heap.push (.cells (Lib.bytesCells w e S) e ((Lib.bytesCells w e S).size,(Lib.bytesCells w e S).size+1)):=by
     apply Array.ext_getElem?
     intro i
     rcases Nat.lt_trichotomy i w.heap.size with hi | hi | hi
     ·rw [Lib.bytesWorld_at_old w e S i hi,Array.getElem?_push,if_neg (by omega)]
     ·subst hi; rw [Lib.bytesWorld_at_new,Array.getElem?_push,if_pos rfl]
     ·rw [Array.getElem?_eq_none (by rw [Lib.bytesWorld_size]; omega),Array.getElem?_eq_none (by simp; omega)]
    obtain⟨ρ',n1,n2,n3⟩:=new_rowf (w' :=Lib.bytesWorld w e S) (cs:=Lib.bytesCells w e S) (cp:=grownCap w S.size 0 e) hs (Nat.le_refl _) Nat.one_pos hm (zEj l) hcs hsz (by simpa using hcap) hheap rfl rfl rfl
    have hr:(execOp a.eval o).run P w= .ok (.value (.slice (some ⟨w.heap.size,0,none⟩) l.length (grownCap w S.size 0 e))) (Lib.bytesWorld w e S):=by
     simp only [execOp,ho,hv]
     rw [Sem.run_bind,Lib.run_convert_string_bytes w t u e S ht hu he8,hS]
     rfl
    rw [hr]
    simp only [List.length_map]at n3
    exact .val n1 n2 n3
   ·cases h
  ·cases h
 ·cases h
end
end Go.Ab
namespace Go.Ab
open Go
variable [Vals]
variable {ρ ρ' :Gh} {w w' :World}{P:Program}{pn:Pins}{G:Gl}{X:Exts}{A:Adv} {s s' :St}{env:Env}{a:Act}{lo:Nat}{d:D}{C:zAa}{al:Option Nat}
theorem zMk {t c n:Nat}:∀ {l:List (Nat×Nat×Nat)},zXd t c n l=true→(t,c,n)∈l
 | [],h=>by simp [zXd]at h
 | (t',c',n')::r,h=>by
  simp only [zXd]at h
  split at h
  ·rename_i hb
   simp only [Bool.and_eq_true,Nat.beq_eq]at hb
   obtain⟨rfl,rfl,rfl⟩:=hb
   simp
  ·exact List.mem_cons_of_mem _ (zMk h)
theorem kill_ok (hs:zPl ρ s w){o:Nat}{x:Obj}(ho:s.get o=some x)(hset:s.set o .dead=some s')(hh:∀b,ρ.own b≠ .obj o→w'.heap[b]? =w.heap[b]?)(hsz:w'.heap.size=w.heap.size)
  (h1:w'.os=w.os)(h2:w'.tape=w.tape)(h3:w'.output=w.output):∃ρ',Kp ρ w ρ' w' ∧zPl ρ' s' w' :=by
 have hs' :s' =s.set0 o .dead:=by
  unfold St.set at hset
  split at hset
  ·cases hset
  ·split at hset
   ·cases hset
   ·simp only [Option.some.injEq]at hset; exact hset.symm
 subst hs'
 let ρ1:Gh:= { ρ with kd:=fun q=>if q=o then .dead else ρ.kd q}
 have hkd:∀q,q≠o→ρ1.kd q=ρ.kd q:=fun q hq=>by simp [ρ1,hq]
 have hK:Kp ρ w ρ1 w' :=by
  refine⟨h1,h2,h3,by omega,fun b hb hn=>⟨hh b (hn o),rfl⟩,fun q hq=> ?_,fun q z hq=> ?_⟩
  ·simp only [ρ1]; split
   ·exact⟨rfl,trivial⟩
   ·exact⟨hq,trivial⟩
  ·by_cases hqo:q=o
   ·exact .inl (by simp [ρ1,hqo])
   ·exact .inr ⟨by rw [hkd q hqo]; exact hq,fun b hb=>⟨hb,rfl,Nat.le_refl _,rfl⟩⟩
 refine⟨ρ1,hK,hs.upd hK o .dead (fun b q hq _=>Iff.rfl) hkd (fun b q hq _ hb=>⟨hh b (by rw [hb]; simp [hq]),rfl,rfl,rfl⟩) (by simp [zQt,ρ1]) (fun b hb=>hs.size b (by omega)) (hs.lt _ _ ho) (Nat.le_refl _) (St.get_set0 s o _)⟩
section
variable (he:EnR ρ w lo env a.tmps)(hg:GlOk pn G ρ w)(hs:zPl ρ s w)
include he hg hs
theorem yFd {t:TypeId} {x' :Operand}{x:Opd}(hx:opd G x' =some x)(h:opF C env s al (.sldata x)=some (d,s')){o:Oper}
  (ho:o.op= .call { callee:= .builtin .unsafeSliceData,args:= #[x'],argTypes:= #[t]}):OpOk P ρ w env a.tmps d s' ((execOp a.eval o).run P w):=by
 have fin:∀u,(Builtin.unsafeSliceData_ #[t] o.type #[a.eval x']).run P w= .ok u w→Rep ρ w d u→s' =s→OpOk P ρ w env a.tmps d s' ((execOp a.eval o).run P w):=by
  intro u g1 g2 g3
  subst g3
  rw [zAz ho]
  simp only [builtin,List.map_toArray,List.map_cons,List.map_nil]
  rw [Sem.run_bind,g1]
  exact .rep hs g2
 simp only [opF]at h
 split at h
 ·rename_i z l hp
  have hv:=opR hx he hg hp
  simp only [Option.some.injEq,Prod.mk.injEq]at h
  obtain⟨rfl,rfl⟩:=h
  simp only [Rep]at hv
  rcases hv with ⟨_,_,hv⟩ | ⟨hv,_⟩
  ·exact fin (.pointer none) (by rw [hv]; exact Lib.run_unsafeSliceData_nil _ _ _ _ _) (by simp [Rep]) rfl
  ·cases hv
 ·rename_i ob off len cp hp
  have hv:=opR hx he hg hp
  split at h
  ·rename_i z ty es st hob
   split at h
   ·rename_i hcp
    have hcp:=Nat.le_of_ble_eq_true hcp
    simp only [Option.some.injEq,Prod.mk.injEq]at h
    obtain⟨rfl,rfl⟩:=h
    obtain⟨z0,k1,_⟩:=hs.ok _ _ hob
    simp only [Rep,Gh.at,k1]at hv
    obtain⟨b,hb,q1,q2,q3,y,cap,q4,q5,q6,q7⟩:=hv
    have hc0:cap≠0:=by omega
    have q6:=q6.resolve_left hc0
    subst q6
    refine fin (.pointer (some ⟨b,(off - ρ.sh b) * z,none⟩)) (by rw [q4]; exact Lib.run_unsafeSliceData_row _ _ _ _ _ _ hc0) ?_ rfl
    simp only [Rep,Gh.at,k1]
    exact⟨b,hb,q1,by omega,q2,by simp⟩
   ·cases h
  ·cases h
 ·cases h
theorem ok_upto {t u e:TypeId}{n:Nat} {x' :Operand}{x:Opd}(hx:opd G x' =some x)(ht:P.underlying t=some .unsafePointer)(hu:P.underlying u=some (.pointer e))(hn:zPo P e=some (n+1))
  (h:opF C env s al (.upto [(e,0,n+1)] x)=some (d,s')){o:Oper}(ho:o.op= .convert t u x'):OpOk P ρ w env a.tmps d s' ((execOp a.eval o).run P w):=by
 simp only [opF]at h
 split at h
 ·rename_i hp
  have hv:=opR hx he hg hp
  simp only [Option.some.injEq,Prod.mk.injEq]at h
  obtain⟨rfl,rfl⟩:=h
  simp only [Rep]at hv
  have hr:(execOp a.eval o).run P w= .ok (.value (.pointer none)) w:=by
   simp only [execOp,ho,hv,convert]
   simp [run_underlying ht,run_underlying hu,Conv.unsafePointer]
  rw [hr]; exact .rep hs (by simp [Rep])
 ·rename_i ob c hp
  have hv:=opR hx he hg hp
  split at h
  ·rename_i ty v hob
   split at h
   ·rename_i hm
    simp only [Option.some.injEq,Prod.mk.injEq]at h
    obtain⟨rfl,rfl⟩:=h
    have hm:=zMk hm
    simp only [List.mem_singleton,Prod.mk.injEq]at hm
    obtain⟨rfl,rfl,hl⟩:=hm
    obtain⟨b,q,g1,g2,g3,g4,g5,g6⟩:=hs.ok _ _ hob
    have hv0:=hv
    simp only [Rep,Gh.at,g1]at hv
    obtain⟨b',h1,h3⟩:=hv
    obtain rfl:=g2.2 b' h1
    have hqs:q.cells.size=n+1:=by rw [g3.size g6]; exact hl
    have hcells:P.cellsOf ty=n+1:=by
     cases hi:P.info? ty with
     | none=>simp [zPo,hi]at hn
     | some i=>simpa [Program.cellsOf,zPo,hi] using hn
    have hlies:liesAt P P.depth ty (q.cells.size / P.cellsOf ty) 0 ty 1=true:=by
     have hd:P.depth=(2 * (P.types.size+Made.depth)+1)+1:=rfl
     rw [hd]
     simp only [liesAt,Bool.or_eq_true]
     left
     rw [hd]
     simp [rowAt,hcells,hqs,sameLayout]
    have hr:(execOp a.eval o).run P w= .ok (.value (a.eval x')) w:=by
     simp only [execOp,ho,h3,convert]
     have hsh:∀ {α:Type} (f:Option (TypeId×Nat)→Sem α),(Sem.shape b' f).run P w=(f (some (ty,q.cells.size))).run P w:=fun f=>by
      simp [Sem.run,World.shape?,g4]
     simp [run_underlying ht,run_underlying hu,Conv.unsafePointer,Conv.seenAt,viewAt,shape,getObj,hsh,variablesAt,zAk hn,hlies]
    rw [hr]; exact .rep hs hv0
   ·cases h
  ·cases h
 ·cases h
omit he hg hs in
theorem zIk:∀(ns:List Int) (ad:Addr) (acc:ByteArray),(∀j n,ns[j]? =some n→w.cell? (ad.add j)=some (.int .u8 n))→
  (loadBytes ad acc ns.length).run P w= .ok (ns.foldl (fun (r:ByteArray) n=>r.push (UInt8.ofNat n.toNat)) acc) w
 | [],ad,acc,_=>by simp [loadBytes]
 | n::ns,ad,acc,h=>by
  have h0:w.cell? ad=some (.int .u8 n):=by
   have:=h 0 n rfl
   simpa [Addr.add] using this
  have ih:=zIk ns (ad.add 1) (acc.push (UInt8.ofNat n.toNat)) (fun j m hj=>by
   have:=h (j+1) m (by simpa using hj)
   have e:(ad.add 1).add j=ad.add (j+1):=by
    unfold Addr.add
    by_cases hj:j=0
    ·subst hj; simp
    ·simp [hj]; omega
   rw [e]; exact this)
  simp only [List.length_cons,loadBytes,Sem.run_bind,Go.run_load,h0,Result.andThen,List.foldl_cons]
  exact ih
omit he hg hs in
theorem zYf {e:TypeId}(hc:P.cellsOf e=1)(count off n:Nat)(hn:off+n≤count):liesAt P P.depth e count off e n=true:=by
 have hd:P.depth=(2 * (P.types.size+Made.depth)+1)+1:=rfl
 rw [hd]
 simp only [liesAt,Bool.or_eq_true]
 left
 rw [hd]
 simp [rowAt,hc,hn,sameLayout,Nat.mod_one]
theorem ok_ustr {t it e:TypeId} {x' y' :Operand}{x y:Opd}(hx:opd G x' =some x)(hy:opd G y' =some y)(ht:P.underlying t=some (.pointer e))(hn:zPo P e=some 1)(h:opF C env s al (.ustr e x y)=some (d,s')){o:Oper}
  (ho:o.op= .call { callee:= .builtin .unsafeString,args:= #[x',y'],argTypes:= #[t,it]}):OpOk P ρ w env a.tmps d s' ((execOp a.eval o).run P w):=by
 have hmax:IntKind.i64.max=9223372036854775807:=rfl
 have hce:P.cellsOf e=1:=by
  cases hi:P.info? e with
  | none=>simp [zPo,hi]at hn
  | some i=>simpa [Program.cellsOf,zPo,hi] using hn
 have fin:∀u w' ρ',(Builtin.unsafeString_ #[t,it] o.type #[a.eval x',a.eval y']).run P w= .ok u w' →Kp ρ w ρ' w' →zPl ρ' s' w' →Rep ρ' w' d u→OpOk P ρ w env a.tmps d s' ((execOp a.eval o).run P w):=by
  intro u w' ρ' g1 g2 g3 g4
  rw [zAz ho]
  simp only [builtin,List.map_toArray,List.map_cons,List.map_nil]
  rw [Sem.run_bind,g1]
  exact .val g2 g3 g4
 simp only [opF]at h
 split at h
 ·rename_i k n hpx hpy
  have hvx:=opR hx he hg hpx
  have hvy:=opR hy he hg hpy
  split at h
  ·rename_i hc
   simp only [Bool.and_eq_true,decide_eq_true_eq]at hc
   obtain⟨rfl,rfl⟩:=hc
   simp only [Option.some.injEq,Prod.mk.injEq]at h
   obtain⟨rfl,rfl⟩:=h
   simp only [Rep]at hvx hvy
   exact fin (.string .empty) w ρ (by rw [hvx,hvy]; exact Lib.run_unsafeString_none w t it _ none) (Kp.refl _ _) hs (by simp [Rep]; rfl)
  ·cases h
 ·rename_i ob i c en k n hpx hpy
  have hvx:=opR hx he hg hpx
  have hvy:=opR hy he hg hpy
  split at h
  ·rename_i z ty es st hob
   split at h
   ·rename_i bs h1 h2 h3 h4
    simp only [Bool.and_eq_true,Nat.beq_eq]at h1
    obtain⟨rfl,rfl,rfl⟩:=h1
    simp only [Bool.and_eq_true,decide_eq_true_eq]at h2
    obtain⟨rfl,hn0,hnm⟩:=h2
    have hnm:=Nat.le_of_ble_eq_true hnm
    have hmx:mxE=2147483648:=rfl
    simp only [Bool.and_eq_true]at h3
    obtain⟨i1,i2,i3⟩:=h3
    have i1:=Nat.le_of_ble_eq_true i1
    have i2:=Nat.le_of_ble_eq_true i2
    have i3:=Nat.le_of_ble_eq_true i3
    unfold ofS at h
    split at h
    ·rename_i s2 hset
     simp only [Option.some.injEq,Prod.mk.injEq]at h
     obtain⟨rfl,rfl⟩:=h
     obtain⟨z0,k1,hst1,_,hbl,hall⟩:=hs.ok _ _ hob
     simp only [Rep,Gh.at,k1]at hvx
     obtain⟨b,hb,q1,q2,q3,q4⟩:=hvx
     simp only [Rep]at hvy
     have hB:=hbl b hb
     obtain⟨cs,f,hcell⟩:=hB.shape
     simp only [Nat.mul_one,Nat.add_zero]at q4
     have hle:((es.drop i).take n.toNat).length=n.toNat:=by simp; omega
     have hroom:=hB.room
     have hext:=hB.ext
     have hcapsz:ρ.cap b≤cs.size:=by
      rcases Nat.eq_zero_or_pos (ρ.cap b) with h | h
      ·omega
      ·have:=(hB.cells (ρ.cap b - 1) (by omega)).1
       rw [zAc hcell]at this
       rcases Nat.lt_or_ge (ρ.cap b - 1) cs.size with h' | h'
       ·omega
       ·simp [Array.getElem?_eq_none h']at this
     have hE:RepE ρ w 1 b (i - ρ.sh b) ((es.drop i).take n.toNat):=RepE.of Nat.one_pos _ _ fun j e' hj=>by
      rw [List.getElem?_take]at hj
      split at hj
      ·rw [List.getElem?_drop]at hj
       obtain⟨u,r1,r2,r3⟩:=hB.get (by omega) (by omega) (by omega) hj
       refine⟨u,r1,r2, ?_,(zEf hall hj).2⟩
       rw [show i - ρ.sh b+j * 1=(i+j - ρ.sh b) * 1 by omega]
       exact r3
      ·cases hj
     obtain⟨ns,m1,m2,m3⟩:=zEx h4 (.inl rfl) hE
     have hlb:=zIk (P:=P) (w:=w) ns ⟨b,i - ρ.sh b,none⟩ .empty (fun j m hj=>by
      have:=m2 j m hj
      by_cases hj0:j=0
      ·subst hj0; simpa [Addr.add] using this
      ·simpa [Addr.add,hj0] using this)
     rw [m1,hle]at hlb
     have hm3:=m3 []
     simp only [List.nil_append]at hm3
     have hemp:ByteArray.empty=⟨⟨[]⟩⟩:=rfl
     rw [hemp,hm3]at hlb
     have hsh:w.shape? b=some (ty,cs.size):=by simp [World.shape?,hcell]
     have hlies:=zYf (P:=P) hce (cs.size / P.cellsOf ty) (i - ρ.sh b) n.toNat (by rw [hce]; simp; omega)
     have hrun: ¬ (9223372036854775807:Int) < n→(Builtin.unsafeString_ #[t,it] o.type #[a.eval x',a.eval y']).run P w= .ok (.string ⟨⟨bs⟩⟩) (w.freeze ⟨b,i - ρ.sh b,none⟩ n.toNat):=by
      intro h63
      rw [q4,hvy]
      have hdef:Builtin.unsafeString_ #[t,it] o.type #[.pointer (some ⟨b,i - ρ.sh b,none⟩),.int .i64 n]=
        (do
         let n ← asInt (.int .i64 n)
         if n < 0 then runtimePanic (.error "unsafe.String: len out of range")
         if n > IntKind.i64.max then unsupported (.unsafePointer "String: a length above the largest int")
         if n=0 then pure (.string .empty)
         else if ← variablesAt ⟨b,i - ρ.sh b,none⟩ (← elemOf t) n.toNat then do
          let s ← loadBytes ⟨b,i - ρ.sh b,none⟩ .empty n.toNat
          freeze ⟨b,i - ρ.sh b,none⟩ n.toNat
          pure (.string s)
         else unsupported (.unsafePointer "String: not so many bytes at ptr")) := rfl
      rw [hdef]
      have hneg: ¬ n < 0:=by omega
      have hnz: ¬ n=0:=by omega
      rw [hemp]at *
      simp [asInt,asIntOf,hmax,h63,hneg,hnz,variablesAt,hsh,elemOf,run_underlying ht,hlies,hlb]
     have hle64: ¬ (9223372036854775807:Int) < n:=by omega
     have hh:∀b',ρ.own b' ≠ .obj ob→(w.freeze ⟨b,i - ρ.sh b,none⟩ n.toNat).heap[b']? =w.heap[b']? :=fun b' hb' =>by
      have hne:b≠b' :=by rintro rfl; exact hb' hb
      unfold World.freeze
      split
      ·rfl
      ·simp only [Array.getElem?_modify]; rw [if_neg hne]
     obtain⟨ρ',n1,n2⟩:=kill_ok (w' :=w.freeze ⟨b,i - ρ.sh b,none⟩ n.toNat) hs hob hset hh (by unfold World.freeze; split <;> simp) (by unfold World.freeze; split <;> rfl) (by unfold World.freeze; split <;> rfl) (by unfold World.freeze; split <;> rfl)
     exact fin _ _ ρ' (hrun hle64) n1 n2 (by simp [Rep])
    ·cases h
   ·cases h
  ·cases h
 ·cases h
end
end Go.Ab
