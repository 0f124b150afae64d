/- Part. -/
import Derived.Test.YthaiegafejbmoaaGreatDoorG11
import Derived.Laws.IdiomCopy
import Derived.Lib.ConvBytes
import Derived.Lib.UnsafeStr
set_option linter.unusedSectionVars false
set_option linter.unusedSimpArgs false
set_option linter.unusedVariables false
namespace Go.Ab
open Go
variable [eh]
variable {ρ ρ' :Gh} {w w' :World}{P:Program}{pn:gY}{G:Gl}{X:ig}{A:mT} {s s' :St}{env:Env}{a:Act}{lo:Nat}{d:D}{C:au}{al:Option Nat}
theorem BS {d:D} {v v' :Value}(h:aR ρ w d v) (h' :aR ρ w d v')(hd:zZ d=true):v=v' :=by
 cases d <;> simp only [zZ,cR]at hd <;> simp only [aR]at h h' <;> rw [h,h']
theorem BT:∀ {l:List D} {vs vs' :List Value},bu ρ w l vs->bu ρ w l vs' ->l.all zZ=true->vs=vs'
 | [],_,_,h,h',_=>by simp only [bu]at h h'; rw [h,h']
 | d::l,_,_,h,h',hd=>by
  simp only [bu]at h h';obtain⟨v,r,rfl,h1,h2⟩:=h;obtain⟨v',r',rfl,D7,Bh⟩:=h';simp only [h9,aB]at hd;rw [BS h1 D7 hd.1,BT h2 Bh hd.2]
theorem KS {d:D} {v v' :Value}(h:aR ρ w d v) (h' :aR ρ w d v')(hd:CQ d=true):v=v' :=by
 cases d
 case agg l=>
  simp only [aR]at h h';obtain⟨vs,rfl,h1,_⟩:=h;obtain⟨vs',rfl,D7,_⟩:=h';have:=BT h1 D7 hd
  congr 1
  exact cZ this
 all_goals exact BS h h' hd
theorem IV {sz:Nat}:∀ {l:List D} {vs vs' :List Value},fT ρ w sz l vs->fT ρ w sz l vs' ->l.all CQ=true->vs=vs'
 | [],_,_,h,h',_=>by simp only [fT]at h h'; rw [h,h']
 | d::l,_,_,h,h',hd=>by
  simp only [fT]at h h';obtain⟨v,r,rfl,h1,_,_,h2⟩:=h;obtain⟨v',r',rfl,D7,_,_,Bh⟩:=h';simp only [h9,aB]at hd;rw [KS h1 D7 hd.1,IV h2 Bh hd.2]
theorem CP {w:World}{b o:Nat}{v:Value}(h:w.cell? ⟨b,o,none⟩=some v):w.setCell ⟨b,o,none⟩ v=w:=by
 have e:(w.setCell ⟨b,o,none⟩ v).heap=w.heap:=by
  apply Array.ext
  ·simp [World.setCell]
  ·intro i h1 h2;simp only [World.setCell,Array.getElem_modify];split
   ·rename_i hi;subst hi;simp only [World.cell?]at h;rw [cw h2]at h;cases hb:w.heap[b] with
    | cells c el f=>
     rw [hb]at h;simp only [Option.isSome_none,cR,gS]at h ⊢;have:c.setIfInBounds o v=c:=by
      apply Array.ext_getElem?;intro j;rw [dE];split
      ·rename_i hj; subst hj;rw [h,bQ (fR.mp h).1]
      ·rfl
     rw [this]
    | _=>rfl
   ·rfl
 cases w;simp only [World.setCell]at e ⊢;rw [e]
theorem tt:∀ {vs:List Value} {w:World} {b o:Nat},(∀j u,vs[j]? =some u->w.cell? ⟨b,o+j,none⟩=some u)->w.setCells b o vs=w
 | [],_,_,_,_=>rfl
 | v::vs,w,b,o,h=>by
  show (w.setCell ⟨b,o,none⟩ v).setCells b (o+1) vs=w;rw [show w.setCell ⟨b,o,none⟩ v=w from CP (by simpa using h 0 v rfl)];exact tt fun j u hj=>by have:=h (j+1) u hj; rwa [show o+(j+1)=o+1+j by omega]at this
theorem Ba (hs:bK ρ s w){sz:Nat}{x:D}{v:Value}{l:List D}{vs:List Value}(hx:aR ρ w x v)(hl:fT ρ w sz l vs)(h:iA s sz x l=some s'):
  ∃p n c w',v= .slice p n c/\l.length<=n/\Kp ρ w ρ w' /\bK ρ s' w' /\((l=[]/\w' =w)\/∃b y,p=some ⟨b,y,none⟩/\(storeCells ⟨b,y,none⟩ vs).run P w= .ok () w'):=by
 unfold iA at h;split at h
 ·rename_i o off len cp;split at h
  ·rename_i z ty es st lD;split at h
   ·rename_i h1 h2 h3;obtain rfl:=ay h1;have h2:=ay h2;have h3:=az h3;obtain⟨z0,k1,kV,⟨cur,c1,c2,c3⟩,xK,fN⟩:=hs.ok _ _ lD;simp only [aR,Gh.at,k1]at hx;obtain⟨b,hb,q1,q2,q3,y,cap,q4,q5,q6,q7⟩:=hx;have hB:=xK b hb;have hex:ρ.ext b=es.length:=by have:=hB.ext; omega
    obtain⟨cs,f,qW⟩:=hB.shape;have Lp:=hl.length;by_cases AA:l=[]
    ·subst AA;simp only [fT]at hl; subst hl;obtain⟨n1,n2⟩:=rr (w' :=w) (i:=off) (l:=[]) (vs:=[]) (cs' :=cs) hs lD hb hex q1 rfl (by simp; omega) qW qW (by rw [mP]) (fun _ _=>rfl) rfl rfl rfl rfl h;exact⟨_,_,_,w,q4,by simp,n1,n2,.inl ⟨rfl,rfl⟩⟩
    ·have aan:0 < l.length:=fh.2 AA;have hy:y=(off - ρ.sh b) * z:=by rcases q6 with q6 | q6 <;> omega
     have pq:=hB.room;have qY:y+vs.length<=ρ.cap b * z:=by
      rw [hy,Lp,← Nat.add_mul]; exact cX _ (by omega)
     have pI:∀j,j < ρ.cap b * z->j < cs.size:=fun j hj=>by
      have:=(hB.cells j hj).1;rw [dX qW]at this;rcases aP j cs.size with h | h
      ·exact h
      ·simp [cq h]at this
     have abl:y+vs.length<=cs.size:=by
      rcases eV (y+vs.length) with h0 | h0
      ·omega
      ·have:=pI (y+vs.length - 1) (by omega); omega
     obtain⟨⟨cs',g1,g2⟩,g3,g4,g5,g6,g7⟩:=iZ vs y w cs ty f qW abl;obtain⟨n1,n2⟩:=rr (w' :=w.setCells b y vs) (i:=off) hs lD hb hex q1 hl (by omega) qW g1 (by rw [g2,hy]) g3 g4 g5 g6 g7 h;have fK:=run_storeCells_cells (P:=P) b y vs 0 w (fun j hj=>(hB.cells (y+0+j) (by omega)).1) (fun j hj=>(hB.cells (y+0+j) (by omega)).2) hl.one;exact⟨_,_,_,w.setCells b y vs,q4,h3,n1,n2,.inr ⟨b,y,rfl,fK⟩⟩
   ·rename_i h1 h2 h3;split at h
    ·rename_i h4;simp only [aa]at h; subst h;simp only [aB]at h4;obtain⟨⟨h5,h6⟩,h7,h8⟩:=h4;obtain rfl:=ay h1;have h3:=az h3;have h5:=az h5;have h6:=az h6;have h8:=D.pd _ _ h8;obtain⟨z0,k1,kV,⟨cur,c1,c2,c3⟩,xK,fN⟩:=hs.ok _ _ lD;simp only [aR,Gh.at,k1]at hx;obtain⟨b,hb,q1,q2,q3,y,cap,q4,q5,q6,q7⟩:=hx;have hB:=xK b hb;by_cases AA:l=[]
     ·exact⟨_,_,_,w,q4,h3,Kp.refl _ _,hs,.inl ⟨AA,rfl⟩⟩
     ·have aan:0 < l.length:=fh.2 AA;have hy:y=(off - ρ.sh b) * z:=by rcases q6 with q6 | q6 <;> omega
      have hE:fJ ρ w z b y l:=by
       refine fJ.of z0 _ _ fun i e he=> ?_;have hi:i < l.length:=(aj.mp he).1;have UG:es[off+i]? =some e:=by
        rw [← h8,da,bQ hi,cS]at he;exact he
       obtain⟨u,u1,u2,u3⟩:=hB.elems (by omega) (off+i) e (by omega) (by omega) UG;have cG:e.st=true:=by
        have:=gL.1 fN e (bG UG);exact this.2
       refine⟨u,u1,u2, ?_,cG⟩;rw [hy,← Nat.add_mul,show off - ρ.sh b+i=off+i - ρ.sh b by omega];exact u3
      obtain⟨vs0,r1,r2⟩:=hE.row;have y8:=IV hl r1 h7;subst y8;have pq:=hB.room;have Lp:=hl.length;have qY:y+vs.length<=ρ.cap b * z:=by
       rw [hy,Lp,← Nat.add_mul]; exact cX _ (by omega)
      have fK:=run_storeCells_cells (P:=P) b y vs 0 w (fun j hj=>(hB.cells (y+0+j) (by omega)).1) (fun j hj=>(hB.cells (y+0+j) (by omega)).2) hl.one;rw [fu,tt r2]at fK;exact⟨_,_,_,w,q4,h3,Kp.refl _ _,hs,.inr ⟨b,y,rfl,fK⟩⟩
    ·cases h
   ·cases h
  ·cases h
 ·split at h
  ·simp only [aa]at h; subst h;simp only [aR]at hx;rcases hx with ⟨_,_,rfl⟩ | ⟨_,ad,cap,rfl,_⟩
   ·exact⟨_,_,_,w,rfl,by simp,Kp.refl _ _,hs,.inl ⟨rfl,rfl⟩⟩
   ·exact⟨_,_,_,w,rfl,by simp,Kp.refl _ _,hs,.inl ⟨rfl,rfl⟩⟩
  ·cases h
 ·cases h
theorem Es {x:D}{v:Value}{n:Nat}(h:pJ s 1 x=some n)(hx:aR ρ w x v):∃p c,v= .slice p n c:=by
 simp only [pJ]at h;split at h
 ·simp only [aa]at h; subst h;simp only [aR]at hx;rcases hx with ⟨_,rfl,rfl⟩ | ⟨_,ad,cap,rfl,_⟩
  ·exact⟨_,_,rfl⟩
  ·exact⟨_,_,rfl⟩
 ·simp only [aa]at h; subst h;simp only [aR]at hx;obtain⟨p,c,rfl⟩:=Gh.jF hx fun _ _ ⟨_,_,_,_,_,q,_⟩=>⟨_,_,q⟩;exact⟨_,_,rfl⟩
 ·cases h
theorem Td {z k:Nat}{l:List D}(h:(Nat.beq z k || (match l with | []=>true | _=>false))=true):z=k\/l=[]:=by
 simp only [ey]at h;rcases h with h | h
 ·exact .inl (ay h)
 ·cases l with
  | nil=>exact .inr rfl
  | cons _ _=>simp at h
section
variable (he:dW ρ w lo env a.tmps)(hg:gn pn G ρ w)(hs:bK ρ s w)
include he hg hs
theorem Th {t u e:TypeId}{m:Nat} {x' y' :Operand}{x y:bO}(hx:ew G x' =some x)(hy:ew G y' =some y)(hu:P.underlying t=some (.slice e))(fQ:dC P e=some (m+1))
  (h:cg C env s al (.copy (m+1) x y)=some (d,s')){o:Oper}(ho:o.op= .call { callee:= .builtin .copy,args:= #[x',y'],argTypes:= #[t,u]}):eP P ρ w env a.tmps d s' ((execOp a.eval o).run P w):=by
 have fin:∀(dx:D) (l:List D) (vs:List Value) (n k:Nat),aR ρ w dx (a.eval x')->pJ s 1 dx=some n->fT ρ w (m+1) l vs->l.length=min k n->(Builtin.lenOf (a.eval y')).run P w= .ok k w->(Builtin.firstCells (m+1) (min k n) (a.eval y')).run P w= .ok vs.toArray w->
   nY (Gy (min (k:Int) (n:Int))) (iA s (m+1) dx l)=some (d,s')->eP P ρ w env a.tmps d s' ((execOp a.eval o).run P w):=by
  intro dx l vs n k C7 qx hl Eh hlen GD h;obtain⟨h1,rfl⟩:=gT h;obtain⟨p,nn,c,w',e1,e2,e3,e4,e5⟩:=Ba (P:=P) hs C7 hl h1;obtain⟨p',c',e6⟩:=Es qx C7;rw [e6]at e1;simp only [Value.slice.injEq]at e1;obtain⟨rfl,rfl,rfl⟩:=e1
  have cG:∀q,p' =some q->(storeCells q vs).run P w= .ok () w' :=fun q hq=>by
   rcases e5 with ⟨AA,rfl⟩ | ⟨b,yy,hp,fK⟩
   ·subst AA;simp only [fT]at hl; subst hl;rfl
   ·rw [hq]at hp; simp only [aa]at hp; subst hp; exact fK
  have aar:p' =none->w' =w:=fun hq=>by
   rcases e5 with ⟨_,h⟩ | ⟨b,yy,hp,_⟩
   ·exact h
   ·rw [hq]at hp; cases hp
  have abC:∀q:Nat,Nat.min q n=min q n:=fun _=>rfl;have fK:(Builtin.copy_ #[t,u] o.type #[a.eval x',a.eval y']).run P w= .ok (goInt (min k n:Nat)) w' :=by
   unfold Builtin.copy_;simp only [List.getElem?_toArray,aS,bP];rw [Sem.run_bind,run_underlying hu];rw [e6];simp only [Result.andThen_ok,Sem.run_bind,hlen,fD fQ,abC,GD];cases p' with
   | none=>simp [aar rfl]
   | some q=>simp [cG q rfl]
  rw [ic (b:= .copy) ho];simp only [builtin,eY,bT,eH];rw [Sem.run_bind,fK];have hc:((min k n:Nat):Int)=min (k:Int) (n:Int):=by omega
  exact .val e3 e4 (by simp only [aR,Gy,goInt,hc])
 simp only [cg]at h;split at h
 ·rename_i dx l C7 Xd;split at h
  ·rename_i n h1 qx;have hm:m+1=1:=ay h1;have Rn :=bc hy he hg Xd;simp only [aR]at Rn;refine fin dx ((l.take n).map fun b=> .int .u8 b.toNat) ((l.take n).map fun b=>Value.int .u8 b.toNat) n l.length (bc hx he hg C7) qx (by rw [hm]; exact oD _) (by simp [Nat.min_comm]) (by rw [Rn]; simp [Builtin.lenOf,ByteArray.size_mk']) ?_ h;rw [Rn,hm];simp only [Builtin.firstCells,Sem.run_pure]
   congr 1
   apply cZ;simp [Nat.min_comm]
  ·cases h
 ·rename_i dx dy Rb C7 Xd;split at h
  ·rename_i z l n hit qx;split at h
   ·rename_i h1 h2;have hz:=Td h1;have hyv:=bc hy he hg Xd;rcases uF hs hit hyv with ⟨rfl,p,c,hv⟩ | ⟨b,q,c,hv,hE⟩
    ·refine fin dx [] [] n 0 (bc hx he hg C7) qx rfl (by simp) (by rw [hv]; rfl) ?_ (by simpa using h);rw [hv];cases p with
     | none=>simp [Builtin.firstCells]
     | some q=>simp [Builtin.firstCells,loadCells,loadCellsFrom]
    ·by_cases AA:l=[]
     ·subst AA;refine fin dx [] [] n 0 (bc hx he hg C7) qx rfl (by simp) (by rw [hv]; rfl) ?_ (by simpa using h);rw [hv]; simp [Builtin.firstCells,loadCells,loadCellsFrom]
     ·obtain rfl:=hz.resolve_right AA;obtain⟨vs,g1,g2⟩:=(hE.take n).row;refine fin dx (l.take n) vs n l.length (bc hx he hg C7) qx g1 (by simp [Nat.min_comm]) (by rw [hv]; rfl) ?_ h;rw [hv];have Eh:=g1.length;have C8:∀j u,vs[j]? =some u->w.cell? ((⟨b,q,none⟩:Addr).add j)=some u:=fun j u hj=>by rw [Addr.add_mid]; exact g2 j u hj
      exact run_firstCells_some w (m+1) (min l.length n) _ _ c vs (by rw [Eh]; simp [Nat.min_comm]) C8
   ·cases h
  ·cases h
 ·cases h
theorem EF {t:TypeId}{sz:Nat}{z:D} {x' :Operand}{x:bO}(hx:ew G x' =some x)
  (hk:(∃q e,P.underlying t=some (.map q e)/\z= .gW [])\/∃e,P.underlying t=some (.slice e)/\dC P e=some sz/\jA P e=some z/\0 < sz)
  (h:cg C env s al (.clear sz z x)=some (d,s')){o:Oper}(ho:o.op= .call { callee:= .builtin .clear,args:= #[x'],argTypes:= #[t]}):eP P ρ w env a.tmps d s' ((execOp a.eval o).run P w):=by
 have fin:∀w',(Builtin.clear_ #[t] o.type #[a.eval x']).run P w= .ok (.tuple #[]) w' ->(execOp a.eval o).run P w= .ok (.value (.tuple #[])) w' :=by
  intro w' hw;rw [ic (b:= .clear) ho];simp only [builtin,eY,bT,eH];rw [Sem.run_bind,hw]; rfl
 have aaB:∃q,P.underlying t=some q:=by
  rcases hk with ⟨_,_,h,_⟩ | ⟨_,h,_⟩ <;> exact ⟨_,h⟩
 simp only [cg]at h;split at h
 ·rename_i hp;have hv:=bc hx he hg hp;simp only [aR]at hv;simp only [aa,ab]at h;obtain⟨rfl,rfl⟩:=h;obtain⟨q,hq⟩:=aaB;have hr:(Builtin.clear_ #[t] o.type #[a.eval x']).run P w= .ok (.tuple #[]) w:=by
   unfold Builtin.clear_;simp [hv,run_underlying hq]
  rw [fin _ hr];exact .rep hs (by simp [aR,bu])
 ·rename_i ob hp;have hv:=bc hx he hg hp;split at h
  ·rename_i es c lD;obtain⟨h1,rfl⟩:=gT h;obtain⟨b,ces,k1,one,hb,hM⟩:=hs.ok _ _ lD;simp only [aR,Gh.at,k1]at hv;obtain⟨b',iS,hv⟩:=hv;obtain rfl:=one.2 _ iS;obtain⟨q,hq⟩:=aaB;obtain⟨n1,n2⟩:=lu (ces' := #[]) hs lD k1 one hb (by simp [fv]) h1;have hr:(Builtin.clear_ #[t] o.type #[a.eval x']).run P w= .ok (.tuple #[]) { w with heap:=w.heap.setIfInBounds b' (.map #[] c)}:=by
    unfold Builtin.clear_;simp [hv,run_underlying hq,kg hb,kh _ hb]
   rw [fin _ hr];exact .val n1 n2 (by simp [aR,bu])
  ·cases h
 ·rename_i dx h1 h2 hp;clear h1 h2;have hv:=bc hx he hg hp;split at h
  ·rename_i n hn;split at h
   ·rename_i fN;obtain⟨h1,rfl⟩:=gT h;rcases hk with ⟨q,e,hu,rfl⟩ | ⟨e,hu,fQ,hz,SC⟩
    ·simp [eC,D.st,D.sc]at fN
    ·obtain⟨zv,z1,z2,z3⟩:=ki (w:=w) hz;have Aq:=jY (ρ:=ρ) (w:=w) zv z z2;have Ii:zv.cells.size=sz/\z.st=true:=by
      have:=gL.1 fN z (by simp);exact⟨by rw [Aq.size this.2]; exact this.1,this.2⟩
     have qW:(Builtin.zeroCells zv.cells n).toList=(List.replicate n zv.cells.toList).flatten:=sL zv.cells (by omega) n;obtain⟨p,nn,c,w',e1,e2,e3,e4,e5⟩:=Ba (P:=P) hs hv (fT.replicate Aq Ii.1 Ii.2 n) h1;obtain⟨p',c',e6⟩:=Es hn hv;rw [e6]at e1;simp only [Value.slice.injEq]at e1;obtain⟨rfl,rfl,rfl⟩:=e1;have hr:(Builtin.clear_ #[t] o.type #[a.eval x']).run P w= .ok (.tuple #[]) w' :=by
      unfold Builtin.clear_;simp only [List.getElem?_toArray,aS];rw [Sem.run_bind,run_underlying hu,e6];rcases e5 with ⟨AA,rfl⟩ | ⟨b,yy,YI,fK⟩
      ·have Bi:n=0:=by cases n with | zero=>rfl | succ n=>simp [je]at AA
       subst Bi;cases p' <;> simp
      ·subst YI;rw [← qW]at fK;cases n with
       | zero=>
        have hz0:(Builtin.zeroCells zv.cells 0).toList=[]:=by rw [qW]; rfl
        rw [hz0]at fK;simp only [storeCells,Sem.run_pure,Result.ok.injEq,true_and]at fK;subst fK;simp
       | succ n=>simp [z1,fK]
     rw [fin _ hr];exact .val e3 e4 (by simp [aR,bu])
   ·cases h
  ·cases h
 ·cases h
end
end Go.Ab
namespace Go.Ab
open Go
variable [eh]
variable {ρ ρ' :Gh} {w w' :World}{P:Program}{pn:gY}{G:Gl}{X:ig}{A:mT} {s s' :St}{env:Env}{a:Act}{lo:Nat}{d:D}{C:au}{al:Option Nat}
theorem Pz (hs:bK ρ s w){z cp:Nat}{l:List D}{vs rest:List Value}{cs:Array Value}{e:TypeId}{k f1 f2:Nat}(hf:cs.size<=f1)(z0:0 < z)(hm:s.mk' al (.arr z e l 0)=some (k,s'))(hl:fT ρ w z l vs)(qW:cs.toList=vs++rest)(fQ:cs.size=cp * z)(hle:l.length<=cp)
  (hh:w'.heap=w.heap.push (.cells cs e (f1,f2)))(ho:w'.os=w.os)(ht:w'.tape=w.tape)(hu:w'.output=w.output):
  ∃ρ',Kp ρ w ρ' w' /\bK ρ' s' w' /\aR ρ' w' (.sl k 0 l.length l.length) (.slice (some ⟨w.heap.size,0,none⟩) l.length cp):=by
 obtain⟨n1,n2,n3,n4⟩:=zy (w' :=w') hs hm z l.length cp hh ho ht hu (fun hK oO hb=>by
  refine⟨z0,by simp [Gh.new],by omega,⟨w.heap.size,oO.1,by simp [Gh.new],fun b h _=>oO.2 b h⟩,fun b iS => ?_,hl.eC⟩;obtain rfl:=oO.2 b iS;refine⟨by simp [Gh.new],by simp [Gh.new],by simp [Gh.new]; exact hle,fun j hj=> ?_,⟨_,_,hb⟩,fun _ i d h1 h2 h3=> ?_⟩
  ·simp only [Gh.new,ei]at hj;rw [← fQ]at hj;refine⟨by rw [dX hb]; simp [hj], ?_⟩;have: ¬ f1<=j:=by omega
   simp [World.frozen?,hb,this]
  ·obtain⟨v,v1,v2,v3,v4⟩:=(hl.mono hK).get (w' :=w') (lS hb qW) i d h3;refine⟨v,v1,v2, ?_⟩;simpa [Gh.new] using v3)
 refine⟨_,n1,n2, ?_⟩;simp only [aR,Gh.at,n4];exact⟨w.heap.size,n3,by simp [Gh.new],by simp [Gh.new],aq _,0,cp,rfl,hle,.inr (by simp),by simp [Gh.new]⟩
section
variable (he:dW ρ w lo env a.tmps)(hg:gn pn G ρ w)(hs:bK ρ s w)
include he hg hs
theorem AJ {t u e:TypeId} {x' :Operand}{x:bO}(hx:ew G x' =some x)(ht:P.underlying t=some .string)(hu:P.underlying u=some (.slice e))(Z8:P.underlying e=some (.int .u8))(h:cg C env s al (.oZ e x)=some (d,s')){o:Oper}(ho:o.op= .convert t u x'):
  eP P ρ w env a.tmps d s' ((execOp a.eval o).run P w):=by
 simp only [cg]at h;split at h
 ·rename_i l hp;have hv:=bc hx he hg hp;simp only [aR]at hv;split at h
  ·rename_i hle;have hle:=az hle;split at h
   ·rename_i k s2 hm;simp only [aa,ab]at h;obtain⟨rfl,rfl⟩:=h;let S:ByteArray:=⟨⟨l⟩⟩
    have hS:S.size=l.length:=by simp [S,ByteArray.size_mk']
    have pI:l.length<=grownCap w S.size 0 e:=by
     have:=grownCap_ge w S.size 0 e;omega
    have qW:(Lib.bytesCells w e S).toList=(l.map fun b=>Value.int .u8 b.toNat)++List.replicate (grownCap w S.size 0 e - S.size) (.int .u8 0):=by
     simp [Lib.bytesCells,S]
    have fQ:(Lib.bytesCells w e S).size=grownCap w S.size 0 e * 1:=by
     have:=congrArg List.length qW;simp at this;omega
    have aae:(Lib.bytesWorld w e S).heap=w.heap.push (.cells (Lib.bytesCells w e S) e ((Lib.bytesCells w e S).size,(Lib.bytesCells w e S).size+1)):=by
     apply Array.ext_getElem?;intro i;rcases gJ i w.heap.size with hi | hi | hi
     ·rw [Lib.bytesWorld_at_old w e S i hi,jd,aI (by omega)]
     ·subst hi; rw [Lib.bytesWorld_at_new,jd,bQ rfl]
     ·rw [cq (by rw [Lib.bytesWorld_size]; omega),cq (by simp; omega)]
    obtain⟨ρ',n1,n2,n3⟩:=Pz (w' :=Lib.bytesWorld w e S) (cs:=Lib.bytesCells w e S) (cp:=grownCap w S.size 0 e) hs (aq _) Nat.one_pos hm (oD l) qW fQ (by simpa using pI) aae rfl rfl rfl;have hr:(execOp a.eval o).run P w= .ok (.value (.slice (some ⟨w.heap.size,0,none⟩) l.length (grownCap w S.size 0 e))) (Lib.bytesWorld w e S):=by
     simp only [execOp,ho,hv];rw [Sem.run_bind,Lib.run_convert_string_bytes w t u e S ht hu Z8,hS];rfl
    rw [hr];simp only [aY]at n3;exact .val n1 n2 n3
   ·cases h
  ·cases h
 ·cases h
end
end Go.Ab
namespace Go.Ab
open Go
variable [eh]
variable {ρ ρ' :Gh} {w w' :World}{P:Program}{pn:gY}{G:Gl}{X:ig}{A:mT} {s s' :St}{env:Env}{a:Act}{lo:Nat}{d:D}{C:au}{al:Option Nat}
theorem zp {t c n:Nat}:∀ {l:List (Nat×Nat×Nat)},Bu t c n l=true->(t,c,n)∈l
 | [],h=>by simp [Bu]at h
 | (t',c',n')::r,h=>by
  simp only [Bu]at h;split at h
  ·rename_i hb;simp only [aB,iw]at hb;obtain⟨rfl,rfl,rfl⟩:=hb;simp
  ·exact cW _ (zp h)
theorem SR (hs:bK ρ s w){o:Nat}{x:Obj}(ho:s.get o=some x)(iB:s.set o .dead=some s')(hh:∀b,ρ.own b≠ .obj o->w'.heap[b]? =w.heap[b]?)(fQ:w'.heap.size=w.heap.size)
  (h1:w'.os=w.os)(h2:w'.tape=w.tape)(h3:w'.output=w.output):∃ρ',Kp ρ w ρ' w' /\bK ρ' s' w' :=by
 have gy :s' =s.bn o .dead:=by
  unfold St.set at iB;split at iB
  ·cases iB
  ·split at iB
   ·cases iB
   ·simp only [aa]at iB; exact iB.symm
 subst gy;let ρ1:Gh:= { ρ with kd:=fun q=>if q=o then .dead else ρ.kd q}
 have kM:∀q,q≠o->ρ1.kd q=ρ.kd q:=fun q hq=>by simp [ρ1,hq]
 have hK:Kp ρ w ρ1 w' :=by
  refine⟨h1,h2,h3,by omega,fun b hb hn=>⟨hh b (hn o),rfl⟩,fun q hq=> ?_,fun q z hq=> ?_⟩
  ·simp only [ρ1]; split
   ·exact⟨rfl,trivial⟩
   ·exact⟨hq,trivial⟩
  ·by_cases SD:q=o
   ·exact .inl (by simp [ρ1,SD])
   ·exact .inr ⟨by rw [kM q SD]; exact hq,fun b hb=>⟨hb,rfl,aq _,rfl⟩⟩
 refine⟨ρ1,hK,hs.QM hK o .dead (fun b q hq _=>kN) kM (fun b q hq _ hb=>⟨hh b (by rw [hb]; simp [hq]),rfl,rfl,rfl⟩) (by simp [oC,ρ1]) (fun b hb=>hs.size b (by omega)) (hs.lt _ _ ho) (aq _) (St.eS s o _)⟩
section
variable (he:dW ρ w lo env a.tmps)(hg:gn pn G ρ w)(hs:bK ρ s w)
include he hg hs
theorem KI {t:TypeId} {x' :Operand}{x:bO}(hx:ew G x' =some x)(h:cg C env s al (.qM x)=some (d,s')){o:Oper}
  (ho:o.op= .call { callee:= .builtin .unsafeSliceData,args:= #[x'],argTypes:= #[t]}):eP P ρ w env a.tmps d s' ((execOp a.eval o).run P w):=by
 have fin:∀u,(Builtin.unsafeSliceData_ #[t] o.type #[a.eval x']).run P w= .ok u w->aR ρ w d u->s' =s->eP P ρ w env a.tmps d s' ((execOp a.eval o).run P w):=by
  intro u g1 g2 g3;subst g3;rw [ic ho];simp only [builtin,eY,bT,eH];rw [Sem.run_bind,g1];exact .rep hs g2
 simp only [cg]at h;split at h
 ·rename_i z l hp;have hv:=bc hx he hg hp;simp only [aa,ab]at h;obtain⟨rfl,rfl⟩:=h;simp only [aR]at hv;rcases hv with ⟨_,_,hv⟩ | ⟨hv,_⟩
  ·exact fin (.pointer none) (by rw [hv]; exact Lib.run_unsafeSliceData_nil _ _ _ _ _) (by simp [aR]) rfl
  ·cases hv
 ·rename_i ob off len cp hp;have hv:=bc hx he hg hp;split at h
  ·rename_i z ty es st lD;split at h
   ·rename_i W7;have W7:=az W7;simp only [aa,ab]at h;obtain⟨rfl,rfl⟩:=h;obtain⟨z0,k1,_⟩:=hs.ok _ _ lD;simp only [aR,Gh.at,k1]at hv;obtain⟨b,hb,q1,q2,q3,y,cap,q4,q5,q6,q7⟩:=hv;have UA:cap≠0:=by omega
    have q6:=q6.resolve_left UA;subst q6;refine fin (.pointer (some ⟨b,(off - ρ.sh b) * z,none⟩)) (by rw [q4]; exact Lib.run_unsafeSliceData_row _ _ _ _ _ _ UA) ?_ rfl;simp only [aR,Gh.at,k1];exact⟨b,hb,q1,by omega,q2,by simp⟩
   ·cases h
  ·cases h
 ·cases h
theorem Tp {t u e:TypeId}{n:Nat} {x' :Operand}{x:bO}(hx:ew G x' =some x)(ht:P.underlying t=some .unsafePointer)(hu:P.underlying u=some (.pointer e))(hn:dC P e=some (n+1))
  (h:cg C env s al (.upto [(e,0,n+1)] x)=some (d,s')){o:Oper}(ho:o.op= .convert t u x'):eP P ρ w env a.tmps d s' ((execOp a.eval o).run P w):=by
 simp only [cg]at h;split at h
 ·rename_i hp;have hv:=bc hx he hg hp;simp only [aa,ab]at h;obtain⟨rfl,rfl⟩:=h;simp only [aR]at hv;have hr:(execOp a.eval o).run P w= .ok (.value (.pointer none)) w:=by
   simp only [execOp,ho,hv,convert];simp [run_underlying ht,run_underlying hu,Conv.unsafePointer]
  rw [hr]; exact .rep hs (by simp [aR])
 ·rename_i ob c hp;have hv:=bc hx he hg hp;split at h
  ·rename_i ty v lD;split at h
   ·rename_i hm;simp only [aa,ab]at h;obtain⟨rfl,rfl⟩:=h;have hm:=zp hm;simp only [eI,ab]at hm;obtain⟨rfl,rfl,hl⟩:=hm;obtain⟨b,q,g1,g2,g3,g4,g5,g6⟩:=hs.ok _ _ lD;have kB:=hv;simp only [aR,Gh.at,g1]at hv;obtain⟨b',h1,h3⟩:=hv;obtain rfl:=g2.2 b' h1;have hqs:q.cells.size=n+1:=by rw [g3.size g6]; exact hl
    have GD:P.cellsOf ty=n+1:=by
     cases hi:P.info? ty with
     | none=>simp [dC,hi]at hn
     | some i=>simpa [Program.cellsOf,dC,hi] using hn
    have OI:liesAt P P.depth ty (q.cells.size / P.cellsOf ty) 0 ty 1=true:=by
     have hd:P.depth=(2 * (P.types.size+Made.depth)+1)+1:=rfl;rw [hd];simp only [liesAt,ey]
     left
     rw [hd];simp [rowAt,GD,hqs,sameLayout]
    have hr:(execOp a.eval o).run P w= .ok (.value (a.eval x')) w:=by
     simp only [execOp,ho,h3,convert]
     have iC:∀ {α:Type} (f:Option (TypeId×Nat)->Sem α),(Sem.shape b' f).run P w=(f (some (ty,q.cells.size))).run P w:=fun f=>by
      simp [Sem.run,World.shape?,g4]
     simp [run_underlying ht,run_underlying hu,Conv.unsafePointer,Conv.seenAt,viewAt,shape,getObj,iC,variablesAt,fD hn,OI]
    rw [hr]; exact .rep hs kB
   ·cases h
  ·cases h
 ·cases h
omit he hg hs in
theorem u6:∀(ns:List Int) (ad:Addr) (acc:ByteArray),(∀j n,ns[j]? =some n->w.cell? (ad.add j)=some (.int .u8 n))->
  (loadBytes ad acc ns.length).run P w= .ok (ns.foldl (fun (r:ByteArray) n=>r.push (UInt8.ofNat n.toNat)) acc) w
 | [],ad,acc,_=>by simp [loadBytes]
 | n::ns,ad,acc,h=>by
  have h0:w.cell? ad=some (.int .u8 n):=by
   have:=h 0 n rfl;simpa [Addr.add] using this
  have ih:=u6 ns (ad.add 1) (acc.push (UInt8.ofNat n.toNat)) (fun j m hj=>by
   have:=h (j+1) m (by simpa using hj);have e:(ad.add 1).add j=ad.add (j+1):=by
    unfold Addr.add;by_cases hj:j=0
    ·subst hj; simp
    ·simp [hj]; omega
   rw [e]; exact this)
  simp only [aT,loadBytes,Sem.run_bind,Go.run_load,h0,Result.andThen,mU];exact ih
omit he hg hs in
theorem GR {e:TypeId}(hc:P.cellsOf e=1)(count off n:Nat)(hn:off+n<=count):liesAt P P.depth e count off e n=true:=by
 have hd:P.depth=(2 * (P.types.size+Made.depth)+1)+1:=rfl;rw [hd];simp only [liesAt,ey]
 left
 rw [hd];simp [rowAt,hc,hn,sameLayout,Nat.mod_one]
theorem Ts {t it e:TypeId} {x' y' :Operand}{x y:bO}(hx:ew G x' =some x)(hy:ew G y' =some y)(ht:P.underlying t=some (.pointer e))(hn:dC P e=some 1)(h:cg C env s al (.CW e x y)=some (d,s')){o:Oper}
  (ho:o.op= .call { callee:= .builtin .unsafeString,args:= #[x',y'],argTypes:= #[t,it]}):eP P ρ w env a.tmps d s' ((execOp a.eval o).run P w):=by
 have pW:IntKind.i64.max=9223372036854775807:=rfl;have hce:P.cellsOf e=1:=by
  cases hi:P.info? e with
  | none=>simp [dC,hi]at hn
  | some i=>simpa [Program.cellsOf,dC,hi] using hn
 have fin:∀u w' ρ',(Builtin.unsafeString_ #[t,it] o.type #[a.eval x',a.eval y']).run P w= .ok u w' ->Kp ρ w ρ' w' ->bK ρ' s' w' ->aR ρ' w' d u->eP P ρ w env a.tmps d s' ((execOp a.eval o).run P w):=by
  intro u w' ρ' g1 g2 g3 g4;rw [ic ho];simp only [builtin,eY,bT,eH];rw [Sem.run_bind,g1];exact .val g2 g3 g4
 simp only [cg]at h;split at h
 ·rename_i k n hpx hpy;have hvx:=bc hx he hg hpx;have hvy:=bc hy he hg hpy;split at h
  ·rename_i hc;simp only [aB,bf]at hc;obtain⟨rfl,rfl⟩:=hc;simp only [aa,ab]at h;obtain⟨rfl,rfl⟩:=h;simp only [aR]at hvx hvy;exact fin (.string .empty) w ρ (by rw [hvx,hvy]; exact Lib.run_unsafeString_none w t it _ none) (Kp.refl _ _) hs (by simp [aR]; rfl)
  ·cases h
 ·rename_i ob i c en k n hpx hpy;have hvx:=bc hx he hg hpx;have hvy:=bc hy he hg hpy;split at h
  ·rename_i z ty es st lD;split at h
   ·rename_i bs h1 h2 h3 h4;simp only [aB,iw]at h1;obtain⟨rfl,rfl,rfl⟩:=h1;simp only [aB,bf]at h2;obtain⟨rfl,Bi,UN⟩:=h2;have UN:=az UN;have hmx:aM=2147483648:=rfl;simp only [aB]at h3;obtain⟨i1,i2,i3⟩:=h3;have i1:=az i1;have i2:=az i2;have i3:=az i3;unfold nY at h;split at h
    ·rename_i s2 iB;simp only [aa,ab]at h;obtain⟨rfl,rfl⟩:=h;obtain⟨z0,k1,kV,_,xK,fN⟩:=hs.ok _ _ lD;simp only [aR,Gh.at,k1]at hvx;obtain⟨b,hb,q1,q2,q3,q4⟩:=hvx;simp only [aR]at hvy;have hB:=xK b hb;obtain⟨cs,f,l9⟩:=hB.shape;simp only [lf,fu]at q4;have hle:((es.drop i).take n.toNat).length=n.toNat:=by simp; omega
     have pq:=hB.room;have Cn:=hB.ext;have Ox:ρ.cap b<=cs.size:=by
      rcases eV (ρ.cap b) with h | h
      ·omega
      ·have:=(hB.cells (ρ.cap b - 1) (by omega)).1;rw [dX l9]at this;rcases aP (ρ.cap b - 1) cs.size with h' | h'
       ·omega
       ·simp [cq h']at this
     have hE:fJ ρ w 1 b (i - ρ.sh b) ((es.drop i).take n.toNat):=fJ.of Nat.one_pos _ _ fun j e' hj=>by
      rw [da]at hj;split at hj
      ·rw [cS]at hj;obtain⟨u,r1,r2,r3⟩:=hB.get (by omega) (by omega) (by omega) hj;refine⟨u,r1,r2, ?_,(nR fN hj).2⟩;rw [show i - ρ.sh b+j * 1=(i+j - ρ.sh b) * 1 by omega];exact r3
      ·cases hj
     obtain⟨ns,m1,m2,m3⟩:=pG h4 (.inl rfl) hE
     have hlb:=u6 (P:=P) (w:=w) ns ⟨b,i - ρ.sh b,none⟩ .empty (fun j m hj=>by
      have:=m2 j m hj;by_cases hj0:j=0
      ·subst hj0; simpa [Addr.add] using this
      ·simpa [Addr.add,hj0] using this)
     rw [m1,hle]at hlb;have hm3:=m3 [];simp only [dF]at hm3;have Z9:ByteArray.empty=⟨⟨[]⟩⟩:=rfl;rw [Z9,hm3]at hlb;have iC:w.shape? b=some (ty,cs.size):=by simp [World.shape?,l9]
     have OI:=GR (P:=P) hce (cs.size / P.cellsOf ty) (i - ρ.sh b) n.toNat (by rw [hce]; simp; omega);have fK: ¬ (9223372036854775807:Int) < n->(Builtin.unsafeString_ #[t,it] o.type #[a.eval x',a.eval y']).run P w= .ok (.string ⟨⟨bs⟩⟩) (w.freeze ⟨b,i - ρ.sh b,none⟩ n.toNat):=by
      intro h63;rw [q4,hvy]
      have abm:Builtin.unsafeString_ #[t,it] o.type #[.pointer (some ⟨b,i - ρ.sh b,none⟩),.int .i64 n]=
        (do
         let n ← asInt (.int .i64 n)
         if n < 0 then runtimePanic (.error "unsafe.String: len out of range")
         if n > IntKind.i64.max then unsupported (.unsafePointer "String: a length above the largest int")
         if n=0 then pure (.string .empty)
         else if ← variablesAt ⟨b,i - ρ.sh b,none⟩ (← elemOf t) n.toNat then do
          let s ← loadBytes ⟨b,i - ρ.sh b,none⟩ .empty n.toNat
          freeze ⟨b,i - ρ.sh b,none⟩ n.toNat
          pure (.string s)
         else unsupported (.unsafePointer "String: not so many bytes at ptr")) := rfl
      rw [abm];have J2: ¬ n < 0:=by omega
      have hnz: ¬ n=0:=by omega
      rw [Z9]at *;simp [asInt,asIntOf,pW,h63,J2,hnz,variablesAt,iC,elemOf,run_underlying ht,OI,hlb]
     have aam: ¬ (9223372036854775807:Int) < n:=by omega
     have hh:∀b',ρ.own b' ≠ .obj ob->(w.freeze ⟨b,i - ρ.sh b,none⟩ n.toNat).heap[b']? =w.heap[b']? :=fun b' iS =>by
      have dn:b≠b' :=by rintro rfl; exact iS hb
      unfold World.freeze;split
      ·rfl
      ·simp only [lY]; rw [aI dn]
     obtain⟨ρ',n1,n2⟩:=SR (w' :=w.freeze ⟨b,i - ρ.sh b,none⟩ n.toNat) hs lD iB hh (by unfold World.freeze; split <;> simp) (by unfold World.freeze; split <;> rfl) (by unfold World.freeze; split <;> rfl) (by unfold World.freeze; split <;> rfl);exact fin _ _ ρ' (fK aam) n1 n2 (by simp [aR])
    ·cases h
   ·cases h
  ·cases h
 ·cases h
end
end Go.Ab
