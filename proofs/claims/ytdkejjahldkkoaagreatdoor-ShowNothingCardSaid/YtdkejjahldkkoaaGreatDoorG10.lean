/- Part. -/
import Derived.Test.YtdkejjahldkkoaaGreatDoorG09
import Derived.Laws.IdiomCopy
import Derived.Lib.ConvBytes
import Derived.Lib.UnsafeStr
set_option linter.unusedSectionVars false
set_option linter.unusedSimpArgs false
set_option linter.unusedVariables false
namespace Go.Ab
open Go
variable {s s' :St}{C:au}{L:ic}{e:Env}{al:Option Nat}{d:D}
theorem PW {x:Option D}(h:nk s x=some (d,s')):s' =s:=by cases x <;> simp [nk]at h; exact h.2.symm
theorem pS (hr:s.ro=true)(o:Nat)(x:Obj):s.set o x=none:=by unfold St.set; rw [hr]
theorem AM (hr:s.ro=true)(al:Option Nat)(x:Obj):s.mk' al x=none:=by unfold St.mk'; rw [hr]
theorem oH (hr:s.ro=true)(sz:Nat)(p v:D):jM s sz p v=none:=by
 unfold jM
 repeat' split
 all_goals first
  | rfl
  | exact pS hr _ _
theorem Ke (hr:s.ro=true){sz:Nat}{p:D}{l:List D}(h:iP s sz p l=some s'):s' =s:=by
 unfold iP at h
 repeat' split at h
 all_goals first
  | (cases h; done)
  | (rw [pS hr]at h; cases h; done)
  | (simp only [aa]at h; exact h.symm)
theorem GF (hr:s.ro=true){sz ty:Nat}{x:D}{l:List D}(h:fF s al sz ty x l=some (d,s')):s' =s:=by
 unfold fF at h;simp only [pS hr,AM hr]at h
 repeat' split at h
 all_goals first
  | (cases h; done)
  | (simp only [aa,ab]at h; exact h.2.symm)
  | (simp at h; done)
theorem Rf (hr:s.ro=true){k:Ext}{l:List D}(h:Db s k l=some (d,s')):s' =s:=by
 unfold Db at h;simp only [oH hr,oC]at h
 repeat' split at h
 all_goals first
  | (cases h; done)
  | (simp only [aa,ab]at h; exact h.2.symm)
  | (simp at h; done)
def Fq (C:au):Prop:=∀f l s d s',s.ro=true->C f l s=some (d,s')->s' =s
def Xu (L:ic):Prop:=∀k a fr s e fr' s',s.ro=true->L k a fr s=some (e,fr',s')->s' =s
theorem Wr (hC:Fq C)(hr:s.ro=true){p:eN}(h:cB C e s al p=some (d,s')):s' =s:=by
 cases p <;> simp only [cB,pS hr,AM hr,oH hr,oC]at h
 all_goals
  (repeat' split at h)
  all_goals first
   | (cases h; done)
   | exact PW h
   | (simp only [aa,ab]at h; exact h.2.symm)
   | exact hC _ _ _ _ _ hr h
   | exact GF hr h
   | exact Rf hr h
   | (rename_i h1; simp only [aa,ab]at h; obtain ⟨rfl,rfl⟩:=h; exact Ke hr h1)
   | trace_state
theorem xu (hC:Fq C)(hr:s.ro=true){b:Nat}{o:bj} {fr fr' :Fr}(h:oper C b o fr s=some (fr',s')):s' =s:=by
 unfold oper at h;split at h
 ·split at h
  ·split at h
   ·simp only [aa,ab]at h; exact h.2.symm
   ·cases h
  ·split at h
   ·split at h
    ·simp only [aa,ab]at h; exact h.2.symm
    ·cases h
   ·cases h
  ·split at h
   ·split at h
    ·split at h
     ·simp only [aa,ab]at h; exact h.2.symm
     ·cases h
    ·cases h
   ·cases h
  ·split at h
   ·rename_i h1;simp only [aa,ab]at h;obtain⟨_,rfl⟩:=h;exact Wr hC hr h1
   ·cases h
 ·simp only [aa,ab]at h; exact h.2.symm
 ·cases h
theorem DE (hC:Fq C){b:Nat}:∀ {l:List bj} {s s' :St} {fr fr' :Fr},s.ro=true->opers C b l fr s=some (fr',s')->s' =s
 | [],s,s',fr,fr',hr,h=>by simp only [opers,aa,ab]at h; exact h.2.symm
 | o::r,s,s',fr,fr',hr,h=>by
  simp only [opers]at h;split at h
  ·rename_i h1;obtain rfl:=xu hC hr h1;exact DE hC hr h
  ·cases h
theorem Bb (hC:Fq C){b:Nat}:∀ {l:List (bj×List Nat)} {acc:List Fp} {s s' :St} {fr fr' :Fr},s.ro=true->iy C b l acc fr s=some (fr',s')->s' =s
 | [],_,s,s',fr,fr',hr,h=>by simp only [iy,aa,ab]at h; exact h.2.symm
 | (o,q)::r,_,s,s',fr,fr',hr,h=>by
  simp only [iy]at h;split at h
  ·split at h
   ·rename_i h1;obtain rfl:=xu hC hr h1;split at h
    ·exact Bb hC hr h
    ·cases h
   ·cases h
  ·cases h
theorem gH (hC:Fq C)(hL:Xu L):∀ {a:AC} {s s' :St} {fr fr' :Fr} {e:Ex},s.ro=true->bW C L a fr s=some (e,fr',s')->s' =s
 | .skip,s,s',fr,fr',e,hr,h=>by simp only [bW,aa,ab]at h; exact h.2.2.symm
 | .Aa ops,s,s',fr,fr',e,hr,h=>by
  simp only [bW]at h;split at h
  ·rename_i h1;simp only [aa,ab]at h;obtain⟨_,_,rfl⟩:=h;exact DE hC hr h1
  ·cases h
 | .yO k ops,s,s',fr,fr',e,hr,h=>by
  simp only [bW]at h;split at h
  ·cases h
  ·rename_i hk;split at h
   ·rename_i h1;simp only [aa,ab]at h;obtain⟨_,_,rfl⟩:=h;have Nb:k=0:=by
     rw [hr,fM]at hk;rcases ec k with h | h
     ·exact h
     ·have:Nat.blt 0 k=true:=aq h;rw [this]at hk; cases hk
    subst Nb;exact Bb (s:=s) hC hr h1
   ·cases h
 | .seq a b,s,s',fr,fr',e,hr,h=>by
  simp only [bW]at h;split at h
  ·rename_i h1;obtain rfl:=gH hC hL hr h1;exact gH hC hL hr h
  ·exact gH hC hL hr h
 | .cond c a b,s,s',fr,fr',e,hr,h=>by
  simp only [bW]at h;split at h
  ·exact gH hC hL hr h
  ·exact gH hC hL hr h
  ·cases h
 | .block id a,s,s',fr,fr',e,hr,h=>by
  simp only [bW]at h;split at h
  ·rename_i h1;obtain rfl:=gH hC hL hr h1;split at h
   ·simp only [aa,ab]at h; exact h.2.2.symm
   ·simp only [aa,ab]at h; exact h.2.2.symm
  ·exact gH hC hL hr h
 | .loop bR a,s,s',fr,fr',e,hr,h=>by
  simp only [bW]at h;exact hL _ _ _ _ _ _ _ hr h
 | .iA bR g ps x y,s,s',fr,fr',e,hr,h=>by
  simp only [bW]at h;exact hL _ _ _ _ _ _ _ hr h
 | .exit id,s,s',fr,fr',e,hr,h=>by simp only [bW,aa,ab]at h; exact h.2.2.symm
 | .ret,s,s',fr,fr',e,hr,h=>by simp only [bW,aa,ab]at h; exact h.2.2.symm
 | .bad,s,s',fr,fr',e,hr,h=>by simp [bW]at h
theorem uH (hC:Fq C):∀ {l:List (D×List D)} {s s' :St},s.ro=true->leave C l s=some s' ->s' =s
 | [],s,s',hr,h=>by simp only [leave,aa]at h; exact h.symm
 | (f,l)::r,s,s',hr,h=>by
  unfold leave at h;split at h
  ·rename_i hh; cases hh
  ·rename_i hh;simp only [ey,ab]at hh;obtain⟨⟨rfl,rfl⟩,rfl⟩:=hh;split at h
   ·rename_i h1;obtain rfl:=hC _ _ _ _ _ hr h1;exact uH hC hr h
   ·cases h
  ·rename_i hh;simp only [ey,ab]at hh;obtain⟨⟨rfl,rfl⟩,rfl⟩:=hh;exact uH hC hr h
  ·cases h
theorem Pv {CD:au}(hC:Fq C)(Na:Fq CD)(hL:Xu L)(hr:s.ro=true){fn:dS}{args:List D}(h:nS C CD L fn args s=some (d,s')):s' =s:=by
 unfold nS at h;split at h
 ·cases h
 ·rename_i h1;obtain rfl:=gH hC hL hr h1;split at h
  ·rename_i h2;obtain rfl:=uH Na hr h2;split at h
   ·simp only [aa,ab]at h; exact h.2.symm
   ·cases h
  ·cases h
 ·cases h
theorem EO {T:Nat->Option dS}(hC:Fq C)(hL:Xu L):Fq (pa T C L):=by
 intro f l s d s' hr h;unfold pa at h;split at h
 ·unfold vU at h;split at h
  ·cases h
  ·rename_i h1;obtain rfl:=gH hC hL hr h1;split at h
   ·split at h
    ·simp only [aa,ab]at h; exact h.2.symm
    ·cases h
   ·cases h
  ·cases h
 ·cases h
theorem oU {T:Nat->Option dS}{H:au}(hH:Fq H):∀n,Fq (dH T H n)/\Xu (fc T H n)
 | 0=>⟨fun f l s d s' _ h=>by simp [dH]at h,fun k a fr s e fr' s' _ h=>by simp [fc]at h⟩
 | n+1=>by
  obtain⟨i1,i2⟩:=oU (T:=T) hH n;refine⟨fun f l s d s' hr h=> ?_,fun k a fr s e fr' s' hr h=> ?_⟩
  ·simp only [dH]at h;split at h
   ·exact hH _ _ _ _ _ hr h
   ·split at h
    ·exact Pv i1 (EO i1 i2) i2 hr h
    ·exact hH _ _ _ _ _ hr h
  ·cases hb:a.il with
   | true=>
    cases a <;> first | (cases hb; done) | skip
    rw [jH,Bl hr]at h; cases h
   | false=>
    rw [iC _ _ _ _ hb]at h;split at h
    ·rename_i h1;obtain rfl:=gH i1 i2 hr h1;exact i2 _ _ _ _ _ _ _ hr h
    ·exact gH i1 i2 hr h
end Go.Ab
namespace Go.Ab
open Go
variable [eW]
variable {ρ ρ' :Gh} {w w' :World}{P:Program}{pn:iO}{G:Gl}{X:iJ}{A:nJ} {s s' :St}{env:Env}{a:Act}{lo:Nat}{d:D}{C:au}{al:Option Nat}
theorem bZ.aaa {b:Bool}(h:bZ ρ s w):bZ ρ { s with ro:=b} w:=⟨h.lt,h.ok,h.no,h.live,h.size⟩
theorem bZ.aa4 {b:Bool}(h:bZ ρ { s with ro:=b} w):bZ ρ s w:=⟨h.lt,h.ok,h.no,h.live,h.size⟩
section
variable (he:eu ρ w lo env a.tmps)(hg:gF pn G ρ w)(hs:bZ ρ s w)
include he hg hs
theorem J5 (hC:c9 pn P G C){f:FuncId} {args' :Array Operand}{args:List bP}(ha:rV G args' =some args)(h:cB C env s al (.call true f args)=some (d,s')){o:Oper}{tys:Array TypeId}
  (ho:o.op= .call { callee:= .value (.func f),args:=args',argTypes:=tys}):fb P ρ w env a.tmps d s' ((execOp a.eval o).run P w):=by
 simp only [cB]at h;split at h
 ·rename_i l hl;split at h
  ·rename_i d1 s1 h1;simp only [aa,ab]at h;obtain⟨rfl,rfl⟩:=h;have hr:=oh he hg _ _ l ha hl;have fW:(execOp a.eval o).run P w= .ok (.enter f (args'.map a.eval)) w:=by
    simp only [execOp,ho,resolve,Act.eval,Deferred.ofValue];have:=hC.enter _ _ _ _ h1 (.inr hr.yS) (args'.map a.eval) w;simpa [invoke] using this
   rw [fW];refine⟨rfl, ?_⟩;have:=hC.calls _ _ _ _ _ ρ w _ h1 hs.aaa hg hr;have tZ:s1= { s with ro:=true}:=hC.ro _ _ _ _ _ rfl h1;subst tZ;have e:(List.map a.eval args'.toList).toArray=args'.map a.eval:=by simp [← Array.toList_map]
   rw [e]at this;refine this.mono fun en w' hp=> ?_;cases en with
   | returned v=>obtain ⟨ρ',k1,k2,k3⟩:=hp; exact ⟨ρ',k1,k2.aa4,k3⟩
   | panicked _=>exact hp
   | outgrown=>exact hp
  ·cases h
 ·cases h
end
end Go.Ab
namespace Go.Ab
open Go
variable [eW]
variable {ρ ρ' :Gh} {w w' :World}{P:Program}{pn:iO}{G:Gl}{X:iJ}{A:nJ} {s s' :St}{env:Env}{a:Act}{lo:Nat}{d:D}{C:au}{al:Option Nat}
theorem AJ {d:D} {v v' :Value}(h:aS ρ w d v) (h' :aS ρ w d v')(hd:yH d=true):v=v' :=by
 cases d <;> simp only [yH,db]at hd <;> simp only [aS]at h h' <;> rw [h,h']
theorem AT:∀ {l:List D} {vs vs' :List Value},br ρ w l vs->br ρ w l vs' ->l.all yH=true->vs=vs'
 | [],_,_,h,h',_=>by simp only [br]at h h'; rw [h,h']
 | d::l,_,_,h,h',hd=>by
  simp only [br]at h h';obtain⟨v,r,rfl,h1,h2⟩:=h;obtain⟨v',r',rfl,G4,xo⟩:=h';simp only [gQ,aA]at hd;rw [AJ h1 G4 hd.1,AT h2 xo hd.2]
theorem Kf {d:D} {v v' :Value}(h:aS ρ w d v) (h' :aS ρ w d v')(hd:Cx d=true):v=v' :=by
 cases d
 case agg l=>
  simp only [aS]at h h';obtain⟨vs,rfl,h1,_⟩:=h;obtain⟨vs',rfl,G4,_⟩:=h';have:=AT h1 G4 hd
  congr 1
  exact dG this
 all_goals exact AJ h h' hd
theorem It {sz:Nat}:∀ {l:List D} {vs vs' :List Value},fY ρ w sz l vs->fY ρ w sz l vs' ->l.all Cx=true->vs=vs'
 | [],_,_,h,h',_=>by simp only [fY]at h h'; rw [h,h']
 | d::l,_,_,h,h',hd=>by
  simp only [fY]at h h';obtain⟨v,r,rfl,h1,_,_,h2⟩:=h;obtain⟨v',r',rfl,G4,_,_,xo⟩:=h';simp only [gQ,aA]at hd;rw [Kf h1 G4 hd.1,It h2 xo hd.2]
theorem BU {w:World}{b o:Nat}{v:Value}(h:w.cell? ⟨b,o,none⟩=some v):w.setCell ⟨b,o,none⟩ v=w:=by
 have e:(w.setCell ⟨b,o,none⟩ v).heap=w.heap:=by
  apply Array.ext
  ·simp [World.setCell]
  ·intro i h1 h2;simp only [World.setCell,Array.getElem_modify];split
   ·rename_i hi;subst hi;simp only [World.cell?]at h;rw [cz h2]at h;cases hb:w.heap[b] with
    | cells c el f=>
     rw [hb]at h;simp only [Option.isSome_none,db,iw]at h ⊢;have:c.setIfInBounds o v=c:=by
      apply Array.ext_getElem?;intro j;rw [dR];split
      ·rename_i hj; subst hj;rw [h,bJ (gy.mp h).1]
      ·rfl
     rw [this]
    | _=>rfl
   ·rfl
 cases w;simp only [World.setCell]at e ⊢;rw [e]
theorem te:∀ {vs:List Value} {w:World} {b o:Nat},(∀j u,vs[j]? =some u->w.cell? ⟨b,o+j,none⟩=some u)->w.setCells b o vs=w
 | [],_,_,_,_=>rfl
 | v::vs,w,b,o,h=>by
  show (w.setCell ⟨b,o,none⟩ v).setCells b (o+1) vs=w;rw [show w.setCell ⟨b,o,none⟩ v=w from BU (by simpa using h 0 v rfl)];exact te fun j u hj=>by have:=h (j+1) u hj; rwa [show o+(j+1)=o+1+j by omega]at this
theorem Bh (hs:bZ ρ s w){sz:Nat}{x:D}{v:Value}{l:List D}{vs:List Value}(hx:aS ρ w x v)(hl:fY ρ w sz l vs)(h:iP s sz x l=some s'):
  ∃p n c w',v= .slice p n c/\l.length<=n/\Kp ρ w ρ w' /\bZ ρ s' w' /\((l=[]/\w' =w)\/∃b y,p=some ⟨b,y,none⟩/\(storeCells ⟨b,y,none⟩ vs).run P w= .ok () w'):=by
 unfold iP at h;split at h
 ·rename_i o off len cp;split at h
  ·rename_i z ty es st lF;split at h
   ·rename_i h1 h2 h3;obtain rfl:=aF h1;have h2:=aF h2;have h3:=ax h3;obtain⟨z0,k1,zV,⟨cur,c1,c2,c3⟩,xh,dK⟩:=hs.ok _ _ lF;simp only [aS,Gh.at,k1]at hx;obtain⟨b,hb,q1,q2,q3,y,cap,q4,q5,q6,q7⟩:=hx;have hB:=xh b hb;have hex:ρ.ext b=es.length:=by have:=hB.ext; omega
    obtain⟨cs,f,qN⟩:=hB.shape;have J8:=hl.length;by_cases Al:l=[]
    ·subst Al;simp only [fY]at hl; subst hl;obtain⟨n1,n2⟩:=rZ (w' :=w) (i:=off) (l:=[]) (vs:=[]) (cs' :=cs) hs lF hb hex q1 rfl (by simp; omega) qN qN (by rw [nf]) (fun _ _=>rfl) rfl rfl rfl rfl h;exact⟨_,_,_,w,q4,by simp,n1,n2,.inl ⟨rfl,rfl⟩⟩
    ·have aaL:0 < l.length:=dV.2 Al;have hy:y=(off - ρ.sh b) * z:=by rcases q6 with q6 | q6 <;> omega
     have pO:=hB.room;have mr:y+vs.length<=ρ.cap b * z:=by
      rw [hy,J8,← Nat.add_mul]; exact dw _ (by omega)
     have p9:∀j,j < ρ.cap b * z->j < cs.size:=fun j hj=>by
      have:=(hB.cells j hj).1;rw [ew qN]at this;rcases aG j cs.size with h | h
      ·exact h
      ·simp [cw h]at this
     have ab4:y+vs.length<=cs.size:=by
      rcases ec (y+vs.length) with h0 | h0
      ·omega
      ·have:=p9 (y+vs.length - 1) (by omega); omega
     obtain⟨⟨cs',g1,g2⟩,g3,g4,g5,g6,g7⟩:=jn vs y w cs ty f qN ab4;obtain⟨n1,n2⟩:=rZ (w' :=w.setCells b y vs) (i:=off) hs lF hb hex q1 hl (by omega) qN g1 (by rw [g2,hy]) g3 g4 g5 g6 g7 h;have fW:=run_storeCells_cells (P:=P) b y vs 0 w (fun j hj=>(hB.cells (y+0+j) (by omega)).1) (fun j hj=>(hB.cells (y+0+j) (by omega)).2) hl.one;exact⟨_,_,_,w.setCells b y vs,q4,h3,n1,n2,.inr ⟨b,y,rfl,fW⟩⟩
   ·rename_i h1 h2 h3;split at h
    ·rename_i h4;simp only [aa]at h; subst h;simp only [aA]at h4;obtain⟨⟨h5,h6⟩,h7,h8⟩:=h4;obtain rfl:=aF h1;have h3:=ax h3;have h5:=ax h5;have h6:=ax h6;have h8:=D.pK _ _ h8;obtain⟨z0,k1,zV,⟨cur,c1,c2,c3⟩,xh,dK⟩:=hs.ok _ _ lF;simp only [aS,Gh.at,k1]at hx;obtain⟨b,hb,q1,q2,q3,y,cap,q4,q5,q6,q7⟩:=hx;have hB:=xh b hb;by_cases Al:l=[]
     ·exact⟨_,_,_,w,q4,h3,Kp.refl _ _,hs,.inl ⟨Al,rfl⟩⟩
     ·have aaL:0 < l.length:=dV.2 Al;have hy:y=(off - ρ.sh b) * z:=by rcases q6 with q6 | q6 <;> omega
      have hE:fX ρ w z b y l:=by
       refine fX.of z0 _ _ fun i e he=> ?_;have hi:i < l.length:=(af.mp he).1;have Ua:es[off+i]? =some e:=by
        rw [← h8,de,bJ hi,cW]at he;exact he
       obtain⟨u,u1,u2,u3⟩:=hB.elems (by omega) (off+i) e (by omega) (by omega) Ua;have dT:e.st=true:=by
        have:=iK.1 dK e (aK Ua);exact this.2
       refine⟨u,u1,u2, ?_,dT⟩;rw [hy,← Nat.add_mul,show off - ρ.sh b+i=off+i - ρ.sh b by omega];exact u3
      obtain⟨vs0,r1,r2⟩:=hE.row;have MZ:=It hl r1 h7;subst MZ;have pO:=hB.room;have J8:=hl.length;have mr:y+vs.length<=ρ.cap b * z:=by
       rw [hy,J8,← Nat.add_mul]; exact dw _ (by omega)
      have fW:=run_storeCells_cells (P:=P) b y vs 0 w (fun j hj=>(hB.cells (y+0+j) (by omega)).1) (fun j hj=>(hB.cells (y+0+j) (by omega)).2) hl.one;rw [fP,te r2]at fW;exact⟨_,_,_,w,q4,h3,Kp.refl _ _,hs,.inr ⟨b,y,rfl,fW⟩⟩
    ·cases h
   ·cases h
  ·cases h
 ·split at h
  ·simp only [aa]at h; subst h;simp only [aS]at hx;rcases hx with ⟨_,_,rfl⟩ | ⟨_,ad,cap,rfl,_⟩
   ·exact⟨_,_,_,w,rfl,by simp,Kp.refl _ _,hs,.inl ⟨rfl,rfl⟩⟩
   ·exact⟨_,_,_,w,rfl,by simp,Kp.refl _ _,hs,.inl ⟨rfl,rfl⟩⟩
  ·cases h
 ·cases h
theorem DK {x:D}{v:Value}{n:Nat}(h:o7 s 1 x=some n)(hx:aS ρ w x v):∃p c,v= .slice p n c:=by
 simp only [o7]at h;split at h
 ·simp only [aa]at h; subst h;simp only [aS]at hx;rcases hx with ⟨_,rfl,rfl⟩ | ⟨_,ad,cap,rfl,_⟩
  ·exact⟨_,_,rfl⟩
  ·exact⟨_,_,rfl⟩
 ·simp only [aa]at h; subst h;simp only [aS]at hx;obtain⟨p,c,rfl⟩:=Gh.jL hx fun _ _ ⟨_,_,_,_,_,q,_⟩=>⟨_,_,q⟩;exact⟨_,_,rfl⟩
 ·cases h
theorem Sl {z k:Nat}{l:List D}(h:(Nat.beq z k || (match l with | []=>true | _=>false))=true):z=k\/l=[]:=by
 simp only [eC]at h;rcases h with h | h
 ·exact .inl (aF h)
 ·cases l with
  | nil=>exact .inr rfl
  | cons _ _=>simp at h
section
variable (he:eu ρ w lo env a.tmps)(hg:gF pn G ρ w)(hs:bZ ρ s w)
include he hg hs
theorem RV {t u e:TypeId}{m:Nat} {x' y' :Operand}{x y:bP}(hx:eK G x' =some x)(hy:eK G y' =some y)(hu:P.underlying t=some (.slice e))(fR:dM P e=some (m+1))
  (h:cB C env s al (.copy (m+1) x y)=some (d,s')){o:Oper}(ho:o.op= .call { callee:= .builtin .copy,args:= #[x',y'],argTypes:= #[t,u]}):fb P ρ w env a.tmps d s' ((execOp a.eval o).run P w):=by
 have fin:∀(dx:D) (l:List D) (vs:List Value) (n k:Nat),aS ρ w dx (a.eval x')->o7 s 1 dx=some n->fY ρ w (m+1) l vs->l.length=min k n->(Builtin.lenOf (a.eval y')).run P w= .ok k w->(Builtin.firstCells (m+1) (min k n) (a.eval y')).run P w= .ok vs.toArray w->
   oC (Fy (min (k:Int) (n:Int))) (iP s (m+1) dx l)=some (d,s')->fb P ρ w env a.tmps d s' ((execOp a.eval o).run P w):=by
  intro dx l vs n k CO pQ hl tV hlen Gm h;obtain⟨h1,rfl⟩:=iq h;obtain⟨p,nn,c,w',e1,e2,e3,e4,e5⟩:=Bh (P:=P) hs CO hl h1;obtain⟨p',c',e6⟩:=DK pQ CO;rw [e6]at e1;simp only [Value.slice.injEq]at e1;obtain⟨rfl,rfl,rfl⟩:=e1
  have dT:∀q,p' =some q->(storeCells q vs).run P w= .ok () w' :=fun q hq=>by
   rcases e5 with ⟨Al,rfl⟩ | ⟨b,yy,hp,fW⟩
   ·subst Al;simp only [fY]at hl; subst hl;rfl
   ·rw [hq]at hp; simp only [aa]at hp; subst hp; exact fW
  have aaQ:p' =none->w' =w:=fun hq=>by
   rcases e5 with ⟨_,h⟩ | ⟨b,yy,hp,_⟩
   ·exact h
   ·rw [hq]at hp; cases hp
  have abv:∀q:Nat,Nat.min q n=min q n:=fun _=>rfl;have fW:(Builtin.copy_ #[t,u] o.type #[a.eval x',a.eval y']).run P w= .ok (goInt (min k n:Nat)) w' :=by
   unfold Builtin.copy_;simp only [List.getElem?_toArray,aQ,bX];rw [Sem.run_bind,run_underlying hu];rw [e6];simp only [Result.andThen_ok,Sem.run_bind,hlen,fU fR,abv,Gm];cases p' with
   | none=>simp [aaQ rfl]
   | some q=>simp [dT q rfl]
  rw [iE (b:= .copy) ho];simp only [builtin,ft,bG,ed];rw [Sem.run_bind,fW];have hc:((min k n:Nat):Int)=min (k:Int) (n:Int):=by omega
  exact .val e3 e4 (by simp only [aS,Fy,goInt,hc])
 simp only [cB]at h;split at h
 ·rename_i dx l CO Wj;split at h
  ·rename_i n h1 pQ;have hm:m+1=1:=aF h1;have JS :=aZ hy he hg Wj;simp only [aS]at JS;refine fin dx ((l.take n).map fun b=> .int .u8 b.toNat) ((l.take n).map fun b=>Value.int .u8 b.toNat) n l.length (aZ hx he hg CO) pQ (by rw [hm]; exact oQ _) (by simp [Nat.min_comm]) (by rw [JS]; simp [Builtin.lenOf,ByteArray.size_mk']) ?_ h;rw [JS,hm];simp only [Builtin.firstCells,Sem.run_pure]
   congr 1
   apply dG;simp [Nat.min_comm]
  ·cases h
 ·rename_i dx dy PS CO Wj;split at h
  ·rename_i z l n hit pQ;split at h
   ·rename_i h1 h2;have hz:=Sl h1;have hyv:=aZ hy he hg Wj;rcases uk hs hit hyv with ⟨rfl,p,c,hv⟩ | ⟨b,q,c,hv,hE⟩
    ·refine fin dx [] [] n 0 (aZ hx he hg CO) pQ rfl (by simp) (by rw [hv]; rfl) ?_ (by simpa using h);rw [hv];cases p with
     | none=>simp [Builtin.firstCells]
     | some q=>simp [Builtin.firstCells,loadCells,loadCellsFrom]
    ·by_cases Al:l=[]
     ·subst Al;refine fin dx [] [] n 0 (aZ hx he hg CO) pQ rfl (by simp) (by rw [hv]; rfl) ?_ (by simpa using h);rw [hv]; simp [Builtin.firstCells,loadCells,loadCellsFrom]
     ·obtain rfl:=hz.resolve_right Al;obtain⟨vs,g1,g2⟩:=(hE.take n).row;refine fin dx (l.take n) vs n l.length (aZ hx he hg CO) pQ g1 (by simp [Nat.min_comm]) (by rw [hv]; rfl) ?_ h;rw [hv];have tV:=g1.length;have FF:∀j u,vs[j]? =some u->w.cell? ((⟨b,q,none⟩:Addr).add j)=some u:=fun j u hj=>by rw [Addr.add_mid]; exact g2 j u hj
      exact run_firstCells_some w (m+1) (min l.length n) _ _ c vs (by rw [tV]; simp [Nat.min_comm]) FF
   ·cases h
  ·cases h
 ·cases h
theorem C9 {t:TypeId}{sz:Nat}{z:D} {x' :Operand}{x:bP}(hx:eK G x' =some x)
  (hk:(∃q e,P.underlying t=some (.map q e)/\z= .gJ [])\/∃e,P.underlying t=some (.slice e)/\dM P e=some sz/\jI P e=some z/\0 < sz)
  (h:cB C env s al (.clear sz z x)=some (d,s')){o:Oper}(ho:o.op= .call { callee:= .builtin .clear,args:= #[x'],argTypes:= #[t]}):fb P ρ w env a.tmps d s' ((execOp a.eval o).run P w):=by
 have fin:∀w',(Builtin.clear_ #[t] o.type #[a.eval x']).run P w= .ok (.tuple #[]) w' ->(execOp a.eval o).run P w= .ok (.value (.tuple #[])) w' :=by
  intro w' hw;rw [iE (b:= .clear) ho];simp only [builtin,ft,bG,ed];rw [Sem.run_bind,hw]; rfl
 have aaS:∃q,P.underlying t=some q:=by
  rcases hk with ⟨_,_,h,_⟩ | ⟨_,h,_⟩ <;> exact ⟨_,h⟩
 simp only [cB]at h;split at h
 ·rename_i hp;have hv:=aZ hx he hg hp;simp only [aS]at hv;simp only [aa,ab]at h;obtain⟨rfl,rfl⟩:=h;obtain⟨q,hq⟩:=aaS;have hr:(Builtin.clear_ #[t] o.type #[a.eval x']).run P w= .ok (.tuple #[]) w:=by
   unfold Builtin.clear_;simp [hv,run_underlying hq]
  rw [fin _ hr];exact .rep hs (by simp [aS,br])
 ·rename_i ob hp;have hv:=aZ hx he hg hp;split at h
  ·rename_i es c lF;obtain⟨h1,rfl⟩:=iq h;obtain⟨b,ces,k1,one,hb,hM⟩:=hs.ok _ _ lF;simp only [aS,Gh.at,k1]at hv;obtain⟨b',jm,hv⟩:=hv;obtain rfl:=one.2 _ jm;obtain⟨q,hq⟩:=aaS;obtain⟨n1,n2⟩:=lP (ces' := #[]) hs lF k1 one hb (by simp [fO]) h1;have hr:(Builtin.clear_ #[t] o.type #[a.eval x']).run P w= .ok (.tuple #[]) { w with heap:=w.heap.setIfInBounds b' (.map #[] c)}:=by
    unfold Builtin.clear_;simp [hv,run_underlying hq,kC hb,ku _ hb]
   rw [fin _ hr];exact .val n1 n2 (by simp [aS,br])
  ·cases h
 ·rename_i dx h1 h2 hp;clear h1 h2;have hv:=aZ hx he hg hp;split at h
  ·rename_i n hn;split at h
   ·rename_i dK;obtain⟨h1,rfl⟩:=iq h;rcases hk with ⟨q,e,hu,rfl⟩ | ⟨e,hu,fR,hz,KH⟩
    ·simp [eG,D.st,D.sc]at dK
    ·obtain⟨zv,z1,z2,z3⟩:=kz (w:=w) hz;have zH:=kh (ρ:=ρ) (w:=w) zv z z2;have Ix:zv.cells.size=sz/\z.st=true:=by
      have:=iK.1 dK z (by simp);exact⟨by rw [zH.size this.2]; exact this.1,this.2⟩
     have qN:(Builtin.zeroCells zv.cells n).toList=(List.replicate n zv.cells.toList).flatten:=sq zv.cells (by omega) n;obtain⟨p,nn,c,w',e1,e2,e3,e4,e5⟩:=Bh (P:=P) hs hv (fY.replicate zH Ix.1 Ix.2 n) h1;obtain⟨p',c',e6⟩:=DK hn hv;rw [e6]at e1;simp only [Value.slice.injEq]at e1;obtain⟨rfl,rfl,rfl⟩:=e1;have hr:(Builtin.clear_ #[t] o.type #[a.eval x']).run P w= .ok (.tuple #[]) w' :=by
      unfold Builtin.clear_;simp only [List.getElem?_toArray,aQ];rw [Sem.run_bind,run_underlying hu,e6];rcases e5 with ⟨Al,rfl⟩ | ⟨b,yy,WX,fW⟩
      ·have FE:n=0:=by cases n with | zero=>rfl | succ n=>simp [lu]at Al
       subst FE;cases p' <;> simp
      ·subst WX;rw [← qN]at fW;cases n with
       | zero=>
        have hz0:(Builtin.zeroCells zv.cells 0).toList=[]:=by rw [qN]; rfl
        rw [hz0]at fW;simp only [storeCells,Sem.run_pure,Result.ok.injEq,true_and]at fW;subst fW;simp
       | succ n=>simp [z1,fW]
     rw [fin _ hr];exact .val e3 e4 (by simp [aS,br])
   ·cases h
  ·cases h
 ·cases h
end
end Go.Ab
namespace Go.Ab
open Go
variable [eW]
variable {ρ ρ' :Gh} {w w' :World}{P:Program}{pn:iO}{G:Gl}{X:iJ}{A:nJ} {s s' :St}{env:Env}{a:Act}{lo:Nat}{d:D}{C:au}{al:Option Nat}
theorem LI (hs:bZ ρ s w){z cp:Nat}{l:List D}{vs rest:List Value}{cs:Array Value}{e:TypeId}{k f1 f2:Nat}(hf:cs.size<=f1)(z0:0 < z)(hm:s.mk' al (.arr z e l 0)=some (k,s'))(hl:fY ρ w z l vs)(qN:cs.toList=vs++rest)(fR:cs.size=cp * z)(hle:l.length<=cp)
  (hh:w'.heap=w.heap.push (.cells cs e (f1,f2)))(ho:w'.os=w.os)(ht:w'.tape=w.tape)(hu:w'.output=w.output):
  ∃ρ',Kp ρ w ρ' w' /\bZ ρ' s' w' /\aS ρ' w' (.sl k 0 l.length l.length) (.slice (some ⟨w.heap.size,0,none⟩) l.length cp):=by
 obtain⟨n1,n2,n3,n4⟩:=yu (w' :=w') hs hm z l.length cp hh ho ht hu (fun hK nM hb=>by
  refine⟨z0,by simp [Gh.new],by omega,⟨w.heap.size,nM.1,by simp [Gh.new],fun b h _=>nM.2 b h⟩,fun b jm => ?_,hl.eG⟩;obtain rfl:=nM.2 b jm;refine⟨by simp [Gh.new],by simp [Gh.new],by simp [Gh.new]; exact hle,fun j hj=> ?_,⟨_,_,hb⟩,fun _ i d h1 h2 h3=> ?_⟩
  ·simp only [Gh.new,ep]at hj;rw [← fR]at hj;refine⟨by rw [ew hb]; simp [hj], ?_⟩;have: ¬ f1<=j:=by omega
   simp [World.frozen?,hb,this]
  ·obtain⟨v,v1,v2,v3,v4⟩:=(hl.mono hK).get (w' :=w') (l9 hb qN) i d h3;refine⟨v,v1,v2, ?_⟩;simpa [Gh.new] using v3)
 refine⟨_,n1,n2, ?_⟩;simp only [aS,Gh.at,n4];exact⟨w.heap.size,n3,by simp [Gh.new],by simp [Gh.new],an _,0,cp,rfl,hle,.inr (by simp),by simp [Gh.new]⟩
section
variable (he:eu ρ w lo env a.tmps)(hg:gF pn G ρ w)(hs:bZ ρ s w)
include he hg hs
theorem zN {t u e:TypeId} {x' :Operand}{x:bP}(hx:eK G x' =some x)(ht:P.underlying t=some .string)(hu:P.underlying u=some (.slice e))(Yc:P.underlying e=some (.int .u8))(h:cB C env s al (.oX e x)=some (d,s')){o:Oper}(ho:o.op= .convert t u x'):
  fb P ρ w env a.tmps d s' ((execOp a.eval o).run P w):=by
 simp only [cB]at h;split at h
 ·rename_i l hp;have hv:=aZ hx he hg hp;simp only [aS]at hv;split at h
  ·rename_i hle;have hle:=ax hle;split at h
   ·rename_i k s2 hm;simp only [aa,ab]at h;obtain⟨rfl,rfl⟩:=h;let S:ByteArray:=⟨⟨l⟩⟩
    have hS:S.size=l.length:=by simp [S,ByteArray.size_mk']
    have p9:l.length<=grownCap w S.size 0 e:=by
     have:=grownCap_ge w S.size 0 e;omega
    have qN:(Lib.bytesCells w e S).toList=(l.map fun b=>Value.int .u8 b.toNat)++List.replicate (grownCap w S.size 0 e - S.size) (.int .u8 0):=by
     simp [Lib.bytesCells,S]
    have fR:(Lib.bytesCells w e S).size=grownCap w S.size 0 e * 1:=by
     have:=congrArg List.length qN;simp at this;omega
    have ZU:(Lib.bytesWorld w e S).heap=w.heap.push (.cells (Lib.bytesCells w e S) e ((Lib.bytesCells w e S).size,(Lib.bytesCells w e S).size+1)):=by
     apply Array.ext_getElem?;intro i;rcases h9 i w.heap.size with hi | hi | hi
     ·rw [Lib.bytesWorld_at_old w e S i hi,js,aJ (by omega)]
     ·subst hi; rw [Lib.bytesWorld_at_new,js,bJ rfl]
     ·rw [cw (by rw [Lib.bytesWorld_size]; omega),cw (by simp; omega)]
    obtain⟨ρ',n1,n2,n3⟩:=LI (w' :=Lib.bytesWorld w e S) (cs:=Lib.bytesCells w e S) (cp:=grownCap w S.size 0 e) hs (an _) Nat.one_pos hm (oQ l) qN fR (by simpa using p9) ZU rfl rfl rfl;have hr:(execOp a.eval o).run P w= .ok (.value (.slice (some ⟨w.heap.size,0,none⟩) l.length (grownCap w S.size 0 e))) (Lib.bytesWorld w e S):=by
     simp only [execOp,ho,hv];rw [Sem.run_bind,Lib.run_convert_string_bytes w t u e S ht hu Yc,hS];rfl
    rw [hr];simp only [aH]at n3;exact .val n1 n2 n3
   ·cases h
  ·cases h
 ·cases h
end
end Go.Ab
namespace Go.Ab
open Go
variable [eW]
variable {ρ ρ' :Gh} {w w' :World}{P:Program}{pn:iO}{G:Gl}{X:iJ}{A:nJ} {s s' :St}{env:Env}{a:Act}{lo:Nat}{d:D}{C:au}{al:Option Nat}
theorem yj {t c n:Nat}:∀ {l:List (Nat×Nat×Nat)},At t c n l=true->(t,c,n)∈l
 | [],h=>by simp [At]at h
 | (t',c',n')::r,h=>by
  simp only [At]at h;split at h
  ·rename_i hb;simp only [aA,iS]at hb;obtain⟨rfl,rfl,rfl⟩:=hb;simp
  ·exact eE _ (yj h)
theorem QZ (hs:bZ ρ s w){o:Nat}{x:Obj}(ho:s.get o=some x)(gL:s.set o .dead=some s')(hh:∀b,ρ.own b≠ .obj o->w'.heap[b]? =w.heap[b]?)(fR:w'.heap.size=w.heap.size)
  (h1:w'.os=w.os)(h2:w'.tape=w.tape)(h3:w'.output=w.output):∃ρ',Kp ρ w ρ' w' /\bZ ρ' s' w' :=by
 have gY :s' =s.bD o .dead:=by
  unfold St.set at gL;split at gL
  ·cases gL
  ·split at gL
   ·cases gL
   ·simp only [aa]at gL; exact gL.symm
 subst gY;let ρ1:Gh:= { ρ with kd:=fun q=>if q=o then .dead else ρ.kd q}
 have gW:∀q,q≠o->ρ1.kd q=ρ.kd q:=fun q hq=>by simp [ρ1,hq]
 have hK:Kp ρ w ρ1 w' :=by
  refine⟨h1,h2,h3,by omega,fun b hb hn=>⟨hh b (hn o),rfl⟩,fun q hq=> ?_,fun q z hq=> ?_⟩
  ·simp only [ρ1]; split
   ·exact⟨rfl,trivial⟩
   ·exact⟨hq,trivial⟩
  ·by_cases Y6:q=o
   ·exact .inl (by simp [ρ1,Y6])
   ·exact .inr ⟨by rw [gW q Y6]; exact hq,fun b hb=>⟨hb,rfl,an _,rfl⟩⟩
 refine⟨ρ1,hK,hs.PC hK o .dead (fun b q hq _=>mZ) gW (fun b q hq _ hb=>⟨hh b (by rw [hb]; simp [hq]),rfl,rfl,rfl⟩) (by simp [pN,ρ1]) (fun b hb=>hs.size b (by omega)) (hs.lt _ _ ho) (an _) (St.fu s o _)⟩
section
variable (he:eu ρ w lo env a.tmps)(hg:gF pn G ρ w)(hs:bZ ρ s w)
include he hg hs
theorem JL {t:TypeId} {x' :Operand}{x:bP}(hx:eK G x' =some x)(h:cB C env s al (.qL x)=some (d,s')){o:Oper}
  (ho:o.op= .call { callee:= .builtin .unsafeSliceData,args:= #[x'],argTypes:= #[t]}):fb P ρ w env a.tmps d s' ((execOp a.eval o).run P w):=by
 have fin:∀u,(Builtin.unsafeSliceData_ #[t] o.type #[a.eval x']).run P w= .ok u w->aS ρ w d u->s' =s->fb P ρ w env a.tmps d s' ((execOp a.eval o).run P w):=by
  intro u g1 g2 g3;subst g3;rw [iE ho];simp only [builtin,ft,bG,ed];rw [Sem.run_bind,g1];exact .rep hs g2
 simp only [cB]at h;split at h
 ·rename_i z l hp;have hv:=aZ hx he hg hp;simp only [aa,ab]at h;obtain⟨rfl,rfl⟩:=h;simp only [aS]at hv;rcases hv with ⟨_,_,hv⟩ | ⟨hv,_⟩
  ·exact fin (.pointer none) (by rw [hv]; exact Lib.run_unsafeSliceData_nil _ _ _ _ _) (by simp [aS]) rfl
  ·cases hv
 ·rename_i ob off len cp hp;have hv:=aZ hx he hg hp;split at h
  ·rename_i z ty es st lF;split at h
   ·rename_i PL;have PL:=ax PL;simp only [aa,ab]at h;obtain⟨rfl,rfl⟩:=h;obtain⟨z0,k1,_⟩:=hs.ok _ _ lF;simp only [aS,Gh.at,k1]at hv;obtain⟨b,hb,q1,q2,q3,y,cap,q4,q5,q6,q7⟩:=hv;have JO:cap≠0:=by omega
    have q6:=q6.resolve_left JO;subst q6;refine fin (.pointer (some ⟨b,(off - ρ.sh b) * z,none⟩)) (by rw [q4]; exact Lib.run_unsafeSliceData_row _ _ _ _ _ _ JO) ?_ rfl;simp only [aS,Gh.at,k1];exact⟨b,hb,q1,by omega,q2,by simp⟩
   ·cases h
  ·cases h
 ·cases h
theorem RY {t u e:TypeId}{n:Nat} {x' :Operand}{x:bP}(hx:eK G x' =some x)(ht:P.underlying t=some .unsafePointer)(hu:P.underlying u=some (.pointer e))(hn:dM P e=some (n+1))
  (h:cB C env s al (.upto [(e,0,n+1)] x)=some (d,s')){o:Oper}(ho:o.op= .convert t u x'):fb P ρ w env a.tmps d s' ((execOp a.eval o).run P w):=by
 simp only [cB]at h;split at h
 ·rename_i hp;have hv:=aZ hx he hg hp;simp only [aa,ab]at h;obtain⟨rfl,rfl⟩:=h;simp only [aS]at hv;have hr:(execOp a.eval o).run P w= .ok (.value (.pointer none)) w:=by
   simp only [execOp,ho,hv,convert];simp [run_underlying ht,run_underlying hu,Conv.unsafePointer]
  rw [hr]; exact .rep hs (by simp [aS])
 ·rename_i ob c hp;have hv:=aZ hx he hg hp;split at h
  ·rename_i ty v lF;split at h
   ·rename_i hm;simp only [aa,ab]at h;obtain⟨rfl,rfl⟩:=h;have hm:=yj hm;simp only [cG,ab]at hm;obtain⟨rfl,rfl,hl⟩:=hm;obtain⟨b,q,g1,g2,g3,g4,g5,g6⟩:=hs.ok _ _ lF;have kq:=hv;simp only [aS,Gh.at,g1]at hv;obtain⟨b',h1,h3⟩:=hv;obtain rfl:=g2.2 b' h1;have hqs:q.cells.size=n+1:=by rw [g3.size g6]; exact hl
    have Gm:P.cellsOf ty=n+1:=by
     cases hi:P.info? ty with
     | none=>simp [dM,hi]at hn
     | some i=>simpa [Program.cellsOf,dM,hi] using hn
    have Ox:liesAt P P.depth ty (q.cells.size / P.cellsOf ty) 0 ty 1=true:=by
     have hd:P.depth=(2 * (P.types.size+Made.depth)+1)+1:=rfl;rw [hd];simp only [liesAt,eC]
     left
     rw [hd];simp [rowAt,Gm,hqs,sameLayout]
    have hr:(execOp a.eval o).run P w= .ok (.value (a.eval x')) w:=by
     simp only [execOp,ho,h3,convert]
     have gZ:∀ {α:Type} (f:Option (TypeId×Nat)->Sem α),(Sem.shape b' f).run P w=(f (some (ty,q.cells.size))).run P w:=fun f=>by
      simp [Sem.run,World.shape?,g4]
     simp [run_underlying ht,run_underlying hu,Conv.unsafePointer,Conv.seenAt,viewAt,shape,getObj,gZ,variablesAt,fU hn,Ox]
    rw [hr]; exact .rep hs kq
   ·cases h
  ·cases h
 ·cases h
omit he hg hs in
theorem uD:∀(ns:List Int) (ad:Addr) (acc:ByteArray),(∀j n,ns[j]? =some n->w.cell? (ad.add j)=some (.int .u8 n))->
  (loadBytes ad acc ns.length).run P w= .ok (ns.foldl (fun (r:ByteArray) n=>r.push (UInt8.ofNat n.toNat)) acc) w
 | [],ad,acc,_=>by simp [loadBytes]
 | n::ns,ad,acc,h=>by
  have h0:w.cell? ad=some (.int .u8 n):=by
   have:=h 0 n rfl;simpa [Addr.add] using this
  have ih:=uD ns (ad.add 1) (acc.push (UInt8.ofNat n.toNat)) (fun j m hj=>by
   have:=h (j+1) m (by simpa using hj);have e:(ad.add 1).add j=ad.add (j+1):=by
    unfold Addr.add;by_cases hj:j=0
    ·subst hj; simp
    ·simp [hj]; omega
   rw [e]; exact this)
  simp only [aU,loadBytes,Sem.run_bind,Go.run_load,h0,Result.andThen,nQ];exact ih
omit he hg hs in
theorem Hv {e:TypeId}(hc:P.cellsOf e=1)(count off n:Nat)(hn:off+n<=count):liesAt P P.depth e count off e n=true:=by
 have hd:P.depth=(2 * (P.types.size+Made.depth)+1)+1:=rfl;rw [hd];simp only [liesAt,eC]
 left
 rw [hd];simp [rowAt,hc,hn,sameLayout,Nat.mod_one]
theorem RL {t it e:TypeId} {x' y' :Operand}{x y:bP}(hx:eK G x' =some x)(hy:eK G y' =some y)(ht:P.underlying t=some (.pointer e))(hn:dM P e=some 1)(h:cB C env s al (.Cr e x y)=some (d,s')){o:Oper}
  (ho:o.op= .call { callee:= .builtin .unsafeString,args:= #[x',y'],argTypes:= #[t,it]}):fb P ρ w env a.tmps d s' ((execOp a.eval o).run P w):=by
 have lW:IntKind.i64.max=9223372036854775807:=rfl;have hce:P.cellsOf e=1:=by
  cases hi:P.info? e with
  | none=>simp [dM,hi]at hn
  | some i=>simpa [Program.cellsOf,dM,hi] using hn
 have fin:∀u w' ρ',(Builtin.unsafeString_ #[t,it] o.type #[a.eval x',a.eval y']).run P w= .ok u w' ->Kp ρ w ρ' w' ->bZ ρ' s' w' ->aS ρ' w' d u->fb P ρ w env a.tmps d s' ((execOp a.eval o).run P w):=by
  intro u w' ρ' g1 g2 g3 g4;rw [iE ho];simp only [builtin,ft,bG,ed];rw [Sem.run_bind,g1];exact .val g2 g3 g4
 simp only [cB]at h;split at h
 ·rename_i k n hpx hpy;have hvx:=aZ hx he hg hpx;have YC:=aZ hy he hg hpy;split at h
  ·rename_i hc;simp only [aA,aX]at hc;obtain⟨rfl,rfl⟩:=hc;simp only [aa,ab]at h;obtain⟨rfl,rfl⟩:=h;simp only [aS]at hvx YC;exact fin (.string .empty) w ρ (by rw [hvx,YC]; exact Lib.run_unsafeString_none w t it _ none) (Kp.refl _ _) hs (by simp [aS]; rfl)
  ·cases h
 ·rename_i ob i c en k n hpx hpy;have hvx:=aZ hx he hg hpx;have YC:=aZ hy he hg hpy;split at h
  ·rename_i z ty es st lF;split at h
   ·rename_i bs h1 h2 h3 h4;simp only [aA,iS]at h1;obtain⟨rfl,rfl,rfl⟩:=h1;simp only [aA,aX]at h2;obtain⟨rfl,FE,Yd⟩:=h2;have Yd:=ax Yd;have hmx:aL=2147483648:=rfl;simp only [aA]at h3;obtain⟨i1,i2,i3⟩:=h3;have i1:=ax i1;have i2:=ax i2;have i3:=ax i3;unfold oC at h;split at h
    ·rename_i s2 gL;simp only [aa,ab]at h;obtain⟨rfl,rfl⟩:=h;obtain⟨z0,k1,zV,_,xh,dK⟩:=hs.ok _ _ lF;simp only [aS,Gh.at,k1]at hvx;obtain⟨b,hb,q1,q2,q3,q4⟩:=hvx;simp only [aS]at YC;have hB:=xh b hb;obtain⟨cs,f,lC⟩:=hB.shape;simp only [lU,fP]at q4;have hle:((es.drop i).take n.toNat).length=n.toNat:=by simp; omega
     have pO:=hB.room;have DB:=hB.ext;have MP:ρ.cap b<=cs.size:=by
      rcases ec (ρ.cap b) with h | h
      ·omega
      ·have:=(hB.cells (ρ.cap b - 1) (by omega)).1;rw [ew lC]at this;rcases aG (ρ.cap b - 1) cs.size with h' | h'
       ·omega
       ·simp [cw h']at this
     have hE:fX ρ w 1 b (i - ρ.sh b) ((es.drop i).take n.toNat):=fX.of Nat.one_pos _ _ fun j e' hj=>by
      rw [de]at hj;split at hj
      ·rw [cW]at hj;obtain⟨u,r1,r2,r3⟩:=hB.get (by omega) (by omega) (by omega) hj;refine⟨u,r1,r2, ?_,(oF dK hj).2⟩;rw [show i - ρ.sh b+j * 1=(i+j - ρ.sh b) * 1 by omega];exact r3
      ·cases hj
     obtain⟨ns,m1,m2,m3⟩:=pU h4 (.inl rfl) hE
     have hlb:=uD (P:=P) (w:=w) ns ⟨b,i - ρ.sh b,none⟩ .empty (fun j m hj=>by
      have:=m2 j m hj;by_cases QX:j=0
      ·subst QX; simpa [Addr.add] using this
      ·simpa [Addr.add,QX] using this)
     rw [m1,hle]at hlb;have hm3:=m3 [];simp only [cA]at hm3;have aae:ByteArray.empty=⟨⟨[]⟩⟩:=rfl;rw [aae,hm3]at hlb;have gZ:w.shape? b=some (ty,cs.size):=by simp [World.shape?,lC]
     have Ox:=Hv (P:=P) hce (cs.size / P.cellsOf ty) (i - ρ.sh b) n.toNat (by rw [hce]; simp; omega);have fW: ¬ (9223372036854775807:Int) < n->(Builtin.unsafeString_ #[t,it] o.type #[a.eval x',a.eval y']).run P w= .ok (.string ⟨⟨bs⟩⟩) (w.freeze ⟨b,i - ρ.sh b,none⟩ n.toNat):=by
      intro h63;rw [q4,YC]
      have aba:Builtin.unsafeString_ #[t,it] o.type #[.pointer (some ⟨b,i - ρ.sh b,none⟩),.int .i64 n]=
        (do
         let n ← asInt (.int .i64 n)
         if n < 0 then runtimePanic (.error "unsafe.String: len out of range")
         if n > IntKind.i64.max then unsupported (.unsafePointer "String: a length above the largest int")
         if n=0 then pure (.string .empty)
         else if ← variablesAt ⟨b,i - ρ.sh b,none⟩ (← elemOf t) n.toNat then do
          let s ← loadBytes ⟨b,i - ρ.sh b,none⟩ .empty n.toNat
          freeze ⟨b,i - ρ.sh b,none⟩ n.toNat
          pure (.string s)
         else unsupported (.unsafePointer "String: not so many bytes at ptr")) := rfl
      rw [aba];have y8: ¬ n < 0:=by omega
      have hnz: ¬ n=0:=by omega
      rw [aae]at *;simp [asInt,asIntOf,lW,h63,y8,hnz,variablesAt,gZ,elemOf,run_underlying ht,Ox,hlb]
     have aay: ¬ (9223372036854775807:Int) < n:=by omega
     have hh:∀b',ρ.own b' ≠ .obj ob->(w.freeze ⟨b,i - ρ.sh b,none⟩ n.toNat).heap[b']? =w.heap[b']? :=fun b' jm =>by
      have cC:b≠b' :=by rintro rfl; exact jm hb
      unfold World.freeze;split
      ·rfl
      ·simp only [mB]; rw [aJ cC]
     obtain⟨ρ',n1,n2⟩:=QZ (w' :=w.freeze ⟨b,i - ρ.sh b,none⟩ n.toNat) hs lF gL hh (by unfold World.freeze; split <;> simp) (by unfold World.freeze; split <;> rfl) (by unfold World.freeze; split <;> rfl) (by unfold World.freeze; split <;> rfl);exact fin _ _ ρ' (fW aay) n1 n2 (by simp [aS])
    ·cases h
   ·cases h
  ·cases h
 ·cases h
end
end Go.Ab
