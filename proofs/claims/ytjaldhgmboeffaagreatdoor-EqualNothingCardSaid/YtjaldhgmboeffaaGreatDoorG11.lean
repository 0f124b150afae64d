/- Part. -/
import Derived.Test.YtjaldhgmboeffaaGreatDoorG10
import Derived.Lib.UnsafeStr
set_option linter.unusedSimpArgs false
set_option linter.unusedVariables false
set_option linter.unusedSectionVars false
namespace Go.Ab
open Go
variable [eV]
variable {ρ ρ' :Gh} {w w' :World}{P:Program}{pn:jn}{G:Gl}{X:iw}{A:nA} {s s' :St}{env:Env}{a:Act}{lo:Nat}{d:D}{C:ay}{al:Option Nat}
theorem yK {t c n:Nat}:∀ {l:List (Nat×Nat×Nat)},AV t c n l=true->(t,c,n)∈l
 | [],h=>by simp [AV]at h
 | (t',c',n')::r,h=>by
  simp only [AV]at h;split at h
  ·rename_i hb;simp only [aB,iQ]at hb;obtain⟨rfl,rfl,rfl⟩:=hb;simp
  ·exact eF _ (yK h)
theorem Rb (hs:ck ρ s w){o:Nat}{x:Obj}(ho:s.get o=some x)(gO:s.set o .dead=some s')(hh:∀b,ρ.own b≠ .obj o->w'.heap[b]? =w.heap[b]?)(fS:w'.heap.size=w.heap.size)
  (h1:w'.os=w.os)(h2:w'.tape=w.tape)(h3:w'.output=w.output):∃ρ',Kp ρ w ρ' w' /\ck ρ' s' w' :=by
 have gW :s' =s.bF o .dead:=by
  unfold St.set at gO;split at gO
  ·cases gO
  ·split at gO
   ·cases gO
   ·simp only [aa]at gO; exact gO.symm
 subst gW;let ρ1:Gh:= { ρ with kd:=fun q=>if q=o then .dead else ρ.kd q}
 have gV:∀q,q≠o->ρ1.kd q=ρ.kd q:=fun q hq=>by simp [ρ1,hq]
 have hK:Kp ρ w ρ1 w' :=by
  refine⟨h1,h2,h3,by omega,fun b hb hn=>⟨hh b (hn o),rfl⟩,fun q hq=> ?_,fun q z hq=> ?_⟩
  ·simp only [ρ1]; split
   ·exact⟨rfl,trivial⟩
   ·exact⟨hq,trivial⟩
  ·by_cases hqo:q=o
   ·exact .inl (by simp [ρ1,hqo])
   ·exact .inr ⟨by rw [gV q hqo]; exact hq,fun b hb=>⟨hb,rfl,aq _,rfl⟩⟩
 refine⟨ρ1,hK,hs.Pt hK o .dead (fun b q hq _=>nh) gV (fun b q hq _ hb=>⟨hh b (by rw [hb]; simp [hq]),rfl,rfl,rfl⟩) (by simp [pP,ρ1]) (fun b hb=>hs.size b (by omega)) (hs.lt _ _ ho) (aq _) (St.fv s o _)⟩
section
variable (he:ew ρ w lo env a.tmps)(hg:gN pn G ρ w)(hs:ck ρ s w)
include he hg hs
theorem KB {t:TypeId} {x' :Operand}{x:bP}(hx:eO G x' =some x)(h:cC C env s al (.qy x)=some (d,s')){o:Oper}
  (ho:o.op= .call { callee:= .builtin .unsafeSliceData,args:= #[x'],argTypes:= #[t]}):fc P ρ w env a.tmps d s' ((execOp a.eval o).run P w):=by
 have fin:∀u,(Builtin.unsafeSliceData_ #[t] o.type #[a.eval x']).run P w= .ok u w->aU ρ w d u->s' =s->fc P ρ w env a.tmps d s' ((execOp a.eval o).run P w):=by
  intro u g1 g2 g3;subst g3;rw [iD ho];simp only [builtin,fu,bG,ef];rw [Sem.run_bind,g1];exact .rep hs g2
 simp only [cC]at h;split at h
 ·rename_i z l hp;have hv:=ba hx he hg hp;simp only [aa,ae]at h;obtain⟨rfl,rfl⟩:=h;simp only [aU]at hv;rcases hv with ⟨_,_,hv⟩ | ⟨hv,_⟩
  ·exact fin (.pointer none) (by rw [hv]; exact Lib.run_unsafeSliceData_nil _ _ _ _ _) (by simp [aU]) rfl
  ·cases hv
 ·rename_i ob off len cp hp;have hv:=ba hx he hg hp;split at h
  ·rename_i z ty es st lG;split at h
   ·rename_i Px;have Px:=az Px;simp only [aa,ae]at h;obtain⟨rfl,rfl⟩:=h;obtain⟨z0,k1,_⟩:=hs.ok _ _ lG;simp only [aU,Gh.at,k1]at hv;obtain⟨b,hb,q1,q2,q3,y,cap,q4,q5,q6,q7⟩:=hv;have JW:cap≠0:=by omega
    have q6:=q6.resolve_left JW;subst q6;refine fin (.pointer (some ⟨b,(off - ρ.sh b) * z,none⟩)) (by rw [q4]; exact Lib.run_unsafeSliceData_row _ _ _ _ _ _ JW) ?_ rfl;simp only [aU,Gh.at,k1];exact⟨b,hb,q1,by omega,q2,by simp⟩
   ·cases h
  ·cases h
 ·cases h
theorem PX {t u e:TypeId}{n:Nat} {x' :Operand}{x:bP}(hx:eO G x' =some x)(ht:P.underlying t=some .unsafePointer)(hu:P.underlying u=some (.pointer e))(hn:dO P e=some (n+1))
  (h:cC C env s al (.upto [(e,0,n+1)] x)=some (d,s')){o:Oper}(ho:o.op= .convert t u x'):fc P ρ w env a.tmps d s' ((execOp a.eval o).run P w):=by
 simp only [cC]at h;split at h
 ·rename_i hp;have hv:=ba hx he hg hp;simp only [aa,ae]at h;obtain⟨rfl,rfl⟩:=h;simp only [aU]at hv;have hr:(execOp a.eval o).run P w= .ok (.value (.pointer none)) w:=by
   simp only [execOp,ho,hv,convert];simp [run_underlying ht,run_underlying hu,Conv.unsafePointer]
  rw [hr]; exact .rep hs (by simp [aU])
 ·rename_i ob c hp;have hv:=ba hx he hg hp;split at h
  ·rename_i ty v lG;split at h
   ·rename_i hm;simp only [aa,ae]at h;obtain⟨rfl,rfl⟩:=h;have hm:=yK hm;simp only [cH,ae]at hm;obtain⟨rfl,rfl,hl⟩:=hm;obtain⟨b,q,g1,g2,g3,g4,g5,g6⟩:=hs.ok _ _ lG;have kz:=hv;simp only [aU,Gh.at,g1]at hv;obtain⟨b',h1,h3⟩:=hv;obtain rfl:=g2.2 b' h1;have hqs:q.cells.size=n+1:=by rw [g3.size g6]; exact hl
    have Fy:P.cellsOf ty=n+1:=by
     cases hi:P.info? ty with
     | none=>simp [dO,hi]at hn
     | some i=>simpa [Program.cellsOf,dO,hi] using hn
    have Ma:liesAt P P.depth ty (q.cells.size / P.cellsOf ty) 0 ty 1=true:=by
     have hd:P.depth=(2 * (P.types.size+Made.depth)+1)+1:=rfl;rw [hd];simp only [liesAt,eD]
     left
     rw [hd];simp [rowAt,Fy,hqs,sameLayout]
    have hr:(execOp a.eval o).run P w= .ok (.value (a.eval x')) w:=by
     simp only [execOp,ho,h3,convert]
     have gX:∀ {α:Type} (f:Option (TypeId×Nat)->Sem α),(Sem.shape b' f).run P w=(f (some (ty,q.cells.size))).run P w:=fun f=>by
      simp [Sem.run,World.shape?,g4]
     simp [run_underlying ht,run_underlying hu,Conv.unsafePointer,Conv.seenAt,viewAt,shape,getObj,gX,variablesAt,fT hn,Ma]
    rw [hr]; exact .rep hs kz
   ·cases h
  ·cases h
 ·cases h
omit he hg hs in
theorem tR:∀(ns:List Int) (ad:Addr) (acc:ByteArray),(∀j n,ns[j]? =some n->w.cell? (ad.add j)=some (.int .u8 n))->
  (loadBytes ad acc ns.length).run P w= .ok (ns.foldl (fun (r:ByteArray) n=>r.push (UInt8.ofNat n.toNat)) acc) w
 | [],ad,acc,_=>by simp [loadBytes]
 | n::ns,ad,acc,h=>by
  have h0:w.cell? ad=some (.int .u8 n):=by
   have:=h 0 n rfl;simpa [Addr.add] using this
  have ih:=tR ns (ad.add 1) (acc.push (UInt8.ofNat n.toNat)) (fun j m hj=>by
   have:=h (j+1) m (by simpa using hj);have e:(ad.add 1).add j=ad.add (j+1):=by
    unfold Addr.add;by_cases hj:j=0
    ·subst hj; simp
    ·simp [hj]; omega
   rw [e]; exact this)
  simp only [aV,loadBytes,Sem.run_bind,Go.run_load,h0,Result.andThen,nS];exact ih
omit he hg hs in
theorem Gf {e:TypeId}(hc:P.cellsOf e=1)(count off n:Nat)(hn:off+n<=count):liesAt P P.depth e count off e n=true:=by
 have hd:P.depth=(2 * (P.types.size+Made.depth)+1)+1:=rfl;rw [hd];simp only [liesAt,eD]
 left
 rw [hd];simp [rowAt,hc,hn,sameLayout,Nat.mod_one]
theorem Rt {t it e:TypeId} {x' y' :Operand}{x y:bP}(hx:eO G x' =some x)(hy:eO G y' =some y)(ht:P.underlying t=some (.pointer e))(hn:dO P e=some 1)(h:cC C env s al (.BG e x y)=some (d,s')){o:Oper}
  (ho:o.op= .call { callee:= .builtin .unsafeString,args:= #[x',y'],argTypes:= #[t,it]}):fc P ρ w env a.tmps d s' ((execOp a.eval o).run P w):=by
 have lZ:IntKind.i64.max=9223372036854775807:=rfl;have hce:P.cellsOf e=1:=by
  cases hi:P.info? e with
  | none=>simp [dO,hi]at hn
  | some i=>simpa [Program.cellsOf,dO,hi] using hn
 have fin:∀u w' ρ',(Builtin.unsafeString_ #[t,it] o.type #[a.eval x',a.eval y']).run P w= .ok u w' ->Kp ρ w ρ' w' ->ck ρ' s' w' ->aU ρ' w' d u->fc P ρ w env a.tmps d s' ((execOp a.eval o).run P w):=by
  intro u w' ρ' g1 g2 g3 g4;rw [iD ho];simp only [builtin,fu,bG,ef];rw [Sem.run_bind,g1];exact .val g2 g3 g4
 simp only [cC]at h;split at h
 ·rename_i k n hpx hpy;have hvx:=ba hx he hg hpx;have Zc:=ba hy he hg hpy;split at h
  ·rename_i hc;simp only [aB,aY]at hc;obtain⟨rfl,rfl⟩:=hc;simp only [aa,ae]at h;obtain⟨rfl,rfl⟩:=h;simp only [aU]at hvx Zc;exact fin (.string .empty) w ρ (by rw [hvx,Zc]; exact Lib.run_unsafeString_none w t it _ none) (Kp.refl _ _) hs (by simp [aU]; rfl)
  ·cases h
 ·rename_i ob i c en k n hpx hpy;have hvx:=ba hx he hg hpx;have Zc:=ba hy he hg hpy;split at h
  ·rename_i z ty es st lG;split at h
   ·rename_i bs h1 h2 h3 h4;simp only [aB,iQ]at h1;obtain⟨rfl,rfl,rfl⟩:=h1;simp only [aB,aY]at h2;obtain⟨rfl,Fo,ZK⟩:=h2;have ZK:=az ZK;have hmx:aL=2147483648:=rfl;simp only [aB]at h3;obtain⟨i1,i2,i3⟩:=h3;have i1:=az i1;have i2:=az i2;have i3:=az i3;unfold oK at h;split at h
    ·rename_i s2 gO;simp only [aa,ae]at h;obtain⟨rfl,rfl⟩:=h;obtain⟨z0,k1,zw,_,wU,dQ⟩:=hs.ok _ _ lG;simp only [aU,Gh.at,k1]at hvx;obtain⟨b,hb,q1,q2,q3,q4⟩:=hvx;simp only [aU]at Zc;have hB:=wU b hb;obtain⟨cs,f,lD⟩:=hB.shape;simp only [lX,fP]at q4;have hle:((es.drop i).take n.toNat).length=n.toNat:=by simp; omega
     have pG:=hB.room;have Du:=hB.ext;have MB:ρ.cap b<=cs.size:=by
      rcases ec (ρ.cap b) with h | h
      ·omega
      ·have:=(hB.cells (ρ.cap b - 1) (by omega)).1;rw [ey lD]at this;rcases aH (ρ.cap b - 1) cs.size with h' | h'
       ·omega
       ·simp [cL h']at this
     have hE:gy ρ w 1 b (i - ρ.sh b) ((es.drop i).take n.toNat):=gy.of Nat.one_pos _ _ fun j e' hj=>by
      rw [de]at hj;split at hj
      ·rw [cX]at hj;obtain⟨u,r1,r2,r3⟩:=hB.get (by omega) (by omega) (by omega) hj;refine⟨u,r1,r2, ?_,(oH dQ hj).2⟩;rw [show i - ρ.sh b+j * 1=(i+j - ρ.sh b) * 1 by omega];exact r3
      ·cases hj
     obtain⟨ns,m1,m2,m3⟩:=pZ h4 (.inl rfl) hE
     have hlb:=tR (P:=P) (w:=w) ns ⟨b,i - ρ.sh b,none⟩ .empty (fun j m hj=>by
      have:=m2 j m hj;by_cases R0:j=0
      ·subst R0; simpa [Addr.add] using this
      ·simpa [Addr.add,R0] using this)
     rw [m1,hle]at hlb;have hm3:=m3 [];simp only [cB]at hm3;have Y3:ByteArray.empty=⟨⟨[]⟩⟩:=rfl;rw [Y3,hm3]at hlb;have gX:w.shape? b=some (ty,cs.size):=by simp [World.shape?,lD]
     have Ma:=Gf (P:=P) hce (cs.size / P.cellsOf ty) (i - ρ.sh b) n.toNat (by rw [hce]; simp; omega);have fY: ¬ (9223372036854775807:Int) < n->(Builtin.unsafeString_ #[t,it] o.type #[a.eval x',a.eval y']).run P w= .ok (.string ⟨⟨bs⟩⟩) (w.freeze ⟨b,i - ρ.sh b,none⟩ n.toNat):=by
      intro h63;rw [q4,Zc]
      have aaW:Builtin.unsafeString_ #[t,it] o.type #[.pointer (some ⟨b,i - ρ.sh b,none⟩),.int .i64 n]=
        (do
         let n ← asInt (.int .i64 n)
         if n < 0 then runtimePanic (.error "unsafe.String: len out of range")
         if n > IntKind.i64.max then unsupported (.unsafePointer "String: a length above the largest int")
         if n=0 then pure (.string .empty)
         else if ← variablesAt ⟨b,i - ρ.sh b,none⟩ (← elemOf t) n.toNat then do
          let s ← loadBytes ⟨b,i - ρ.sh b,none⟩ .empty n.toNat
          freeze ⟨b,i - ρ.sh b,none⟩ n.toNat
          pure (.string s)
         else unsupported (.unsafePointer "String: not so many bytes at ptr")) := rfl
      rw [aaW];have xY: ¬ n < 0:=by omega
      have hnz: ¬ n=0:=by omega
      rw [Y3]at *;simp [asInt,asIntOf,lZ,h63,xY,hnz,variablesAt,gX,elemOf,run_underlying ht,Ma,hlb]
     have ZE: ¬ (9223372036854775807:Int) < n:=by omega
     have hh:∀b',ρ.own b' ≠ .obj ob->(w.freeze ⟨b,i - ρ.sh b,none⟩ n.toNat).heap[b']? =w.heap[b']? :=fun b' jl =>by
      have cE:b≠b' :=by rintro rfl; exact jl hb
      unfold World.freeze;split
      ·rfl
      ·simp only [mF]; rw [aK cE]
     obtain⟨ρ',n1,n2⟩:=Rb (w' :=w.freeze ⟨b,i - ρ.sh b,none⟩ n.toNat) hs lG gO hh (by unfold World.freeze; split <;> simp) (by unfold World.freeze; split <;> rfl) (by unfold World.freeze; split <;> rfl) (by unfold World.freeze; split <;> rfl);exact fin _ _ ρ' (fY ZE) n1 n2 (by simp [aU])
    ·cases h
   ·cases h
  ·cases h
 ·cases h
end
end Go.Ab
namespace Go.Ab
open Go
mutual
theorem D.aW:∀d:D,D.beq d d=true
 | .bool _=>by simp [D.beq]
 | .int _ _=>by simp [D.beq]
 | .str _=>by simp [D.beq]
 | .cz=>by simp [D.beq]
 | .ptr _ _=>by simp [D.beq]
 | .jI _ _ _ _=>by simp [D.beq]
 | .jD e c=>by simp [D.beq,D.aW e]
 | .vs n z l=>by simp [D.beq,D.bW l]
 | .sl _ _ _ _=>by simp [D.beq]
 | .qz=>by simp [D.beq]
 | .mp _=>by simp [D.beq]
 | .fn f x y=>by simp [D.beq,D.bW x,D.bW y]
 | .mw=>by simp [D.beq]
 | .ia t d=>by simp [D.beq,D.aW d]
 | .ow=>by simp [D.beq]
 | .agg l=>by simp [D.beq,D.bW l]
 | .gK l=>by simp [D.beq,D.bW l]
 | .sint _ _ _ _=>by simp [D.beq]
 | .pj _ _ _ _=>by simp [D.beq]
 | .rl _=>by simp [D.beq]
 | .yl _=>by simp [D.beq]
 | .lv d=>by simp [D.beq,D.aW d]
 | .iG _ _=>by simp [D.beq]
theorem D.bW:∀l:List D,D.fw l l=true
 | []=>rfl
 | d::l=>by simp only [D.fw,D.aW d,D.bW l,fm]
end
theorem As:∀l,wg l l=true
 | []=>rfl
 | (n,k,v)::l=>by simp only [wg,aA,D.aW,As l,fm]
theorem Obj.aW (x:Obj):Obj.beq x x=true:=by
 cases x <;> simp [Obj.beq,D.aW,D.bW,As]
theorem wD (l:List D):∀rg,cP l l rg=true
 | []=>rfl
 | (_,c,n)::r=>by simp only [cP,D.bW,wD l r,fm]
theorem br (rg:List (Nat×Nat×Nat))(x:Obj):cS rg x x=true:=by
 unfold cS;split
 ·simp [wD]
 ·exact Obj.aW _
theorem bE (rg:List (Nat×Nat×Nat))(s:St):∀l,dE rg s s l=false
 | []=>rfl
 | o::r=>by
  simp only [dE];cases h:s.get o with
  | none=>simp only [bE rg s r]
  | some x=>simp only [br,bE rg s r]
theorem wF (acc:List Fp)(s s1:St):∀l,cK acc s s l=cK acc s1 s1 l
 | []=>rfl
 | i::r=>by
  simp only [cK,bE,wF acc s s1 r]
theorem LI (acc:List Fp)(s s1:St)(o:bg)(l:List Nat):lost acc s s o l=lost acc s1 s1 o l:=by
 simp only [lost,wF acc s s1]
variable {s s' s1:St}{C:ay}{L:h9}{e:Env}{al:Option Nat}{d:D}
theorem zn.ro (h:zn C):Fj C:=fun f l s d s' hr hc=>(h f l s d s' s ⟨rfl,rfl,hr,hr,fun _ _ h=>h⟩ hc).1
section
variable (hs:Sb s s1)
include hs
theorem rQ {sz:Option Nat}{p d:D}(h:iP s sz p=some d):iP s1 sz p=some d:=by
 unfold iP at *
 repeat' split at h
 all_goals first
  | (cases h; done)
  | (have k:=hs.get _ _ (by assumption); simp only [*]; done)
  | (simp only [*]; done)
  | exact h
  | (simp only [aa,ae]at h; obtain ⟨rfl,rfl⟩:=h; first | rfl | (simp only [*]; done) | (have k:=hs.get _ _ (by assumption); simp only [*]; done))
  | trace_state
theorem uZ {p:D}{r:Nat×List D}(h:items s p=some r):items s1 p=some r:=by
 unfold items at *
 repeat' split at h
 all_goals first
  | (cases h; done)
  | (have k:=hs.get _ _ (by assumption); simp only [*]; done)
  | (simp only [*]; done)
  | exact h
  | (simp only [aa,ae]at h; obtain ⟨rfl,rfl⟩:=h; first | rfl | (simp only [*]; done) | (have k:=hs.get _ _ (by assumption); simp only [*]; done))
  | trace_state
theorem BF {k:Nat}{p:D}{r:Nat}(h:o8 s k p=some r):o8 s1 k p=some r:=by
 unfold o8 at *
 repeat' split at h
 all_goals first
  | (cases h; done)
  | (have k:=hs.get _ _ (by assumption); simp only [*]; done)
  | (simp only [*]; done)
  | exact h
  | (simp only [aa,ae]at h; obtain ⟨rfl,rfl⟩:=h; first | rfl | (simp only [*]; done) | (have k:=hs.get _ _ (by assumption); simp only [*]; done))
  | trace_state
theorem Jy {sz i:Nat}{p d:D}(h:ke s sz p i=some d):ke s1 sz p i=some d:=by
 unfold ke at *
 repeat' split at h
 all_goals first
  | (cases h; done)
  | (have k:=hs.get _ _ (by assumption); simp only [*]; done)
  | (simp only [*]; done)
  | exact h
  | (simp only [aa,ae]at h; obtain ⟨rfl,rfl⟩:=h; first | rfl | (simp only [*]; done) | (have k:=hs.get _ _ (by assumption); simp only [*]; done))
  | trace_state
theorem XX {a b:D}{r:Bool}(h:PI s a b=some r):PI s1 a b=some r:=by
 unfold PI at *;split at h
 ·split at h
  ·rename_i h1 h2;simp only [hs.get _ _ h1,hs.get _ _ h2]; exact h
  ·cases h
 ·cases h
theorem MG {v:D}{r:Recv}{d:D}(h:ru s v r=some d):ru s1 v r=some d:=by
 unfold ru at *
 repeat' split at h
 all_goals first
  | (cases h; done)
  | (have k:=rQ hs h; simp only [*]; done)
  | (simp only [*]; done)
  | exact h
  | trace_state
theorem Bn {sz:Nat}{p:D}{l:List D}(h:iM s sz p l=some s'):iM s1 sz p l=some s1:=by
 unfold iM at *;simp only [p9 hs.ro,p9 hs.Uu]at h ⊢
 repeat' split at h
 all_goals first
  | (cases h; done)
  | (have k:=hs.get _ _ (by assumption); simp only [*]; done)
  | (simp only [*]; done)
  | exact h
  | (simp only [aa,ae]at h; obtain ⟨rfl,rfl⟩:=h; first | rfl | (simp only [*]; done) | (have k:=hs.get _ _ (by assumption); simp only [*]; done))
  | trace_state
theorem yz {sz ty:Nat}{x:D}{l:List D}(h:fH s al sz ty x l=some (d,s')):fH s1 al sz ty x l=some (d,s1):=by
 unfold fH at *;simp only [p9 hs.ro,Ax hs.ro,p9 hs.Uu,Ax hs.Uu]at h ⊢
 repeat' split at h
 all_goals first
  | (cases h; done)
  | (have k:=hs.get _ _ (by assumption); simp only [*]; done)
  | (simp only [*]; done)
  | exact h
  | (simp only [aa,ae]at h; obtain ⟨rfl,rfl⟩:=h; first | rfl | (simp only [*]; done) | (have k:=hs.get _ _ (by assumption); simp only [*]; done))
  | trace_state
theorem Qw {k:Ext}{l:List D}(h:Db s k l=some (d,s')):Db s1 k l=some (d,s1):=by
 unfold Db at *;simp only [oE hs.ro,oE hs.Uu,oK]at h ⊢
 repeat' split at h
 all_goals first
  | (cases h; done)
  | (have k:=rQ hs (by assumption); simp only [*]; done)
  | (simp only [*]; done)
  | exact h
  | (simp only [aa,ae]at h; obtain ⟨rfl,rfl⟩:=h; first | rfl | (simp only [*]; done) | (have k:=rQ hs (by assumption); simp only [*]; done))
  | trace_state
theorem B8 {x y:Option D}(h:nj s x=some (d,s'))(hx:∀d,x=some d->y=some d):nj s1 y=some (d,s1):=by
 cases x with
 | none=>cases h
 | some v=>
  simp only [nj,aa,ae]at h;rw [hx v rfl,h.1]; rfl
end
theorem Sb.rd (hs:Sb s s1):Sb { s with ro:=true} { s1 with ro:=true}:=⟨hs.n,hs.lk,rfl,rfl,hs.get⟩
theorem Wt (hs:Sb s s1)(hC:zn C){p:eQ}(h:cC C e s al p=some (d,s')):cC C e s1 al p=some (d,s1):=by
 cases p <;> simp only [cC,p9 hs.ro,Ax hs.ro,oE hs.ro,p9 hs.Uu,Ax hs.Uu,oE hs.Uu,oK]at h ⊢
 all_goals
  (repeat' split at h)
  all_goals first
   | (cases h; done)
   | (((try simp only [*])); exact B8 hs h fun _ h=>h)
   | (((try simp only [*])); exact B8 hs h fun _ h=>rQ hs h)
   | (((try simp only [*])); exact B8 hs h fun _ h=>Jy hs h)
   | (((try simp only [*])); exact (hC _ _ _ _ _ _ hs h).2)
   | (((try simp only [*])); exact yz hs h)
   | (((try simp only [*])); exact Qw hs h)
   | (simp only [aa,ae]at h; obtain ⟨rfl,rfl⟩:=h; first
     | rfl
     | (simp only [*]; done)
     | (have k:=hs.get _ _ (by assumption); simp only [*]; done)
     | (have k:=(hC _ _ _ _ _ _ hs.rd (by assumption)).2; simp only [k]; done)
     | (have k:=uZ hs (by assumption); simp only [*]; done)
     | (have k:=XX hs (by assumption); simp only [*]; done)
     | (have k:=BF hs (by assumption); simp only [*]; done)
     | (have k:=BF hs (by assumption); have k2:=Bn hs (by assumption); simp only [*]; done)
     | (have k:=BF hs (by assumption); have k2:=uZ hs (by assumption); have k2:=Bn hs (by assumption); simp only [*]; done))
   | (have k:=uZ hs (by assumption); (try simp only [*]); exact B8 hs h fun _ h=>h)
   | (have k:=uZ hs (by assumption); (try simp only [*]); exact yz hs h)
   | (have k:=MG hs (by assumption); (try simp only [*]); exact (hC _ _ _ _ _ _ hs h).2)
theorem Hs (hs:Sb s s1)(hC:zn C){b:Nat}{o:bg} {fr fr' :Fr}(h:oper C b o fr s=some (fr',s)):oper C b o fr s1=some (fr',s1):=by
 unfold oper at h ⊢;split at h
 ·rename_i hw;try simp only [hw]
  split at h
  ·split at h
   ·rename_i h1 h2;simp only [aa,ae]at h;simp only [h1,h2,h.1]
   ·cases h
  ·split at h
   ·rename_i h1 h2;split at h
    ·rename_i h3;simp only [aa,ae]at h;simp only [h1,h2,h3,h.1]
    ·cases h
   ·cases h
  ·split at h
   ·rename_i h1 h2;split at h
    ·rename_i h3 h4 h5;split at h
     ·rename_i h6;simp only [aa,ae]at h;simp only [h1,h2,h3,h4,h5,h6,h.1]
     ·cases h
    ·cases h
   ·cases h
  ·rename_i n1 n2 n3;split at h
   ·rename_i h1;simp only [aa,ae]at h;obtain⟨rfl,rfl⟩:=h;have k:=Wt hs hC h1
    cases hp:o.op <;> simp only [hp]at k n1 n2 n3 ⊢ <;> first
     | (rw [k]; done)
     | exact absurd rfl (n1 _ _)
     | exact absurd rfl (n2 _)
     | exact absurd rfl (n3 _ _ _ _)
   ·cases h
 ·rename_i hw;simp only [aa,ae]at h;simp only [hw,h.1]
 ·cases h
theorem CO (hs:Sb s s1)(hC:zn C){b:Nat}:∀ {l:List bg} {fr fr' :Fr},opers C b l fr s=some (fr',s)->opers C b l fr s1=some (fr',s1)
 | [],fr,fr',h=>by
  simp only [opers,aa,ae]at h ⊢; exact ⟨h.1,trivial⟩
 | o::r,fr,fr',h=>by
  simp only [opers]at h ⊢;split at h
  ·rename_i h1;have e9:=(xp hC.ro hs.ro h1).symm; subst e9;rw [Hs hs hC h1];exact CO hs hC h
  ·cases h
theorem T.yn:∀t:T Obj,T.diff t t=[]
 | .nil=>rfl
 | .node o l r=>by
  simp only [T.diff,T.yn l,T.yn r,ef,dZ];cases o with
  | none=>rfl
  | some x=>simp only [Obj.aW]
theorem RB (s s1:St){b:Nat}{e:Env}{o:bg}:Jo s s b e o=Jo s1 s1 b e o:=by
 simp only [Jo,T.yn]
theorem Af (hs:Sb s s1)(hC:zn C){b:Nat}:∀ {l:List (bg×List Nat)} {acc:List Fp} {fr fr' :Fr},iz C b l acc fr s=some (fr',s)->iz C b l acc fr s1=some (fr',s1)
 | [],_,fr,fr',h=>by
  simp only [iz,aa,ae]at h ⊢; exact ⟨h.1,trivial⟩
 | (o,q)::r,acc,fr,fr',h=>by
  simp only [iz]at h ⊢;split at h
  ·rename_i h0;try simp only [h0]
   split at h
   ·rename_i h1;have e9:=(xp hC.ro hs.ro h1).symm; subst e9;rw [Hs hs hC h1];rw [LI acc _ s1]at h;rw [RB s s1]at h;simp only;split at h
    ·rename_i h2;try simp only [h2]
     exact Af hs hC h
    ·cases h
   ·cases h
  ·cases h
def Jv (L:h9):Prop:=∀k a fr s e fr' s' s1,Sb s s1->L k a fr s=some (e,fr',s')->s' =s/\L k a fr s1=some (e,fr',s1)
theorem Jv.ro (h:Jv L):W7 L:=fun k a fr s e fr' s' hr hc=>(h k a fr s e fr' s' s ⟨rfl,rfl,hr,hr,fun _ _ h=>h⟩ hc).1
theorem kA (hs:Sb s s1)(hC:zn C)(hL:Jv L):∀ {a:AC} {fr fr' :Fr} {e:Ex},bX C L a fr s=some (e,fr',s)->bX C L a fr s1=some (e,fr',s1)
 | .skip,fr,fr',e,h=>by
  simp only [bX,aa,ae]at h ⊢; exact ⟨h.1,h.2.1,trivial⟩
 | .sn ops,fr,fr',e,h=>by
  simp only [bX]at h ⊢;split at h
  ·rename_i h1;simp only [aa,ae]at h;obtain⟨rfl,rfl,e9⟩:=h;have e9:=e9.symm; subst e9;rw [CO hs hC h1]
  ·cases h
 | .wY k ops,fr,fr',e,h=>by
  simp only [bX]at h ⊢;split at h
  ·cases h
  ·rename_i hk;split at h
   ·rename_i h1;simp only [aa,ae]at h;obtain⟨rfl,rfl,e9⟩:=h;have e9:=e9.symm; subst e9;have NP:k=0:=by
     rw [hs.ro,fM]at hk;rcases ec k with h | h
     ·exact h
     ·have:Nat.blt 0 k=true:=au h;rw [this]at hk; cases hk
    subst NP;have k:=Af (s:=s) hs hC h1;rw [← hs.n]at k;rw [show (s1.ro && Nat.blt 0 0)=false by rw [Bool.and_eq_false_iff]; exact .inr rfl];show (match iz C s1.n ops [] fr s1 with | some (fr',s')=>some (Ex.normal,fr',s') | none=>none)=_;rw [k]
   ·cases h
 | .seq a b,fr,fr',e,h=>by
  simp only [bX]at h ⊢;split at h
  ·rename_i h1;have e9:=(gF hC.ro hL.ro hs.ro h1).symm; subst e9;rw [kA hs hC hL h1];exact kA hs hC hL h
  ·rename_i h1;rw [kA hs hC hL h];split
   ·rename_i h2;simp only [aa,ae]at h2;obtain⟨rfl,rfl,rfl⟩:=h2;exact absurd h (h1 _ _)
   ·rfl
 | .cond c a b,fr,fr',e,h=>by
  simp only [bX]at h ⊢;split at h
  ·rename_i h1; (try simp only [h1]); exact kA hs hC hL h
  ·rename_i h1; (try simp only [h1]); exact kA hs hC hL h
  ·cases h
 | .block id a,fr,fr',e,h=>by
  simp only [bX]at h ⊢;split at h
  ·rename_i h1;have e9:=(gF hC.ro hL.ro hs.ro h1).symm; subst e9;rw [kA hs hC hL h1];split at h
   ·rename_i h2;simp only [aa,ae]at h;obtain⟨rfl,rfl,_⟩:=h;simp only [h2]
   ·rename_i h2;simp only [aa,ae]at h;obtain⟨rfl,rfl,_⟩:=h;simp only [h2]
  ·rename_i h1;rw [kA hs hC hL h];split
   ·rename_i h2;simp only [aa,ae]at h2;obtain⟨rfl,rfl,rfl⟩:=h2;exact absurd h (h1 _ _ _)
   ·rfl
 | .loop bV a,fr,fr',e,h=>by
  simp only [bX]at h ⊢;exact (hL _ _ _ _ _ _ _ _ hs h).2
 | .iK bV g ps x y,fr,fr',e,h=>by
  simp only [bX]at h ⊢;exact (hL _ _ _ _ _ _ _ _ hs h).2
 | .exit id,fr,fr',e,h=>by
  simp only [bX,aa,ae]at h ⊢; exact ⟨h.1,h.2.1,trivial⟩
 | .ret,fr,fr',e,h=>by
  simp only [bX,aa,ae]at h ⊢; exact ⟨h.1,h.2.1,trivial⟩
 | .bad,fr,fr',e,h=>by simp [bX]at h
theorem O2 (hs:Sb s s1)(hC:zn C)(l:List (D×List D)):leave C l s=some s->leave C l s1=some s1:=by
 induction l with
 | nil=>intro h; rfl
 | cons q r ih=>
  obtain⟨f,l⟩:=q;intro h;cases f with
  | fn g a b=>
   cases g with
   | func f=>
    simp only [leave]at h ⊢;split at h
    ·rename_i d s2 h1;obtain⟨e9,k⟩:=hC _ _ _ _ _ _ hs h1;rw [e9]at h;simp only [k];exact ih h
    ·cases h
   | _=>simp [leave]at h
  | mw=>simp only [leave]at h ⊢; exact ih h
  | _=>simp [leave]at h
theorem uQ (hs:Sb s s1){e:Env}:∀ {l:List wV} {r:List D},lu e s l=some r->lu e s1 l=some r
 | [],r,h=>h
 | .tmp t::q,r,h=>by
  simp only [lu]at h ⊢;split at h
  ·rename_i h1 h2;rw [h1,uQ hs h2]; exact h
  ·cases h
 | .cell a sz::q,r,h=>by
  simp only [lu]at h ⊢;split at h
  ·rename_i h1;try simp only [h1]
   split at h
   ·rename_i h2 h3;rw [h2,uQ hs h3]; exact h
   ·cases h
  ·rename_i p h1 h2;split at h
   ·rename_i h3 h4;rw [rQ hs h3,uQ hs h4];exact h
   ·cases h
  ·cases h
theorem N1 {CD:ay}(hs:Sb s s1)(hC:zn C)(Oz:zn CD)(hL:Jv L){fn:dU}{args:List D}(h:nV C CD L fn args s=some (d,s)):nV C CD L fn args s1=some (d,s1):=by
 unfold nV at h ⊢;split at h
 ·cases h
 ·rename_i h0 h1;have e9:=(gF hC.ro hL.ro hs.ro h1).symm; subst e9;rw [kA hs hC hL h1];split at h
  ·rename_i h2;have e9:=(uA Oz.ro hs.ro h2).symm; subst e9;split at h
   ·rename_i h3;simp only [aa,ae]at h;obtain⟨rfl,_⟩:=h;split
    ·rename_i h4;simp only [aa,ae]at h4;obtain⟨rfl,rfl,rfl⟩:=h4;exact (h0 _ rfl).elim
    ·rename_i h4;simp only [aa,ae]at h4;obtain⟨rfl,rfl,rfl⟩:=h4;rw [O2 hs Oz _ h2];simp only [uQ hs h3]
    ·rename_i h4; cases h4
   ·cases h
  ·cases h
 ·cases h
theorem OE {T:Nat->Option dU}(hC:zn C)(hL:Jv L):zn (oZ T C L):=by
 intro f l s d s' s1 hs h;have hr:=DG (T:=T) hC.ro hL.ro f l s d s' hs.ro h;subst hr;refine⟨rfl, ?_⟩;unfold oZ at h ⊢;split at h
 ·rename_i fn hf;try simp only [hf]
  unfold vt at h ⊢;split at h
  ·cases h
  ·rename_i h0 h1;have e9:=(gF hC.ro hL.ro hs.ro h1).symm; subst e9;rw [kA hs hC hL h1];split at h
   ·rename_i h2;split at h
    ·rename_i h3;simp only [aa,ae]at h;obtain⟨rfl,_⟩:=h;split
     ·rename_i h4;simp only [aa,ae]at h4;obtain⟨rfl,rfl,rfl⟩:=h4;exact (h0 _ rfl).elim
     ·rename_i h4;simp only [aa,ae]at h4;obtain⟨rfl,rfl,rfl⟩:=h4;simp only [h2,uQ hs h3]
     ·rename_i h4; cases h4
    ·cases h
   ·cases h
  ·cases h
 ·cases h
theorem vI {T:Nat->Option dU}{H:ay}(hH:zn H):∀n,zn (dJ T H n)/\Jv (fe T H n)
 | 0=>⟨fun f l s d s' _ _ h=>by simp [dJ]at h,fun k a fr s e fr' s' _ _ h=>by simp [fe]at h⟩
 | n+1=>by
  obtain⟨i1,i2⟩:=vI (T:=T) hH n;refine⟨fun f l s d s' s1 hs h=> ?_,fun k a fr s e fr' s' s1 hs h=> ?_⟩
  ·have hr:=(pa (T:=T) hH.ro (n+1)).1 _ _ _ _ _ hs.ro h;subst hr;refine⟨rfl, ?_⟩;simp only [dJ]at h ⊢;split at h
   ·exact (hH _ _ _ _ _ _ hs h).2
   ·split at h
    ·exact N1 hs i1 (OE i1 i2) i2 h
    ·exact (hH _ _ _ _ _ _ hs h).2
  ·have hr:=(pa (T:=T) hH.ro (n+1)).2 _ _ _ _ _ _ _ hs.ro h;subst hr;refine⟨rfl, ?_⟩;cases hb:a.ig with
   | true=>
    cases a <;> first | (cases hb; done) | skip
    rw [jG,Bk hs.ro]at h; cases h
   | false=>
    rw [iB _ _ _ _ hb]at h ⊢;split at h
    ·rename_i h1;have e9:=(gF i1.ro i2.ro hs.ro h1).symm; subst e9;rw [kA hs i1 i2 h1];exact (i2 _ _ _ _ _ _ _ _ hs h).2
    ·rename_i h1;rw [kA hs i1 i2 h];split
     ·rename_i h2;simp only [aa,ae]at h2;obtain⟨rfl,rfl,rfl⟩:=h2;exact absurd h (h1 _ _)
     ·rfl
theorem ql (o:Nat):∀(k b:Nat) (h:T Obj),(sM k b h).get o=if b<=o/\o < b+k then none else h.get o
 | 0,b,h=>by
  rw [aK (by omega)]; rfl
 | k+1,b,h=>by
  simp only [sM];rw [ql o k (b+1),T.pN];by_cases h1:b+1<=o/\o < b+1+k
  ·rw [bT h1,bT (by omega)]
  ·rw [aK h1];by_cases h2:o=b
   ·rw [bT h2,bT (by omega)]
   ·rw [aK h2,aK (by omega)]
def D2 (C:ay)(b hi:Nat):Prop:=∀f l s s2 d s',s.ro=true->s2.ro=true->s2.n=s.n->s2.lk=s.lk->(∀o,o < b\/hi<=o->s2.get o=s.get o)->C f l s=some (d,s')->C f l s2=some (d,s2)
theorem Pk (hC:zn C)(b k:Nat):D2 (lY b k C) b (b+k):=by
 intro f l s s2 d s' hr zx hn hl hg h;cases k with
 | zero=>exact (hC f l s d s' s2 ⟨hn,hl,hr,zx,fun o x hx=>by rw [hg o (by omega)]; exact hx⟩ h).2
 | succ k=>
  simp only [lY,hr,zx]at h ⊢;split at h
  ·rename_i d1 s3 h1;simp only [aa,ae]at h;obtain⟨rfl,_⟩:=h
   have:=(hC f l ⟨s.n,sM (k+1) b s.h,s.lk,true⟩ _ _ ⟨s2.n,sM (k+1) b s2.h,s2.lk,true⟩ ⟨hn,hl,rfl,rfl,fun o x hx=>by
    simp only [St.get]at hx hg ⊢;rw [ql]at hx ⊢;by_cases ho:b<=o/\o < b+(k+1)
    ·rw [bT ho]at hx; cases hx
    ·rw [aK ho]at hx ⊢;rw [hg o (by omega)]; exact hx⟩ h1).2
   simp only [this]
  ·cases h
theorem NY (hC:zn C)(b k:Nat):zn (lY b k C):=by
 intro f l s d s' s1 hs h;cases k with
 | zero=>exact hC f l s d s' s1 hs h
 | succ k=>
  simp only [lY,hs.ro,hs.Uu]at h ⊢;split at h
  ·rename_i d1 s3 h1;simp only [aa,ae]at h;obtain⟨rfl,rfl⟩:=h
   have:=(hC f l ⟨s.n,sM (k+1) b s.h,s.lk,true⟩ _ _ ⟨s1.n,sM (k+1) b s1.h,s1.lk,true⟩ ⟨hs.n,hs.lk,rfl,rfl,fun o x hx=>by
    have hg:=hs.get o x;simp only [St.get]at hx hg ⊢;rw [ql]at hx ⊢;by_cases ho:b<=o/\o < b+(k+1)
    ·rw [bT ho]at hx; cases hx
    ·rw [aK ho]at hx ⊢;exact hg hx⟩ h1).2
   simp only [this];exact⟨trivial,trivial⟩
  ·cases h
theorem xL (hC:zn C){b k f:Nat}{l:List D}(h:lY b k C f l s=some (d,s')):C f l s=some (d,s'):=by
 cases k with
 | zero=>exact h
 | succ k=>
  cases hr:s.ro with
  | false=>simp only [lY,hr]at h; exact h
  | true=>
   simp only [lY,hr]at h;split at h
   ·rename_i d1 s3 h1;simp only [aa,ae]at h;obtain⟨rfl,rfl⟩:=h
    exact (hC f l ⟨s.n,sM (k+1) b s.h,s.lk,true⟩ _ _ s ⟨rfl,rfl,rfl,hr,fun o x hx=>by
     simp only [St.get]at hx ⊢;rw [ql]at hx;split at hx
     ·cases hx
     ·exact hx⟩ h1).2
   ·cases h
theorem QB (hC:Fj C)(b k:Nat):Fj (lY b k C):=by
 intro f l s d s' hr h;cases k with
 | zero=>exact hC f l s d s' hr h
 | succ k=>
  simp only [lY,hr]at h;split at h
  ·simp only [aa,ae]at h; exact h.2.symm
  ·cases h
end Go.Ab
namespace Go.Ab
open Go
variable [eV]
variable {ρ ρ' :Gh} {w w' :World}{P:Program}{pn:jn}{G:Gl}{X:iw}{A:nA} {s s' :St}{env:Env}{a:Act}{lo:Nat}{d:D}{C:ay}{al:Option Nat}
theorem ND (hs:ck ρ s w){o:Nat}{x:Obj}(ho:s.get o=some x):∃ρ',Kp ρ w ρ' w/\ck ρ' (s.bF o .dead) w/\(∀b,ρ'.own b=ρ.own b)/\ρ'.kd o= .dead/\∀q,q≠o->ρ'.kd q=ρ.kd q:=by
 let ρ1:Gh:= { ρ with kd:=fun q=>if q=o then .dead else ρ.kd q}
 have gV:∀q,q≠o->ρ1.kd q=ρ.kd q:=fun q hq=>by simp [ρ1,hq]
 have hK:Kp ρ w ρ1 w:=by
  refine⟨rfl,rfl,rfl,aq _,fun b hb hn=>⟨rfl,rfl⟩,fun q hq=> ?_,fun q z hq=> ?_⟩
  ·simp only [ρ1]; split
   ·exact⟨rfl,trivial⟩
   ·exact⟨hq,trivial⟩
  ·by_cases hqo:q=o
   ·exact .inl (by simp [ρ1,hqo])
   ·exact .inr ⟨by rw [gV q hqo]; exact hq,fun b hb=>⟨hb,rfl,aq _,rfl⟩⟩
 exact⟨ρ1,hK,hs.Pt hK o .dead (fun b q hq _=>nh) gV (fun b q hq _ hb=>⟨rfl,rfl,rfl,rfl⟩) (by simp [pP,ρ1]) (fun b hb=>hs.size b (by omega)) (hs.lt _ _ ho) (aq _) (St.fv s o _),fun _=>rfl,by simp [ρ1],gV⟩
theorem CI {t e:TypeId}{n:Nat}{ad:Addr}(hu:P.underlying t=some (.array n e))(fS:dO P e=some 1)(hn:0 < n):
  (Instr.sliceAt t (.pointer (some ad)) none none none).run P w= .ok (.slice (some (ad.add (0 * 1))) n n) w:=by
 have hb:(Instr.sliceBounds false n n none none none).run P w= .ok (0,n,n) w:=by
  unfold Instr.sliceBounds; simp
 simp only [Instr.sliceAt,Sem.run_bind,run_underlying hu,Result.andThen_ok,Instr.sureAddr,hb,fT fS,Sem.run_pure];rw [aK (by omega)];rfl
section
variable (he:ew ρ w lo env a.tmps)(hg:gN pn G ρ w)(hs:ck ρ s w)
include he hg hs
theorem KY {t e:TypeId}{n:Nat} {x' :Operand}{x:bP}(hx:eO G x' =some x)(hu:P.underlying t=some (.array n e))(fS:dO P e=some 1)(h:cC C env s al (.yX n x)=some (d,s')){o:Oper}
  (ho:o.op= .slice t x' none none none):fc P ρ w env a.tmps d s' ((execOp a.eval o).run P w):=by
 simp only [cC]at h;split at h
 ·rename_i ob hp;have hv:=ba hx he hg hp;split at h
  ·rename_i ty v lG;split at h
   ·rename_i pQ;have pQ:=aD pQ;split at h
    ·rename_i s1 gO;split at h
     ·rename_i k s2 hm;simp only [aa,ae]at h;obtain⟨rfl,rfl⟩:=h;obtain⟨b,u,g1,g2,g3,g4,g5,g6⟩:=hs.ok _ _ lG;simp only [aU,Gh.at,g1]at hv;obtain⟨b',h1,h3⟩:=hv;obtain rfl:=g2.2 b' h1;have hus:u.cells.size=n:=by rw [g3.size g6]; exact pQ
      have hn:0 < n:=by omega
      have uL:s1=s.bF ob .dead:=St.qf gO;subst uL;obtain⟨ρ1,j1,j2,j3,j4,j5⟩:=ND hs lG;have hk:k=s.n/\s2=(s.bF ob .dead).bz (.arr 1 ty v.flat 0):=by
       unfold St.mk' at hm;split at hm
       ·cases hm
       ·simp only [aa,ae]at hm; exact ⟨hm.1.symm,hm.2.symm⟩
      obtain⟨rfl,rfl⟩:=hk;have acE:ob < s.n:=hs.lt _ _ lG;have lC:ρ1.own b' = .obj ob:=by rw [j3]; exact h1
      have Ig:ρ1.kd s.n= .fresh:=j2.no s.n (by
       cases hq:(s.bF ob .dead).get s.n with
       | none=>rfl
       | some y=>have:=j2.lt _ _ hq; exact absurd this (gR _))
      have hbs:b' < w.heap.size:=hs.jJ h1;obtain⟨f1,f2⟩:=g3.flat g6
      obtain⟨n1,n2⟩:=yj (w' :=w) (b:=b') (k:=s.n) (z:=1) (sh:=0) (ex:=n) (cp:=n) (x:= .arr 1 ty v.flat 0) (s' :=(s.bF ob .dead).bz (.arr 1 ty v.flat 0)) j2
       (fun o' h' => .inr (by rw [lC]at h'; simp only [Own.obj.injEq]at h'; subst h'; exact j4)) (.inr ⟨ob,lC⟩) (.inl Ig) (fun b'' cE _=>rfl) (aq _) (fun b'' jl =>by omega) rfl rfl rfl (fun hK=>by
        refine⟨by omega,by simp [Gh.put],by omega,⟨b',by simp [Gh.put],by simp [Gh.put,pQ],fun b'' q1 q2=> ?_⟩,fun b'' q1=> ?_, ?_⟩
        ·by_cases lT:b'' =b'
         ·exact lT
         ·simp only [Gh.put,aK lT]at q1;exact absurd Ig (j2.live _ _ q1)
        ·by_cases lT:b'' =b'
         ·subst lT;have lD:∀j,w.cell? ⟨b'',j,none⟩=u.cells[j]? :=fun j=>ey g4;refine⟨by simp [Gh.put,pQ],by simp [Gh.put],by simp [Gh.put],fun j hj=> ?_,⟨_,_,g4⟩,fun _ i dd a1 a2 a3=> ?_⟩
          ·simp only [Gh.put,eu,lX]at hj;exact⟨by rw [lD]; simp; omega,by simp [World.frozen?,g4]⟩
          ·simp only [Gh.put,eu]at a1 a2 ⊢;obtain⟨y,y1,y2⟩:=bw.get f1 a3;refine⟨y,(y2.mono j1).mono hK, ?_,fun q hq=> ?_⟩
           ·have:=(y2.sc (dg.1 (D.na g6) dd (aM a3))).2;rw [this]; rfl
           ·have h2:=(y2.sc (dg.1 (D.na g6) dd (aM a3))).2;rw [h2]at hq ⊢;have hq0:q=0:=by simpa using hq
            subst hq0;rw [lD];simp only [Nat.sub_zero,lX,fP];simpa using y1
         ·simp only [Gh.put,aK lT]at q1;exact absurd Ig (j2.live _ _ q1)
        ·rw [iF];intro q hq;have hqs:=dg.1 (D.na g6) q hq;exact⟨by cases q <;> simp_all [D.flat,D.sc],D.Na hqs⟩)
       (mX _) (Nat.le_succ _) (fun o=>T.pN _ _ _ _)
      have hr:(execOp a.eval o).run P w= .ok (.value (.slice (some (Addr.add ⟨b',0,none⟩ (0 * 1))) n n)) w:=by
       simp only [execOp,ho];rw [h3];rw [Sem.run_bind,show Option.map a.eval none=none from rfl,CI hu fS hn]; rfl
      rw [hr];refine .val (j1.trans n1) n2 ?_;simp only [aU,Gh.at,Gh.put,eu];exact⟨b',by simp,by simp,by simp,aq _,0,n,by simp [Addr.add_mid],aq _,.inr (by simp),by simp⟩
     ·cases h
    ·cases h
   ·cases h
  ·cases h
 ·cases h
end
end Go.Ab
