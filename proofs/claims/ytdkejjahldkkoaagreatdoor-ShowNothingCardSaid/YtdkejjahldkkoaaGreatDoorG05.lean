/- Part. -/
import Derived.Test.YtdkejjahldkkoaaGreatDoorG04
set_option linter.unusedSectionVars false
set_option linter.unusedSimpArgs false
set_option linter.unusedVariables false
namespace Go.Ab
open Go
variable [eW]
variable {ρ:Gh}{w:World}{P:Program}{pn:iO}{G:Gl}{X:iJ}{A:nJ} {s s' :St}{env:Env}{a:Act}{lo:Nat}{d:D}{C:au}{al:Option Nat}
theorem fX.get {sz b:Nat}:∀ {l:List D} {x i:Nat} {e:D},fX ρ w sz b x l->l[i]? =some e->∃v,aS ρ w e v/\v.cells.size=sz/\0 < sz/\cl w b (x+i * sz) v/\e.st=true
 | [],_,i,e,_,h=>by simp at h
 | d::l,x,0,e,h,hi=>by
  simp only [fX]at h;simp at hi; subst hi;simpa using h.1
 | d::l,x,i+1,e,h,hi=>by
  simp only [fX]at h;simp at hi;have:=fX.get h.2 hi;rwa [show x+(i+1) * sz=x+sz+i * sz by rw [bT]; omega]
theorem fX.take {sz b:Nat}:∀ {l:List D} {x:Nat} (n:Nat),fX ρ w sz b x l->fX ρ w sz b x (l.take n)
 | [],_,n,h=>by simp [fX]
 | d::l,x,0,h=>by simp [fX]
 | d::l,x,n+1,h=>by
  simp only [fX,gC]at *;exact⟨h.1,fX.take n h.2⟩
theorem fX.drop {sz b:Nat}:∀ {l:List D} {x:Nat} (n:Nat),fX ρ w sz b x l->fX ρ w sz b (x+n * sz) (l.drop n)
 | [],_,n,h=>by simp [fX]
 | d::l,x,0,h=>by simpa using h
 | d::l,x,n+1,h=>by
  simp only [fX,nX]at *;have:=fX.drop n h.2;rwa [show x+(n+1) * sz=x+sz+n * sz by rw [bT]; omega]
theorem su.get {sz ty b st i:Nat}{es:List D}{e:D}(h:su ρ w sz ty es st b)(dT:st<=ρ.ext b)(h1:ρ.sh b<=i)(h2:i < ρ.ext b)(hi:es[i]? =some e):
  ∃v,aS ρ w e v/\v.cells.size=sz/\cl w b ((i - ρ.sh b) * sz) v:=h.elems dT i e h1 h2 hi
theorem oF {sz:Nat}:∀ {es:List D} {i:Nat} {e:D},eG sz es=true->es[i]? =some e->e.flat.length=sz/\e.st=true
 | [],i,e,_,h=>by simp at h
 | d::l,0,e,h,hi=>by
  simp at hi; subst hi;simp only [eG,aA]at h;exact⟨aF h.1.1,h.1.2⟩
 | d::l,i+1,e,h,hi=>by
  simp at hi;simp only [eG,aA]at h;exact oF h.2 hi
theorem BK {t:TypeId}{sz:Option Nat}{p d:D}{v:Value}(hs:bZ ρ s w)(gZ:iN P t=some sz)(h:iR s sz p=some d)(hv:aS ρ w p v):
  ∃u,(Instr.loadAt t v).run P w= .ok u w/\aS ρ w d u:=by
 have fin:∀ {b x c:Nat} {e:D} {q:Value},aS ρ w e q->e.st=true->w.rangeAt b x q.cells.toList->part e.flat c sz=some d->v= .pointer (some ⟨b,x+c,none⟩)->∃u,(Instr.loadAt t v).run P w= .ok u w/\aS ρ w d u:=by
  intro b x c e q he dT hr hp abN;subst abN;obtain⟨hf,_⟩:=he.flat dT;have h1:=rI hf (D.mX dT) hp;have h2:=run_load (P:=P) (c:=c) hr gZ;cases sz with
  | some n=>
   obtain⟨h3,h4⟩:=h1;exact⟨_,h2 h3,h4⟩
  | none=>
   obtain⟨u,h3,h4,_⟩:=h1;exact⟨u,h2 u h3,h4⟩
 cases p <;> simp only [iR]at h <;> (try cases h)
 case ptr o c=>
  split at h
  ·rename_i ty e hx;obtain⟨b,q,k1,one,h2,h3,_,h5⟩:=hs.ok _ _ hx;simp only [aS,Gh.at,k1]at hv;obtain⟨b',jm,rfl⟩:=hv;obtain rfl:=one.2 _ jm;exact fin h2 h5 (rangeAt_of_block h3) h (by simp)
  ·cases h
 case jK o i c e=>
  split at h
  ·rename_i z ty es st hx;split at h
   ·rename_i Li;split at h
    ·rename_i el Lp;obtain⟨hz,k1,_,_,xh,dK⟩:=hs.ok _ _ hx;simp only [aS,Gh.at,k1]at hv;obtain⟨b,hb,q1,q2,q3,q4⟩:=hv;have dT:=ax Li;obtain⟨q,r1,r2,r3⟩:=(xh b hb).get (by omega) q1 (by omega) Lp;exact fin r1 (oF dK Lp).2 (mE r3) h q4
    ·cases h
   ·cases h
  ·cases h
 case jE e c=>
  simp only [aS]at hv;obtain⟨b,x,q,q1,q2,q3,q4,q5⟩:=hv;exact fin q2 q4.2 (mE q3) h q5
section
variable (he:eu ρ w lo env a.tmps)(hg:gF pn G ρ w)(hs:bZ ρ s w)
include he hg hs
theorem Ri {t:TypeId}{sz:Option Nat} {x' :Operand}{x:bP}(hx:eK G x' =some x)(gZ:iN P t=some sz)(h:cB C env s al (.load sz x)=some (d,s')){o:Oper}(ho:o.op= .load t x'):
  fb P ρ w env a.tmps d s' ((execOp a.eval o).run P w):=by
 simp only [cB]at h;split at h
 ·rename_i p hp;obtain⟨h1,rfl⟩:=jy h;obtain⟨u,h2,h3⟩:=BK (P:=P) hs gZ h1 (aZ hx he hg hp);have hr:(execOp a.eval o).run P w= .ok (.value u) w:=by
   simp only [execOp,ho]; rw [Sem.run_bind,h2]; rfl
  rw [hr]; exact .rep hs h3
 ·cases h
theorem Sy {t u e:TypeId}{n:Nat} {x' :Operand}{x:bP}(hx:eK G x' =some x)(ht:P.underlying t=some (.pointer e))(hu:P.underlying u=some .unsafePointer)(hn:dM P e=some (n+1))(h:cB C env s al (.Dv x)=some (d,s')){o:Oper}(ho:o.op= .convert t u x'):
  fb P ρ w env a.tmps d s' ((execOp a.eval o).run P w):=by
 simp only [cB]at h;split at h
 ·rename_i k c hp;split at h
  ·rename_i ty v hv;split at h
   ·rename_i dQ;simp only [aa,ab]at h;obtain⟨rfl,rfl⟩:=h;have h1:=aZ hx he hg hp;have h2:=h1;obtain⟨b,q,g1,g2,g3,g4,g5,g6⟩:=hs.ok _ _ hv;simp only [aS,Gh.at,g1]at h1;obtain⟨b',h1,h3⟩:=h1;obtain rfl:=g2.2 b' h1;have hc:c < q.cells.size:=by rw [g3.size g6]; exact ax dQ
    have hr:(execOp a.eval o).run P w= .ok (.value (a.eval x')) w:=by
     simp only [execOp,ho,h3,convert]
     have gZ:∀ {α:Type} (f:Option (TypeId×Nat)->Sem α),(Sem.shape b' f).run P w=(f (some (ty,q.cells.size))).run P w:=fun f=>by
      simp [Sem.run,World.shape?,g4]
     simp [run_underlying ht,run_underlying hu,Conv.unsafePointer,Conv.seenAt,viewAt,cellsIn,shape,getObj,gZ];have fR:(sizeOf e).run P w= .ok (n+1) w:=by
      exact fU hn
     rw [fR];simp only [Result.andThen];rw [aJ (by omega)]
    rw [hr]; exact .rep hs h2
   ·cases h
  ·cases h
 ·cases h
theorem Pd {t:TypeId}{r:Nat}{sz:Option Nat} {x' :Operand}{x:bP}(hx:eK G x' =some x)(gZ:iN P t=some sz)(h:cB C env s al (.sW r sz x)=some (d,s')){o:Oper}(ho:o.op= .load t x'):
  fb P ρ w env a.tmps d s' ((execOp a.eval o).run P w):=by
 simp only [cB]at h;split at h
 ·rename_i r' c hp;split at h
  ·rename_i e hb na;obtain rfl:=aF hb;obtain⟨h1,rfl⟩:=jy h;obtain⟨b,h2,h3⟩:=lI hx he hg hp e na;have tg:=he.slot _ _ na;simp only [ej]at tg;obtain⟨b',q,el,q1,q2,q3,q4,q5,q6⟩:=tg;have lS:b=b' :=by
    have:=h2.symm.trans q1;simpa using this
   subst lS;obtain⟨hf,_⟩:=q4.flat q6;have g1:=rI hf (D.mX q6) h1;have g2:=run_load (P:=P) (c:=c) (rangeAt_of_block q5) gZ;simp only [aM]at g2;have fin:∀u,(Instr.loadAt t (a.eval x')).run P w= .ok u w->(execOp a.eval o).run P w= .ok (.value u) w:=by
    intro u hu;simp only [execOp,ho]; rw [Sem.run_bind,hu]; rfl
   cases sz with
   | some n=>
    obtain⟨g3,g4⟩:=g1;rw [fin _ (by rw [h3]; exact g2 g3)]; exact .rep hs g4
   | none=>
    obtain⟨u,g3,g4,_⟩:=g1;rw [fin _ (by rw [h3]; exact g2 u g3)]; exact .rep hs g4
  ·cases h
 ·cases h
theorem MS {t e:TypeId}{m:Nat} {x' i' :Operand}{x i:bP}(hx:eK G x' =some x)(hi:eK G i' =some i)(hu:P.underlying t=some (.slice e))(fR:dM P e=some (m+1))
  (h:cB C env s al (.nA (m+1) x i)=some (d,s')){o:Oper}(ho:o.op= .indexAddr t x' i'):fb P ρ w env a.tmps d s' ((execOp a.eval o).run P w):=by
 simp only [cB]at h;split at h
 ·rename_i p n hp hn;split at h
  ·rename_i k hk;obtain⟨h1,rfl⟩:=jy h;have hv:=aZ hx he hg hp;obtain⟨kk,hnv⟩:=hZ hk (aZ hi he hg hn);have run:∀b y len cap,a.eval x' = .slice (some ⟨b,y,none⟩) len cap->k < len->(execOp a.eval o).run P w= .ok (.value (.pointer (some ⟨b,y+k * (m+1),none⟩))) w:=by
    intro b y len cap tg dQ;have hh:(0:Int)<=(k:Int)/\(k:Int) < (len:Int):=by omega
    simp only [execOp,ho,Instr.indexAt,tg,hnv,asIntOf];simp [run_underlying hu,fU fR,Addr.add_mid,dQ]
   unfold j8 at h1;split at h1
   ·rename_i nl z l;split at h1
    ·rename_i hz;obtain rfl:=aF hz;split at h1
     ·rename_i el Lp;simp only [aa]at h1; subst h1;simp only [aS]at hv;rcases hv with ⟨_,rfl,_⟩ | ⟨_,ad,cap,hv,hle,hl⟩
      ·simp at Lp
      ·rcases hl with rfl | ⟨b,y,rfl,hb,hE⟩
       ·simp at Lp
       ·obtain⟨q,r1,r2,r3,r4,r5⟩:=hE.get Lp;have dQ:k < l.length:=(af.1 Lp).1;rw [run b y _ cap hv dQ];exact .rep hs (by simp only [aS]; exact ⟨b,_,q,hb,r1,r4,⟨by omega,r5⟩,rfl⟩)
     ·cases h1
    ·cases h1
   ·rename_i ob off len cp;split at h1
    ·rename_i z ty es st vX;split at h1
     ·rename_i z1 z2 z3 z4;simp only [aa]at h1; subst h1;obtain rfl:=aF z1;have y2:k < len:=by have:=ax z2; omega
      obtain⟨hz,k1,_,_,xh,dK⟩:=hs.ok _ _ vX;simp only [aS,Gh.at,k1]at hv;obtain⟨b,hb,q1,q2,q3,xx,cap,q4,q5,q6,q7⟩:=hv;rw [run b xx len cap q4 y2];refine .rep hs ?_;simp only [aS,Gh.at,k1];refine⟨b,hb,by omega,by omega,by omega, ?_⟩;have PE:xx=(off - ρ.sh b) * (m+1):=by rcases q6 with q6 | q6 <;> omega
      rw [PE,show off+k - ρ.sh b=(off - ρ.sh b)+k by omega,bT];rfl
     ·cases h1
    ·cases h1
   ·cases h1
  ·cases h
 ·cases h
omit he hg hs in
theorem iE {b:Builtin}{args:Array Operand}{tys:Array TypeId}{o:Oper}(ho:o.op= .call { callee:= .builtin b,args:=args,argTypes:=tys}):
  (execOp a.eval o).run P w=(builtin b tys o.type (args.map fun | .const _=>true | _=>false) (args.map a.eval)).run P w:=by
 simp only [execOp,ho,resolve];rfl
omit he hg hs in
theorem fO.length:∀ {l:List (Nat×D×D)} {es:List MapEntry},fO ρ w l es->l.length=es.length
 | [],_,h=>by simp only [fO]at h; subst h; rfl
 | (n,k,v)::l,_,h=>by
  simp only [fO]at h;obtain⟨e,r,rfl,_,_,_,h2⟩:=h;simp [fO.length h2]
theorem GL {t:TypeId}{k:Nat} {x' :Operand}{x:bP}(hx:eK G x' =some x)(hk:(k=0/\P.underlying t=some .string)\/(∃q,k=1/\P.underlying t=some (.slice q))\/(∃q r,k=2/\P.underlying t=some (.map q r)))
  (h:cB C env s al (.len k x)=some (d,s')){o:Oper}
  (ho:o.op= .call { callee:= .builtin .len,args:= #[x'],argTypes:= #[t]}):fb P ρ w env a.tmps d s' ((execOp a.eval o).run P w):=by
 simp only [cB]at h;split at h
 ·rename_i i ex lo hi hp;split at h
  ·simp only [aa,ab]at h;obtain⟨rfl,rfl⟩:=h;have hv:=aZ hx he hg hp;rcases hk with ⟨_,hu⟩ | ⟨q,hk,_⟩ | ⟨q,r,hk,_⟩
   ·simp only [aS]at hv;have hr:(Builtin.len_ #[t] o.type #[a.eval x']).run P w= .ok (goInt (eW.vs i).length) w:=by
     simp [Builtin.len_,run_underlying hu,hv.1,ByteArray.size_mk']
    rw [iE ho];simp only [builtin,ft,bG,ed];rw [Sem.run_bind,hr];refine .rep hs ?_;simp only [aS,Sym.val,goInt];exact⟨trivial,by have:=hv.2.2.1; omega,by have:=hv.2.2.2; omega⟩
   ·cases hk
   ·cases hk
  ·cases h
 ·rename_i p y8 hp;clear y8;split at h
  ·rename_i n hn;simp only [aa,ab]at h;obtain⟨rfl,rfl⟩:=h;have hv:=aZ hx he hg hp;have fin:(Builtin.len_ #[t] o.type #[a.eval x']).run P w= .ok (goInt n) w->fb P ρ w env a.tmps (Fy n) s ((execOp a.eval o).run P w):=by
    intro hr;rw [iE ho];simp only [builtin,ft,bG,ed];rw [Sem.run_bind,hr];exact .rep hs (by simp [Fy,goInt,aS])
   apply fin;rcases hk with ⟨rfl,hu⟩ | ⟨q,rfl,hu⟩ | ⟨q,r,rfl,hu⟩
   ·simp only [o7]at hn;split at hn <;> (try cases hn);simp only [aS]at hv;simp [Builtin.len_,run_underlying hu,hv,ByteArray.size_mk']
   ·simp only [o7]at hn;split at hn <;> (try cases hn)
    ·rename_i nl z l;simp only [aS]at hv;have:∃p c,a.eval x' = .slice p l.length c:=by
      rcases hv with ⟨_,rfl,hv⟩ | ⟨_,ad,c,hv,_⟩
      ·exact⟨_,_,hv⟩
      ·exact⟨_,_,hv⟩
     obtain⟨p,c,hv⟩:=this;simp [Builtin.len_,run_underlying hu,hv]
    ·simp only [aS]at hv;obtain⟨p,c,hv⟩:=Gh.jL hv fun _ _ ⟨_,_,_,_,_,q,_⟩=>⟨_,_,q⟩;simp [Builtin.len_,run_underlying hu,hv]
   ·simp only [o7]at hn;split at hn <;> (try cases hn)
    ·simp only [aS]at hv;simp [Builtin.len_,run_underlying hu,hv]
    ·rename_i ob;split at hn
     ·rename_i es c vX;simp only [aa]at hn; subst hn;obtain⟨b,ces,k1,one,hb,hM⟩:=hs.ok _ _ vX;simp only [aS,Gh.at,k1]at hv;obtain⟨b',jm,hv⟩:=hv;obtain rfl:=one.2 _ jm;have hl:=hM.length;simp [Builtin.len_,run_underlying hu,hv,getObj,Sem.run,hb,hl]
     ·cases hn
  ·cases h
 ·cases h
omit he hg hs in
theorem fX.of {sz b:Nat}(hz:0 < sz):∀(l:List D) (x:Nat),(∀(i:Nat) (e:D),l[i]? =some e->∃v,aS ρ w e v/\v.cells.size=sz/\cl w b (x+i * sz) v/\e.st=true)->fX ρ w sz b x l
 | [],_,_=>by simp [fX]
 | d::l,x,h=>by
  simp only [fX];obtain⟨v,h1,h2,h3,h4⟩:=h 0 d (by simp);refine⟨⟨v,h1,h2,hz,by simpa using h3,h4⟩,fX.of hz l (x+sz) fun i e hi=> ?_⟩;obtain⟨u,g1,g2,g3,g4⟩:=h (i+1) e (by simpa using hi);exact⟨u,g1,g2,by rwa [show x+(i+1) * sz=x+sz+i * sz by rw [bT]; omega]at g3,g4⟩
omit he hg in
theorem uk {x:D}{v:Value}{z:Nat}{l:List D}(h:items s x=some (z,l))(hv:aS ρ w x v):
  (l=[]/\∃p c,v= .slice p 0 c)\/∃b y c,v= .slice (some ⟨b,y,none⟩) l.length c/\fX ρ w z b y l:=by
 cases x <;> simp only [items]at h <;> (try cases h)
 case vs nl=>
  simp only [aS]at hv;rcases hv with ⟨_,rfl,rfl⟩ | ⟨_,ad,c,rfl,_,hl⟩
  ·exact .inl ⟨rfl,_,_,rfl⟩
  ·rcases hl with rfl | ⟨b,y,rfl,_,hE⟩
   ·exact .inl ⟨rfl,_,_,rfl⟩
   ·exact .inr ⟨b,y,c,rfl,hE⟩
 case sl o off len cp=>
  split at h
  ·rename_i sz ty es st hx;split at h
   ·rename_i h1 h2;simp only [aa,ab]at h;obtain⟨rfl,rfl⟩:=h;have g1:=ax h1;have g2:=ax h2;obtain⟨hz,k1,_,_,xh,dK⟩:=hs.ok _ _ hx;simp only [aS,Gh.at,k1]at hv;obtain⟨b,hb,q1,q2,q3,xx,cap,q4,q5,q6,q7⟩:=hv;have hlen:((es.drop off).take len).length=len:=by simp; omega
    by_cases Al:len=0
    ·subst Al;exact .inl ⟨by simp,_,_,q4⟩
    ·have PE:xx=(off - ρ.sh b) * sz:=by rcases q6 with q6 | q6 <;> omega
     refine .inr ⟨b,xx,cap,by rw [hlen]; exact q4,fX.of hz _ _ fun i e hi=> ?_⟩;rw [de]at hi;split at hi
     ·rw [cW]at hi;obtain⟨u,r1,r2,r3⟩:=(xh b hb).get (by omega) (by omega) (by omega) hi;refine⟨u,r1,r2, ?_,(oF dK hi).2⟩;rwa [show off+i - ρ.sh b=(off - ρ.sh b)+i by omega,bT,← PE]at r3
     ·cases hi
   ·cases h
  ·cases h
theorem JJ {t e:TypeId}{n m:Nat} {x' i' :Operand}{x i:bP}(hx:eK G x' =some x)(hi:eK G i' =some i)(hu:P.underlying t=some (.array n e))(fR:dM P e=some (m+1))
  (h:cB C env s al (.ry n (m+1) x i)=some (d,s')){o:Oper}(ho:o.op= .indexAddr t x' i'):fb P ρ w env a.tmps d s' ((execOp a.eval o).run P w):=by
 have key:∀k kk (q:Addr),a.eval i' = .int kk (k:Nat)->k < n->a.eval x' = .pointer (some q)->(execOp a.eval o).run P w= .ok (.value (.pointer (some (q.add (k * (m+1)))))) w:=by
  intro k kk q Fv dQ hv;simp only [execOp,ho,hv,Fv,Instr.indexAt,asIntOf,Instr.sureAddr];simp [run_underlying hu,fU fR,dQ]
 simp only [cB]at h;split at h
 ·rename_i b c k hp hn;split at h
  ·rename_i j hj;obtain⟨kk,Fv⟩:=hZ hj (aZ hi he hg hn);split at h
   ·rename_i hb na;simp only [aa,ab]at h;obtain⟨rfl,rfl⟩:=h;have dQ:j < n:=by have:=ax hb; omega
    obtain⟨y,hy⟩:=vF na;obtain⟨bb,h2,h3⟩:=lI hx he hg hp y hy;rw [key j kk _ Fv dQ h3,Addr.add_mid];exact .pure hs (by simp only [fq]; exact fun _ _=>⟨bb,h2,rfl⟩)
   ·cases h
  ·cases h
 ·rename_i b c k hp hn;split at h
  ·rename_i j hj;obtain⟨kk,Fv⟩:=hZ hj (aZ hi he hg hn);split at h
   ·rename_i hb;simp only [aa,ab]at h;obtain⟨rfl,rfl⟩:=h;have dQ:j < n:=by have:=ax hb; omega
    have h1:=lI hx he hg hp;simp only [fq,aS]at h1;unfold Gh.at at h1;split at h1
    ·exact h1.elim
    ·rename_i hk;obtain⟨q,hq⟩:=h1;rw [key j kk q Fv dQ hq];exact .rep hs (by simp only [aS,Gh.at,hk]; exact ⟨_,rfl⟩)
    ·rename_i sz hk;obtain⟨bb,h2,h3⟩:=h1;rw [key j kk _ Fv dQ h3,Addr.add_mid];exact .rep hs (by simp only [aS,Gh.at,hk]; exact ⟨bb,h2,rfl⟩)
   ·cases h
  ·cases h
 ·rename_i b i2 c z k hp hn;split at h
  ·rename_i j hj;obtain⟨kk,Fv⟩:=hZ hj (aZ hi he hg hn);split at h
   ·rename_i hb;simp only [aa,ab]at h;obtain⟨rfl,rfl⟩:=h;have dQ:j < n:=by have:=ax hb; omega
    have h1:=lI hx he hg hp;simp only [fq,aS]at h1;unfold Gh.at at h1;split at h1
    ·exact h1.elim
    ·rename_i hk;obtain⟨q,hq⟩:=h1;rw [key j kk q Fv dQ hq];exact .rep hs (by simp only [aS,Gh.at,hk]; exact ⟨_,rfl⟩)
    ·rename_i sz hk;obtain⟨bb,h2,h3,h4,h5,h6⟩:=h1;rw [key j kk _ Fv dQ h6,Addr.add_mid];exact .rep hs (by simp only [aS,Gh.at,hk]; exact ⟨bb,h2,h3,h4,h5,by rw [iF]⟩)
   ·cases h
  ·cases h
 ·rename_i e' c k hp hn;split at h
  ·rename_i j hj;obtain⟨kk,Fv⟩:=hZ hj (aZ hi he hg hn);split at h
   ·rename_i hb;simp only [aa,ab]at h;obtain⟨rfl,rfl⟩:=h;have dQ:j < n:=by have:=ax hb; omega
    have h1:=lI hx he hg hp;simp only [fq,aS]at h1;obtain⟨b,xx,u,q1,q2,q3,q4,q5⟩:=h1;rw [key j kk _ Fv dQ q5,Addr.add_mid];exact .rep hs (by simp only [aS]; exact ⟨b,xx,u,q1,q2,q3,q4,by rw [iF]⟩)
   ·cases h
  ·cases h
 ·cases h
theorem R5 {t e:TypeId}{n:Nat}{sz:Option Nat} {x' i' :Operand}{x i:bP}(hx:eK G x' =some x)(hi:eK G i' =some i)(hu:P.underlying t=some (.array n e))(gZ:iN P e=some sz)
  (h:cB C env s al (.Oe n (sz.getD 1) sz.isSome x i)=some (d,s')){o:Oper}(ho:o.op= .index t x' i'):fb P ρ w env a.tmps d s' ((execOp a.eval o).run P w):=by
 have fR:dM P e=some (sz.getD 1):=by
  unfold iN at gZ;split at gZ
  ·rename_i s' h1 h2; simp only [aa]at gZ; subst gZ; simpa using h2
  ·rename_i h1 h2; simp only [aa]at gZ; subst gZ; simpa using h2
  ·cases gZ
 simp only [cB]at h;split at h
 ·rename_i l k hp hn;split at h
  ·rename_i j hj;obtain⟨kk,Fv⟩:=hZ hj (aZ hi he hg hn);split at h
   ·rename_i hb;obtain⟨h1,rfl⟩:=jy h;have dQ:j < n:=by have:=ax hb; omega
    have hv:=aZ hx he hg hp;simp only [aS]at hv;obtain⟨vs,hv,hl,HY⟩:=hv;have G4 :part l (j * sz.getD 1) sz=some d:=by
     cases sz <;> simpa using h1
    obtain⟨u,r1,r2⟩:=qm (P:=P) hl HY gZ G4;have hr:(execOp a.eval o).run P w= .ok (.value u) w:=by
     simp only [execOp,ho,hv,Fv,Instr.index,asIntOf];simp [run_underlying hu,fU fR,dQ,r1]
    rw [hr]; exact .rep hs r2
   ·cases h
  ·cases h
 ·cases h
end
end Go.Ab
namespace Go.Ab
open Go
variable [eW]
variable {ρ:Gh}{w:World}{P:Program}{G:Gl}{X:iJ}{A:nJ} {s s' :St}{env:Env}{a:Act}{lo:Nat}{d:D}{C:au}{al:Option Nat}
theorem wO {em:Bool}{n:Nat}{xs:Array Value}{lx:List D}{f:TypeId->Option ET}(hx:br ρ w lx xs.toList)(QN:lx.all D.sc=true)
  (ih:∀t e,f t=some e->∀x u,oN e x=true->aS ρ w x u->(Instr.checkKey em n t u).run P w= .ok () w):
  ∀(fs:List Field) (l:VC),sP.fieldsB P f fs=some l->IB l lx=true->
   ((forIn fs PUnit.unit fun f _=>do
     if f.name ≠ "_" then do
      let v ← Go.part f.type xs f.offset
      Instr.checkKey em n f.type v
      pure (ForInStep.yield PUnit.unit)
     else pure (ForInStep.yield PUnit.unit):Sem PUnit)).run P w= .ok PUnit.unit w
 | [],_,_,_=>by simp
 | x::fs,l,h,hk=>by
  simp only [sP.fieldsB]at h;split at h
  ·cases h
  ·rename_i hn;split at h
   ·rename_i s e l' h1 h2 h3;simp only [aa]at h; subst h;simp only [IB]at hk;split at hk
    ·rename_i p hp;simp only [aA]at hk;obtain⟨u,hu1,hu2⟩:=qm (P:=P) hx QN h1 hp;have cC : x.name ≠ "_" := by simpa using hn
     have hi:=ih x.type e h2 p u hk.1 hu2;have Ih:=wO hx QN ih fs l' h3 hk.2;simp only [List.forIn_cons,cC,ne_eq,dD,ep,Sem.run_bind,hu1,hi,Result.andThen_ok,Sem.run_pure];exact Ih
    ·cases hk
   ·cases h
theorem pM (em:Bool):∀(n:Nat) (t:TypeId) (et:ET),sP P n t=some et->∀(k:Nat),n<=k->∀(x:D) (u:Value),oN et x=true->aS ρ w x u->(Instr.checkKey em k t u).run P w= .ok () w:=by
 intro n;induction n with
 | zero=>intro t et h; simp [sP]at h
 | succ n ih=>
  intro t et h k Tf x u CQ hu;obtain⟨k,rfl⟩:∃j,k=j+1:=⟨k - 1,by omega⟩;simp only [sP]at h;split at h
  ·rename_i qv;simp only [aa]at h; subst h;simp only [oN]at CQ;split at CQ <;> (try cases CQ)
   ·simp only [aS]at hu; subst hu;simp [Instr.checkKey,run_underlying qv]
   ·simp only [aS]at hu; subst hu;simp [Instr.checkKey,run_underlying qv]
  ·rename_i kk qv;simp only [aa]at h; subst h;simp only [oN]at CQ;split at CQ <;> (try cases CQ)
   ·simp only [aS]at hu; subst hu;simp [Instr.checkKey,run_underlying qv]
   ·simp only [aS]at hu; obtain ⟨rfl,_⟩:=hu;simp [Instr.checkKey,run_underlying qv]
  ·rename_i qv;simp only [aa]at h; subst h;simp only [oN]at CQ;split at CQ <;> (try cases CQ)
   ·simp only [aS]at hu; subst hu;simp [Instr.checkKey,run_underlying qv]
   ·simp only [aS]at hu; obtain ⟨rfl,_⟩:=hu;simp [Instr.checkKey,run_underlying qv]
  ·split at h <;> simp at h; subst h; simp [oN]at CQ
  ·simp only [aa]at h; subst h; simp [oN]at CQ
  ·simp only [aa]at h; subst h; simp [oN]at CQ
  ·simp only [aa]at h; subst h; simp [oN]at CQ
  ·simp only [aa]at h; subst h; simp [oN]at CQ
  ·rename_i fs qv;split at h
   ·cases h
   ·simp only [aY]at h;obtain⟨l,hl,rfl⟩:=h;simp only [oN]at CQ;split at CQ
    ·simp only [aS]at hu;obtain⟨xs,rfl,vG,vX⟩:=hu;simp only [Instr.checkKey,Sem.run_bind,run_underlying qv,Result.andThen_ok];rw [← Array.forIn_toList];have:=wO (P:=P) (w:=w) (ρ:=ρ) (em:=em) (n:=k) vG vX (fun t' e' h' x' u' hh tz =>ih t' e' h' k (by omega) x' u' hh tz) fs.toList l hl CQ;rw [this]; rfl
    ·cases CQ
  ·cases h
def Found (ρ:Gh)(w:World):Option (Nat×D)->Option (Nat×Value)->Prop
 | none,r=>r=none
 | some (i,d),r=>∃v,r=some (i,v)/\aS ρ w d v
theorem Gf {t:TypeId}{e:TypeDesc}{et:ET}{x y:D}{u v:Value} {r r' :Bool}(hu:P.underlying t=some e)(het:sP P 8 t=some et)(h:tq false et x y=some r) (h' :Instr.sameNow e u v=some r')(hx:aS ρ w x u)(hy:aS ρ w y v):r' =r:=by
 simp only [sP,hu]at het;cases e <;> simp only [Instr.sameNow]at h' <;> (try cases h')
 ·simp only [aa]at het; subst het;simp only [tq]at h;obtain⟨p,q,rfl,rfl,rfl⟩:=vB h hx hy;simp only [aa]at h'; exact h'.symm
 ·simp only [aa]at het; subst het;simp only [tq]at h;obtain⟨k,p,q,rfl,rfl,rfl⟩:=yF h hx hy;simp only [ep,aa]at h'; exact h'.symm
 ·simp only [aa]at het; subst het;simp only [tq]at h;obtain⟨p,q,rfl,rfl,rfl⟩:=zn h hx hy;simp only [aa]at h';rw [← h',beq_toListBytes,ByteArray.toList_eq,ByteArray.toList_eq]
theorem za {t:TypeId}{e:TypeDesc}{et:ET}{k:D}{u:Value}(hu:P.underlying t=some e)(het:sP P 8 t=some et)(hk:aS ρ w k u):
  ∀(es:List (Nat×D×D)) (ces:List MapEntry) (i:Nat) (r:Option (Nat×D)) (r' :Option (Nat×Value)),fO ρ w es ces->findKey et k es i=some r->Instr.findNow e u ces i=some r' ->Found ρ w r r'
 | [],_,i,r,r',hM,h,h' =>by
  simp only [fO]at hM; subst hM;simp only [findKey,aa]at h; subst h;simp only [Instr.findNow,aa]at h'; subst h';rfl
 | (n,k',v)::es,_,i,r,r',hM,h,h' =>by
  simp only [fO]at hM;obtain⟨c,cs,rfl,_,h1,h2,h3⟩:=hM;simp only [findKey]at h;simp only [Instr.findNow]at h';cases hs:Instr.sameNow e u c.key with
  | none=>simp [hs]at h'
  | some b' =>
   cases hq:tq false et k k' with
   | none=>simp [hq]at h
   | some b=>
    have hb:=Gf (P:=P) hu het hq hs hk h1;subst hb;cases b'
    ·simp only [hq]at h;simp only [hs]at h';exact za hu het hk es cs (i+1) r r' h3 h h'
    ·simp only [hq,aa]at h;simp only [hs,aa]at h';subst h h';exact⟨_,rfl,h2⟩
theorem th {t:TypeId}{et:ET}{k:D}{u:Value}(het:sP P 8 t=some et)(hk:aS ρ w k u):
  ∀(es:List (Nat×D×D)) (ces:List MapEntry) (i:Nat) (r:Option (Nat×D)),fO ρ w es ces->findKey et k es i=some r->∃r',(Instr.findAsking t u ces i).run P w= .ok r' w/\Found ρ w r r'
 | [],_,i,r,hM,h=>by
  simp only [fO]at hM; subst hM;simp only [findKey,aa]at h; subst h;exact⟨none,by simp [Instr.findAsking],rfl⟩
 | (n,k',v)::es,_,i,r,hM,h=>by
  simp only [fO]at hM;obtain⟨c,cs,rfl,_,h1,h2,h3⟩:=hM;simp only [findKey]at h;cases hq:tq false et k k' with
  | none=>simp [hq]at h
  | some b=>
   have he:(Op.equal t u c.key).run P w= .ok b w:=NK false 8 t et het Op.maxDepth (by decide) k k' b _ _ hq hk h1;cases b
   ·simp only [hq]at h;obtain⟨r',g1,g2⟩:=th het hk es cs (i+1) r h3 h;exact⟨r',by simp [Instr.findAsking,he,g1],g2⟩
   ·simp only [hq,aa]at h; subst h;exact⟨some (i,c.val),by simp [Instr.findAsking,he],_,rfl,h2⟩
theorem lL {t:TypeId}{et:ET}{k:D}{u:Value}(het:sP P 8 t=some et)(hk:aS ρ w k u){es:List (Nat×D×D)}{ces:List MapEntry}{r:Option (Nat×D)}(hM:fO ρ w es ces)(h:findKey et k es 0=some r):
  ∃r',(Instr.findKey t u ces).run P w= .ok r' w/\Found ρ w r r' :=by
 cases hu:P.underlying t with
 | none=>simp [sP,hu]at het
 | some e=>
  simp only [Instr.findKey,Sem.run_bind,run_underlying hu,Result.andThen_ok];cases hn:Instr.findNow e u ces 0 with
  | some r' =>exact ⟨r',by simp,za hu het hk es ces 0 r r' hM h hn⟩
  | none=>
   obtain⟨r',g1,g2⟩:=th (P:=P) het hk es ces 0 r hM h;exact⟨r',by simpa using g1,g2⟩
end Go.Ab
namespace Go.Ab
open Go
variable [eW]
variable {ρ:Gh}{w:World}{P:Program}{pn:iO}{G:Gl}{X:iJ}{A:nJ} {s s' :St}{env:Env}{a:Act}{lo:Nat}{d:D}{C:au}{al:Option Nat}
theorem kz {t:TypeId}{z:D}(h:jI P t=some z):∃v,(zeroValue t).run P w= .ok v w/\wK v=some z/\(P.info? t).bind (·.zero)=some v:=by
 unfold jI at h;simp only [aj]at h;obtain⟨v,⟨i,h1,h2⟩,h3⟩:=h;exact⟨v,by simp [zeroValue,typeInfo,h1,h2],h3,by simp [h1,h2]⟩
theorem vn {t e:TypeId}{sz:Nat}{p:Option Addr}{len cap y z M:Nat} {lo' hi' mx' :Option Value}(hu:P.underlying t=some (.slice e))(fR:dM P e=some sz)
  (XN:y<=z)(hzM:z<=M)(hM:M<=cap)
  (bm:(mx' =none/\M=cap)\/(hi'.isSome=true/\∃v,mx' =some v/\∀code m,M<=m->(Instr.sliceBound v m code).run P w= .ok M w))
  (bh:(hi' =none/\z=len)\/(∃v,hi' =some v/\∀code m,z<=m->(Instr.sliceBound v m code).run P w= .ok z w))
  (bl:(lo' =none/\y=0)\/(∃v,lo' =some v/\∀code m,y<=m->(Instr.sliceBound v m code).run P w= .ok y w)):
  (Instr.sliceAt t (.slice p len cap) lo' hi' mx').run P w= .ok (.slice (if M=y then p else p.map (·.add (y * sz))) (z - y) (M - y)) w:=by
 have e1:(Instr.sliceBounds true len cap lo' hi' mx').run P w= .ok (y,z,M) w:=by
  unfold Instr.sliceBounds;rcases bm with ⟨rfl,rfl⟩ | ⟨hh,v1,rfl,b1⟩
  ·rcases bh with ⟨rfl,rfl⟩ | ⟨v2,rfl,b2⟩ <;> rcases bl with ⟨rfl,rfl⟩ | ⟨v3,rfl,b3⟩
   ·simp
   ·simp [b3 _ _ XN]
   ·simp [b2 _ _ hzM]
   ·simp [b2 _ _ hzM,b3 _ _ XN]
  ·rcases bh with ⟨rfl,rfl⟩ | ⟨v2,rfl,b2⟩
   ·simp at hh
   ·rcases bl with ⟨rfl,rfl⟩ | ⟨v3,rfl,b3⟩
    ·simp [b1 _ _ hM,b2 _ _ hzM]
    ·simp [b1 _ _ hM,b2 _ _ hzM,b3 _ _ XN]
 simp only [Instr.sliceAt,Sem.run_bind,run_underlying hu,Result.andThen_ok,Instr.slice,e1,fU fR,Sem.run_pure]
theorem vW {x:Option Value}{r:Option D}{k y:Nat}(hr:(r=none/\x=none)\/(∃d v,r=some d/\x=some v/\aS ρ w d v))(hi:mq k r=some y):
  (r=none/\x=none/\y=k)\/(r.isSome=true/\∃v,x=some v/\∀code m,y<=m->(Instr.sliceBound v m code).run P w= .ok y w):=by
 rcases hr with ⟨rfl,rfl⟩ | ⟨d,v,rfl,rfl,h⟩
 ·simp only [mq,aa]at hi; exact .inl ⟨rfl,rfl,hi.symm⟩
 ·simp only [mq]at hi;obtain⟨kk,rfl⟩:=hZ hi h;refine .inr ⟨rfl,_,rfl,fun code m hm=> ?_⟩;have:(0:Int)<=(y:Int)/\(y:Int)<=(m:Int):=by omega
  simp [Instr.sliceBound,asIntOf,this]
section
variable (he:eu ρ w lo env a.tmps)(hg:gF pn G ρ w)(hs:bZ ρ s w)
include he hg hs
theorem WY {t e:TypeId}{m:Nat} {x' :Operand}{x:bP} {lo' hi' mx' :Option Operand}{l0 h0 m0:Option bP}(hx:eK G x' =some x)(hl:sQ G lo' =some l0)(hh:sQ G hi' =some h0)(hm:sQ G mx' =some m0)
  (hu:P.underlying t=some (.slice e))(fR:dM P e=some (m+1))(hmh:mx'.isSome=true->hi'.isSome=true)
  (h:cB C env s al (.H8 (m+1) x l0 h0 m0)=some (d,s')){o:Oper}(ho:o.op= .slice t x' lo' hi' mx'):fb P ρ w env a.tmps d s' ((execOp a.eval o).run P w):=by
 simp only [cB]at h;split at h
 ·rename_i p ra rb rc hp hra hrb hrc;split at h
  ·rename_i y z M hy hz hM;split at h
   ·rename_i zz l hit;split at h
    ·rename_i Gd;obtain⟨h1,rfl⟩:=jy h;have hv:=aZ hx he hg hp;have bl:=vW (P:=P) (uK he hg hl hra) hy;have bh:=vW (P:=P) (uK he hg hh hrb) hz;have bm:=vW (P:=P) (uK he hg hm hrc) hM;have fin:∀v,(Instr.sliceAt t (a.eval x') (lo'.map a.eval) (hi'.map a.eval) (mx'.map a.eval)).run P w= .ok v w->(execOp a.eval o).run P w= .ok (.value v) w:=by
      intro v hv;simp only [execOp,ho];rw [Sem.run_bind,hv]; rfl
     have bl' :(lo'.map a.eval=none/\y=0)\/(∃v,lo'.map a.eval=some v/\∀code m,y<=m->(Instr.sliceBound v m code).run P w= .ok y w):=by
      rcases bl with ⟨_,h1,h2⟩ | ⟨_,h1⟩
      ·exact .inl ⟨h1,h2⟩
      ·exact .inr h1
     cases p with
     | vs nl zz' l' =>
      simp only [items,aa,ab]at hit;obtain⟨hzz,tV⟩:=hit;subst zz' l';simp only [u7]at h1;split at h1
      ·rename_i c1 c2 c3;simp only [aa]at h1; subst h1;have c1:=ax c1;have c2:=ax c2;have c3:=ax c3;simp only [aS]at hv;have MW :∀len,len=l.length->(hi'.map a.eval=none/\Option.getD (gu rb z) l.length=len)\/(∃v,hi'.map a.eval=some v/\∀code m,Option.getD (gu rb z) l.length<=m->(Instr.sliceBound v m code).run P w= .ok (Option.getD (gu rb z) l.length) w):=by
        intro len hlen;rcases bh with ⟨rfl,g1,g2⟩ | ⟨g0,v,g1,g2⟩
        ·exact .inl ⟨g1,by simp [gu,hlen]⟩
        ·cases rb with
         | none=>simp at g0
         | some q=>exact .inr ⟨v,g1,by simpa [gu] using g2⟩
       generalize Option.getD (gu rb z) l.length=Z at *;have hM' :∀cap,l.length<=cap->∃MM,Z<=MM/\MM<=cap/\((mx'.map a.eval=none/\MM=cap)\/((hi'.map a.eval).isSome=true/\∃v,mx'.map a.eval=some v/\∀code m,MM<=m->(Instr.sliceBound v m code).run P w= .ok MM w)):=by
        intro cap p9;rcases bm with ⟨rfl,g1,g2⟩ | ⟨g0,v,g1,g2⟩
        ·exact⟨cap,by simp [gu]at c2 c3; omega,an _,.inl ⟨g1,rfl⟩⟩
        ·cases rc with
         | none=>simp at g0
         | some q=>
          simp only [gu,eQ]at c2 c3;refine⟨M,c2,by omega,.inr ⟨?_,v,g1,g2⟩⟩;have:mx'.isSome=true:=by cases mx' <;> simp_all
          have:=hmh this;cases hi' <;> simp_all
       rcases hv with ⟨rfl,rfl,hv⟩ | ⟨rfl,ad,cap,hv,hle,Ae⟩
       ·obtain⟨MM,m1,m2,m3⟩:=hM' 0 (by simp);have hr:=vn (P:=P) (w:=w) (p:=none) (len:=0) (cap:=0) hu fR c1 m1 m2 m3 (MW 0 (by simp)) bl';rw [fin _ (by rw [hv]; exact hr)];refine .rep hs ?_;simp only [aS];refine .inl ⟨trivial,by simp, ?_⟩;have:MM=0:=by omega
        subst this;have:Z=0:=by omega
        subst this;simp
       ·obtain⟨MM,m1,m2,m3⟩:=hM' cap hle;have hr:=vn (P:=P) (w:=w) (p:=some ad) (len:=l.length) (cap:=cap) hu fR c1 m1 m2 m3 (MW _ rfl) bl';rw [fin _ (by rw [hv]; exact hr)];refine .rep hs ?_;have hZl:Z<=l.length:=by
         rcases bm with ⟨rfl,_,_⟩ | ⟨g0,v,_,_⟩
         ·simpa [gu] using c2
         ·omega
        have hlen:((l.take Z).drop y).length=Z - y:=by simp; omega
        simp only [aS];refine .inr ⟨trivial, ?_⟩;by_cases Y7:MM=y
        ·refine⟨ad,MM - y,by rw [bJ Y7,hlen],by rw [hlen]; omega,.inl ?_⟩;exact ef (by rw [hlen]; omega)
        ·refine⟨ad.add (y * (m+1)),MM - y, ?_,by rw [hlen]; omega, ?_⟩
         ·rw [aJ Y7,hlen]; first | rfl | simp
         ·rcases Ae with rfl | ⟨b,q,rfl,hb,hE⟩
          ·exact .inl (by simp)
          ·by_cases hzz:l=[]
           ·subst hzz; exact .inl (by simp)
           ·have XT:zz=m+1:=by
             simp only [eC]at Gd;rcases Gd with Gd | Gd
             ·exact aF Gd
             ·split at Gd <;> simp_all
            subst XT;exact .inr ⟨b,q+y * (m+1),by simp [Addr.add_mid],hb,(hE.take Z).drop y⟩
      ·cases h1
     | sl ob off len cp=>
      simp only [items]at hit;split at hit
      ·rename_i z2 ty es st vX;split at hit
       ·rename_i i1 i2;simp only [aa,ab]at hit;obtain⟨rfl,rfl⟩:=hit;obtain⟨hz0,k1,_,_,xh,dK⟩:=hs.ok _ _ vX;simp only [aS,Gh.at,k1]at hv;obtain⟨b,hb,q1,q2,q3,xx,cap,q4,q5,q6,q7⟩:=hv;simp only [u7]at h1;have MW :(hi'.map a.eval=none/\Option.getD (gu rb z) len=len)\/(∃v,hi'.map a.eval=some v/\∀code m,Option.getD (gu rb z) len<=m->(Instr.sliceBound v m code).run P w= .ok (Option.getD (gu rb z) len) w):=by
         rcases bh with ⟨rfl,g1,g2⟩ | ⟨g0,v,g1,g2⟩
         ·exact .inl ⟨g1,by simp [gu]⟩
         ·cases rb with
          | none=>simp at g0
          | some q=>exact .inr ⟨v,g1,by simpa [gu] using g2⟩
        generalize Option.getD (gu rb z) len=Z at *
        have key:∀MM,y<=Z->Z<=MM->MM<=cap->((mx'.map a.eval=none/\MM=cap)\/((hi'.map a.eval).isSome=true/\∃v,mx'.map a.eval=some v/\∀code m,MM<=m->(Instr.sliceBound v m code).run P w= .ok MM w))->
          ∀cp',Z<=cp' ->cp' <=MM->cp' <=cp->z2=m+1->fb P ρ w env a.tmps (.sl ob (off+y) (Z - y) (cp' - y)) s' ((execOp a.eval o).run P w):=by
         intro MM hyZ hZM hMc hm3 cp' g1 g2 g3 XT;subst XT;have hr:=vn (P:=P) (w:=w) (p:=some ⟨b,xx,none⟩) (len:=len) (cap:=cap) hu fR hyZ hZM hMc hm3 MW bl';rw [fin _ (by rw [q4]; exact hr)];refine .rep hs ?_;simp only [aS,Gh.at,k1];by_cases Y7:MM=y
         ·refine⟨b,hb,by omega,by omega,by omega,xx,MM - y,by rw [bJ Y7],by omega,.inl (by omega),by omega⟩
         ·refine⟨b,hb,by omega,by omega,by omega,xx+y * (m+1),MM - y, ?_,by omega,.inr ?_,by omega⟩
          ·rw [aJ Y7]; simp [Addr.add_mid]
          ·rcases q6 with q6 | q6
           ·omega
           ·rw [q6,show off+y - ρ.sh b=(off - ρ.sh b)+y by omega,bT]
        have XT:z2=m+1:=by
         simp only [eC]at Gd;rcases Gd with Gd | Gd
         ·exact aF Gd
         ·simp at Gd
        rcases bm with ⟨rfl,g1,g2⟩ | ⟨g0,v,g1,g2⟩
        ·simp only [gu]at h1;split at h1
         ·rename_i c1 c2;simp only [aa]at h1; subst h1;have c1:=ax c1;have c2:=ax c2;exact key cap c1 (by omega) (an _) (.inl ⟨g1,rfl⟩) cp c2 q5 (an _) XT
         ·cases h1
        ·cases rc with
         | none=>simp at g0
         | some q=>
          simp only [gu]at h1;split at h1
          ·rename_i c1 c2 c3;simp only [aa]at h1; subst h1;have c1:=ax c1;have c2:=ax c2;have c3:=ax c3;have hmi:(hi'.map a.eval).isSome=true:=by
            have:mx'.isSome=true:=by cases mx' <;> simp_all
            have:=hmh this;cases hi' <;> simp_all
           exact key M c1 c2 (by omega) (.inr ⟨hmi,v,g1,g2⟩) M c2 (an _) c3 XT
          ·cases h1
       ·cases hit
      ·cases hit
     | _=>simp [items]at hit
    ·cases h
   ·cases h
  ·cases h
 ·cases h
end
end Go.Ab
