/- Part. -/
import Derived.Test.YtjaldhgmboeffaaGreatDoorG04
set_option linter.unusedSectionVars false
namespace Go.Ab
open Go
variable [eV]
variable {ρ:Gh}{w:World}{P:Program}{pn:jn}{G:Gl}{X:iw}{A:nA} {s s' :St}{env:Env}{a:Act}{lo:Nat}{d:D}{C:ay}{al:Option Nat}
theorem gy.get {sz b:Nat}:∀ {l:List D} {x i:Nat} {e:D},gy ρ w sz b x l->l[i]? =some e->∃v,aU ρ w e v/\v.cells.size=sz/\0 < sz/\cr w b (x+i * sz) v/\e.st=true
 | [],_,i,e,_,h=>by simp at h
 | d::l,x,0,e,h,hi=>by
  simp only [gy]at h;simp at hi; subst hi;simpa using h.1
 | d::l,x,i+1,e,h,hi=>by
  simp only [gy]at h;simp at hi;have:=gy.get h.2 hi;rwa [show x+(i+1) * sz=x+sz+i * sz by rw [bS]; omega]
theorem gy.take {sz b:Nat}:∀ {l:List D} {x:Nat} (n:Nat),gy ρ w sz b x l->gy ρ w sz b x (l.take n)
 | [],_,n,h=>by simp [gy]
 | d::l,x,0,h=>by simp [gy]
 | d::l,x,n+1,h=>by
  simp only [gy,gD]at *;exact⟨h.1,gy.take n h.2⟩
theorem gy.drop {sz b:Nat}:∀ {l:List D} {x:Nat} (n:Nat),gy ρ w sz b x l->gy ρ w sz b (x+n * sz) (l.drop n)
 | [],_,n,h=>by simp [gy]
 | d::l,x,0,h=>by simpa using h
 | d::l,x,n+1,h=>by
  simp only [gy,nY]at *;have:=gy.drop n h.2;rwa [show x+(n+1) * sz=x+sz+n * sz by rw [bS]; omega]
theorem sC.get {sz ty b st i:Nat}{es:List D}{e:D}(h:sC ρ w sz ty es st b)(dN:st<=ρ.ext b)(h1:ρ.sh b<=i)(h2:i < ρ.ext b)(hi:es[i]? =some e):
  ∃v,aU ρ w e v/\v.cells.size=sz/\cr w b ((i - ρ.sh b) * sz) v:=h.elems dN i e h1 h2 hi
theorem oH {sz:Nat}:∀ {es:List D} {i:Nat} {e:D},eI sz es=true->es[i]? =some e->e.flat.length=sz/\e.st=true
 | [],i,e,_,h=>by simp at h
 | d::l,0,e,h,hi=>by
  simp at hi; subst hi;simp only [eI,aB]at h;exact⟨aD h.1.1,h.1.2⟩
 | d::l,i+1,e,h,hi=>by
  simp at hi;simp only [eI,aB]at h;exact oH h.2 hi
theorem Bs {t:TypeId}{sz:Option Nat}{p d:D}{v:Value}(hs:ck ρ s w)(gX:iL P t=some sz)(h:iP s sz p=some d)(hv:aU ρ w p v):
  ∃u,(Instr.loadAt t v).run P w= .ok u w/\aU ρ w d u:=by
 have fin:∀ {b x c:Nat} {e:D} {q:Value},aU ρ w e q->e.st=true->w.rangeAt b x q.cells.toList->part e.flat c sz=some d->v= .pointer (some ⟨b,x+c,none⟩)->∃u,(Instr.loadAt t v).run P w= .ok u w/\aU ρ w d u:=by
  intro b x c e q he dN hr hp aa3;subst aa3;obtain⟨hf,_⟩:=he.flat dN;have h1:=rJ hf (D.na dN) hp;have h2:=run_load (P:=P) (c:=c) hr gX;cases sz with
  | some n=>
   obtain⟨h3,h4⟩:=h1;exact⟨_,h2 h3,h4⟩
  | none=>
   obtain⟨u,h3,h4,_⟩:=h1;exact⟨u,h2 u h3,h4⟩
 cases p <;> simp only [iP]at h <;> (try cases h)
 case ptr o c=>
  split at h
  ·rename_i ty e hx;obtain⟨b,q,k1,one,h2,h3,_,h5⟩:=hs.ok _ _ hx;simp only [aU,Gh.at,k1]at hv;obtain⟨b',jl,rfl⟩:=hv;obtain rfl:=one.2 _ jl;exact fin h2 h5 (rangeAt_of_block h3) h (by simp)
  ·cases h
 case jI o i c e=>
  split at h
  ·rename_i z ty es st hx;split at h
   ·rename_i Lj;split at h
    ·rename_i el Lf;obtain⟨hz,k1,_,_,wU,dQ⟩:=hs.ok _ _ hx;simp only [aU,Gh.at,k1]at hv;obtain⟨b,hb,q1,q2,q3,q4⟩:=hv;have dN:=az Lj;obtain⟨q,r1,r2,r3⟩:=(wU b hb).get (by omega) q1 (by omega) Lf;exact fin r1 (oH dQ Lf).2 (mJ r3) h q4
    ·cases h
   ·cases h
  ·cases h
 case jD e c=>
  simp only [aU]at hv;obtain⟨b,x,q,q1,q2,q3,q4,q5⟩:=hv;exact fin q2 q4.2 (mJ q3) h q5
section
variable (he:ew ρ w lo env a.tmps)(hg:gN pn G ρ w)(hs:ck ρ s w)
include he hg hs
theorem Qt {t:TypeId}{sz:Option Nat} {x' :Operand}{x:bP}(hx:eO G x' =some x)(gX:iL P t=some sz)(h:cC C env s al (.load sz x)=some (d,s')){o:Oper}(ho:o.op= .load t x'):
  fc P ρ w env a.tmps d s' ((execOp a.eval o).run P w):=by
 simp only [cC]at h;split at h
 ·rename_i p hp;obtain⟨h1,rfl⟩:=jt h;obtain⟨u,h2,h3⟩:=Bs (P:=P) hs gX h1 (ba hx he hg hp);have hr:(execOp a.eval o).run P w= .ok (.value u) w:=by
   simp only [execOp,ho]; rw [Sem.run_bind,h2]; rfl
  rw [hr]; exact .rep hs h3
 ·cases h
theorem Qd {t u e:TypeId}{n:Nat} {x' :Operand}{x:bP}(hx:eO G x' =some x)(ht:P.underlying t=some (.pointer e))(hu:P.underlying u=some .unsafePointer)(hn:dO P e=some (n+1))(h:cC C env s al (.DA x)=some (d,s')){o:Oper}(ho:o.op= .convert t u x'):
  fc P ρ w env a.tmps d s' ((execOp a.eval o).run P w):=by
 simp only [cC]at h;split at h
 ·rename_i k c hp;split at h
  ·rename_i ty v hv;split at h
   ·rename_i dM;simp only [aa,ae]at h;obtain⟨rfl,rfl⟩:=h;have h1:=ba hx he hg hp;have h2:=h1;obtain⟨b,q,g1,g2,g3,g4,g5,g6⟩:=hs.ok _ _ hv;simp only [aU,Gh.at,g1]at h1;obtain⟨b',h1,h3⟩:=h1;obtain rfl:=g2.2 b' h1;have hc:c < q.cells.size:=by rw [g3.size g6]; exact az dM
    have hr:(execOp a.eval o).run P w= .ok (.value (a.eval x')) w:=by
     simp only [execOp,ho,h3,convert]
     have gX:∀ {α:Type} (f:Option (TypeId×Nat)->Sem α),(Sem.shape b' f).run P w=(f (some (ty,q.cells.size))).run P w:=fun f=>by
      simp [Sem.run,World.shape?,g4]
     simp [run_underlying ht,run_underlying hu,Conv.unsafePointer,Conv.seenAt,viewAt,cellsIn,shape,getObj,gX];have fS:(sizeOf e).run P w= .ok (n+1) w:=by
      exact fT hn
     rw [fS];simp only [Result.andThen];rw [aK (by omega)]
    rw [hr]; exact .rep hs h2
   ·cases h
  ·cases h
 ·cases h
theorem Mf {t:TypeId}{r:Nat}{sz:Option Nat} {x' :Operand}{x:bP}(hx:eO G x' =some x)(gX:iL P t=some sz)(h:cC C env s al (.sP r sz x)=some (d,s')){o:Oper}(ho:o.op= .load t x'):
  fc P ρ w env a.tmps d s' ((execOp a.eval o).run P w):=by
 simp only [cC]at h;split at h
 ·rename_i r' c hp;split at h
  ·rename_i e hb nD;obtain rfl:=aD hb;obtain⟨h1,rfl⟩:=jt h;obtain⟨b,h2,h3⟩:=lL hx he hg hp e nD;have sO:=he.slot _ _ nD;simp only [er]at sO;obtain⟨b',q,el,q1,q2,q3,q4,q5,q6⟩:=sO;have lT:b=b' :=by
    have:=h2.symm.trans q1;simpa using this
   subst lT;obtain⟨hf,_⟩:=q4.flat q6;have g1:=rJ hf (D.na q6) h1;have g2:=run_load (P:=P) (c:=c) (rangeAt_of_block q5) gX;simp only [aN]at g2;have fin:∀u,(Instr.loadAt t (a.eval x')).run P w= .ok u w->(execOp a.eval o).run P w= .ok (.value u) w:=by
    intro u hu;simp only [execOp,ho]; rw [Sem.run_bind,hu]; rfl
   cases sz with
   | some n=>
    obtain⟨g3,g4⟩:=g1;rw [fin _ (by rw [h3]; exact g2 g3)]; exact .rep hs g4
   | none=>
    obtain⟨u,g3,g4,_⟩:=g1;rw [fin _ (by rw [h3]; exact g2 u g3)]; exact .rep hs g4
  ·cases h
 ·cases h
theorem NA {t e:TypeId}{m:Nat} {x' i' :Operand}{x i:bP}(hx:eO G x' =some x)(hi:eO G i' =some i)(hu:P.underlying t=some (.slice e))(fS:dO P e=some (m+1))
  (h:cC C env s al (.jY (m+1) x i)=some (d,s')){o:Oper}(ho:o.op= .indexAddr t x' i'):fc P ρ w env a.tmps d s' ((execOp a.eval o).run P w):=by
 simp only [cC]at h;split at h
 ·rename_i p n hp hn;split at h
  ·rename_i k hk;obtain⟨h1,rfl⟩:=jt h;have hv:=ba hx he hg hp;obtain⟨kk,hnv⟩:=gY hk (ba hi he hg hn);have run:∀b y len cap,a.eval x' = .slice (some ⟨b,y,none⟩) len cap->k < len->(execOp a.eval o).run P w= .ok (.value (.pointer (some ⟨b,y+k * (m+1),none⟩))) w:=by
    intro b y len cap sO dM;have hh:(0:Int)<=(k:Int)/\(k:Int) < (len:Int):=by omega
    simp only [execOp,ho,Instr.indexAt,sO,hnv,asIntOf];simp [run_underlying hu,fT fS,Addr.add_mid,dM]
   unfold ke at h1;split at h1
   ·rename_i nl z l;split at h1
    ·rename_i hz;obtain rfl:=aD hz;split at h1
     ·rename_i el Lf;simp only [aa]at h1; subst h1;simp only [aU]at hv;rcases hv with ⟨_,rfl,_⟩ | ⟨_,ad,cap,hv,hle,hl⟩
      ·simp at Lf
      ·rcases hl with rfl | ⟨b,y,rfl,hb,hE⟩
       ·simp at Lf
       ·obtain⟨q,r1,r2,r3,r4,r5⟩:=hE.get Lf;have dM:k < l.length:=(aj.1 Lf).1;rw [run b y _ cap hv dM];exact .rep hs (by simp only [aU]; exact ⟨b,_,q,hb,r1,r4,⟨by omega,r5⟩,rfl⟩)
     ·cases h1
    ·cases h1
   ·rename_i ob off len cp;split at h1
    ·rename_i z ty es st vQ;split at h1
     ·rename_i z1 z2 z3 z4;simp only [aa]at h1; subst h1;obtain rfl:=aD z1;have y2:k < len:=by have:=az z2; omega
      obtain⟨hz,k1,_,_,wU,dQ⟩:=hs.ok _ _ vQ;simp only [aU,Gh.at,k1]at hv;obtain⟨b,hb,q1,q2,q3,xx,cap,q4,q5,q6,q7⟩:=hv;rw [run b xx len cap q4 y2];refine .rep hs ?_;simp only [aU,Gh.at,k1];refine⟨b,hb,by omega,by omega,by omega, ?_⟩;have PH:xx=(off - ρ.sh b) * (m+1):=by rcases q6 with q6 | q6 <;> omega
      rw [PH,show off+k - ρ.sh b=(off - ρ.sh b)+k by omega,bS];rfl
     ·cases h1
    ·cases h1
   ·cases h1
  ·cases h
 ·cases h
omit he hg hs in
theorem iD {b:Builtin}{args:Array Operand}{tys:Array TypeId}{o:Oper}(ho:o.op= .call { callee:= .builtin b,args:=args,argTypes:=tys}):
  (execOp a.eval o).run P w=(builtin b tys o.type (args.map fun | .const _=>true | _=>false) (args.map a.eval)).run P w:=by
 simp only [execOp,ho,resolve];rfl
omit he hg hs in
theorem fO.length:∀ {l:List (Nat×D×D)} {es:List MapEntry},fO ρ w l es->l.length=es.length
 | [],_,h=>by simp only [fO]at h; subst h; rfl
 | (n,k,v)::l,_,h=>by
  simp only [fO]at h;obtain⟨e,r,rfl,_,_,_,h2⟩:=h;simp [fO.length h2]
theorem GO {t:TypeId}{k:Nat} {x' :Operand}{x:bP}(hx:eO G x' =some x)(hk:(k=0/\P.underlying t=some .string)\/(∃q,k=1/\P.underlying t=some (.slice q))\/(∃q r,k=2/\P.underlying t=some (.map q r)))
  (h:cC C env s al (.len k x)=some (d,s')){o:Oper}
  (ho:o.op= .call { callee:= .builtin .len,args:= #[x'],argTypes:= #[t]}):fc P ρ w env a.tmps d s' ((execOp a.eval o).run P w):=by
 simp only [cC]at h;split at h
 ·rename_i i ex lo hi hp;split at h
  ·simp only [aa,ae]at h;obtain⟨rfl,rfl⟩:=h;have hv:=ba hx he hg hp;rcases hk with ⟨_,hu⟩ | ⟨q,hk,_⟩ | ⟨q,r,hk,_⟩
   ·simp only [aU]at hv;have hr:(Builtin.len_ #[t] o.type #[a.eval x']).run P w= .ok (goInt (eV.vs i).length) w:=by
     simp [Builtin.len_,run_underlying hu,hv.1,ByteArray.size_mk']
    rw [iD ho];simp only [builtin,fu,bG,ef];rw [Sem.run_bind,hr];refine .rep hs ?_;simp only [aU,Sym.val,goInt];exact⟨trivial,by have:=hv.2.2.1; omega,by have:=hv.2.2.2; omega⟩
   ·cases hk
   ·cases hk
  ·cases h
 ·rename_i p xY hp;clear xY;split at h
  ·rename_i n hn;simp only [aa,ae]at h;obtain⟨rfl,rfl⟩:=h;have hv:=ba hx he hg hp;have fin:(Builtin.len_ #[t] o.type #[a.eval x']).run P w= .ok (goInt n) w->fc P ρ w env a.tmps (Fq n) s ((execOp a.eval o).run P w):=by
    intro hr;rw [iD ho];simp only [builtin,fu,bG,ef];rw [Sem.run_bind,hr];exact .rep hs (by simp [Fq,goInt,aU])
   apply fin;rcases hk with ⟨rfl,hu⟩ | ⟨q,rfl,hu⟩ | ⟨q,r,rfl,hu⟩
   ·simp only [o8]at hn;split at hn <;> (try cases hn);simp only [aU]at hv;simp [Builtin.len_,run_underlying hu,hv,ByteArray.size_mk']
   ·simp only [o8]at hn;split at hn <;> (try cases hn)
    ·rename_i nl z l;simp only [aU]at hv;have:∃p c,a.eval x' = .slice p l.length c:=by
      rcases hv with ⟨_,rfl,hv⟩ | ⟨_,ad,c,hv,_⟩
      ·exact⟨_,_,hv⟩
      ·exact⟨_,_,hv⟩
     obtain⟨p,c,hv⟩:=this;simp [Builtin.len_,run_underlying hu,hv]
    ·simp only [aU]at hv;obtain⟨p,c,hv⟩:=Gh.jM hv fun _ _ ⟨_,_,_,_,_,q,_⟩=>⟨_,_,q⟩;simp [Builtin.len_,run_underlying hu,hv]
   ·simp only [o8]at hn;split at hn <;> (try cases hn)
    ·simp only [aU]at hv;simp [Builtin.len_,run_underlying hu,hv]
    ·rename_i ob;split at hn
     ·rename_i es c vQ;simp only [aa]at hn; subst hn;obtain⟨b,ces,k1,one,hb,hM⟩:=hs.ok _ _ vQ;simp only [aU,Gh.at,k1]at hv;obtain⟨b',jl,hv⟩:=hv;obtain rfl:=one.2 _ jl;have hl:=hM.length;simp [Builtin.len_,run_underlying hu,hv,getObj,Sem.run,hb,hl]
     ·cases hn
  ·cases h
 ·cases h
omit he hg hs in
theorem gy.of {sz b:Nat}(hz:0 < sz):∀(l:List D) (x:Nat),(∀(i:Nat) (e:D),l[i]? =some e->∃v,aU ρ w e v/\v.cells.size=sz/\cr w b (x+i * sz) v/\e.st=true)->gy ρ w sz b x l
 | [],_,_=>by simp [gy]
 | d::l,x,h=>by
  simp only [gy];obtain⟨v,h1,h2,h3,h4⟩:=h 0 d (by simp);refine⟨⟨v,h1,h2,hz,by simpa using h3,h4⟩,gy.of hz l (x+sz) fun i e hi=> ?_⟩;obtain⟨u,g1,g2,g3,g4⟩:=h (i+1) e (by simpa using hi);exact⟨u,g1,g2,by rwa [show x+(i+1) * sz=x+sz+i * sz by rw [bS]; omega]at g3,g4⟩
omit he hg in
theorem tY {x:D}{v:Value}{z:Nat}{l:List D}(h:items s x=some (z,l))(hv:aU ρ w x v):
  (l=[]/\∃p c,v= .slice p 0 c)\/∃b y c,v= .slice (some ⟨b,y,none⟩) l.length c/\gy ρ w z b y l:=by
 cases x <;> simp only [items]at h <;> (try cases h)
 case vs nl=>
  simp only [aU]at hv;rcases hv with ⟨_,rfl,rfl⟩ | ⟨_,ad,c,rfl,_,hl⟩
  ·exact .inl ⟨rfl,_,_,rfl⟩
  ·rcases hl with rfl | ⟨b,y,rfl,_,hE⟩
   ·exact .inl ⟨rfl,_,_,rfl⟩
   ·exact .inr ⟨b,y,c,rfl,hE⟩
 case sl o off len cp=>
  split at h
  ·rename_i sz ty es st hx;split at h
   ·rename_i h1 h2;simp only [aa,ae]at h;obtain⟨rfl,rfl⟩:=h;have g1:=az h1;have g2:=az h2;obtain⟨hz,k1,_,_,wU,dQ⟩:=hs.ok _ _ hx;simp only [aU,Gh.at,k1]at hv;obtain⟨b,hb,q1,q2,q3,xx,cap,q4,q5,q6,q7⟩:=hv;have hlen:((es.drop off).take len).length=len:=by simp; omega
    by_cases zF:len=0
    ·subst zF;exact .inl ⟨by simp,_,_,q4⟩
    ·have PH:xx=(off - ρ.sh b) * sz:=by rcases q6 with q6 | q6 <;> omega
     refine .inr ⟨b,xx,cap,by rw [hlen]; exact q4,gy.of hz _ _ fun i e hi=> ?_⟩;rw [de]at hi;split at hi
     ·rw [cX]at hi;obtain⟨u,r1,r2,r3⟩:=(wU b hb).get (by omega) (by omega) (by omega) hi;refine⟨u,r1,r2, ?_,(oH dQ hi).2⟩;rwa [show off+i - ρ.sh b=(off - ρ.sh b)+i by omega,bS,← PH]at r3
     ·cases hi
   ·cases h
  ·cases h
theorem J9 {t e:TypeId}{n m:Nat} {x' i' :Operand}{x i:bP}(hx:eO G x' =some x)(hi:eO G i' =some i)(hu:P.underlying t=some (.array n e))(fS:dO P e=some (m+1))
  (h:cC C env s al (.rK n (m+1) x i)=some (d,s')){o:Oper}(ho:o.op= .indexAddr t x' i'):fc P ρ w env a.tmps d s' ((execOp a.eval o).run P w):=by
 have key:∀k kk (q:Addr),a.eval i' = .int kk (k:Nat)->k < n->a.eval x' = .pointer (some q)->(execOp a.eval o).run P w= .ok (.value (.pointer (some (q.add (k * (m+1)))))) w:=by
  intro k kk q Fk dM hv;simp only [execOp,ho,hv,Fk,Instr.indexAt,asIntOf,Instr.sureAddr];simp [run_underlying hu,fT fS,dM]
 simp only [cC]at h;split at h
 ·rename_i b c k hp hn;split at h
  ·rename_i j hj;obtain⟨kk,Fk⟩:=gY hj (ba hi he hg hn);split at h
   ·rename_i hb nD;simp only [aa,ae]at h;obtain⟨rfl,rfl⟩:=h;have dM:j < n:=by have:=az hb; omega
    obtain⟨y,hy⟩:=vH nD;obtain⟨bb,h2,h3⟩:=lL hx he hg hp y hy;rw [key j kk _ Fk dM h3,Addr.add_mid];exact .pure hs (by simp only [ft]; exact fun _ _=>⟨bb,h2,rfl⟩)
   ·cases h
  ·cases h
 ·rename_i b c k hp hn;split at h
  ·rename_i j hj;obtain⟨kk,Fk⟩:=gY hj (ba hi he hg hn);split at h
   ·rename_i hb;simp only [aa,ae]at h;obtain⟨rfl,rfl⟩:=h;have dM:j < n:=by have:=az hb; omega
    have h1:=lL hx he hg hp;simp only [ft,aU]at h1;unfold Gh.at at h1;split at h1
    ·exact h1.elim
    ·rename_i hk;obtain⟨q,hq⟩:=h1;rw [key j kk q Fk dM hq];exact .rep hs (by simp only [aU,Gh.at,hk]; exact ⟨_,rfl⟩)
    ·rename_i sz hk;obtain⟨bb,h2,h3⟩:=h1;rw [key j kk _ Fk dM h3,Addr.add_mid];exact .rep hs (by simp only [aU,Gh.at,hk]; exact ⟨bb,h2,rfl⟩)
   ·cases h
  ·cases h
 ·rename_i b i2 c z k hp hn;split at h
  ·rename_i j hj;obtain⟨kk,Fk⟩:=gY hj (ba hi he hg hn);split at h
   ·rename_i hb;simp only [aa,ae]at h;obtain⟨rfl,rfl⟩:=h;have dM:j < n:=by have:=az hb; omega
    have h1:=lL hx he hg hp;simp only [ft,aU]at h1;unfold Gh.at at h1;split at h1
    ·exact h1.elim
    ·rename_i hk;obtain⟨q,hq⟩:=h1;rw [key j kk q Fk dM hq];exact .rep hs (by simp only [aU,Gh.at,hk]; exact ⟨_,rfl⟩)
    ·rename_i sz hk;obtain⟨bb,h2,h3,h4,h5,h6⟩:=h1;rw [key j kk _ Fk dM h6,Addr.add_mid];exact .rep hs (by simp only [aU,Gh.at,hk]; exact ⟨bb,h2,h3,h4,h5,by rw [iE]⟩)
   ·cases h
  ·cases h
 ·rename_i e' c k hp hn;split at h
  ·rename_i j hj;obtain⟨kk,Fk⟩:=gY hj (ba hi he hg hn);split at h
   ·rename_i hb;simp only [aa,ae]at h;obtain⟨rfl,rfl⟩:=h;have dM:j < n:=by have:=az hb; omega
    have h1:=lL hx he hg hp;simp only [ft,aU]at h1;obtain⟨b,xx,u,q1,q2,q3,q4,q5⟩:=h1;rw [key j kk _ Fk dM q5,Addr.add_mid];exact .rep hs (by simp only [aU]; exact ⟨b,xx,u,q1,q2,q3,q4,by rw [iE]⟩)
   ·cases h
  ·cases h
 ·cases h
theorem RP {t e:TypeId}{n:Nat}{sz:Option Nat} {x' i' :Operand}{x i:bP}(hx:eO G x' =some x)(hi:eO G i' =some i)(hu:P.underlying t=some (.array n e))(gX:iL P e=some sz)
  (h:cC C env s al (.ML n (sz.getD 1) sz.isSome x i)=some (d,s')){o:Oper}(ho:o.op= .index t x' i'):fc P ρ w env a.tmps d s' ((execOp a.eval o).run P w):=by
 have fS:dO P e=some (sz.getD 1):=by
  unfold iL at gX;split at gX
  ·rename_i s' h1 h2; simp only [aa]at gX; subst gX; simpa using h2
  ·rename_i h1 h2; simp only [aa]at gX; subst gX; simpa using h2
  ·cases gX
 simp only [cC]at h;split at h
 ·rename_i l k hp hn;split at h
  ·rename_i j hj;obtain⟨kk,Fk⟩:=gY hj (ba hi he hg hn);split at h
   ·rename_i hb;obtain⟨h1,rfl⟩:=jt h;have dM:j < n:=by have:=az hb; omega
    have hv:=ba hx he hg hp;simp only [aU]at hv;obtain⟨vs,hv,hl,H4⟩:=hv;have FZ :part l (j * sz.getD 1) sz=some d:=by
     cases sz <;> simpa using h1
    obtain⟨u,r1,r2⟩:=qh (P:=P) hl H4 gX FZ;have hr:(execOp a.eval o).run P w= .ok (.value u) w:=by
     simp only [execOp,ho,hv,Fk,Instr.index,asIntOf];simp [run_underlying hu,fT fS,dM,r1]
    rw [hr]; exact .rep hs r2
   ·cases h
  ·cases h
 ·cases h
end
end Go.Ab
namespace Go.Ab
open Go
variable [eV]
variable {ρ:Gh}{w:World}{P:Program}{G:Gl}{X:iw}{A:nA} {s s' :St}{env:Env}{a:Act}{lo:Nat}{d:D}{C:ay}{al:Option Nat}
theorem wB {em:Bool}{n:Nat}{xs:Array Value}{lx:List D}{f:TypeId->Option ET}(hx:bw ρ w lx xs.toList)(RO:lx.all D.sc=true)
  (ih:∀t e,f t=some e->∀x u,oQ e x=true->aU ρ w x u->(Instr.checkKey em n t u).run P w= .ok () w):
  ∀(fs:List Field) (l:Wi),sK.fieldsB P f fs=some l->IK l lx=true->
   ((forIn fs PUnit.unit fun f _=>do
     if f.name ≠ "_" then do
      let v ← Go.part f.type xs f.offset
      Instr.checkKey em n f.type v
      pure (ForInStep.yield PUnit.unit)
     else pure (ForInStep.yield PUnit.unit):Sem PUnit)).run P w= .ok PUnit.unit w
 | [],_,_,_=>by simp
 | x::fs,l,h,hk=>by
  simp only [sK.fieldsB]at h;split at h
  ·cases h
  ·rename_i hn;split at h
   ·rename_i s e l' h1 h2 h3;simp only [aa]at h; subst h;simp only [IK]at hk;split at hk
    ·rename_i p hp;simp only [aB]at hk;obtain⟨u,hu1,hu2⟩:=qh (P:=P) hx RO h1 hp;have cE : x.name ≠ "_" := by simpa using hn
     have hi:=ih x.type e h2 p u hk.1 hu2;have Ih:=wB hx RO ih fs l' h3 hk.2;simp only [List.forIn_cons,cE,ne_eq,dC,eu,Sem.run_bind,hu1,hi,Result.andThen_ok,Sem.run_pure];exact Ih
    ·cases hk
   ·cases h
theorem pF (em:Bool):∀(n:Nat) (t:TypeId) (et:ET),sK P n t=some et->∀(k:Nat),n<=k->∀(x:D) (u:Value),oQ et x=true->aU ρ w x u->(Instr.checkKey em k t u).run P w= .ok () w:=by
 intro n;induction n with
 | zero=>intro t et h; simp [sK]at h
 | succ n ih=>
  intro t et h k UN x u Cw hu;obtain⟨k,rfl⟩:∃j,k=j+1:=⟨k - 1,by omega⟩;simp only [sK]at h;split at h
  ·rename_i qs;simp only [aa]at h; subst h;simp only [oQ]at Cw;split at Cw <;> (try cases Cw)
   ·simp only [aU]at hu; subst hu;simp [Instr.checkKey,run_underlying qs]
   ·simp only [aU]at hu; subst hu;simp [Instr.checkKey,run_underlying qs]
  ·rename_i kk qs;simp only [aa]at h; subst h;simp only [oQ]at Cw;split at Cw <;> (try cases Cw)
   ·simp only [aU]at hu; subst hu;simp [Instr.checkKey,run_underlying qs]
   ·simp only [aU]at hu; obtain ⟨rfl,_⟩:=hu;simp [Instr.checkKey,run_underlying qs]
  ·rename_i qs;simp only [aa]at h; subst h;simp only [oQ]at Cw;split at Cw <;> (try cases Cw)
   ·simp only [aU]at hu; subst hu;simp [Instr.checkKey,run_underlying qs]
   ·simp only [aU]at hu; obtain ⟨rfl,_⟩:=hu;simp [Instr.checkKey,run_underlying qs]
  ·split at h <;> simp at h; subst h; simp [oQ]at Cw
  ·simp only [aa]at h; subst h; simp [oQ]at Cw
  ·simp only [aa]at h; subst h; simp [oQ]at Cw
  ·simp only [aa]at h; subst h; simp [oQ]at Cw
  ·simp only [aa]at h; subst h; simp [oQ]at Cw
  ·rename_i fs qs;split at h
   ·cases h
   ·simp only [bj]at h;obtain⟨l,hl,rfl⟩:=h;simp only [oQ]at Cw;split at Cw
    ·simp only [aU]at hu;obtain⟨xs,rfl,vR,vQ⟩:=hu;simp only [Instr.checkKey,Sem.run_bind,run_underlying qs,Result.andThen_ok];rw [← Array.forIn_toList];have:=wB (P:=P) (w:=w) (ρ:=ρ) (em:=em) (n:=k) vR vQ (fun t' e' h' x' u' hh tL =>ih t' e' h' k (by omega) x' u' hh tL) fs.toList l hl Cw;rw [this]; rfl
    ·cases Cw
  ·cases h
def Found (ρ:Gh)(w:World):Option (Nat×D)->Option (Nat×Value)->Prop
 | none,r=>r=none
 | some (i,d),r=>∃v,r=some (i,v)/\aU ρ w d v
theorem Ge {t:TypeId}{e:TypeDesc}{et:ET}{x y:D}{u v:Value} {r r' :Bool}(hu:P.underlying t=some e)(het:sK P 8 t=some et)(h:th false et x y=some r) (h' :Instr.sameNow e u v=some r')(hx:aU ρ w x u)(hy:aU ρ w y v):r' =r:=by
 simp only [sK,hu]at het;cases e <;> simp only [Instr.sameNow]at h' <;> (try cases h')
 ·simp only [aa]at het; subst het;simp only [th]at h;obtain⟨p,q,rfl,rfl,rfl⟩:=vK h hx hy;simp only [aa]at h'; exact h'.symm
 ·simp only [aa]at het; subst het;simp only [th]at h;obtain⟨k,p,q,rfl,rfl,rfl⟩:=yc h hx hy;simp only [eu,aa]at h'; exact h'.symm
 ·simp only [aa]at het; subst het;simp only [th]at h;obtain⟨p,q,rfl,rfl,rfl⟩:=yO h hx hy;simp only [aa]at h';rw [← h',beq_toListBytes,ByteArray.toList_eq,ByteArray.toList_eq]
theorem xZ {t:TypeId}{e:TypeDesc}{et:ET}{k:D}{u:Value}(hu:P.underlying t=some e)(het:sK P 8 t=some et)(hk:aU ρ w k u):
  ∀(es:List (Nat×D×D)) (ces:List MapEntry) (i:Nat) (r:Option (Nat×D)) (r' :Option (Nat×Value)),fO ρ w es ces->findKey et k es i=some r->Instr.findNow e u ces i=some r' ->Found ρ w r r'
 | [],_,i,r,r',hM,h,h' =>by
  simp only [fO]at hM; subst hM;simp only [findKey,aa]at h; subst h;simp only [Instr.findNow,aa]at h'; subst h';rfl
 | (n,k',v)::es,_,i,r,r',hM,h,h' =>by
  simp only [fO]at hM;obtain⟨c,cs,rfl,_,h1,h2,h3⟩:=hM;simp only [findKey]at h;simp only [Instr.findNow]at h';cases hs:Instr.sameNow e u c.key with
  | none=>simp [hs]at h'
  | some b' =>
   cases hq:th false et k k' with
   | none=>simp [hq]at h
   | some b=>
    have hb:=Ge (P:=P) hu het hq hs hk h1;subst hb;cases b'
    ·simp only [hq]at h;simp only [hs]at h';exact xZ hu het hk es cs (i+1) r r' h3 h h'
    ·simp only [hq,aa]at h;simp only [hs,aa]at h';subst h h';exact⟨_,rfl,h2⟩
theorem sT {t:TypeId}{et:ET}{k:D}{u:Value}(het:sK P 8 t=some et)(hk:aU ρ w k u):
  ∀(es:List (Nat×D×D)) (ces:List MapEntry) (i:Nat) (r:Option (Nat×D)),fO ρ w es ces->findKey et k es i=some r->∃r',(Instr.findAsking t u ces i).run P w= .ok r' w/\Found ρ w r r'
 | [],_,i,r,hM,h=>by
  simp only [fO]at hM; subst hM;simp only [findKey,aa]at h; subst h;exact⟨none,by simp [Instr.findAsking],rfl⟩
 | (n,k',v)::es,_,i,r,hM,h=>by
  simp only [fO]at hM;obtain⟨c,cs,rfl,_,h1,h2,h3⟩:=hM;simp only [findKey]at h;cases hq:th false et k k' with
  | none=>simp [hq]at h
  | some b=>
   have he:(Op.equal t u c.key).run P w= .ok b w:=Pa false 8 t et het Op.maxDepth (by decide) k k' b _ _ hq hk h1;cases b
   ·simp only [hq]at h;obtain⟨r',g1,g2⟩:=sT het hk es cs (i+1) r h3 h;exact⟨r',by simp [Instr.findAsking,he,g1],g2⟩
   ·simp only [hq,aa]at h; subst h;exact⟨some (i,c.val),by simp [Instr.findAsking,he],_,rfl,h2⟩
theorem lN {t:TypeId}{et:ET}{k:D}{u:Value}(het:sK P 8 t=some et)(hk:aU ρ w k u){es:List (Nat×D×D)}{ces:List MapEntry}{r:Option (Nat×D)}(hM:fO ρ w es ces)(h:findKey et k es 0=some r):
  ∃r',(Instr.findKey t u ces).run P w= .ok r' w/\Found ρ w r r' :=by
 cases hu:P.underlying t with
 | none=>simp [sK,hu]at het
 | some e=>
  simp only [Instr.findKey,Sem.run_bind,run_underlying hu,Result.andThen_ok];cases hn:Instr.findNow e u ces 0 with
  | some r' =>exact ⟨r',by simp,xZ hu het hk es ces 0 r r' hM h hn⟩
  | none=>
   obtain⟨r',g1,g2⟩:=sT (P:=P) het hk es ces 0 r hM h;exact⟨r',by simpa using g1,g2⟩
end Go.Ab
namespace Go.Ab
open Go
variable [eV]
variable {ρ:Gh}{w:World}{P:Program}{pn:jn}{G:Gl}{X:iw}{A:nA} {s s' :St}{env:Env}{a:Act}{lo:Nat}{d:D}{C:ay}{al:Option Nat}
theorem kF {t:TypeId}{z:D}(h:jH P t=some z):∃v,(zeroValue t).run P w= .ok v w/\wJ v=some z/\(P.info? t).bind (·.zero)=some v:=by
 unfold jH at h;simp only [an]at h;obtain⟨v,⟨i,h1,h2⟩,h3⟩:=h;exact⟨v,by simp [zeroValue,typeInfo,h1,h2],h3,by simp [h1,h2]⟩
theorem vW {t e:TypeId}{sz:Nat}{p:Option Addr}{len cap y z M:Nat} {lo' hi' mx' :Option Value}(hu:P.underlying t=some (.slice e))(fS:dO P e=some sz)
  (Yo:y<=z)(hzM:z<=M)(hM:M<=cap)
  (bm:(mx' =none/\M=cap)\/(hi'.isSome=true/\∃v,mx' =some v/\∀code m,M<=m->(Instr.sliceBound v m code).run P w= .ok M w))
  (bh:(hi' =none/\z=len)\/(∃v,hi' =some v/\∀code m,z<=m->(Instr.sliceBound v m code).run P w= .ok z w))
  (bl:(lo' =none/\y=0)\/(∃v,lo' =some v/\∀code m,y<=m->(Instr.sliceBound v m code).run P w= .ok y w)):
  (Instr.sliceAt t (.slice p len cap) lo' hi' mx').run P w= .ok (.slice (if M=y then p else p.map (·.add (y * sz))) (z - y) (M - y)) w:=by
 have e1:(Instr.sliceBounds true len cap lo' hi' mx').run P w= .ok (y,z,M) w:=by
  unfold Instr.sliceBounds;rcases bm with ⟨rfl,rfl⟩ | ⟨hh,v1,rfl,b1⟩
  ·rcases bh with ⟨rfl,rfl⟩ | ⟨v2,rfl,b2⟩ <;> rcases bl with ⟨rfl,rfl⟩ | ⟨v3,rfl,b3⟩
   ·simp
   ·simp [b3 _ _ Yo]
   ·simp [b2 _ _ hzM]
   ·simp [b2 _ _ hzM,b3 _ _ Yo]
  ·rcases bh with ⟨rfl,rfl⟩ | ⟨v2,rfl,b2⟩
   ·simp at hh
   ·rcases bl with ⟨rfl,rfl⟩ | ⟨v3,rfl,b3⟩
    ·simp [b1 _ _ hM,b2 _ _ hzM]
    ·simp [b1 _ _ hM,b2 _ _ hzM,b3 _ _ Yo]
 simp only [Instr.sliceAt,Sem.run_bind,run_underlying hu,Result.andThen_ok,Instr.slice,e1,fT fS,Sem.run_pure]
theorem vF {x:Option Value}{r:Option D}{k y:Nat}(hr:(r=none/\x=none)\/(∃d v,r=some d/\x=some v/\aU ρ w d v))(hi:lH k r=some y):
  (r=none/\x=none/\y=k)\/(r.isSome=true/\∃v,x=some v/\∀code m,y<=m->(Instr.sliceBound v m code).run P w= .ok y w):=by
 rcases hr with ⟨rfl,rfl⟩ | ⟨d,v,rfl,rfl,h⟩
 ·simp only [lH,aa]at hi; exact .inl ⟨rfl,rfl,hi.symm⟩
 ·simp only [lH]at hi;obtain⟨kk,rfl⟩:=gY hi h;refine .inr ⟨rfl,_,rfl,fun code m hm=> ?_⟩;have:(0:Int)<=(y:Int)/\(y:Int)<=(m:Int):=by omega
  simp [Instr.sliceBound,asIntOf,this]
section
variable (he:ew ρ w lo env a.tmps)(hg:gN pn G ρ w)(hs:ck ρ s w)
include he hg hs
theorem Xj {t e:TypeId}{m:Nat} {x' :Operand}{x:bP} {lo' hi' mx' :Option Operand}{l0 h0 m0:Option bP}(hx:eO G x' =some x)(hl:sL G lo' =some l0)(hh:sL G hi' =some h0)(hm:sL G mx' =some m0)
  (hu:P.underlying t=some (.slice e))(fS:dO P e=some (m+1))(hmh:mx'.isSome=true->hi'.isSome=true)
  (h:cC C env s al (.HE (m+1) x l0 h0 m0)=some (d,s')){o:Oper}(ho:o.op= .slice t x' lo' hi' mx'):fc P ρ w env a.tmps d s' ((execOp a.eval o).run P w):=by
 simp only [cC]at h;split at h
 ·rename_i p ra rb rc hp hra hrb hrc;split at h
  ·rename_i y z M hy hz hM;split at h
   ·rename_i zz l hit;split at h
    ·rename_i He;obtain⟨h1,rfl⟩:=jt h;have hv:=ba hx he hg hp;have bl:=vF (P:=P) (uF he hg hl hra) hy;have bh:=vF (P:=P) (uF he hg hh hrb) hz;have bm:=vF (P:=P) (uF he hg hm hrc) hM;have fin:∀v,(Instr.sliceAt t (a.eval x') (lo'.map a.eval) (hi'.map a.eval) (mx'.map a.eval)).run P w= .ok v w->(execOp a.eval o).run P w= .ok (.value v) w:=by
      intro v hv;simp only [execOp,ho];rw [Sem.run_bind,hv]; rfl
     have bl' :(lo'.map a.eval=none/\y=0)\/(∃v,lo'.map a.eval=some v/\∀code m,y<=m->(Instr.sliceBound v m code).run P w= .ok y w):=by
      rcases bl with ⟨_,h1,h2⟩ | ⟨_,h1⟩
      ·exact .inl ⟨h1,h2⟩
      ·exact .inr h1
     cases p with
     | vs nl zz' l' =>
      simp only [items,aa,ae]at hit;obtain⟨hzz,tN⟩:=hit;subst zz' l';simp only [uG]at h1;split at h1
      ·rename_i c1 c2 c3;simp only [aa]at h1; subst h1;have c1:=az c1;have c2:=az c2;have c3:=az c3;simp only [aU]at hv;have Lx :∀len,len=l.length->(hi'.map a.eval=none/\Option.getD (fZ rb z) l.length=len)\/(∃v,hi'.map a.eval=some v/\∀code m,Option.getD (fZ rb z) l.length<=m->(Instr.sliceBound v m code).run P w= .ok (Option.getD (fZ rb z) l.length) w):=by
        intro len hlen;rcases bh with ⟨rfl,g1,g2⟩ | ⟨g0,v,g1,g2⟩
        ·exact .inl ⟨g1,by simp [fZ,hlen]⟩
        ·cases rb with
         | none=>simp at g0
         | some q=>exact .inr ⟨v,g1,by simpa [fZ] using g2⟩
       generalize Option.getD (fZ rb z) l.length=Z at *;have hM' :∀cap,l.length<=cap->∃MM,Z<=MM/\MM<=cap/\((mx'.map a.eval=none/\MM=cap)\/((hi'.map a.eval).isSome=true/\∃v,mx'.map a.eval=some v/\∀code m,MM<=m->(Instr.sliceBound v m code).run P w= .ok MM w)):=by
        intro cap pR;rcases bm with ⟨rfl,g1,g2⟩ | ⟨g0,v,g1,g2⟩
        ·exact⟨cap,by simp [fZ]at c2 c3; omega,aq _,.inl ⟨g1,rfl⟩⟩
        ·cases rc with
         | none=>simp at g0
         | some q=>
          simp only [fZ,eZ]at c2 c3;refine⟨M,c2,by omega,.inr ⟨?_,v,g1,g2⟩⟩;have:mx'.isSome=true:=by cases mx' <;> simp_all
          have:=hmh this;cases hi' <;> simp_all
       rcases hv with ⟨rfl,rfl,hv⟩ | ⟨rfl,ad,cap,hv,hle,zH⟩
       ·obtain⟨MM,m1,m2,m3⟩:=hM' 0 (by simp);have hr:=vW (P:=P) (w:=w) (p:=none) (len:=0) (cap:=0) hu fS c1 m1 m2 m3 (Lx 0 (by simp)) bl';rw [fin _ (by rw [hv]; exact hr)];refine .rep hs ?_;simp only [aU];refine .inl ⟨trivial,by simp, ?_⟩;have:MM=0:=by omega
        subst this;have:Z=0:=by omega
        subst this;simp
       ·obtain⟨MM,m1,m2,m3⟩:=hM' cap hle;have hr:=vW (P:=P) (w:=w) (p:=some ad) (len:=l.length) (cap:=cap) hu fS c1 m1 m2 m3 (Lx _ rfl) bl';rw [fin _ (by rw [hv]; exact hr)];refine .rep hs ?_;have hZl:Z<=l.length:=by
         rcases bm with ⟨rfl,_,_⟩ | ⟨g0,v,_,_⟩
         ·simpa [fZ] using c2
         ·omega
        have hlen:((l.take Z).drop y).length=Z - y:=by simp; omega
        simp only [aU];refine .inr ⟨trivial, ?_⟩;by_cases hMy:MM=y
        ·refine⟨ad,MM - y,by rw [bT hMy,hlen],by rw [hlen]; omega,.inl ?_⟩;exact ep (by rw [hlen]; omega)
        ·refine⟨ad.add (y * (m+1)),MM - y, ?_,by rw [hlen]; omega, ?_⟩
         ·rw [aK hMy,hlen]; first | rfl | simp
         ·rcases zH with rfl | ⟨b,q,rfl,hb,hE⟩
          ·exact .inl (by simp)
          ·by_cases hzz:l=[]
           ·subst hzz; exact .inl (by simp)
           ·have X3:zz=m+1:=by
             simp only [eD]at He;rcases He with He | He
             ·exact aD He
             ·split at He <;> simp_all
            subst X3;exact .inr ⟨b,q+y * (m+1),by simp [Addr.add_mid],hb,(hE.take Z).drop y⟩
      ·cases h1
     | sl ob off len cp=>
      simp only [items]at hit;split at hit
      ·rename_i z2 ty es st vQ;split at hit
       ·rename_i i1 i2;simp only [aa,ae]at hit;obtain⟨rfl,rfl⟩:=hit;obtain⟨hz0,k1,_,_,wU,dQ⟩:=hs.ok _ _ vQ;simp only [aU,Gh.at,k1]at hv;obtain⟨b,hb,q1,q2,q3,xx,cap,q4,q5,q6,q7⟩:=hv;simp only [uG]at h1;have Lx :(hi'.map a.eval=none/\Option.getD (fZ rb z) len=len)\/(∃v,hi'.map a.eval=some v/\∀code m,Option.getD (fZ rb z) len<=m->(Instr.sliceBound v m code).run P w= .ok (Option.getD (fZ rb z) len) w):=by
         rcases bh with ⟨rfl,g1,g2⟩ | ⟨g0,v,g1,g2⟩
         ·exact .inl ⟨g1,by simp [fZ]⟩
         ·cases rb with
          | none=>simp at g0
          | some q=>exact .inr ⟨v,g1,by simpa [fZ] using g2⟩
        generalize Option.getD (fZ rb z) len=Z at *
        have key:∀MM,y<=Z->Z<=MM->MM<=cap->((mx'.map a.eval=none/\MM=cap)\/((hi'.map a.eval).isSome=true/\∃v,mx'.map a.eval=some v/\∀code m,MM<=m->(Instr.sliceBound v m code).run P w= .ok MM w))->
          ∀cp',Z<=cp' ->cp' <=MM->cp' <=cp->z2=m+1->fc P ρ w env a.tmps (.sl ob (off+y) (Z - y) (cp' - y)) s' ((execOp a.eval o).run P w):=by
         intro MM hyZ hZM hMc hm3 cp' g1 g2 g3 X3;subst X3;have hr:=vW (P:=P) (w:=w) (p:=some ⟨b,xx,none⟩) (len:=len) (cap:=cap) hu fS hyZ hZM hMc hm3 Lx bl';rw [fin _ (by rw [q4]; exact hr)];refine .rep hs ?_;simp only [aU,Gh.at,k1];by_cases hMy:MM=y
         ·refine⟨b,hb,by omega,by omega,by omega,xx,MM - y,by rw [bT hMy],by omega,.inl (by omega),by omega⟩
         ·refine⟨b,hb,by omega,by omega,by omega,xx+y * (m+1),MM - y, ?_,by omega,.inr ?_,by omega⟩
          ·rw [aK hMy]; simp [Addr.add_mid]
          ·rcases q6 with q6 | q6
           ·omega
           ·rw [q6,show off+y - ρ.sh b=(off - ρ.sh b)+y by omega,bS]
        have X3:z2=m+1:=by
         simp only [eD]at He;rcases He with He | He
         ·exact aD He
         ·simp at He
        rcases bm with ⟨rfl,g1,g2⟩ | ⟨g0,v,g1,g2⟩
        ·simp only [fZ]at h1;split at h1
         ·rename_i c1 c2;simp only [aa]at h1; subst h1;have c1:=az c1;have c2:=az c2;exact key cap c1 (by omega) (aq _) (.inl ⟨g1,rfl⟩) cp c2 q5 (aq _) X3
         ·cases h1
        ·cases rc with
         | none=>simp at g0
         | some q=>
          simp only [fZ]at h1;split at h1
          ·rename_i c1 c2 c3;simp only [aa]at h1; subst h1;have c1:=az c1;have c2:=az c2;have c3:=az c3;have hmi:(hi'.map a.eval).isSome=true:=by
            have:mx'.isSome=true:=by cases mx' <;> simp_all
            have:=hmh this;cases hi' <;> simp_all
           exact key M c1 c2 (by omega) (.inr ⟨hmi,v,g1,g2⟩) M c2 (aq _) c3 X3
          ·cases h1
       ·cases hit
      ·cases hit
     | _=>simp [items]at hit
    ·cases h
   ·cases h
  ·cases h
 ·cases h
end
end Go.Ab
