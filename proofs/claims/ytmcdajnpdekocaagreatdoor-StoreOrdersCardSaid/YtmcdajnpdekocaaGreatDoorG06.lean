/- Part. -/
import Derived.Test.YtmcdajnpdekocaaGreatDoorG05
set_option linter.unusedSectionVars false
set_option linter.unusedSimpArgs false
set_option linter.unusedVariables false
namespace Go.Ab
open Go
variable [Vals]
variable {ρ:Gh}{w:World}{P:Program}{pn:Pins}{G:Gl}{X:Exts}{A:Adv} {s s' :St}{env:Env}{a:Act}{lo:Nat}{d:D}{C:zAa}{al:Option Nat}
theorem RepE.get {sz b:Nat}:∀ {l:List D} {x i:Nat} {e:D},RepE ρ w sz b x l→l[i]? =some e→∃v,Rep ρ w e v∧v.cells.size=sz∧0 < sz∧CeA w b (x+i * sz) v∧e.st=true
 | [],_,i,e,_,h=>by simp at h
 | d::l,x,0,e,h,hi=>by
  simp only [RepE]at h
  simp at hi; subst hi
  simpa using h.1
 | d::l,x,i+1,e,h,hi=>by
  simp only [RepE]at h
  simp at hi
  have:=RepE.get h.2 hi
  rwa [show x+(i+1) * sz=x+sz+i * sz by rw [Nat.add_mul]; omega]
theorem RepE.take {sz b:Nat}:∀ {l:List D} {x:Nat} (n:Nat),RepE ρ w sz b x l→RepE ρ w sz b x (l.take n)
 | [],_,n,h=>by simp [RepE]
 | d::l,x,0,h=>by simp [RepE]
 | d::l,x,n+1,h=>by
  simp only [RepE,List.take_succ_cons]at *
  exact⟨h.1,RepE.take n h.2⟩
theorem RepE.drop {sz b:Nat}:∀ {l:List D} {x:Nat} (n:Nat),RepE ρ w sz b x l→RepE ρ w sz b (x+n * sz) (l.drop n)
 | [],_,n,h=>by simp [RepE]
 | d::l,x,0,h=>by simpa using h
 | d::l,x,n+1,h=>by
  simp only [RepE,List.drop_succ_cons]at *
  have:=RepE.drop n h.2
  rwa [show x+(n+1) * sz=x+sz+n * sz by rw [Nat.add_mul]; omega]
theorem zJs.get {sz ty b st i:Nat}{es:List D}{e:D}(h:zJs ρ w sz ty es st b)(hst:st≤ρ.ext b)(h1:ρ.sh b≤i)(h2:i < ρ.ext b)(hi:es[i]? =some e):
  ∃v,Rep ρ w e v∧v.cells.size=sz∧CeA w b ((i - ρ.sh b) * sz) v:=h.elems hst i e h1 h2 hi
theorem zEf {sz:Nat}:∀ {es:List D} {i:Nat} {e:D},allSz sz es=true→es[i]? =some e→e.flat.length=sz∧e.st=true
 | [],i,e,_,h=>by simp at h
 | d::l,0,e,h,hi=>by
  simp at hi; subst hi
  simp only [allSz,Bool.and_eq_true]at h
  exact⟨Nat.eq_of_beq_eq_true h.1.1,h.1.2⟩
 | d::l,i+1,e,h,hi=>by
  simp at hi
  simp only [allSz,Bool.and_eq_true]at h
  exact zEf h.2 hi
theorem zTj {t:TypeId}{sz:Option Nat}{p d:D}{v:Value}(hs:zPl ρ s w)(hsh:zBm P t=some sz)(h:zPr s sz p=some d)(hv:Rep ρ w p v):
  ∃u,(Instr.loadAt t v).run P w= .ok u w∧Rep ρ w d u:=by
 have fin:∀ {b x c:Nat} {e:D} {q:Value},Rep ρ w e q→e.st=true→w.rangeAt b x q.cells.toList→part e.flat c sz=some d→v= .pointer (some ⟨b,x+c,none⟩)→∃u,(Instr.loadAt t v).run P w= .ok u w∧Rep ρ w d u:=by
  intro b x c e q he hst hr hp hveq
  subst hveq
  obtain⟨hf,_⟩:=he.flat hst
  have h1:=zGx hf (D.st_flat hst) hp
  have h2:=run_load (P:=P) (c:=c) hr hsh
  cases sz with
  | some n=>
   obtain⟨h3,h4⟩:=h1
   exact⟨_,h2 h3,h4⟩
  | none=>
   obtain⟨u,h3,h4,_⟩:=h1
   exact⟨u,h2 u h3,h4⟩
 cases p <;> simp only [zPr]at h <;> (try cases h)
 case ptr o c=>
  split at h
  ·rename_i ty e hx
   obtain⟨b,q,k1,one,h2,h3,_,h5⟩:=hs.ok _ _ hx
   simp only [Rep,Gh.at,k1]at hv
   obtain⟨b',hb',rfl⟩:=hv
   obtain rfl:=one.2 _ hb'
   exact fin h2 h5 (zCz h3) h (by simp)
  ·cases h
 case eptr o i c e=>
  split at h
  ·rename_i z ty es st hx
   split at h
   ·rename_i hse
    split at h
    ·rename_i el hel
     obtain⟨hz,k1,_,_,hbl,hall⟩:=hs.ok _ _ hx
     simp only [Rep,Gh.at,k1]at hv
     obtain⟨b,hb,q1,q2,q3,q4⟩:=hv
     have hst:=Nat.le_of_ble_eq_true hse
     obtain⟨q,r1,r2,r3⟩:=(hbl b hb).get (by omega) q1 (by omega) hel
     exact fin r1 (zEf hall hel).2 (zCy r3) h q4
    ·cases h
   ·cases h
  ·cases h
 case vptr e c=>
  simp only [Rep]at hv
  obtain⟨b,x,q,q1,q2,q3,q4,q5⟩:=hv
  exact fin q2 q4.2 (zCy q3) h q5
section
variable (he:EnR ρ w lo env a.tmps)(hg:GlOk pn G ρ w)(hs:zPl ρ s w)
include he hg hs
theorem ok_load {t:TypeId}{sz:Option Nat} {x' :Operand}{x:Opd}(hx:opd G x' =some x)(hsh:zBm P t=some sz)(h:opF C env s al (.load sz x)=some (d,s')){o:Oper}(ho:o.op= .load t x'):
  OpOk P ρ w env a.tmps d s' ((execOp a.eval o).run P w):=by
 simp only [opF]at h
 split at h
 ·rename_i p hp
  obtain⟨h1,rfl⟩:=zBu h
  obtain⟨u,h2,h3⟩:=zTj (P:=P) hs hsh h1 (opR hx he hg hp)
  have hr:(execOp a.eval o).run P w= .ok (.value u) w:=by
   simp only [execOp,ho]; rw [Sem.run_bind,h2]; rfl
  rw [hr]; exact .rep hs h3
 ·cases h
theorem ok_uptr {t u e:TypeId}{n:Nat} {x' :Operand}{x:Opd}(hx:opd G x' =some x)(ht:P.underlying t=some (.pointer e))(hu:P.underlying u=some .unsafePointer)(hn:zPo P e=some (n+1))(h:opF C env s al (.uptr x)=some (d,s')){o:Oper}(ho:o.op= .convert t u x'):
  OpOk P ρ w env a.tmps d s' ((execOp a.eval o).run P w):=by
 simp only [opF]at h
 split at h
 ·rename_i k c hp
  split at h
  ·rename_i ty v hv
   split at h
   ·rename_i hlt
    simp only [Option.some.injEq,Prod.mk.injEq]at h
    obtain⟨rfl,rfl⟩:=h
    have h1:=opR hx he hg hp
    have h2:=h1
    obtain⟨b,q,g1,g2,g3,g4,g5,g6⟩:=hs.ok _ _ hv
    simp only [Rep,Gh.at,g1]at h1
    obtain⟨b',h1,h3⟩:=h1
    obtain rfl:=g2.2 b' h1
    have hc:c < q.cells.size:=by rw [g3.size g6]; exact Nat.le_of_ble_eq_true hlt
    have hr:(execOp a.eval o).run P w= .ok (.value (a.eval x')) w:=by
     simp only [execOp,ho,h3,convert]
     have hsh:∀ {α:Type} (f:Option (TypeId×Nat)→Sem α),(Sem.shape b' f).run P w=(f (some (ty,q.cells.size))).run P w:=fun f=>by
      simp [Sem.run,World.shape?,g4]
     simp [run_underlying ht,run_underlying hu,Conv.unsafePointer,Conv.seenAt,viewAt,cellsIn,shape,getObj,hsh]
     have hsz:(sizeOf e).run P w= .ok (n+1) w:=by
      exact zAk hn
     rw [hsz]
     simp only [Result.andThen]
     rw [if_neg (by omega)]
    rw [hr]; exact .rep hs h2
   ·cases h
  ·cases h
 ·cases h
theorem ok_lload {t:TypeId}{r:Nat}{sz:Option Nat} {x' :Operand}{x:Opd}(hx:opd G x' =some x)(hsh:zBm P t=some sz)(h:opF C env s al (.lload r sz x)=some (d,s')){o:Oper}(ho:o.op= .load t x'):
  OpOk P ρ w env a.tmps d s' ((execOp a.eval o).run P w):=by
 simp only [opF]at h
 split at h
 ·rename_i r' c hp
  split at h
  ·rename_i e hb hlv
   obtain rfl:=Nat.eq_of_beq_eq_true hb
   obtain⟨h1,rfl⟩:=zBu h
   obtain⟨b,h2,h3⟩:=zCw hx he hg hp e hlv
   have hsl:=he.slot _ _ hlv
   simp only [SlR]at hsl
   obtain⟨b',q,el,q1,q2,q3,q4,q5,q6⟩:=hsl
   have hbb:b=b' :=by
    have:=h2.symm.trans q1
    simpa using this
   subst hbb
   obtain⟨hf,_⟩:=q4.flat q6
   have g1:=zGx hf (D.st_flat q6) h1
   have g2:=run_load (P:=P) (c:=c) (zCz q5) hsh
   simp only [Nat.zero_add]at g2
   have fin:∀u,(Instr.loadAt t (a.eval x')).run P w= .ok u w→(execOp a.eval o).run P w= .ok (.value u) w:=by
    intro u hu
    simp only [execOp,ho]; rw [Sem.run_bind,hu]; rfl
   cases sz with
   | some n=>
    obtain⟨g3,g4⟩:=g1
    rw [fin _ (by rw [h3]; exact g2 g3)]; exact .rep hs g4
   | none=>
    obtain⟨u,g3,g4,_⟩:=g1
    rw [fin _ (by rw [h3]; exact g2 u g3)]; exact .rep hs g4
  ·cases h
 ·cases h
theorem ok_iaddr {t e:TypeId}{m:Nat} {x' i' :Operand}{x i:Opd}(hx:opd G x' =some x)(hi:opd G i' =some i)(hu:P.underlying t=some (.slice e))(hsz:zPo P e=some (m+1))
  (h:opF C env s al (.iaddr (m+1) x i)=some (d,s')){o:Oper}(ho:o.op= .indexAddr t x' i'):OpOk P ρ w env a.tmps d s' ((execOp a.eval o).run P w):=by
 simp only [opF]at h
 split at h
 ·rename_i p n hp hn
  split at h
  ·rename_i k hk
   obtain⟨h1,rfl⟩:=zBu h
   have hv:=opR hx he hg hp
   obtain⟨kk,hnv⟩:=zBo hk (opR hi he hg hn)
   have run:∀b y len cap,a.eval x' = .slice (some ⟨b,y,none⟩) len cap→k < len→(execOp a.eval o).run P w= .ok (.value (.pointer (some ⟨b,y+k * (m+1),none⟩))) w:=by
    intro b y len cap hsl hlt
    have hh:(0:Int)≤(k:Int)∧(k:Int) < (len:Int):=by omega
    simp only [execOp,ho,Instr.indexAt,hsl,hnv,asIntOf]
    simp [run_underlying hu,zAk hsz,Addr.add_mid,hlt]
   unfold zEz at h1
   split at h1
   ·rename_i nl z l
    split at h1
    ·rename_i hz
     obtain rfl:=Nat.eq_of_beq_eq_true hz
     split at h1
     ·rename_i el hel
      simp only [Option.some.injEq]at h1; subst h1
      simp only [Rep]at hv
      rcases hv with ⟨_,rfl,_⟩ | ⟨_,ad,cap,hv,hle,hl⟩
      ·simp at hel
      ·rcases hl with rfl | ⟨b,y,rfl,hb,hE⟩
       ·simp at hel
       ·obtain⟨q,r1,r2,r3,r4,r5⟩:=hE.get hel
        have hlt:k < l.length:=(List.getElem?_eq_some_iff.1 hel).1
        rw [run b y _ cap hv hlt]
        exact .rep hs (by simp only [Rep]; exact ⟨b,_,q,hb,r1,r4,⟨by omega,r5⟩,rfl⟩)
     ·cases h1
    ·cases h1
   ·rename_i ob off len cp
    split at h1
    ·rename_i z ty es st hx2
     split at h1
     ·rename_i z1 z2 z3 z4
      simp only [Option.some.injEq]at h1; subst h1
      obtain rfl:=Nat.eq_of_beq_eq_true z1
      have y2:k < len:=by have:=Nat.le_of_ble_eq_true z2; omega
      obtain⟨hz,k1,_,_,hbl,hall⟩:=hs.ok _ _ hx2
      simp only [Rep,Gh.at,k1]at hv
      obtain⟨b,hb,q1,q2,q3,xx,cap,q4,q5,q6,q7⟩:=hv
      rw [run b xx len cap q4 y2]
      refine .rep hs ?_
      simp only [Rep,Gh.at,k1]
      refine⟨b,hb,by omega,by omega,by omega, ?_⟩
      have hxx:xx=(off - ρ.sh b) * (m+1):=by rcases q6 with q6 | q6 <;> omega
      rw [hxx,show off+k - ρ.sh b=(off - ρ.sh b)+k by omega,Nat.add_mul]
      rfl
     ·cases h1
    ·cases h1
   ·cases h1
  ·cases h
 ·cases h
omit he hg hs in
theorem zAz {b:Builtin}{args:Array Operand}{tys:Array TypeId}{o:Oper}(ho:o.op= .call { callee:= .builtin b,args:=args,argTypes:=tys}):
  (execOp a.eval o).run P w=(builtin b tys o.type (args.map fun | .const _=>true | _=>false) (args.map a.eval)).run P w:=by
 simp only [execOp,ho,resolve]
 rfl
omit he hg hs in
theorem RepM.length:∀ {l:List (Nat×D×D)} {es:List MapEntry},RepM ρ w l es→l.length=es.length
 | [],_,h=>by simp only [RepM]at h; subst h; rfl
 | (n,k,v)::l,_,h=>by
  simp only [RepM]at h
  obtain⟨e,r,rfl,_,_,_,h2⟩:=h
  simp [RepM.length h2]
theorem zZn {t:TypeId}{k:Nat} {x' :Operand}{x:Opd}(hx:opd G x' =some x)(hk:(k=0∧P.underlying t=some .string)∨(∃q,k=1∧P.underlying t=some (.slice q))∨(∃q r,k=2∧P.underlying t=some (.map q r)))
  (h:opF C env s al (.len k x)=some (d,s')){o:Oper}
  (ho:o.op= .call { callee:= .builtin .len,args:= #[x'],argTypes:= #[t]}):OpOk P ρ w env a.tmps d s' ((execOp a.eval o).run P w):=by
 simp only [opF]at h
 split at h
 ·rename_i i ex lo hi hp
  split at h
  ·simp only [Option.some.injEq,Prod.mk.injEq]at h
   obtain⟨rfl,rfl⟩:=h
   have hv:=opR hx he hg hp
   rcases hk with ⟨_,hu⟩ | ⟨q,hk,_⟩ | ⟨q,r,hk,_⟩
   ·simp only [Rep]at hv
    have hr:(Builtin.len_ #[t] o.type #[a.eval x']).run P w= .ok (goInt (Vals.vs i).length) w:=by
     simp [Builtin.len_,run_underlying hu,hv.1,ByteArray.size_mk']
    rw [zAz ho]
    simp only [builtin,List.map_toArray,List.map_cons,List.map_nil]
    rw [Sem.run_bind,hr]
    refine .rep hs ?_
    simp only [Rep,Sym.val,goInt]
    exact⟨trivial,by have:=hv.2.2.1; omega,by have:=hv.2.2.2; omega⟩
   ·cases hk
   ·cases hk
  ·cases h
 ·rename_i p hneg hp
  clear hneg
  split at h
  ·rename_i n hn
   simp only [Option.some.injEq,Prod.mk.injEq]at h
   obtain⟨rfl,rfl⟩:=h
   have hv:=opR hx he hg hp
   have fin:(Builtin.len_ #[t] o.type #[a.eval x']).run P w= .ok (goInt n) w→OpOk P ρ w env a.tmps (goI n) s ((execOp a.eval o).run P w):=by
    intro hr
    rw [zAz ho]
    simp only [builtin,List.map_toArray,List.map_cons,List.map_nil]
    rw [Sem.run_bind,hr]
    exact .rep hs (by simp [goI,goInt,Rep])
   apply fin
   rcases hk with ⟨rfl,hu⟩ | ⟨q,rfl,hu⟩ | ⟨q,r,rfl,hu⟩
   ·simp only [lenD]at hn
    split at hn <;> (try cases hn)
    simp only [Rep]at hv
    simp [Builtin.len_,run_underlying hu,hv,ByteArray.size_mk']
   ·simp only [lenD]at hn
    split at hn <;> (try cases hn)
    ·rename_i nl z l
     simp only [Rep]at hv
     have:∃p c,a.eval x' = .slice p l.length c:=by
      rcases hv with ⟨_,rfl,hv⟩ | ⟨_,ad,c,hv,_⟩
      ·exact⟨_,_,hv⟩
      ·exact⟨_,_,hv⟩
     obtain⟨p,c,hv⟩:=this
     simp [Builtin.len_,run_underlying hu,hv]
    ·simp only [Rep]at hv
     obtain⟨p,c,hv⟩:=Gh.at_any hv fun _ _ ⟨_,_,_,_,_,q,_⟩=>⟨_,_,q⟩
     simp [Builtin.len_,run_underlying hu,hv]
   ·simp only [lenD]at hn
    split at hn <;> (try cases hn)
    ·simp only [Rep]at hv
     simp [Builtin.len_,run_underlying hu,hv]
    ·rename_i ob
     split at hn
     ·rename_i es c hx2
      simp only [Option.some.injEq]at hn; subst hn
      obtain⟨b,ces,k1,one,hb,hM⟩:=hs.ok _ _ hx2
      simp only [Rep,Gh.at,k1]at hv
      obtain⟨b',hb',hv⟩:=hv
      obtain rfl:=one.2 _ hb'
      have hl:=hM.length
      simp [Builtin.len_,run_underlying hu,hv,getObj,Sem.run,hb,hl]
     ·cases hn
  ·cases h
 ·cases h
omit he hg hs in
theorem RepE.of {sz b:Nat}(hz:0 < sz):∀(l:List D) (x:Nat),(∀(i:Nat) (e:D),l[i]? =some e→∃v,Rep ρ w e v∧v.cells.size=sz∧CeA w b (x+i * sz) v∧e.st=true)→RepE ρ w sz b x l
 | [],_,_=>by simp [RepE]
 | d::l,x,h=>by
  simp only [RepE]
  obtain⟨v,h1,h2,h3,h4⟩:=h 0 d (by simp)
  refine⟨⟨v,h1,h2,hz,by simpa using h3,h4⟩,RepE.of hz l (x+sz) fun i e hi=> ?_⟩
  obtain⟨u,g1,g2,g3,g4⟩:=h (i+1) e (by simpa using hi)
  exact⟨u,g1,g2,by rwa [show x+(i+1) * sz=x+sz+i * sz by rw [Nat.add_mul]; omega]at g3,g4⟩
omit he hg in
theorem zJc {x:D}{v:Value}{z:Nat}{l:List D}(h:items s x=some (z,l))(hv:Rep ρ w x v):
  (l=[]∧∃p c,v= .slice p 0 c)∨∃b y c,v= .slice (some ⟨b,y,none⟩) l.length c∧RepE ρ w z b y l:=by
 cases x <;> simp only [items]at h <;> (try cases h)
 case vs nl=>
  simp only [Rep]at hv
  rcases hv with ⟨_,rfl,rfl⟩ | ⟨_,ad,c,rfl,_,hl⟩
  ·exact .inl ⟨rfl,_,_,rfl⟩
  ·rcases hl with rfl | ⟨b,y,rfl,_,hE⟩
   ·exact .inl ⟨rfl,_,_,rfl⟩
   ·exact .inr ⟨b,y,c,rfl,hE⟩
 case sl o off len cp=>
  split at h
  ·rename_i sz ty es st hx
   split at h
   ·rename_i h1 h2
    simp only [Option.some.injEq,Prod.mk.injEq]at h
    obtain⟨rfl,rfl⟩:=h
    have g1:=Nat.le_of_ble_eq_true h1
    have g2:=Nat.le_of_ble_eq_true h2
    obtain⟨hz,k1,_,_,hbl,hall⟩:=hs.ok _ _ hx
    simp only [Rep,Gh.at,k1]at hv
    obtain⟨b,hb,q1,q2,q3,xx,cap,q4,q5,q6,q7⟩:=hv
    have hlen:((es.drop off).take len).length=len:=by simp; omega
    by_cases hl0:len=0
    ·subst hl0
     exact .inl ⟨by simp,_,_,q4⟩
    ·have hxx:xx=(off - ρ.sh b) * sz:=by rcases q6 with q6 | q6 <;> omega
     refine .inr ⟨b,xx,cap,by rw [hlen]; exact q4,RepE.of hz _ _ fun i e hi=> ?_⟩
     rw [List.getElem?_take]at hi
     split at hi
     ·rw [List.getElem?_drop]at hi
      obtain⟨u,r1,r2,r3⟩:=(hbl b hb).get (by omega) (by omega) (by omega) hi
      refine⟨u,r1,r2, ?_,(zEf hall hi).2⟩
      rwa [show off+i - ρ.sh b=(off - ρ.sh b)+i by omega,Nat.add_mul,← hxx]at r3
     ·cases hi
   ·cases h
  ·cases h
theorem yFi {t e:TypeId}{n m:Nat} {x' i' :Operand}{x i:Opd}(hx:opd G x' =some x)(hi:opd G i' =some i)(hu:P.underlying t=some (.array n e))(hsz:zPo P e=some (m+1))
  (h:opF C env s al (.iaddrA n (m+1) x i)=some (d,s')){o:Oper}(ho:o.op= .indexAddr t x' i'):OpOk P ρ w env a.tmps d s' ((execOp a.eval o).run P w):=by
 have key:∀k kk (q:Addr),a.eval i' = .int kk (k:Nat)→k < n→a.eval x' = .pointer (some q)→(execOp a.eval o).run P w= .ok (.value (.pointer (some (q.add (k * (m+1)))))) w:=by
  intro k kk q hiv hlt hv
  simp only [execOp,ho,hv,hiv,Instr.indexAt,asIntOf,Instr.sureAddr]
  simp [run_underlying hu,zAk hsz,hlt]
 simp only [opF]at h
 split at h
 ·rename_i b c k hp hn
  split at h
  ·rename_i j hj
   obtain⟨kk,hiv⟩:=zBo hj (opR hi he hg hn)
   split at h
   ·rename_i hb hlv
    simp only [Option.some.injEq,Prod.mk.injEq]at h
    obtain⟨rfl,rfl⟩:=h
    have hlt:j < n:=by have:=Nat.le_of_ble_eq_true hb; omega
    obtain⟨y,hy⟩:=zKe hlv
    obtain⟨bb,h2,h3⟩:=zCw hx he hg hp y hy
    rw [key j kk _ hiv hlt h3,Addr.add_mid]
    exact .pure hs (by simp only [zBc]; exact fun _ _=>⟨bb,h2,rfl⟩)
   ·cases h
  ·cases h
 ·rename_i b c k hp hn
  split at h
  ·rename_i j hj
   obtain⟨kk,hiv⟩:=zBo hj (opR hi he hg hn)
   split at h
   ·rename_i hb
    simp only [Option.some.injEq,Prod.mk.injEq]at h
    obtain⟨rfl,rfl⟩:=h
    have hlt:j < n:=by have:=Nat.le_of_ble_eq_true hb; omega
    have h1:=zCw hx he hg hp
    simp only [zBc,Rep]at h1
    unfold Gh.at at h1
    split at h1
    ·exact h1.elim
    ·rename_i hk
     obtain⟨q,hq⟩:=h1
     rw [key j kk q hiv hlt hq]
     exact .rep hs (by simp only [Rep,Gh.at,hk]; exact ⟨_,rfl⟩)
    ·rename_i sz hk
     obtain⟨bb,h2,h3⟩:=h1
     rw [key j kk _ hiv hlt h3,Addr.add_mid]
     exact .rep hs (by simp only [Rep,Gh.at,hk]; exact ⟨bb,h2,rfl⟩)
   ·cases h
  ·cases h
 ·rename_i b i2 c z k hp hn
  split at h
  ·rename_i j hj
   obtain⟨kk,hiv⟩:=zBo hj (opR hi he hg hn)
   split at h
   ·rename_i hb
    simp only [Option.some.injEq,Prod.mk.injEq]at h
    obtain⟨rfl,rfl⟩:=h
    have hlt:j < n:=by have:=Nat.le_of_ble_eq_true hb; omega
    have h1:=zCw hx he hg hp
    simp only [zBc,Rep]at h1
    unfold Gh.at at h1
    split at h1
    ·exact h1.elim
    ·rename_i hk
     obtain⟨q,hq⟩:=h1
     rw [key j kk q hiv hlt hq]
     exact .rep hs (by simp only [Rep,Gh.at,hk]; exact ⟨_,rfl⟩)
    ·rename_i sz hk
     obtain⟨bb,h2,h3,h4,h5,h6⟩:=h1
     rw [key j kk _ hiv hlt h6,Addr.add_mid]
     exact .rep hs (by simp only [Rep,Gh.at,hk]; exact ⟨bb,h2,h3,h4,h5,by rw [Nat.add_assoc]⟩)
   ·cases h
  ·cases h
 ·rename_i e' c k hp hn
  split at h
  ·rename_i j hj
   obtain⟨kk,hiv⟩:=zBo hj (opR hi he hg hn)
   split at h
   ·rename_i hb
    simp only [Option.some.injEq,Prod.mk.injEq]at h
    obtain⟨rfl,rfl⟩:=h
    have hlt:j < n:=by have:=Nat.le_of_ble_eq_true hb; omega
    have h1:=zCw hx he hg hp
    simp only [zBc,Rep]at h1
    obtain⟨b,xx,u,q1,q2,q3,q4,q5⟩:=h1
    rw [key j kk _ hiv hlt q5,Addr.add_mid]
    exact .rep hs (by simp only [Rep]; exact ⟨b,xx,u,q1,q2,q3,q4,by rw [Nat.add_assoc]⟩)
   ·cases h
  ·cases h
 ·cases h
theorem ok_aidx {t e:TypeId}{n:Nat}{sz:Option Nat} {x' i' :Operand}{x i:Opd}(hx:opd G x' =some x)(hi:opd G i' =some i)(hu:P.underlying t=some (.array n e))(hsh:zBm P e=some sz)
  (h:opF C env s al (.aidx n (sz.getD 1) sz.isSome x i)=some (d,s')){o:Oper}(ho:o.op= .index t x' i'):OpOk P ρ w env a.tmps d s' ((execOp a.eval o).run P w):=by
 have hsz:zPo P e=some (sz.getD 1):=by
  unfold zBm at hsh
  split at hsh
  ·rename_i s' h1 h2; simp only [Option.some.injEq]at hsh; subst hsh; simpa using h2
  ·rename_i h1 h2; simp only [Option.some.injEq]at hsh; subst hsh; simpa using h2
  ·cases hsh
 simp only [opF]at h
 split at h
 ·rename_i l k hp hn
  split at h
  ·rename_i j hj
   obtain⟨kk,hiv⟩:=zBo hj (opR hi he hg hn)
   split at h
   ·rename_i hb
    obtain⟨h1,rfl⟩:=zBu h
    have hlt:j < n:=by have:=Nat.le_of_ble_eq_true hb; omega
    have hv:=opR hx he hg hp
    simp only [Rep]at hv
    obtain⟨vs,hv,hl,hsc⟩:=hv
    have h1' :part l (j * sz.getD 1) sz=some d:=by
     cases sz <;> simpa using h1
    obtain⟨u,r1,r2⟩:=zFk (P:=P) hl hsc hsh h1'
    have hr:(execOp a.eval o).run P w= .ok (.value u) w:=by
     simp only [execOp,ho,hv,hiv,Instr.index,asIntOf]
     simp [run_underlying hu,zAk hsz,hlt,r1]
    rw [hr]; exact .rep hs r2
   ·cases h
  ·cases h
 ·cases h
end
end Go.Ab
namespace Go.Ab
open Go
variable [Vals]
variable {ρ:Gh}{w:World}{P:Program}{G:Gl}{X:Exts}{A:Adv} {s s' :St}{env:Env}{a:Act}{lo:Nat}{d:D}{C:zAa}{al:Option Nat}
theorem zLf {em:Bool}{n:Nat}{xs:Array Value}{lx:List D}{f:TypeId→Option ET}(hx:RepL ρ w lx xs.toList)(hsx:lx.all D.sc=true)
  (ih:∀t e,f t=some e→∀x u,keyD e x=true→Rep ρ w x u→(Instr.checkKey em n t u).run P w= .ok () w):
  ∀(fs:List Field) (l:ETs),etB.fieldsB P f fs=some l→yHr l lx=true→
   ((forIn fs PUnit.unit fun f _=>do
     if f.name ≠ "_" then do
      let v ← Go.part f.type xs f.offset
      Instr.checkKey em n f.type v
      pure (ForInStep.yield PUnit.unit)
     else pure (ForInStep.yield PUnit.unit):Sem PUnit)).run P w= .ok PUnit.unit w
 | [],_,_,_=>by simp
 | x::fs,l,h,hk=>by
  simp only [etB.fieldsB]at h
  split at h
  ·cases h
  ·rename_i hn
   split at h
   ·rename_i s e l' h1 h2 h3
    simp only [Option.some.injEq]at h; subst h
    simp only [yHr]at hk
    split at hk
    ·rename_i p hp
     simp only [Bool.and_eq_true]at hk
     obtain⟨u,hu1,hu2⟩:=zFk (P:=P) hx hsx h1 hp
     have hne : x.name ≠ "_" := by simpa using hn
     have hi:=ih x.type e h2 p u hk.1 hu2
     have hrest:=zLf hx hsx ih fs l' h3 hk.2
     simp only [List.forIn_cons,hne,ne_eq,not_false_eq_true,if_true,Sem.run_bind,hu1,hi,Result.andThen_ok,Sem.run_pure]
     exact hrest
    ·cases hk
   ·cases h
theorem zEv (em:Bool):∀(n:Nat) (t:TypeId) (et:ET),etB P n t=some et→∀(k:Nat),n≤k→∀(x:D) (u:Value),keyD et x=true→Rep ρ w x u→(Instr.checkKey em k t u).run P w= .ok () w:=by
 intro n
 induction n with
 | zero=>intro t et h; simp [etB]at h
 | succ n ih=>
  intro t et h k hkn x u hxy hu
  obtain⟨k,rfl⟩:∃j,k=j+1:=⟨k - 1,by omega⟩
  simp only [etB]at h
  split at h
  ·rename_i hun
   simp only [Option.some.injEq]at h; subst h
   simp only [keyD]at hxy
   split at hxy <;> (try cases hxy)
   ·simp only [Rep]at hu; subst hu
    simp [Instr.checkKey,run_underlying hun]
   ·simp only [Rep]at hu; subst hu
    simp [Instr.checkKey,run_underlying hun]
  ·rename_i kk hun
   simp only [Option.some.injEq]at h; subst h
   simp only [keyD]at hxy
   split at hxy <;> (try cases hxy)
   ·simp only [Rep]at hu; subst hu
    simp [Instr.checkKey,run_underlying hun]
   ·simp only [Rep]at hu; obtain ⟨rfl,_⟩:=hu
    simp [Instr.checkKey,run_underlying hun]
  ·rename_i hun
   simp only [Option.some.injEq]at h; subst h
   simp only [keyD]at hxy
   split at hxy <;> (try cases hxy)
   ·simp only [Rep]at hu; subst hu
    simp [Instr.checkKey,run_underlying hun]
   ·simp only [Rep]at hu; obtain ⟨rfl,_⟩:=hu
    simp [Instr.checkKey,run_underlying hun]
  ·split at h <;> simp at h; subst h; simp [keyD]at hxy
  ·simp only [Option.some.injEq]at h; subst h; simp [keyD]at hxy
  ·simp only [Option.some.injEq]at h; subst h; simp [keyD]at hxy
  ·simp only [Option.some.injEq]at h; subst h; simp [keyD]at hxy
  ·simp only [Option.some.injEq]at h; subst h; simp [keyD]at hxy
  ·rename_i fs hun
   split at h
   ·cases h
   ·simp only [Option.map_eq_some_iff]at h
    obtain⟨l,hl,rfl⟩:=h
    simp only [keyD]at hxy
    split at hxy
    ·simp only [Rep]at hu
     obtain⟨xs,rfl,hx1,hx2⟩:=hu
     simp only [Instr.checkKey,Sem.run_bind,run_underlying hun,Result.andThen_ok]
     rw [← Array.forIn_toList]
     have:=zLf (P:=P) (w:=w) (ρ:=ρ) (em:=em) (n:=k) hx1 hx2 (fun t' e' h' x' u' hh hu' =>ih t' e' h' k (by omega) x' u' hh hu') fs.toList l hl hxy
     rw [this]; rfl
    ·cases hxy
  ·cases h
def Found (ρ:Gh)(w:World):Option (Nat×D)→Option (Nat×Value)→Prop
 | none,r=>r=none
 | some (i,d),r=>∃v,r=some (i,v)∧Rep ρ w d v
theorem zXp {t:TypeId}{e:TypeDesc}{et:ET}{x y:D}{u v:Value} {r r' :Bool}(hu:P.underlying t=some e)(het:etB P 8 t=some et)(h:eqT false et x y=some r) (h' :Instr.sameNow e u v=some r')(hx:Rep ρ w x u)(hy:Rep ρ w y v):r' =r:=by
 simp only [etB,hu]at het
 cases e <;> simp only [Instr.sameNow]at h' <;> (try cases h')
 ·simp only [Option.some.injEq]at het; subst het
  simp only [eqT]at h
  obtain⟨p,q,rfl,rfl,rfl⟩:=zKi h hx hy
  simp only [Option.some.injEq]at h'; exact h'.symm
 ·simp only [Option.some.injEq]at het; subst het
  simp only [eqT]at h
  obtain⟨k,p,q,rfl,rfl,rfl⟩:=zNt h hx hy
  simp only [if_true,Option.some.injEq]at h'; exact h'.symm
 ·simp only [Option.some.injEq]at het; subst het
  simp only [eqT]at h
  obtain⟨p,q,rfl,rfl,rfl⟩:=zNs h hx hy
  simp only [Option.some.injEq]at h'
  rw [← h',beq_toListBytes,ByteArray.toList_eq,ByteArray.toList_eq]
theorem zMn {t:TypeId}{e:TypeDesc}{et:ET}{k:D}{u:Value}(hu:P.underlying t=some e)(het:etB P 8 t=some et)(hk:Rep ρ w k u):
  ∀(es:List (Nat×D×D)) (ces:List MapEntry) (i:Nat) (r:Option (Nat×D)) (r' :Option (Nat×Value)),RepM ρ w es ces→findKey et k es i=some r→Instr.findNow e u ces i=some r' →Found ρ w r r'
 | [],_,i,r,r',hM,h,h' =>by
  simp only [RepM]at hM; subst hM
  simp only [findKey,Option.some.injEq]at h; subst h
  simp only [Instr.findNow,Option.some.injEq]at h'; subst h'
  rfl
 | (n,k',v)::es,_,i,r,r',hM,h,h' =>by
  simp only [RepM]at hM
  obtain⟨c,cs,rfl,_,h1,h2,h3⟩:=hM
  simp only [findKey]at h
  simp only [Instr.findNow]at h'
  cases hs:Instr.sameNow e u c.key with
  | none=>simp [hs]at h'
  | some b' =>
   cases hq:eqT false et k k' with
   | none=>simp [hq]at h
   | some b=>
    have hb:=zXp (P:=P) hu het hq hs hk h1
    subst hb
    cases b'
    ·simp only [hq]at h
     simp only [hs]at h'
     exact zMn hu het hk es cs (i+1) r r' h3 h h'
    ·simp only [hq,Option.some.injEq]at h
     simp only [hs,Option.some.injEq]at h'
     subst h h'
     exact⟨_,rfl,h2⟩
theorem zHo {t:TypeId}{et:ET}{k:D}{u:Value}(het:etB P 8 t=some et)(hk:Rep ρ w k u):
  ∀(es:List (Nat×D×D)) (ces:List MapEntry) (i:Nat) (r:Option (Nat×D)),RepM ρ w es ces→findKey et k es i=some r→∃r',(Instr.findAsking t u ces i).run P w= .ok r' w∧Found ρ w r r'
 | [],_,i,r,hM,h=>by
  simp only [RepM]at hM; subst hM
  simp only [findKey,Option.some.injEq]at h; subst h
  exact⟨none,by simp [Instr.findAsking],rfl⟩
 | (n,k',v)::es,_,i,r,hM,h=>by
  simp only [RepM]at hM
  obtain⟨c,cs,rfl,_,h1,h2,h3⟩:=hM
  simp only [findKey]at h
  cases hq:eqT false et k k' with
  | none=>simp [hq]at h
  | some b=>
   have he:(Op.equal t u c.key).run P w= .ok b w:=eqT_ok false 8 t et het Op.maxDepth (by decide) k k' b _ _ hq hk h1
   cases b
   ·simp only [hq]at h
    obtain⟨r',g1,g2⟩:=zHo het hk es cs (i+1) r h3 h
    exact⟨r',by simp [Instr.findAsking,he,g1],g2⟩
   ·simp only [hq,Option.some.injEq]at h; subst h
    exact⟨some (i,c.val),by simp [Instr.findAsking,he],_,rfl,h2⟩
theorem zCn {t:TypeId}{et:ET}{k:D}{u:Value}(het:etB P 8 t=some et)(hk:Rep ρ w k u){es:List (Nat×D×D)}{ces:List MapEntry}{r:Option (Nat×D)}(hM:RepM ρ w es ces)(h:findKey et k es 0=some r):
  ∃r',(Instr.findKey t u ces).run P w= .ok r' w∧Found ρ w r r' :=by
 cases hu:P.underlying t with
 | none=>simp [etB,hu]at het
 | some e=>
  simp only [Instr.findKey,Sem.run_bind,run_underlying hu,Result.andThen_ok]
  cases hn:Instr.findNow e u ces 0 with
  | some r' =>exact ⟨r',by simp,zMn hu het hk es ces 0 r r' hM h hn⟩
  | none=>
   obtain⟨r',g1,g2⟩:=zHo (P:=P) het hk es ces 0 r hM h
   exact⟨r',by simpa using g1,g2⟩
end Go.Ab
