/- Part. -/
import Derived.Test.YtdkejjahldkkoaaGreatDoorG19
set_option linter.unusedSectionVars false
set_option linter.unusedSimpArgs false
set_option linter.unusedVariables false
namespace Go.Ab.Sm
theorem nI {p:Prop}(h:p:=by repeat (first | assumption | refine St.eP ?_ (by first | assumption | (apply bO; assumption) | omega | (simp only [St.dN,St.fE,St.jw]; omega)) | refine St.fh ?_ (by first | assumption | (apply bO; assumption) | omega | (simp only [St.dN,St.fE,St.jw]; omega)) | refine St.CA ?_ | exact St.Ok.fresh (by assumption) _ (by first | assumption | omega | (simp only [St.dN,St.fE,St.jw]; omega)))):p:=h
theorem gI {p:Prop}(h:p:=by repeat (first | assumption | exact St.aN | exact St.ba | refine St.eP ?_ (by first | assumption | (apply bO; assumption) | omega | (simp only [St.dN,St.fE,St.jw]; omega)) | refine St.fh ?_ (by first | assumption | (apply bO; assumption) | omega | (simp only [St.dN,St.fE,St.jw]; omega)) | refine St.CA ?_)):p:=h
theorem cI {p:Prop}(h:p:=by first | (with_reducible exact Ct) | (simp (disch:=first | assumption | omega | (apply bO; assumption)) only [fg,kX,cE,aI,bz,nj,fZ,bz.cV,bP.ev,Env.get,Nat.beq,r9,pX,Go.Ab.T.uq,cA,iL,dY,bX,aQ,lG,fM,fk]; done) | rfl):p:=h
theorem fI {p:Prop}(h:p:=by first | (dsimp only [cE,aI,bz,nj,fZ,bz.cV,bP.ev,Env.get,Nat.beq,Option.getD]; done) | (dsimp only [cE,aI,bz,nj,fZ,bz.cV,bP.ev,Env.get,Nat.beq,Option.getD]; rfl) | rfl):p:=h
theorem oI {p:Prop}(h:p:=by repeat (first | assumption | refine St.Ok.bc ?_ _ | refine St.Ok.bD ?_ _ (by first | assumption | omega | (simp only [St.dN,St.fE,St.jw]; omega)) | refine St.Ok.up ?_ _)):p:=h
theorem sI {p:Prop}(h:p:=by first | assumption | omega | (simp only [aL,aB,aU,bL,iV,gE,aH]; omega)):p:=h
theorem bI {p:Prop}(h:p:=by repeat (first | assumption | exact aC.refl (by assumption) | refine aC.set ?_ _ (by first | assumption | omega | (simp only [St.dN,St.fE,St.jw]; omega)) (fun hbeh=>by first | (exfalso; omega) | (exfalso; simp only [St.dN,St.fE,St.jw]at hbeh; omega) | (simp; done)) | refine aC.push ?_ _ | refine aC.up ?_ _)):p:=h
open Go Go.Ab
variable {T:Nat->Option dS}{H:au}
abbrev QP:=Ex->Fr->St->Prop
inductive je where
 | seq (b:AC)
 | block (id:Nat)
 | loop (I:Nat->Env->St->Prop) (bR:List Nat) (m:Nat)
 | again (bR:List Nat) (a:AC)
 | call (rs:List xb) (dst:Option Nat) (b:Nat) (l:List bj) (fr:Fr)
def mK (T:Nat->Option dS)(H:au)(Q:QP):List je->Ex->Fr->St->Prop
 | [],e,fr,s=>Q e fr s
 | .seq b::k,.normal,fr,s=>Wp T H b fr s (mK T H Q k)
 | .seq _::k,.exit i,fr,s=>mK T H Q k (.exit i) fr s
 | .seq _::k,.ret,fr,s=>mK T H Q k .ret fr s
 | .block id::k,.exit i,fr,s=>if i=id then mK T H Q k .normal fr s else mK T H Q k (.exit i) fr s
 | .block _::k,.normal,fr,s=>mK T H Q k .normal fr s
 | .block _::k,.ret,fr,s=>mK T H Q k .ret fr s
 | .loop I bR m::_,.normal,fr,s=>∃m',m' < m/\fr.defers=[]/\I m' (fr.env.bR bR) s
 | .loop _ _ _::k,.exit i,fr,s=>mK T H Q k (.exit i) fr s
 | .loop _ _ _::k,.ret,fr,s=>mK T H Q k .ret fr s
 | .again bR a::k,.normal,fr,s=>Wp T H (.loop bR a) fr s (mK T H Q k)
 | .again _ _::k,.exit i,fr,s=>mK T H Q k (.exit i) fr s
 | .again _ _::k,.ret,fr,s=>mK T H Q k .ret fr s
 | .call rs dst b l fr0::k,e,fr,s=>(∀i,e≠ .exit i)/\marks fr.defers=true/\∃r,kY fr.env s rs=some r/\SD T H b l ⟨iu fr0.env dst (single r),fr0.defers⟩ s (mK T H Q k .normal)
structure eI (T:Nat->Option dS)(H:au)(a:AC)(k:List je)(fr:Fr)(s:St)(Q:QP):Prop where
 out:Wp T H a fr s (mK T H Q k)
structure gN (T:Nat->Option dS)(H:au)(b:Nat)(l:List bj)(k:List je)(fr:Fr)(s:St)(Q:QP):Prop where
 out:SD T H b l fr s (mK T H Q k .normal)
structure kZ (T:Nat->Option dS)(H:au)(e:Ex)(k:List je)(fr:Fr)(s:St)(Q:QP):Prop where
 out:mK T H Q k e fr s
def cu (T:Nat->Option dS)(H:au)(f:Nat)(x:List D)(s:St)(R:D->St->Prop):Prop:=∃d s1,Ev T H f x s (d,s1)/\R d s1
structure Call (T:Nat->Option dS)(H:au)(f:Nat)(x:List D)(dst:Option Nat)(b:Nat)(l:List bj)(k:List je)(fr:Fr)(s:St)(Q:QP):Prop where
 out:cu T H f x s fun d s1=>SD T H b l ⟨iu fr.env dst d,fr.defers⟩ s1 (mK T H Q k .normal)
variable {b:Nat}{k:List je}{fr:Fr}{s:St}{Q:QP}{l:List bj}
theorem E0 (h:kZ T H .normal k fr s Q):eI T H .skip k fr s Q:=by
 have h:=h.out;exact⟨wp_skip h⟩
theorem Ic (h:kZ T H .ret k fr s Q):eI T H .ret k fr s Q:=by
 have h:=h.out;exact⟨wp_ret h⟩
theorem CV {i:Nat}(h:kZ T H (.exit i) k fr s Q):eI T H (.exit i) k fr s Q:=by
 have h:=h.out;exact⟨wp_exit h⟩
theorem ma (h:gN T H 0 l k fr s Q):eI T H (.Aa l) k fr s Q:=by
 have h:=h.out;exact⟨Ww h⟩
theorem run_seq {a c:AC}(h:eI T H a (.seq c::k) fr s Q):eI T H (.seq a c) k fr s Q:=by
 have h:=h.out;exact⟨wp_seq (Wp.mono h fun e f1 s1 h1=>by cases e <;> exact h1)⟩
theorem Bt {id:Nat}{a:AC}(h:eI T H a (.block id::k) fr s Q):eI T H (.block id a) k fr s Q:=by
 have h:=h.out;exact⟨wp_block (Wp.mono h fun e f1 s1 h1=>by cases e <;> exact h1)⟩
theorem vN {c:bP}{x y:AC}(h:eI T H x k fr s Q)(hc:c.ev fr.env=some (.bool true):=by rfl):eI T H (.cond c x y) k fr s Q:=by
 have h:=h.out;exact⟨wp_cond hc h⟩
theorem vP {c:bP}{x y:AC}(h:eI T H y k fr s Q)(hc:c.ev fr.env=some (.bool false):=by rfl):eI T H (.cond c x y) k fr s Q:=by
 have h:=h.out;exact⟨wp_cond hc h⟩
theorem cY {c:bP}{x y:AC}{v:Bool}(h1:v=true->eI T H x k fr s Q)(h2:v=false->eI T H y k fr s Q)(hc:c.ev fr.env=some (.bool v):=by rfl):eI T H (.cond c x y) k fr s Q:=by
 have h1:=fun hh=>(h1 hh).out;have h2:=fun hh=>(h2 hh).out;refine⟨?_⟩;cases v with
 | true=>exact (vN ⟨h1 rfl⟩ hc).out
 | false=>exact (vP ⟨h2 rfl⟩ hc).out
theorem cg {bR:List Nat}{a:AC}(I:Nat->Env->St->Prop)(m:Nat)(hd:fr.defers=[])(h0:I m (fr.env.bR bR) s)
  (h:∀m env s,I m env s->eI T H a (.loop I bR m::k) ⟨env,[]⟩ s Q)(hb:a.il=false:=by rfl):eI T H (.loop bR a) k fr s Q:=by
 refine⟨?_⟩;refine wp_loop (I:=fun m fr s=>fr.defers=[]/\I m (fr.env.bR bR) s) (fun n fr s hI=> ?_) hb m fr s ⟨hd,h0⟩;obtain⟨env,ds⟩:=fr;obtain⟨pL,hI⟩:=hI;simp only at pL; subst pL;exact Wp.mono (h n _ s hI).out fun e f1 s1 h1=>by cases e <;> exact h1
theorem lQ {bR:List Nat}{a:AC}{env:Env}(h:eI T H a (.again bR a::k) ⟨env,fr.defers⟩ s Q)(hk:fr.env.bR bR=env:=by rfl)(hb:a.il=false:=by rfl):eI T H (.loop bR a) k fr s Q:=by
 have h:=h.out;refine⟨?_⟩;subst hk;obtain⟨e,f1,s1,h1,h2⟩:=h;cases e with
 | normal=>
  obtain⟨e2,f2,s2,h3,h4⟩:=h2;exact⟨e2,f2,s2,.again h1 h3 hb,h4⟩
 | exit i=>exact ⟨_,f1,s1,.stop h1 (by simp) hb,h2⟩
 | ret=>exact ⟨_,f1,s1,.stop h1 (by simp) hb,h2⟩
theorem yn {bR:List Nat}{a:AC}{i:Nat}(h:kZ T H (.exit i) k fr s Q):kZ T H (.exit i) (.again bR a::k) fr s Q:=by
 have h:=h.out;refine⟨?_⟩;exact h
theorem x5 {bR:List Nat}{a:AC}(h:kZ T H .ret k fr s Q):kZ T H .ret (.again bR a::k) fr s Q:=by
 have h:=h.out;refine⟨?_⟩;exact h
theorem qB {e:Ex}(h:Q e fr s):kZ T H e [] fr s Q:=by
 exact⟨h⟩
theorem yh {c:AC}(h:eI T H c k fr s Q):kZ T H .normal (.seq c::k) fr s Q:=by
 have h:=h.out;refine⟨?_⟩;exact h
theorem Ez {c:AC}{i:Nat}(h:kZ T H (.exit i) k fr s Q):kZ T H (.exit i) (.seq c::k) fr s Q:=by
 have h:=h.out;refine⟨?_⟩;exact h
theorem DU {c:AC}(h:kZ T H .ret k fr s Q):kZ T H .ret (.seq c::k) fr s Q:=by
 have h:=h.out;refine⟨?_⟩;exact h
theorem ym {id:Nat}(h:kZ T H .normal k fr s Q):kZ T H .normal (.block id::k) fr s Q:=by
 have h:=h.out;refine⟨?_⟩;exact h
theorem x6 {id:Nat}(h:kZ T H .ret k fr s Q):kZ T H .ret (.block id::k) fr s Q:=by
 have h:=h.out;refine⟨?_⟩;exact h
theorem x8 {i:Nat}(h:kZ T H .normal k fr s Q):kZ T H (.exit i) (.block i::k) fr s Q:=by
 have h:=h.out;refine⟨?_⟩;show (if i=i then _ else _); rw [bJ rfl]; exact h
theorem zB {i id:Nat}(h:kZ T H (.exit i) k fr s Q)(hn:Nat.beq i id=false:=by rfl):kZ T H (.exit i) (.block id::k) fr s Q:=by
 have h:=h.out;refine⟨?_⟩;show (if i=id then _ else _);rw [aJ (fun e=>by subst e; rw [az]at hn; cases hn)]; exact h
theorem AH {I:Nat->Env->St->Prop}{bR:List Nat}{m i:Nat}(h:kZ T H (.exit i) k fr s Q):kZ T H (.exit i) (.loop I bR m::k) fr s Q:=by
 have h:=h.out;refine⟨?_⟩;exact h
theorem Bv {I:Nat->Env->St->Prop}{bR:List Nat}{m:Nat}(h:kZ T H .ret k fr s Q):kZ T H .ret (.loop I bR m::k) fr s Q:=by
 have h:=h.out;refine⟨?_⟩;exact h
theorem bg {I:Nat->Env->St->Prop}{bR:List Nat}{m:Nat} (m' :Nat)(hm:m' < m)(hd:fr.defers=[])(h:I m' (fr.env.bR bR) s):kZ T H .normal (.loop I bR m::k) fr s Q:=by
 exact⟨m',hm,hd,h⟩
theorem Aq {rs:List xb}{t:Nat}{e0:Env}{ds:List (D×List D)}{r:List D}{d:D}(h:gN T H b l k ⟨(t,d)::e0,ds⟩ s Q)(hd:marks fr.defers=true:=by rfl)(hr:kY fr.env s rs=some r:=by rfl)(he:single r=d:=by rfl):kZ T H .ret (.call rs (some t) b l ⟨e0,ds⟩::k) fr s Q:=by
 have h:=h.out;refine⟨?_⟩;subst he;exact⟨fun i=>by simp,hd,r,hr,h⟩
theorem Bz {rs:List xb}{t:Nat}{e0:Env}{ds:List (D×List D)}{r:List D}{d:D}(h:gN T H b l k ⟨(t,d)::e0,ds⟩ s Q)(hd:marks fr.defers=true:=by rfl)(hr:kY fr.env s rs=some r:=by rfl)(he:single r=d:=by rfl):kZ T H .normal (.call rs (some t) b l ⟨e0,ds⟩::k) fr s Q:=by
 have h:=h.out;refine⟨?_⟩;subst he;exact⟨fun i=>by simp,hd,r,hr,h⟩
def NX (N:Nat)(F:Nat->Env)(I:Nat->St->Prop):Nat->Env->St->Prop:=fun m env s=>∃j,j<=N/\m=N - j/\env=F j/\I j s
theorem eT {bR:List Nat}{a:AC}(N:Nat)(F:Nat->Env)(I:Nat->St->Prop)(hI:I 0 s)(h:∀j s,j<=N->I j s->eI T H a (.loop (NX N F I) bR (N - j)::k) ⟨F j,[]⟩ s Q)(hd:fr.defers=[]:=by rfl)(hF:fr.env.bR bR=F 0:=by rfl)(hb:a.il=false:=by rfl):eI T H (.loop bR a) k fr s Q:=by
 refine cg (NX N F I) N hd ⟨0,aR _,rfl,hF,hI⟩ ?_ hb;rintro m env s ⟨j,hj,rfl,rfl,hI⟩;exact h j s hj hI
theorem dO {N:Nat}{F:Nat->Env}{I:Nat->St->Prop}{bR:List Nat}{j:Nat}(hj:j < N)(hI:I (j+1) s)(hd:fr.defers=[]:=by rfl)(hF:fr.env.bR bR=F (j+1):=by rfl):kZ T H .normal (.loop (NX N F I) bR (N - j)::k) fr s Q:=
 bg (N - (j+1)) (by omega) hd ⟨j+1,by omega,rfl,hF,hI⟩
theorem iD {C:au}{o:bj}{d:D}{s1:St}(hw:aI fr.env o.guard=some true)(ho:cB C fr.env s (match o.al with | some r=>some (b+r) | none=>none) o.op=some (d,s1)):
  oper C b o fr s=some ({ fr with env:=iu fr.env o.dst d},s1):=by
 obtain⟨dst,op,g,al⟩:=o;unfold oper;rw [hw];cases op
 case defer=>simp [cB]at ho
 case nC=>simp [cB]at ho
 case iY=>simp [cB]at ho
 all_goals
  cases al <;>
  ·simp only at ho ⊢;rw [ho]
theorem BG (h:kZ T H .normal k fr s Q):gN T H b [] k fr s Q:=by
 have h:=h.out;refine⟨?_⟩;exact⟨fr,s,.nil,h⟩
theorem uh {o:bj}{fr1:Fr}{s1:St}(h1:oper fD b o fr s=some (fr1,s1))(h:gN T H b l k fr1 s1 Q):gN T H b (o::l) k fr s Q:=by
 have h:=h.out;refine⟨?_⟩;exact OI h1 h
theorem dC {dst:Option Nat}{op:eN}{g:Option (Nat×Bool)}{e:Env}{ds:List (D×List D)}{d:D}{s1:St}(h:gN T H b l k ⟨iu e dst d,ds⟩ s1 Q)(hw:aI e g=some true)(ho:cB fD e s none op=some (d,s1)):
  gN T H b (⟨dst,op,g,none⟩::l) k ⟨e,ds⟩ s Q:=uh (iD (o:=⟨dst,op,g,none⟩) (fr:=⟨e,ds⟩) hw ho) h
theorem ak {f:Nat}{x:List D}{t:Nat}{e:Env}{ds:List (D×List D)}{R:D->St->Prop}(h:cu T H f x s R)(h2:∀d s1,R d s1->gN T H b l k ⟨(t,d)::e,ds⟩ s1 Q):Call T H f x (some t) b l k ⟨e,ds⟩ s Q:=by
 have h2:=fun d s1 hh=>(h2 d s1 hh).out;refine⟨?_⟩;obtain⟨d,s1,h1,h3⟩:=h;exact⟨d,s1,h1,h2 d s1 h3⟩
theorem gP {f:Nat}{fn:dS}{x:List D}{dst:Option Nat}(hT:T f=some fn)(h:eI T H fn.body (.call fn.results dst b l fr::k) ⟨uo 0 x,[]⟩ s Q)(hy:yS x=false:=by rfl):Call T H f x dst b l k fr s Q:=by
 have h:=h.out;refine⟨?_⟩;refine Dx hT (Wp.mono h ?_) hy;rintro e f1 s1 ⟨h1,h2,r,h3,h4⟩;exact⟨h1,h2,r,h3,h4⟩
def QF (rs:List xb)(R:D->St->Prop):QP:=fun e f1 s1=>(∀i,e≠ .exit i)/\marks f1.defers=true/\∃r,kY f1.env s1 rs=some r/\R (single r) s1
theorem ay {f:Nat}{fn:dS}{x:List D}{R:D->St->Prop}(hT:T f=some fn)(h:eI T H fn.body [] ⟨uo 0 x,[]⟩ s (QF fn.results R))(hy:yS x=false:=by rfl):cu T H f x s R:=by
 have h:=h.out;exact Dx hT h hy
theorem ai {rs:List xb}{R:D->St->Prop}{r:List D}{d:D}(h:R d s)(hd:marks fr.defers=true:=by rfl)(hr:kY fr.env s rs=some r:=by rfl)(he:single r=d:=by rfl):kZ T H .ret [] fr s (QF rs R):=by
 refine⟨?_⟩;subst he;exact⟨fun i=>by simp,hd,r,hr,h⟩
theorem gU {rs:List xb}{R:D->St->Prop}{r:List D}{d:D}(h:R d s)(hd:marks fr.defers=true:=by rfl)(hr:kY fr.env s rs=some r:=by rfl)(he:single r=d:=by rfl):kZ T H .normal [] fr s (QF rs R):=by
 refine⟨?_⟩;subst he;exact⟨fun i=>by simp,hd,r,hr,h⟩
theorem cu.mono {f:Nat}{x:List D} {R R' :D->St->Prop}(h:cu T H f x s R)(hR:∀d s1,R d s1->R' d s1):cu T H f x s R' :=by
 obtain⟨d,s1,h1,h2⟩:=h;exact⟨d,s1,h1,hR _ _ h2⟩
theorem _root_.Go.Ab.St.aN {s:St}{o:Nat}{x:Obj}:(s.bD o x).get o=some x:=by rw [St.RH,bJ rfl]
theorem _root_.Go.Ab.St.ba {s:St}{x:Obj}:(s.bc x).get s.n=some x:=by rw [St.P9,bJ rfl]
theorem _root_.Go.Ab.St.eP {s:St}{o j:Nat}{x:Obj}{y:Option Obj}(h:s.get j=y)(hn:j≠o):(s.bD o x).get j=y:=by rw [St.RH,aJ hn]; exact h
theorem _root_.Go.Ab.St.fh {s:St}{j:Nat}{x:Obj}{y:Option Obj}(h:s.get j=y)(hn:j≠s.n):(s.bc x).get j=y:=by rw [St.P9,aJ hn]; exact h
theorem ju {kd:IntKind}{i:Nat}:idx (.int kd (i:Int))=some i:=by simp [idx]
theorem hZ {kd:IntKind}{n:Int}(h:0<=n):idx (.int kd n)=some n.toNat:=by simp [idx,h]
theorem sA {al:Option Nat}{sz ty o off len cp st:Nat}{es m:List D}(hs:s.Ok)(hg:s.get o=some (.arr sz ty es st))(he:off+len=es.length)(dT:st<=es.length)(hm:len+m.length<=aL)(hn:m≠ []):
  fF s al sz ty (.sl o off len cp) m=some (.sl o off (len+m.length) (len+m.length),s.bD o (.arr sz ty (es++m) st)):=by
 cases m with
 | nil=>exact absurd rfl hn
 | cons x m=>
  have e1:Nat.ble (off+len) es.length=true:=aq (Nat.le_of_eq he);have e2:Nat.ble st (off+len)=true:=aq (by omega);have e3:Nat.ble (len+(x::m).length) aL=true:=aq hm;have e4:Nat.beq (off+len) es.length=true:=by rw [he]; exact az _
  simp only [fF,hg,az,fk,e1,e2,e3,e4,hs.set]
theorem append_nil {sz ty z:Nat}{es m:List D}(hs:s.Ok)(hm:m.length<=aL)(hn:m≠ []):
  fF s none sz ty (.vs true z es) m=some (.sl s.n 0 m.length m.length,s.bc (.arr sz ty m 0)):=by
 cases m with
 | nil=>exact absurd rfl hn
 | cons x m=>
  have e3:Nat.ble (x::m).length aL=true:=aq hm;simp only [fF,e3,hs.W1]
section
variable {t:Nat}{e:Env}{ds:List (D×List D)}{g:Option (Nat×Bool)}
theorem iZ {op:eN}{d:D}{s1:St}(h:gN T H b l k ⟨(t,d)::e,ds⟩ s1 Q)(hw:aI e g=some true:=by rfl)(ho:cB fD e s none op=some (d,s1):=by rfl):gN T H b (⟨(some t),op,g,none⟩::l) k ⟨e,ds⟩ s Q:=dC h hw ho
theorem qR {op:eN}{d:D}{s1:St}(h:gN T H b l k ⟨e,ds⟩ s1 Q)(hw:aI e g=some true:=by rfl)(ho:cB fD e s none op=some (d,s1):=by rfl):gN T H b (⟨none,op,g,none⟩::l) k ⟨e,ds⟩ s Q:=dC h hw ho
theorem Oj {op:eN}{s1:St}(h:gN T H b l k ⟨(t,.bool true)::e,ds⟩ s1 Q)(hw:aI e g=some true:=by rfl)(ho:cB fD e s none op=some (.bool true,s1):=by rfl):gN T H b (⟨(some t),op,g,none⟩::l) k ⟨e,ds⟩ s Q:=dC h hw ho
theorem Mr {op:eN}{s1:St}(h:gN T H b l k ⟨(t,.bool false)::e,ds⟩ s1 Q)(hw:aI e g=some true:=by rfl)(ho:cB fD e s none op=some (.bool false,s1):=by rfl):gN T H b (⟨(some t),op,g,none⟩::l) k ⟨e,ds⟩ s Q:=dC h hw ho
theorem CT {op:eN}{al:Option Nat}(h:gN T H b l k ⟨(t,.gJ [])::e,ds⟩ s Q)(hw:aI e g=some false:=by rfl):gN T H b (⟨some t,op,g,al⟩::l) k ⟨e,ds⟩ s Q:=by
 refine uh (fr1:=⟨(t,.gJ [])::e,ds⟩) (s1:=s) ?_ h;unfold oper;simp only [hw];rfl
def _root_.Go.Ab.eN.SV:eN->Bool
 | .bin .. =>true
 | .eq .. =>true
 | _=>false
theorem Nw {op:eN}{c:Bool}{s1:St}(h:gN T H b l k ⟨(t,.bool true)::e,ds⟩ s1 Q)(hk:op.SV=true:=by rfl)(hw:aI e g=some true:=by rfl)(ho:cB fD e s none op=some (.bool c,s1):=by rfl)(hc:c=true:=by first | assumption | (simp only [aX,bF,ij,bQ,bne_iff_ne,bne_eq_false_iff_eq,ne_eq,jj,dD]; done) | (simp only [aX,bF,ij,bQ,bne_iff_ne,bne_eq_false_iff_eq,ne_eq]; first | assumption | omega)):
  gN T H b (⟨some t,op,g,none⟩::l) k ⟨e,ds⟩ s Q:=by
 subst hc;exact dC h hw ho
theorem OW {op:eN}{c:Bool}{s1:St}(h:gN T H b l k ⟨(t,.bool false)::e,ds⟩ s1 Q)(hk:op.SV=true:=by rfl)(hw:aI e g=some true:=by rfl)(ho:cB fD e s none op=some (.bool c,s1):=by rfl)(hc:c=false:=by first | assumption | (simp only [aX,bF,ij,bQ,bne_iff_ne,bne_eq_false_iff_eq,ne_eq,jj,dD]; done) | (simp only [aX,bF,ij,bQ,bne_iff_ne,bne_eq_false_iff_eq,ne_eq]; first | assumption | omega)):
  gN T H b (⟨some t,op,g,none⟩::l) k ⟨e,ds⟩ s Q:=by
 subst hc;exact dC h hw ho
theorem zo {f:Nat}{args:List bP}{x:List D}(h:Call T H f x (some t) b l k ⟨e,ds⟩ s Q)(hw:aI e g=some true:=by rfl)(hx:sK e args=some x:=by rfl):gN T H b (⟨(some t),.call false f args,g,none⟩::l) k ⟨e,ds⟩ s Q:=by
 have h:=h.out;refine⟨?_⟩;obtain⟨d,s1,h1,h2⟩:=h;exact uu h1 (fun C hC=>iD (o:=⟨(some t),.call false f args,g,none⟩) (fr:=⟨e,ds⟩) hw (by simp only [cB,hx]; exact hC)) h2
theorem Bm {f:bP}{args:List bP}{x:List D}{gf:Nat}{x1 x2 y:List D}(h:Call T H gf y (some t) b l k ⟨e,ds⟩ s Q)(hw:aI e g=some true:=by rfl)(hf:f.ev e=some (.fn (.func gf) x1 x2):=by rfl)(hx:sK e args=some x:=by rfl)(hy:x1++x++x2=y:=by rfl):gN T H b (⟨(some t),.pe f args,g,none⟩::l) k ⟨e,ds⟩ s Q:=by
 have h:=h.out;refine⟨?_⟩;subst hy;obtain⟨d,s1,h1,h2⟩:=h;exact uu h1 (fun C hC=>iD (o:=⟨(some t),.pe f args,g,none⟩) (fr:=⟨e,ds⟩) hw (by simp only [cB,hf,hx]; exact hC)) h2
theorem v8 {f:bP}{args:List bP}{x:List D}{o:Nat}(h:Call T H 0 (.lv (.yl o)::x) (some t) b l k ⟨e,ds⟩ s Q)(hw:aI e g=some true:=by rfl)(hf:f.ev e=some (.yl o):=by rfl)(hx:sK e args=some x:=by rfl):gN T H b (⟨(some t),.pe f args,g,none⟩::l) k ⟨e,ds⟩ s Q:=by
 have h:=h.out;refine⟨?_⟩;obtain⟨d,s1,h1,h2⟩:=h;exact uu h1 (fun C hC=>iD (o:=⟨(some t),.pe f args,g,none⟩) (fr:=⟨e,ds⟩) hw (by simp only [cB,hf,hx]; exact hC)) h2
theorem kB {tG:List (Nat×Nat×Recv)}{x:bP}{args:List bP}{y:List D}{ty f:Nat}{v u:D}{r:Recv}(h:Call T H f (u::y) (some t) b l k ⟨e,ds⟩ s Q)(hw:aI e g=some true:=by rfl)(hv:x.ev e=some (.ig ty v):=by rfl)(hx:sK e args=some y:=by rfl)(ht:sR tG ty=some (f,r):=by rfl)(hu:rW s v r=some u:=by rfl):
  gN T H b (⟨(some t),.invoke tG x args,g,none⟩::l) k ⟨e,ds⟩ s Q:=by
 have h:=h.out;refine⟨?_⟩;obtain⟨d,s1,h1,h2⟩:=h;exact uu h1 (fun C hC=>iD (o:=⟨(some t),.invoke tG x args,g,none⟩) (fr:=⟨e,ds⟩) hw (by simp only [cB,hv,hx,ht,hu]; exact hC)) h2
theorem Ip {sz:Option Nat}{x:bP}{o c ty:Nat}{v d:D}(h:gN T H b l k ⟨(t,d)::e,ds⟩ s Q)(hw:aI e g=some true:=by rfl)(hx:x.ev e=some (.ptr o c):=by rfl)(hg:s.get o=some (.var ty v):=by exact gI)(hp:part v.flat c sz=some d:=by rfl):gN T H b (⟨(some t),.load sz x,g,none⟩::l) k ⟨e,ds⟩ s Q:=
 dC h hw (by simp only [cB,hx,iR,hg,hp,nk])
theorem IT {sz:Option Nat}{x:bP}{c:Nat}{z d:D}(h:gN T H b l k ⟨(t,d)::e,ds⟩ s Q)(hw:aI e g=some true:=by rfl)(hx:x.ev e=some (.jE z c):=by rfl)(hp:part z.flat c sz=some d:=by rfl):gN T H b (⟨(some t),.load sz x,g,none⟩::l) k ⟨e,ds⟩ s Q:=
 dC h hw (by simp only [cB,hx,iR,hp,nk])
theorem D4 {sz:Nat}{x v:bP}{o c ty:Nat}{d w w1:D}(h:gN T H b l k ⟨e,ds⟩ (s.bD o (.var ty w1)) Q)(hw:aI e g=some true:=by rfl)(hx:x.ev e=some (.ptr o c):=by rfl)(hv:v.ev e=some d:=by rfl)(hs:s.Ok:=by exact oI)(hg:s.get o=some (.var ty w):=by exact gI)(hz:Nat.beq d.flat.length sz=true:=by rfl)(hp:w.over c d=some w1:=by rfl):gN T H b (⟨none,.store sz x v,g,none⟩::l) k ⟨e,ds⟩ s Q:=
 dC (d:= .gJ []) h hw (by simp only [cB,hx,hv,jM,hz,hg,hp,hs.set,oC])
theorem Io {ty:Nat}{x:bP}{d:D}(h:gN T H b l k ⟨(t,.ptr s.n 0)::e,ds⟩ (s.bc (.var ty d)) Q)(hw:aI e g=some true:=by rfl)(hx:x.ev e=some d:=by rfl)(hd:(d.st && Nat.blt 0 d.flat.length)=true:=by rfl)(hs:s.Ok:=by exact oI):gN T H b (⟨(some t),.box ty x,g,none⟩::l) k ⟨e,ds⟩ s Q:=dC h hw (by simp only [cB,hx,hd,hs.W1])
theorem Bo {r:Option bP}(h:gN T H b l k ⟨(t,.mp s.n)::e,ds⟩ (s.bc (.map [] 0)) Q)(hw:aI e g=some true:=by rfl)(hr:uz e r=some none:=by rfl)(hs:s.Ok:=by exact oI):gN T H b (⟨(some t),.zy r,g,none⟩::l) k ⟨e,ds⟩ s Q:=dC h hw (by simp only [cB,hr,hs.W1])
theorem xL {sz ty len:Nat}{z:D}{parts:List (Nat×bP)}{ps:List (Nat×D)}{es:List D}(h:gN T H b l k ⟨(t,.sl s.n 0 len len)::e,ds⟩ (s.bc (.arr sz ty es 0)) Q)(hw:aI e g=some true:=by rfl)(hp:jx e parts=some ps:=by rfl)(hz:eG sz [z]=true:=by rfl)(hf:sY sz (List.replicate len z) ps=some es:=by rfl)(hs:s.Ok:=by exact oI):gN T H b (⟨(some t),.tQ sz ty z len parts,g,none⟩::l) k ⟨e,ds⟩ s Q:=dC h hw (by simp only [cB,hp,hz,hf,hs.W1])
theorem sd {sz bytes ty:Nat}{z dl dc:D}{ln cp:bP}{l1 c1:Nat}(hl:idx dl=some l1)(hc:idx dc=some c1)(h1:l1<=c1)(h2:c1 * bytes<=140737488355328)(h3:c1<=aL)(h:gN T H b l k ⟨(t,.sl s.n 0 l1 l1)::e,ds⟩ (s.bc (.arr sz ty (List.replicate l1 z) 0)) Q)(hw:aI e g=some true:=by rfl)(hx:ln.ev e=some dl:=by rfl)(hy:cp.ev e=some dc:=by rfl)(hz:eG sz [z]=true:=by rfl)(hs:s.Ok:=by exact oI):gN T H b (⟨(some t),.oq sz bytes ty z ln cp,g,none⟩::l) k ⟨e,ds⟩ s Q:=by
 have e1:Nat.ble l1 c1=true:=aq h1;have e2:Nat.ble (c1 * bytes) 140737488355328=true:=aq h2;have e3:Nat.ble c1 aL=true:=aq h3;exact dC h hw (by simp only [cB,hx,hy,hl,hc,e1,e2,e3,hz,fk,hs.W1])
theorem xP {x:bP}{d:D}(h:gN T H b l k ⟨(t,.lv d)::e,ds⟩ s Q)(hw:aI e g=some true:=by rfl)(hx:x.ev e=some d:=by rfl)(hn:(e.tU t && d.st)=true:=by rfl):gN T H b (⟨some t,.nC x,g,none⟩::l) k ⟨e,ds⟩ s Q:=by
 refine uh (fr1:=⟨(t,.lv d)::e,ds⟩) (s1:=s) ?_ h;unfold oper;simp only [hw,hx,hn]
theorem dW {a sz c:Nat}{x v:bP}{d w w1:D}(h:gN T H b l k ⟨(a,.lv w1)::e,ds⟩ s Q)(hw:aI e g=some true:=by rfl)(hx:x.zb e=some (.iI a c):=by rfl)(hv:v.ev e=some d:=by rfl)(ha:e.get a=some (.lv w):=by rfl)(hz:Nat.beq d.flat.length sz=true:=by rfl)(hp:w.over c d=some w1:=by rfl):
  gN T H b (⟨none,.iY a sz x v,g,none⟩::l) k ⟨e,ds⟩ s Q:=by
 refine uh (fr1:=⟨(a,.lv w1)::e,ds⟩) (s1:=s) ?_ h;unfold oper;simp only [hw,hx,hv,az,ha,hz,hp,iu]
theorem HJ {sz:Nat}{x i:bP}{n:D}{j:Nat}{nl:Bool}{es:List D}{z:D}(h:gN T H b l k ⟨(t,.jE z 0)::e,ds⟩ s Q)(hw:aI e g=some true:=by rfl)(hx:x.ev e=some (.vs nl sz es):=by rfl)(hi:i.ev e=some n:=by rfl)(hj:idx n=some j:=by first | exact ju | rfl | exact hZ (by omega))(he:es[j]? =some z:=by first | assumption | rfl):gN T H b (⟨some t,.nA sz x i,g,none⟩::l) k ⟨e,ds⟩ s Q:=
 dC h hw (by simp only [cB,hx,hi,hj,j8,az,he,nk])
theorem IN {sz:Nat}{x i:bP}{n:D}{j o off len cp ty st:Nat}{es:List D}(h:gN T H b l k ⟨(t,.jK o (off+j) 0 (off+cp))::e,ds⟩ s Q)(hw:aI e g=some true:=by rfl)(hx:x.ev e=some (.sl o off len cp):=by rfl)(hi:i.ev e=some n:=by rfl)(hg:s.get o=some (.arr sz ty es st):=by exact gI)(hj:idx n=some j:=by first | exact ju | rfl | exact hZ (by omega))(hl:j < len:=by exact sI)(h1:off+len<=es.length:=by exact sI)(h2:st<=off+cp:=by exact sI):gN T H b (⟨some t,.nA sz x i,g,none⟩::l) k ⟨e,ds⟩ s Q:=by
 have e1:Nat.blt j len=true:=aq (mi hl);have e2:Nat.ble (off+len) es.length=true:=aq h1;have e3:Nat.ble st (off+cp)=true:=aq h2;exact dC h hw (by simp only [cB,hx,hi,hj,j8,hg,az,e1,e2,e3,nk])
theorem IU {sz:Option Nat}{x:bP}{o i c en z ty st:Nat}{es:List D}{v d:D}(h:gN T H b l k ⟨(t,d)::e,ds⟩ s Q)(hw:aI e g=some true:=by rfl)(hx:x.ev e=some (.jK o i c en):=by rfl)(hg:s.get o=some (.arr z ty es st):=by exact gI)(hi:es[i]? =some v:=by first | assumption | rfl)(dT:st<=en:=by exact sI)(hp:part v.flat c sz=some d:=by rfl):gN T H b (⟨some t,.load sz x,g,none⟩::l) k ⟨e,ds⟩ s Q:=by
 have e1:Nat.ble st en=true:=aq dT;exact dC h hw (by simp only [cB,hx,iR,hg,e1,hi,hp,nk])
theorem EN {sz:Nat}{x v:bP}{o i c en z ty st:Nat}{es:List D}{d w w1:D}(h:gN T H b l k ⟨e,ds⟩ (s.bD o (.arr z ty (es.set i w1) es.length)) Q)(hw:aI e g=some true:=by rfl)(hx:x.ev e=some (.jK o i c en):=by rfl)(hv:v.ev e=some d:=by rfl)(hs:s.Ok:=by exact oI)(hg:s.get o=some (.arr z ty es st):=by exact gI)(hi:es[i]? =some w:=by first | assumption | rfl)(he:en=es.length:=by exact sI)(hz:Nat.beq d.flat.length sz=true:=by rfl)(hp:w.over c d=some w1:=by rfl):gN T H b (⟨none,.store sz x v,g,none⟩::l) k ⟨e,ds⟩ s Q:=by
 subst he;exact dC (d:= .gJ []) h hw (by simp only [cB,hx,hv,jM,hz,hg,az,hi,hp,hs.set,oC])
theorem HC {sz bytes ty:Nat}{x y:bP}{o off len cp st:Nat}{nl:Bool}{es m:List D}(h:gN T H b l k ⟨(t,.sl o off (len+m.length) (len+m.length))::e,ds⟩ (s.bD o (.arr sz ty (es++m) st)) Q)(hw:aI e g=some true:=by rfl)(hx:x.ev e=some (.sl o off len cp):=by rfl)(hy:y.ev e=some (.vs nl sz m):=by rfl)(hs:s.Ok:=by exact oI)(hg:s.get o=some (.arr sz ty es st):=by exact gI)(hb:Nat.ble bytes 4096=true:=by rfl)(ha:eG sz m=true:=by rfl)(hn:m≠ []:=by simp)(he:off+len=es.length:=by exact sI)(dT:st<=es.length:=by exact sI)(hm:len+m.length<=aL:=by exact sI):gN T H b (⟨some t,.append sz bytes ty x y,g,none⟩::l) k ⟨e,ds⟩ s Q:=by
 refine dC h hw ?_;simp only [cB,hx,hy,items,az,eM,hb,ha,sA hs hg he dT hm hn]
theorem HM {sz bytes ty z:Nat}{x y:bP}{nl:Bool}{es m:List D}(h:gN T H b l k ⟨(t,.sl s.n 0 m.length m.length)::e,ds⟩ (s.bc (.arr sz ty m 0)) Q)(hw:aI e g=some true:=by rfl)(hx:x.ev e=some (.vs true z es):=by rfl)(hy:y.ev e=some (.vs nl sz m):=by rfl)(hs:s.Ok:=by exact oI)(hb:Nat.ble bytes 4096=true:=by rfl)(ha:eG sz m=true:=by rfl)(hn:m≠ []:=by simp)(hm:m.length<=aL:=by exact sI):gN T H b (⟨some t,.append sz bytes ty x y,g,none⟩::l) k ⟨e,ds⟩ s Q:=by
 refine dC h hw ?_;simp only [cB,hx,hy,items,az,eM,hb,ha,append_nil hs hm hn]
theorem Iu {sz:Nat}{z d:D}{x:bP}(h:gN T H b l k ⟨(t,.vs false sz [d])::e,ds⟩ s Q)(hw:aI e g=some true:=by rfl)(hx:x.ev e=some d:=by rfl)(hz:eG sz [z]=true:=by rfl)(h1:Nat.beq d.flat.length sz=true:=by rfl)(h2:d.st=true:=by rfl):gN T H b (⟨some t,.qe sz z 1 [(0,x)],g,none⟩::l) k ⟨e,ds⟩ s Q:=
 dC h hw (by simp only [cB,jx,hx,hz,sY,h1,h2,List.replicate,aU,bL,Nat.blt,Nat.ble,jR])
theorem RD {j:Nat}(h:j+1 < 9223372036854775808):IntKind.wrap .i64 ((j:Int)+1)=((j+1:Nat):Int):=by
 simp only [IntKind.wrap,IntKind.signed,IntKind.bits,fM,aX,ge_iff_le];rw [show ((2:Int) ^ (64 - 1))=9223372036854775808 from rfl,show ((2:Int) ^ 64)=18446744073709551616 from rfl];split <;> omega
theorem Iv {x:bP}{j:Nat}(h:gN T H b l k ⟨(t,.int .i64 ((j+1:Nat):Int))::e,ds⟩ s Q)(hw:aI e g=some true:=by rfl)(hx:x.ev e=some (.int .i64 (Nat.cast j)):=by rfl)(hj:j+1 < 9223372036854775808:=by omega):gN T H b (⟨some t,.bin .add x (.c (.int .i64 1)),g,none⟩::l) k ⟨e,ds⟩ s Q:=by
 have hy:(bP.c (.int .i64 1)).ev e=some (.int .i64 1):=rfl;have hb:JQ .add (.int .i64 (j:Int)) (.int .i64 1)=some (.int .i64 ((j+1:Nat):Int)):=by
  show some (D.int .i64 (IntKind.wrap .i64 ((j:Int)+1)))=_;rw [RD hj]
 exact dC h hw (by simp only [cB,hx,hy,hb,nk])
theorem Ir {sz ty:Nat}{x:bP}{lo hi:Option bP} {a b' :Option D}{lo' hi' o off len cp st:Nat}{es:List D}(h:gN T H b l k ⟨(t,.sl o (off+lo') (hi' - lo') (cp - lo'))::e,ds⟩ s Q)(hw:aI e g=some true:=by rfl)(hx:x.ev e=some (.sl o off len cp):=by rfl)(ha:uz e lo=some a:=by rfl) (jm :uz e hi=some b' :=by rfl)(PJ:mq 0 a=some lo' :=by first | rfl | exact ju | exact hZ (by omega))(kL:(match b' with | none=>some len | some d=>idx d)=some hi' :=by first | rfl | exact ju | exact hZ (by omega))(hg:s.get o=some (.arr sz ty es st):=by exact gI)(h1:off+len<=es.length:=by exact sI)(h2:st<=off+cp:=by exact sI)(h3:lo' <=hi' :=by exact sI)(h4:hi' <=cp:=by exact sI):gN T H b (⟨some t,.H8 sz x lo hi none,g,none⟩::l) k ⟨e,ds⟩ s Q:=by
 have e1:Nat.ble (off+len) es.length=true:=aq h1;have e2:Nat.ble st (off+cp)=true:=aq h2;have e3:Nat.ble lo' hi' =true:=aq h3;have e4:Nat.ble hi' cp=true:=aq h4;have e5:uz e none=some none:=rfl;have e6:mq 0 none=some 0:=rfl;refine dC h hw ?_;cases b' with
 | none=>
  simp only [aa]at kL; subst kL;simp only [cB,hx,ha,jm,e5,PJ,e6,items,hg,e1,e2,az,eM,gu,u7,Option.getD,e3,e4,nk]
 | some d=>
  simp only at kL;have jJ:mq 0 (some d)=some hi' :=kL;simp only [cB,hx,ha,jm,e5,PJ,e6,jJ,items,hg,e1,e2,az,eM,gu,u7,Option.getD,e3,e4,nk]
theorem HA {et:ET}{z kd v:D}{ok:Bool}{m ky:bP}{o c i:Nat}{es:List (Nat×D×D)}(h:gN T H b l k ⟨(t,Fl ok v true)::e,ds⟩ s Q)(hw:aI e g=some true:=by rfl)(hm:m.ev e=some (.mp o):=by rfl)(hky:ky.ev e=some kd:=by rfl)(gW:oN et kd=true:=by rfl)(hg:s.get o=some (.map es c):=by exact gI)(hf:findKey et kd es 0=some (some (i,v)):=by rfl):gN T H b (⟨some t,.lookup et z ok m ky,g,none⟩::l) k ⟨e,ds⟩ s Q:=
 dC h hw (by simp only [cB,hm,hky,gW,hg,hf])
end
end Go.Ab.Sm
