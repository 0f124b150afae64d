/- Part. -/
import Derived.Test.YtjaldhgmboeffaaGreatDoorG20
set_option linter.unusedSimpArgs false
set_option linter.unusedVariables false
set_option linter.unusedSectionVars false
namespace Go.Ab.Sm
theorem nI {p:Prop}(h:p:=by repeat (first | assumption | refine St.eS ?_ (by first | assumption | (apply bO; assumption) | omega | (simp only [St.dV,St.fE,St.jx]; omega)) | refine St.fV ?_ (by first | assumption | (apply bO; assumption) | omega | (simp only [St.dV,St.fE,St.jx]; omega)) | refine St.Cn ?_ | exact St.Ok.fresh (by assumption) _ (by first | assumption | omega | (simp only [St.dV,St.fE,St.jx]; omega)))):p:=h
theorem gI {p:Prop}(h:p:=by repeat (first | assumption | exact St.aO | exact St.bu | refine St.eS ?_ (by first | assumption | (apply bO; assumption) | omega | (simp only [St.dV,St.fE,St.jx]; omega)) | refine St.fV ?_ (by first | assumption | (apply bO; assumption) | omega | (simp only [St.dV,St.fE,St.jx]; omega)) | refine St.Cn ?_)):p:=h
theorem cI {p:Prop}(h:p:=by first | (with_reducible exact BL) | (simp (disch:=first | assumption | omega | (apply bO; assumption)) only [fh,lz,cF,aI,bC,nC,gk,bC.cW,bP.ev,Env.get,Nat.beq,rU,p8,Go.Ab.T.uE,cB,iJ,dZ,bY,aR,lJ,fM,fm]; done) | rfl):p:=h
theorem fI {p:Prop}(h:p:=by first | (dsimp only [cF,aI,bC,nC,gk,bC.cW,bP.ev,Env.get,Nat.beq,Option.getD]; done) | (dsimp only [cF,aI,bC,nC,gk,bC.cW,bP.ev,Env.get,Nat.beq,Option.getD]; rfl) | rfl):p:=h
theorem oI {p:Prop}(h:p:=by repeat (first | assumption | refine St.Ok.bz ?_ _ | refine St.Ok.bF ?_ _ (by first | assumption | omega | (simp only [St.dV,St.fE,St.jx]; omega)) | refine St.Ok.up ?_ _)):p:=h
theorem sI {p:Prop}(h:p:=by first | assumption | omega | (simp only [aL,aG,aV,bL,iS,ic,aJ]; omega)):p:=h
theorem bI {p:Prop}(h:p:=by repeat (first | assumption | exact aF.refl (by assumption) | refine aF.set ?_ _ (by first | assumption | omega | (simp only [St.dV,St.fE,St.jx]; omega)) (fun hbeh=>by first | (exfalso; omega) | (exfalso; simp only [St.dV,St.fE,St.jx]at hbeh; omega) | (simp; done)) | refine aF.push ?_ _ | refine aF.up ?_ _)):p:=h
open Go Go.Ab
variable {T:Nat->Option dU}{H:ay}
abbrev QP:=Ex->Fr->St->Prop
inductive iT where
 | seq (b:AC)
 | block (id:Nat)
 | loop (I:Nat->Env->St->Prop) (bV:List Nat) (m:Nat)
 | again (bV:List Nat) (a:AC)
 | call (rs:List wV) (dst:Option Nat) (b:Nat) (l:List bg) (fr:Fr)
def mN (T:Nat->Option dU)(H:ay)(Q:QP):List iT->Ex->Fr->St->Prop
 | [],e,fr,s=>Q e fr s
 | .seq b::k,.normal,fr,s=>Wp T H b fr s (mN T H Q k)
 | .seq _::k,.exit i,fr,s=>mN T H Q k (.exit i) fr s
 | .seq _::k,.ret,fr,s=>mN T H Q k .ret fr s
 | .block id::k,.exit i,fr,s=>if i=id then mN T H Q k .normal fr s else mN T H Q k (.exit i) fr s
 | .block _::k,.normal,fr,s=>mN T H Q k .normal fr s
 | .block _::k,.ret,fr,s=>mN T H Q k .ret fr s
 | .loop I bV m::_,.normal,fr,s=>∃m',m' < m/\fr.defers=[]/\I m' (fr.env.bV bV) s
 | .loop _ _ _::k,.exit i,fr,s=>mN T H Q k (.exit i) fr s
 | .loop _ _ _::k,.ret,fr,s=>mN T H Q k .ret fr s
 | .again bV a::k,.normal,fr,s=>Wp T H (.loop bV a) fr s (mN T H Q k)
 | .again _ _::k,.exit i,fr,s=>mN T H Q k (.exit i) fr s
 | .again _ _::k,.ret,fr,s=>mN T H Q k .ret fr s
 | .call rs dst b l fr0::k,e,fr,s=>(∀i,e≠ .exit i)/\marks fr.defers=true/\∃r,lu fr.env s rs=some r/\VC T H b l ⟨ij fr0.env dst (single r),fr0.defers⟩ s (mN T H Q k .normal)
structure eH (T:Nat->Option dU)(H:ay)(a:AC)(k:List iT)(fr:Fr)(s:St)(Q:QP):Prop where
 out:Wp T H a fr s (mN T H Q k)
structure gG (T:Nat->Option dU)(H:ay)(b:Nat)(l:List bg)(k:List iT)(fr:Fr)(s:St)(Q:QP):Prop where
 out:VC T H b l fr s (mN T H Q k .normal)
structure lg (T:Nat->Option dU)(H:ay)(e:Ex)(k:List iT)(fr:Fr)(s:St)(Q:QP):Prop where
 out:mN T H Q k e fr s
def cu (T:Nat->Option dU)(H:ay)(f:Nat)(x:List D)(s:St)(R:D->St->Prop):Prop:=∃d s1,Ev T H f x s (d,s1)/\R d s1
structure Call (T:Nat->Option dU)(H:ay)(f:Nat)(x:List D)(dst:Option Nat)(b:Nat)(l:List bg)(k:List iT)(fr:Fr)(s:St)(Q:QP):Prop where
 out:cu T H f x s fun d s1=>VC T H b l ⟨ij fr.env dst d,fr.defers⟩ s1 (mN T H Q k .normal)
variable {b:Nat}{k:List iT}{fr:Fr}{s:St}{Q:QP}{l:List bg}
theorem C4 (h:lg T H .normal k fr s Q):eH T H .skip k fr s Q:=by
 have h:=h.out;exact⟨wp_skip h⟩
theorem HA (h:lg T H .ret k fr s Q):eH T H .ret k fr s Q:=by
 have h:=h.out;exact⟨wp_ret h⟩
theorem E3 {i:Nat}(h:lg T H (.exit i) k fr s Q):eH T H (.exit i) k fr s Q:=by
 have h:=h.out;exact⟨wp_exit h⟩
theorem mb (h:gG T H 0 l k fr s Q):eH T H (.sn l) k fr s Q:=by
 have h:=h.out;exact⟨Wy h⟩
theorem run_seq {a c:AC}(h:eH T H a (.seq c::k) fr s Q):eH T H (.seq a c) k fr s Q:=by
 have h:=h.out;exact⟨wp_seq (Wp.mono h fun e f1 s1 h1=>by cases e <;> exact h1)⟩
theorem AE {id:Nat}{a:AC}(h:eH T H a (.block id::k) fr s Q):eH T H (.block id a) k fr s Q:=by
 have h:=h.out;exact⟨wp_block (Wp.mono h fun e f1 s1 h1=>by cases e <;> exact h1)⟩
theorem vL {c:bP}{x y:AC}(h:eH T H x k fr s Q)(hc:c.ev fr.env=some (.bool true):=by rfl):eH T H (.cond c x y) k fr s Q:=by
 have h:=h.out;exact⟨wp_cond hc h⟩
theorem vO {c:bP}{x y:AC}(h:eH T H y k fr s Q)(hc:c.ev fr.env=some (.bool false):=by rfl):eH T H (.cond c x y) k fr s Q:=by
 have h:=h.out;exact⟨wp_cond hc h⟩
theorem cV {c:bP}{x y:AC}{v:Bool}(h1:v=true->eH T H x k fr s Q)(h2:v=false->eH T H y k fr s Q)(hc:c.ev fr.env=some (.bool v):=by rfl):eH T H (.cond c x y) k fr s Q:=by
 have h1:=fun hh=>(h1 hh).out;have h2:=fun hh=>(h2 hh).out;refine⟨?_⟩;cases v with
 | true=>exact (vL ⟨h1 rfl⟩ hc).out
 | false=>exact (vO ⟨h2 rfl⟩ hc).out
theorem cg {bV:List Nat}{a:AC}(I:Nat->Env->St->Prop)(m:Nat)(hd:fr.defers=[])(h0:I m (fr.env.bV bV) s)
  (h:∀m env s,I m env s->eH T H a (.loop I bV m::k) ⟨env,[]⟩ s Q)(hb:a.ig=false:=by rfl):eH T H (.loop bV a) k fr s Q:=by
 refine⟨?_⟩;refine wp_loop (I:=fun m fr s=>fr.defers=[]/\I m (fr.env.bV bV) s) (fun n fr s hI=> ?_) hb m fr s ⟨hd,h0⟩;obtain⟨env,ds⟩:=fr;obtain⟨pO,hI⟩:=hI;simp only at pO; subst pO;exact Wp.mono (h n _ s hI).out fun e f1 s1 h1=>by cases e <;> exact h1
theorem lU {bV:List Nat}{a:AC}{env:Env}(h:eH T H a (.again bV a::k) ⟨env,fr.defers⟩ s Q)(hk:fr.env.bV bV=env:=by rfl)(hb:a.ig=false:=by rfl):eH T H (.loop bV a) k fr s Q:=by
 have h:=h.out;refine⟨?_⟩;subst hk;obtain⟨e,f1,s1,h1,h2⟩:=h;cases e with
 | normal=>
  obtain⟨e2,f2,s2,h3,h4⟩:=h2;exact⟨e2,f2,s2,.again h1 h3 hb,h4⟩
 | exit i=>exact ⟨_,f1,s1,.stop h1 (by simp) hb,h2⟩
 | ret=>exact ⟨_,f1,s1,.stop h1 (by simp) hb,h2⟩
theorem yU {bV:List Nat}{a:AC}{i:Nat}(h:lg T H (.exit i) k fr s Q):lg T H (.exit i) (.again bV a::k) fr s Q:=by
 have h:=h.out;refine⟨?_⟩;exact h
theorem yf {bV:List Nat}{a:AC}(h:lg T H .ret k fr s Q):lg T H .ret (.again bV a::k) fr s Q:=by
 have h:=h.out;refine⟨?_⟩;exact h
theorem qA {e:Ex}(h:Q e fr s):lg T H e [] fr s Q:=by
 exact⟨h⟩
theorem xF {c:AC}(h:eH T H c k fr s Q):lg T H .normal (.seq c::k) fr s Q:=by
 have h:=h.out;refine⟨?_⟩;exact h
theorem DM {c:AC}{i:Nat}(h:lg T H (.exit i) k fr s Q):lg T H (.exit i) (.seq c::k) fr s Q:=by
 have h:=h.out;refine⟨?_⟩;exact h
theorem Dd {c:AC}(h:lg T H .ret k fr s Q):lg T H .ret (.seq c::k) fr s Q:=by
 have h:=h.out;refine⟨?_⟩;exact h
theorem yN {id:Nat}(h:lg T H .normal k fr s Q):lg T H .normal (.block id::k) fr s Q:=by
 have h:=h.out;refine⟨?_⟩;exact h
theorem yT {id:Nat}(h:lg T H .ret k fr s Q):lg T H .ret (.block id::k) fr s Q:=by
 have h:=h.out;refine⟨?_⟩;exact h
theorem yG {i:Nat}(h:lg T H .normal k fr s Q):lg T H (.exit i) (.block i::k) fr s Q:=by
 have h:=h.out;refine⟨?_⟩;show (if i=i then _ else _); rw [bT rfl]; exact h
theorem y9 {i id:Nat}(h:lg T H (.exit i) k fr s Q)(hn:Nat.beq i id=false:=by rfl):lg T H (.exit i) (.block id::k) fr s Q:=by
 have h:=h.out;refine⟨?_⟩;show (if i=id then _ else _);rw [aK (fun e=>by subst e; rw [aA]at hn; cases hn)]; exact h
theorem Bb {I:Nat->Env->St->Prop}{bV:List Nat}{m i:Nat}(h:lg T H (.exit i) k fr s Q):lg T H (.exit i) (.loop I bV m::k) fr s Q:=by
 have h:=h.out;refine⟨?_⟩;exact h
theorem A5 {I:Nat->Env->St->Prop}{bV:List Nat}{m:Nat}(h:lg T H .ret k fr s Q):lg T H .ret (.loop I bV m::k) fr s Q:=by
 have h:=h.out;refine⟨?_⟩;exact h
theorem bf {I:Nat->Env->St->Prop}{bV:List Nat}{m:Nat} (m' :Nat)(hm:m' < m)(hd:fr.defers=[])(h:I m' (fr.env.bV bV) s):lg T H .normal (.loop I bV m::k) fr s Q:=by
 exact⟨m',hm,hd,h⟩
theorem zV {rs:List wV}{t:Nat}{e0:Env}{ds:List (D×List D)}{r:List D}{d:D}(h:gG T H b l k ⟨(t,d)::e0,ds⟩ s Q)(hd:marks fr.defers=true:=by rfl)(hr:lu fr.env s rs=some r:=by rfl)(he:single r=d:=by rfl):lg T H .ret (.call rs (some t) b l ⟨e0,ds⟩::k) fr s Q:=by
 have h:=h.out;refine⟨?_⟩;subst he;exact⟨fun i=>by simp,hd,r,hr,h⟩
theorem Ag {rs:List wV}{t:Nat}{e0:Env}{ds:List (D×List D)}{r:List D}{d:D}(h:gG T H b l k ⟨(t,d)::e0,ds⟩ s Q)(hd:marks fr.defers=true:=by rfl)(hr:lu fr.env s rs=some r:=by rfl)(he:single r=d:=by rfl):lg T H .normal (.call rs (some t) b l ⟨e0,ds⟩::k) fr s Q:=by
 have h:=h.out;refine⟨?_⟩;subst he;exact⟨fun i=>by simp,hd,r,hr,h⟩
def OM (N:Nat)(F:Nat->Env)(I:Nat->St->Prop):Nat->Env->St->Prop:=fun m env s=>∃j,j<=N/\m=N - j/\env=F j/\I j s
theorem ee {bV:List Nat}{a:AC}(N:Nat)(F:Nat->Env)(I:Nat->St->Prop)(hI:I 0 s)(h:∀j s,j<=N->I j s->eH T H a (.loop (OM N F I) bV (N - j)::k) ⟨F j,[]⟩ s Q)(hd:fr.defers=[]:=by rfl)(hF:fr.env.bV bV=F 0:=by rfl)(hb:a.ig=false:=by rfl):eH T H (.loop bV a) k fr s Q:=by
 refine cg (OM N F I) N hd ⟨0,aS _,rfl,hF,hI⟩ ?_ hb;rintro m env s ⟨j,hj,rfl,rfl,hI⟩;exact h j s hj hI
theorem dw {N:Nat}{F:Nat->Env}{I:Nat->St->Prop}{bV:List Nat}{j:Nat}(hj:j < N)(hI:I (j+1) s)(hd:fr.defers=[]:=by rfl)(hF:fr.env.bV bV=F (j+1):=by rfl):lg T H .normal (.loop (OM N F I) bV (N - j)::k) fr s Q:=
 bf (N - (j+1)) (by omega) hd ⟨j+1,by omega,rfl,hF,hI⟩
theorem iC {C:ay}{o:bg}{d:D}{s1:St}(hw:aI fr.env o.guard=some true)(ho:cC C fr.env s (match o.al with | some r=>some (b+r) | none=>none) o.op=some (d,s1)):
  oper C b o fr s=some ({ fr with env:=ij fr.env o.dst d},s1):=by
 obtain⟨dst,op,g,al⟩:=o;unfold oper;rw [hw];cases op
 case defer=>simp [cC]at ho
 case nv=>simp [cC]at ho
 case iX=>simp [cC]at ho
 all_goals
  cases al <;>
  ·simp only at ho ⊢;rw [ho]
theorem B2 (h:lg T H .normal k fr s Q):gG T H b [] k fr s Q:=by
 have h:=h.out;refine⟨?_⟩;exact⟨fr,s,.nil,h⟩
theorem uO {o:bg}{fr1:Fr}{s1:St}(h1:oper fF b o fr s=some (fr1,s1))(h:gG T H b l k fr1 s1 Q):gG T H b (o::l) k fr s Q:=by
 have h:=h.out;refine⟨?_⟩;exact On h1 h
theorem du {dst:Option Nat}{op:eQ}{g:Option (Nat×Bool)}{e:Env}{ds:List (D×List D)}{d:D}{s1:St}(h:gG T H b l k ⟨ij e dst d,ds⟩ s1 Q)(hw:aI e g=some true)(ho:cC fF e s none op=some (d,s1)):
  gG T H b (⟨dst,op,g,none⟩::l) k ⟨e,ds⟩ s Q:=uO (iC (o:=⟨dst,op,g,none⟩) (fr:=⟨e,ds⟩) hw ho) h
theorem ak {f:Nat}{x:List D}{t:Nat}{e:Env}{ds:List (D×List D)}{R:D->St->Prop}(h:cu T H f x s R)(h2:∀d s1,R d s1->gG T H b l k ⟨(t,d)::e,ds⟩ s1 Q):Call T H f x (some t) b l k ⟨e,ds⟩ s Q:=by
 have h2:=fun d s1 hh=>(h2 d s1 hh).out;refine⟨?_⟩;obtain⟨d,s1,h1,h3⟩:=h;exact⟨d,s1,h1,h2 d s1 h3⟩
theorem eW {f:Nat}{fn:dU}{x:List D}{dst:Option Nat}(hT:T f=some fn)(h:eH T H fn.body (.call fn.results dst b l fr::k) ⟨uS 0 x,[]⟩ s Q)(hy:yS x=false:=by rfl):Call T H f x dst b l k fr s Q:=by
 have h:=h.out;refine⟨?_⟩;refine EC hT (Wp.mono h ?_) hy;rintro e f1 s1 ⟨h1,h2,r,h3,h4⟩;exact⟨h1,h2,r,h3,h4⟩
def QF (rs:List wV)(R:D->St->Prop):QP:=fun e f1 s1=>(∀i,e≠ .exit i)/\marks f1.defers=true/\∃r,lu f1.env s1 rs=some r/\R (single r) s1
theorem ax {f:Nat}{fn:dU}{x:List D}{R:D->St->Prop}(hT:T f=some fn)(h:eH T H fn.body [] ⟨uS 0 x,[]⟩ s (QF fn.results R))(hy:yS x=false:=by rfl):cu T H f x s R:=by
 have h:=h.out;exact EC hT h hy
theorem ai {rs:List wV}{R:D->St->Prop}{r:List D}{d:D}(h:R d s)(hd:marks fr.defers=true:=by rfl)(hr:lu fr.env s rs=some r:=by rfl)(he:single r=d:=by rfl):lg T H .ret [] fr s (QF rs R):=by
 refine⟨?_⟩;subst he;exact⟨fun i=>by simp,hd,r,hr,h⟩
theorem iu {rs:List wV}{R:D->St->Prop}{r:List D}{d:D}(h:R d s)(hd:marks fr.defers=true:=by rfl)(hr:lu fr.env s rs=some r:=by rfl)(he:single r=d:=by rfl):lg T H .normal [] fr s (QF rs R):=by
 refine⟨?_⟩;subst he;exact⟨fun i=>by simp,hd,r,hr,h⟩
theorem cu.mono {f:Nat}{x:List D} {R R' :D->St->Prop}(h:cu T H f x s R)(hR:∀d s1,R d s1->R' d s1):cu T H f x s R' :=by
 obtain⟨d,s1,h1,h2⟩:=h;exact⟨d,s1,h1,hR _ _ h2⟩
theorem _root_.Go.Ab.St.aO {s:St}{o:Nat}{x:Obj}:(s.bF o x).get o=some x:=by rw [St.Qm,bT rfl]
theorem _root_.Go.Ab.St.bu {s:St}{x:Obj}:(s.bz x).get s.n=some x:=by rw [St.Qc,bT rfl]
theorem _root_.Go.Ab.St.eS {s:St}{o j:Nat}{x:Obj}{y:Option Obj}(h:s.get j=y)(hn:j≠o):(s.bF o x).get j=y:=by rw [St.Qm,aK hn]; exact h
theorem _root_.Go.Ab.St.fV {s:St}{j:Nat}{x:Obj}{y:Option Obj}(h:s.get j=y)(hn:j≠s.n):(s.bz x).get j=y:=by rw [St.Qc,aK hn]; exact h
theorem jz {kd:IntKind}{i:Nat}:idx (.int kd (i:Int))=some i:=by simp [idx]
theorem gY {kd:IntKind}{n:Int}(h:0<=n):idx (.int kd n)=some n.toNat:=by simp [idx,h]
theorem sj {al:Option Nat}{sz ty o off len cp st:Nat}{es m:List D}(hs:s.Ok)(hg:s.get o=some (.arr sz ty es st))(he:off+len=es.length)(dN:st<=es.length)(hm:len+m.length<=aL)(hn:m≠ []):
  fH s al sz ty (.sl o off len cp) m=some (.sl o off (len+m.length) (len+m.length),s.bF o (.arr sz ty (es++m) st)):=by
 cases m with
 | nil=>exact absurd rfl hn
 | cons x m=>
  have e1:Nat.ble (off+len) es.length=true:=au (Nat.le_of_eq he);have e2:Nat.ble st (off+len)=true:=au (by omega);have e3:Nat.ble (len+(x::m).length) aL=true:=au hm;have e4:Nat.beq (off+len) es.length=true:=by rw [he]; exact aA _
  simp only [fH,hg,aA,fm,e1,e2,e3,e4,hs.set]
theorem append_nil {sz ty z:Nat}{es m:List D}(hs:s.Ok)(hm:m.length<=aL)(hn:m≠ []):
  fH s none sz ty (.vs true z es) m=some (.sl s.n 0 m.length m.length,s.bz (.arr sz ty m 0)):=by
 cases m with
 | nil=>exact absurd rfl hn
 | cons x m=>
  have e3:Nat.ble (x::m).length aL=true:=au hm;simp only [fH,e3,hs.We]
section
variable {t:Nat}{e:Env}{ds:List (D×List D)}{g:Option (Nat×Bool)}
theorem iV {op:eQ}{d:D}{s1:St}(h:gG T H b l k ⟨(t,d)::e,ds⟩ s1 Q)(hw:aI e g=some true:=by rfl)(ho:cC fF e s none op=some (d,s1):=by rfl):gG T H b (⟨(some t),op,g,none⟩::l) k ⟨e,ds⟩ s Q:=du h hw ho
theorem qt {op:eQ}{d:D}{s1:St}(h:gG T H b l k ⟨e,ds⟩ s1 Q)(hw:aI e g=some true:=by rfl)(ho:cC fF e s none op=some (d,s1):=by rfl):gG T H b (⟨none,op,g,none⟩::l) k ⟨e,ds⟩ s Q:=du h hw ho
theorem Mn {op:eQ}{s1:St}(h:gG T H b l k ⟨(t,.bool true)::e,ds⟩ s1 Q)(hw:aI e g=some true:=by rfl)(ho:cC fF e s none op=some (.bool true,s1):=by rfl):gG T H b (⟨(some t),op,g,none⟩::l) k ⟨e,ds⟩ s Q:=du h hw ho
theorem Pd {op:eQ}{s1:St}(h:gG T H b l k ⟨(t,.bool false)::e,ds⟩ s1 Q)(hw:aI e g=some true:=by rfl)(ho:cC fF e s none op=some (.bool false,s1):=by rfl):gG T H b (⟨(some t),op,g,none⟩::l) k ⟨e,ds⟩ s Q:=du h hw ho
theorem C9 {op:eQ}{al:Option Nat}(h:gG T H b l k ⟨(t,.gK [])::e,ds⟩ s Q)(hw:aI e g=some false:=by rfl):gG T H b (⟨some t,op,g,al⟩::l) k ⟨e,ds⟩ s Q:=by
 refine uO (fr1:=⟨(t,.gK [])::e,ds⟩) (s1:=s) ?_ h;unfold oper;simp only [hw];rfl
def _root_.Go.Ab.eQ.SK:eQ->Bool
 | .bin .. =>true
 | .eq .. =>true
 | _=>false
theorem NL {op:eQ}{c:Bool}{s1:St}(h:gG T H b l k ⟨(t,.bool true)::e,ds⟩ s1 Q)(hk:op.SK=true:=by rfl)(hw:aI e g=some true:=by rfl)(ho:cC fF e s none op=some (.bool c,s1):=by rfl)(hc:c=true:=by first | assumption | (simp only [aY,bQ,ib,bJ,bne_iff_ne,bne_eq_false_iff_eq,ne_eq,jh,dC]; done) | (simp only [aY,bQ,ib,bJ,bne_iff_ne,bne_eq_false_iff_eq,ne_eq]; first | assumption | omega)):
  gG T H b (⟨some t,op,g,none⟩::l) k ⟨e,ds⟩ s Q:=by
 subst hc;exact du h hw ho
theorem N6 {op:eQ}{c:Bool}{s1:St}(h:gG T H b l k ⟨(t,.bool false)::e,ds⟩ s1 Q)(hk:op.SK=true:=by rfl)(hw:aI e g=some true:=by rfl)(ho:cC fF e s none op=some (.bool c,s1):=by rfl)(hc:c=false:=by first | assumption | (simp only [aY,bQ,ib,bJ,bne_iff_ne,bne_eq_false_iff_eq,ne_eq,jh,dC]; done) | (simp only [aY,bQ,ib,bJ,bne_iff_ne,bne_eq_false_iff_eq,ne_eq]; first | assumption | omega)):
  gG T H b (⟨some t,op,g,none⟩::l) k ⟨e,ds⟩ s Q:=by
 subst hc;exact du h hw ho
theorem zh {f:Nat}{args:List bP}{x:List D}(h:Call T H f x (some t) b l k ⟨e,ds⟩ s Q)(hw:aI e g=some true:=by rfl)(hx:sg e args=some x:=by rfl):gG T H b (⟨(some t),.call false f args,g,none⟩::l) k ⟨e,ds⟩ s Q:=by
 have h:=h.out;refine⟨?_⟩;obtain⟨d,s1,h1,h2⟩:=h;exact tV h1 (fun C hC=>iC (o:=⟨(some t),.call false f args,g,none⟩) (fr:=⟨e,ds⟩) hw (by simp only [cC,hx]; exact hC)) h2
theorem AL {f:bP}{args:List bP}{x:List D}{gf:Nat}{x1 x2 y:List D}(h:Call T H gf y (some t) b l k ⟨e,ds⟩ s Q)(hw:aI e g=some true:=by rfl)(hf:f.ev e=some (.fn (.func gf) x1 x2):=by rfl)(hx:sg e args=some x:=by rfl)(hy:x1++x++x2=y:=by rfl):gG T H b (⟨(some t),.oU f args,g,none⟩::l) k ⟨e,ds⟩ s Q:=by
 have h:=h.out;refine⟨?_⟩;subst hy;obtain⟨d,s1,h1,h2⟩:=h;exact tV h1 (fun C hC=>iC (o:=⟨(some t),.oU f args,g,none⟩) (fr:=⟨e,ds⟩) hw (by simp only [cC,hf,hx]; exact hC)) h2
theorem vN {f:bP}{args:List bP}{x:List D}{o:Nat}(h:Call T H 0 (.lv (.yl o)::x) (some t) b l k ⟨e,ds⟩ s Q)(hw:aI e g=some true:=by rfl)(hf:f.ev e=some (.yl o):=by rfl)(hx:sg e args=some x:=by rfl):gG T H b (⟨(some t),.oU f args,g,none⟩::l) k ⟨e,ds⟩ s Q:=by
 have h:=h.out;refine⟨?_⟩;obtain⟨d,s1,h1,h2⟩:=h;exact tV h1 (fun C hC=>iC (o:=⟨(some t),.oU f args,g,none⟩) (fr:=⟨e,ds⟩) hw (by simp only [cC,hf,hx]; exact hC)) h2
theorem kG {sU:List (Nat×Nat×Recv)}{x:bP}{args:List bP}{y:List D}{ty f:Nat}{v u:D}{r:Recv}(h:Call T H f (u::y) (some t) b l k ⟨e,ds⟩ s Q)(hw:aI e g=some true:=by rfl)(hv:x.ev e=some (.ia ty v):=by rfl)(hx:sg e args=some y:=by rfl)(ht:sF sU ty=some (f,r):=by rfl)(hu:ru s v r=some u:=by rfl):
  gG T H b (⟨(some t),.invoke sU x args,g,none⟩::l) k ⟨e,ds⟩ s Q:=by
 have h:=h.out;refine⟨?_⟩;obtain⟨d,s1,h1,h2⟩:=h;exact tV h1 (fun C hC=>iC (o:=⟨(some t),.invoke sU x args,g,none⟩) (fr:=⟨e,ds⟩) hw (by simp only [cC,hv,hx,ht,hu]; exact hC)) h2
theorem Ht {sz:Option Nat}{x:bP}{o c ty:Nat}{v d:D}(h:gG T H b l k ⟨(t,d)::e,ds⟩ s Q)(hw:aI e g=some true:=by rfl)(hx:x.ev e=some (.ptr o c):=by rfl)(hg:s.get o=some (.var ty v):=by exact gI)(hp:part v.flat c sz=some d:=by rfl):gG T H b (⟨(some t),.load sz x,g,none⟩::l) k ⟨e,ds⟩ s Q:=
 du h hw (by simp only [cC,hx,iP,hg,hp,nj])
theorem Ib {sz:Option Nat}{x:bP}{c:Nat}{z d:D}(h:gG T H b l k ⟨(t,d)::e,ds⟩ s Q)(hw:aI e g=some true:=by rfl)(hx:x.ev e=some (.jD z c):=by rfl)(hp:part z.flat c sz=some d:=by rfl):gG T H b (⟨(some t),.load sz x,g,none⟩::l) k ⟨e,ds⟩ s Q:=
 du h hw (by simp only [cC,hx,iP,hp,nj])
theorem D6 {sz:Nat}{x v:bP}{o c ty:Nat}{d w w1:D}(h:gG T H b l k ⟨e,ds⟩ (s.bF o (.var ty w1)) Q)(hw:aI e g=some true:=by rfl)(hx:x.ev e=some (.ptr o c):=by rfl)(hv:v.ev e=some d:=by rfl)(hs:s.Ok:=by exact oI)(hg:s.get o=some (.var ty w):=by exact gI)(hz:Nat.beq d.flat.length sz=true:=by rfl)(hp:w.over c d=some w1:=by rfl):gG T H b (⟨none,.store sz x v,g,none⟩::l) k ⟨e,ds⟩ s Q:=
 du (d:= .gK []) h hw (by simp only [cC,hx,hv,jN,hz,hg,hp,hs.set,oK])
theorem HW {ty:Nat}{x:bP}{d:D}(h:gG T H b l k ⟨(t,.ptr s.n 0)::e,ds⟩ (s.bz (.var ty d)) Q)(hw:aI e g=some true:=by rfl)(hx:x.ev e=some d:=by rfl)(hd:(d.st && Nat.blt 0 d.flat.length)=true:=by rfl)(hs:s.Ok:=by exact oI):gG T H b (⟨(some t),.box ty x,g,none⟩::l) k ⟨e,ds⟩ s Q:=du h hw (by simp only [cC,hx,hd,hs.We])
theorem Ak {r:Option bP}(h:gG T H b l k ⟨(t,.mp s.n)::e,ds⟩ (s.bz (.map [] 0)) Q)(hw:aI e g=some true:=by rfl)(hr:sJ e r=some none:=by rfl)(hs:s.Ok:=by exact oI):gG T H b (⟨(some t),.yw r,g,none⟩::l) k ⟨e,ds⟩ s Q:=du h hw (by simp only [cC,hr,hs.We])
theorem xD {sz ty len:Nat}{z:D}{parts:List (Nat×bP)}{ps:List (Nat×D)}{es:List D}(h:gG T H b l k ⟨(t,.sl s.n 0 len len)::e,ds⟩ (s.bz (.arr sz ty es 0)) Q)(hw:aI e g=some true:=by rfl)(hp:jv e parts=some ps:=by rfl)(hz:eI sz [z]=true:=by rfl)(hf:sX sz (List.replicate len z) ps=some es:=by rfl)(hs:s.Ok:=by exact oI):gG T H b (⟨(some t),.tq sz ty z len parts,g,none⟩::l) k ⟨e,ds⟩ s Q:=du h hw (by simp only [cC,hp,hz,hf,hs.We])
theorem rT {sz bytes ty:Nat}{z dl dc:D}{ln cp:bP}{l1 c1:Nat}(hl:idx dl=some l1)(hc:idx dc=some c1)(h1:l1<=c1)(h2:c1 * bytes<=140737488355328)(h3:c1<=aL)(h:gG T H b l k ⟨(t,.sl s.n 0 l1 l1)::e,ds⟩ (s.bz (.arr sz ty (List.replicate l1 z) 0)) Q)(hw:aI e g=some true:=by rfl)(hx:ln.ev e=some dl:=by rfl)(hy:cp.ev e=some dc:=by rfl)(hz:eI sz [z]=true:=by rfl)(hs:s.Ok:=by exact oI):gG T H b (⟨(some t),.ou sz bytes ty z ln cp,g,none⟩::l) k ⟨e,ds⟩ s Q:=by
 have e1:Nat.ble l1 c1=true:=au h1;have e2:Nat.ble (c1 * bytes) 140737488355328=true:=au h2;have e3:Nat.ble c1 aL=true:=au h3;exact du h hw (by simp only [cC,hx,hy,hl,hc,e1,e2,e3,hz,fm,hs.We])
theorem xG {x:bP}{d:D}(h:gG T H b l k ⟨(t,.lv d)::e,ds⟩ s Q)(hw:aI e g=some true:=by rfl)(hx:x.ev e=some d:=by rfl)(hn:(e.tQ t && d.st)=true:=by rfl):gG T H b (⟨some t,.nv x,g,none⟩::l) k ⟨e,ds⟩ s Q:=by
 refine uO (fr1:=⟨(t,.lv d)::e,ds⟩) (s1:=s) ?_ h;unfold oper;simp only [hw,hx,hn]
theorem dW {a sz c:Nat}{x v:bP}{d w w1:D}(h:gG T H b l k ⟨(a,.lv w1)::e,ds⟩ s Q)(hw:aI e g=some true:=by rfl)(hx:x.yP e=some (.iG a c):=by rfl)(hv:v.ev e=some d:=by rfl)(ha:e.get a=some (.lv w):=by rfl)(hz:Nat.beq d.flat.length sz=true:=by rfl)(hp:w.over c d=some w1:=by rfl):
  gG T H b (⟨none,.iX a sz x v,g,none⟩::l) k ⟨e,ds⟩ s Q:=by
 refine uO (fr1:=⟨(a,.lv w1)::e,ds⟩) (s1:=s) ?_ h;unfold oper;simp only [hw,hx,hv,aA,ha,hz,hp,ij]
theorem H9 {sz:Nat}{x i:bP}{n:D}{j:Nat}{nl:Bool}{es:List D}{z:D}(h:gG T H b l k ⟨(t,.jD z 0)::e,ds⟩ s Q)(hw:aI e g=some true:=by rfl)(hx:x.ev e=some (.vs nl sz es):=by rfl)(hi:i.ev e=some n:=by rfl)(hj:idx n=some j:=by first | exact jz | rfl | exact gY (by omega))(he:es[j]? =some z:=by first | assumption | rfl):gG T H b (⟨some t,.jY sz x i,g,none⟩::l) k ⟨e,ds⟩ s Q:=
 du h hw (by simp only [cC,hx,hi,hj,ke,aA,he,nj])
theorem HB {sz:Nat}{x i:bP}{n:D}{j o off len cp ty st:Nat}{es:List D}(h:gG T H b l k ⟨(t,.jI o (off+j) 0 (off+cp))::e,ds⟩ s Q)(hw:aI e g=some true:=by rfl)(hx:x.ev e=some (.sl o off len cp):=by rfl)(hi:i.ev e=some n:=by rfl)(hg:s.get o=some (.arr sz ty es st):=by exact gI)(hj:idx n=some j:=by first | exact jz | rfl | exact gY (by omega))(hl:j < len:=by exact sI)(h1:off+len<=es.length:=by exact sI)(h2:st<=off+cp:=by exact sI):gG T H b (⟨some t,.jY sz x i,g,none⟩::l) k ⟨e,ds⟩ s Q:=by
 have e1:Nat.blt j len=true:=au (mn hl);have e2:Nat.ble (off+len) es.length=true:=au h1;have e3:Nat.ble st (off+cp)=true:=au h2;exact du h hw (by simp only [cC,hx,hi,hj,ke,hg,aA,e1,e2,e3,nj])
theorem Ia {sz:Option Nat}{x:bP}{o i c en z ty st:Nat}{es:List D}{v d:D}(h:gG T H b l k ⟨(t,d)::e,ds⟩ s Q)(hw:aI e g=some true:=by rfl)(hx:x.ev e=some (.jI o i c en):=by rfl)(hg:s.get o=some (.arr z ty es st):=by exact gI)(hi:es[i]? =some v:=by first | assumption | rfl)(dN:st<=en:=by exact sI)(hp:part v.flat c sz=some d:=by rfl):gG T H b (⟨some t,.load sz x,g,none⟩::l) k ⟨e,ds⟩ s Q:=by
 have e1:Nat.ble st en=true:=au dN;exact du h hw (by simp only [cC,hx,iP,hg,e1,hi,hp,nj])
theorem DB {sz:Nat}{x v:bP}{o i c en z ty st:Nat}{es:List D}{d w w1:D}(h:gG T H b l k ⟨e,ds⟩ (s.bF o (.arr z ty (es.set i w1) es.length)) Q)(hw:aI e g=some true:=by rfl)(hx:x.ev e=some (.jI o i c en):=by rfl)(hv:v.ev e=some d:=by rfl)(hs:s.Ok:=by exact oI)(hg:s.get o=some (.arr z ty es st):=by exact gI)(hi:es[i]? =some w:=by first | assumption | rfl)(he:en=es.length:=by exact sI)(hz:Nat.beq d.flat.length sz=true:=by rfl)(hp:w.over c d=some w1:=by rfl):gG T H b (⟨none,.store sz x v,g,none⟩::l) k ⟨e,ds⟩ s Q:=by
 subst he;exact du (d:= .gK []) h hw (by simp only [cC,hx,hv,jN,hz,hg,aA,hi,hp,hs.set,oK])
theorem Hw {sz bytes ty:Nat}{x y:bP}{o off len cp st:Nat}{nl:Bool}{es m:List D}(h:gG T H b l k ⟨(t,.sl o off (len+m.length) (len+m.length))::e,ds⟩ (s.bF o (.arr sz ty (es++m) st)) Q)(hw:aI e g=some true:=by rfl)(hx:x.ev e=some (.sl o off len cp):=by rfl)(hy:y.ev e=some (.vs nl sz m):=by rfl)(hs:s.Ok:=by exact oI)(hg:s.get o=some (.arr sz ty es st):=by exact gI)(hb:Nat.ble bytes 4096=true:=by rfl)(ha:eI sz m=true:=by rfl)(hn:m≠ []:=by simp)(he:off+len=es.length:=by exact sI)(dN:st<=es.length:=by exact sI)(hm:len+m.length<=aL:=by exact sI):gG T H b (⟨some t,.append sz bytes ty x y,g,none⟩::l) k ⟨e,ds⟩ s Q:=by
 refine du h hw ?_;simp only [cC,hx,hy,items,aA,eP,hb,ha,sj hs hg he dN hm hn]
theorem H6 {sz bytes ty z:Nat}{x y:bP}{nl:Bool}{es m:List D}(h:gG T H b l k ⟨(t,.sl s.n 0 m.length m.length)::e,ds⟩ (s.bz (.arr sz ty m 0)) Q)(hw:aI e g=some true:=by rfl)(hx:x.ev e=some (.vs true z es):=by rfl)(hy:y.ev e=some (.vs nl sz m):=by rfl)(hs:s.Ok:=by exact oI)(hb:Nat.ble bytes 4096=true:=by rfl)(ha:eI sz m=true:=by rfl)(hn:m≠ []:=by simp)(hm:m.length<=aL:=by exact sI):gG T H b (⟨some t,.append sz bytes ty x y,g,none⟩::l) k ⟨e,ds⟩ s Q:=by
 refine du h hw ?_;simp only [cC,hx,hy,items,aA,eP,hb,ha,append_nil hs hm hn]
theorem Im {sz:Nat}{z d:D}{x:bP}(h:gG T H b l k ⟨(t,.vs false sz [d])::e,ds⟩ s Q)(hw:aI e g=some true:=by rfl)(hx:x.ev e=some d:=by rfl)(hz:eI sz [z]=true:=by rfl)(h1:Nat.beq d.flat.length sz=true:=by rfl)(h2:d.st=true:=by rfl):gG T H b (⟨some t,.pX sz z 1 [(0,x)],g,none⟩::l) k ⟨e,ds⟩ s Q:=
 du h hw (by simp only [cC,jv,hx,hz,sX,h1,h2,List.replicate,aV,bL,Nat.blt,Nat.ble,jR])
theorem Sg {j:Nat}(h:j+1 < 9223372036854775808):IntKind.wrap .i64 ((j:Int)+1)=((j+1:Nat):Int):=by
 simp only [IntKind.wrap,IntKind.signed,IntKind.bits,fM,aY,ge_iff_le];rw [show ((2:Int) ^ (64 - 1))=9223372036854775808 from rfl,show ((2:Int) ^ 64)=18446744073709551616 from rfl];split <;> omega
theorem Hv {x:bP}{j:Nat}(h:gG T H b l k ⟨(t,.int .i64 ((j+1:Nat):Int))::e,ds⟩ s Q)(hw:aI e g=some true:=by rfl)(hx:x.ev e=some (.int .i64 (Nat.cast j)):=by rfl)(hj:j+1 < 9223372036854775808:=by omega):gG T H b (⟨some t,.bin .add x (.c (.int .i64 1)),g,none⟩::l) k ⟨e,ds⟩ s Q:=by
 have hy:(bP.c (.int .i64 1)).ev e=some (.int .i64 1):=rfl;have hb:KE .add (.int .i64 (j:Int)) (.int .i64 1)=some (.int .i64 ((j+1:Nat):Int)):=by
  show some (D.int .i64 (IntKind.wrap .i64 ((j:Int)+1)))=_;rw [Sg hj]
 exact du h hw (by simp only [cC,hx,hy,hb,nj])
theorem Hr {sz ty:Nat}{x:bP}{lo hi:Option bP} {a b' :Option D}{lo' hi' o off len cp st:Nat}{es:List D}(h:gG T H b l k ⟨(t,.sl o (off+lo') (hi' - lo') (cp - lo'))::e,ds⟩ s Q)(hw:aI e g=some true:=by rfl)(hx:x.ev e=some (.sl o off len cp):=by rfl)(ha:sJ e lo=some a:=by rfl) (jl :sJ e hi=some b' :=by rfl)(Pr:lH 0 a=some lo' :=by first | rfl | exact jz | exact gY (by omega))(kO:(match b' with | none=>some len | some d=>idx d)=some hi' :=by first | rfl | exact jz | exact gY (by omega))(hg:s.get o=some (.arr sz ty es st):=by exact gI)(h1:off+len<=es.length:=by exact sI)(h2:st<=off+cp:=by exact sI)(h3:lo' <=hi' :=by exact sI)(h4:hi' <=cp:=by exact sI):gG T H b (⟨some t,.HE sz x lo hi none,g,none⟩::l) k ⟨e,ds⟩ s Q:=by
 have e1:Nat.ble (off+len) es.length=true:=au h1;have e2:Nat.ble st (off+cp)=true:=au h2;have e3:Nat.ble lo' hi' =true:=au h3;have e4:Nat.ble hi' cp=true:=au h4;have e5:sJ e none=some none:=rfl;have e6:lH 0 none=some 0:=rfl;refine du h hw ?_;cases b' with
 | none=>
  simp only [aa]at kO; subst kO;simp only [cC,hx,ha,jl,e5,Pr,e6,items,hg,e1,e2,aA,eP,fZ,uG,Option.getD,e3,e4,nj]
 | some d=>
  simp only at kO;have jK:lH 0 (some d)=some hi' :=kO;simp only [cC,hx,ha,jl,e5,Pr,e6,jK,items,hg,e1,e2,aA,eP,fZ,uG,Option.getD,e3,e4,nj]
theorem ID {et:ET}{z kd v:D}{ok:Bool}{m ky:bP}{o c i:Nat}{es:List (Nat×D×D)}(h:gG T H b l k ⟨(t,Fa ok v true)::e,ds⟩ s Q)(hw:aI e g=some true:=by rfl)(hm:m.ev e=some (.mp o):=by rfl)(hky:ky.ev e=some kd:=by rfl)(gV:oQ et kd=true:=by rfl)(hg:s.get o=some (.map es c):=by exact gI)(hf:findKey et kd es 0=some (some (i,v)):=by rfl):gG T H b (⟨some t,.lookup et z ok m ky,g,none⟩::l) k ⟨e,ds⟩ s Q:=
 du h hw (by simp only [cC,hm,hky,gV,hg,hf])
end
end Go.Ab.Sm
