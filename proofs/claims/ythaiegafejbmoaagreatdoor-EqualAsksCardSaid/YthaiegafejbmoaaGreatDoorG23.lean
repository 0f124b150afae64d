/- Part. -/
import Derived.Test.YthaiegafejbmoaaGreatDoorG22
set_option linter.unusedSectionVars false
set_option linter.unusedSimpArgs false
set_option linter.unusedVariables false
namespace Go.Ab.Sm
theorem nI {p:Prop}(h:p:=by repeat (first | assumption | refine St.cu ?_ (by first | assumption | (apply bE; assumption) | omega | (simp only [St.ck,St.ej,St.iK]; omega)) | refine St.dN ?_ (by first | assumption | (apply bE; assumption) | omega | (simp only [St.ck,St.ej,St.iK]; omega)) | refine St.yN ?_ | exact St.Ok.fresh (by assumption) _ (by first | assumption | omega | (simp only [St.ck,St.ej,St.iK]; omega)))):p:=h
theorem gI {p:Prop}(h:p:=by repeat (first | assumption | exact St.aG | exact St.bq | refine St.cu ?_ (by first | assumption | (apply bE; assumption) | omega | (simp only [St.ck,St.ej,St.iK]; omega)) | refine St.dN ?_ (by first | assumption | (apply bE; assumption) | omega | (simp only [St.ck,St.ej,St.iK]; omega)) | refine St.yN ?_)):p:=h
theorem cI {p:Prop}(h:p:=by first | (with_reducible exact RU) | (simp (disch:=first | assumption | omega | (apply bE; assumption)) only [eQ,kF,cl,aJ,bD,mK,gF,bD.cL,bO.ev,Env.get,Nat.beq,ry,pM,Go.Ab.T.ui,dF,gz,de,bP,aS,mD,fO,dS]; done) | rfl):p:=h
theorem fI {p:Prop}(h:p:=by first | (dsimp only [cl,aJ,bD,mK,gF,bD.cL,bO.ev,Env.get,Nat.beq,Option.getD]; done) | (dsimp only [cl,aJ,bD,mK,gF,bD.cL,bO.ev,Env.get,Nat.beq,Option.getD]; rfl) | rfl):p:=h
theorem oI {p:Prop}(h:p:=by repeat (first | assumption | refine St.Ok.aZ ?_ _ | refine St.Ok.bn ?_ _ (by first | assumption | omega | (simp only [St.ck,St.ej,St.iK]; omega)) | refine St.Ok.up ?_ _)):p:=h
theorem sI {p:Prop}(h:p:=by first | assumption | omega | (simp only [aM,an,aT,b9,cM,iL,aY]; omega)):p:=h
theorem bI {p:Prop}(h:p:=by repeat (first | assumption | exact aH.refl (by assumption) | refine aH.set ?_ _ (by first | assumption | omega | (simp only [St.ck,St.ej,St.iK]; omega)) (fun hbeh=>by first | (exfalso; omega) | (exfalso; simp only [St.ck,St.ej,St.iK]at hbeh; omega) | (simp; done)) | refine aH.push ?_ _ | refine aH.up ?_ _)):p:=h
open Go Go.Ab
variable {T:Nat->Option dJ}{H:au}
abbrev QP:=Ex->Fr->St->Prop
inductive iI where
 | seq (b:AC)
 | block (id:Nat)
 | loop (I:Nat->Env->St->Prop) (bM:List Nat) (m:Nat)
 | again (bM:List Nat) (a:AC)
 | call (rs:List xl) (dst:Option Nat) (b:Nat) (l:List bz) (fr:Fr)
def mi (T:Nat->Option dJ)(H:au)(Q:QP):List iI->Ex->Fr->St->Prop
 | [],e,fr,s=>Q e fr s
 | .seq b::k,.normal,fr,s=>Wp T H b fr s (mi T H Q k)
 | .seq _::k,.exit i,fr,s=>mi T H Q k (.exit i) fr s
 | .seq _::k,.ret,fr,s=>mi T H Q k .ret fr s
 | .block id::k,.exit i,fr,s=>if i=id then mi T H Q k .normal fr s else mi T H Q k (.exit i) fr s
 | .block _::k,.normal,fr,s=>mi T H Q k .normal fr s
 | .block _::k,.ret,fr,s=>mi T H Q k .ret fr s
 | .loop I bM m::_,.normal,fr,s=>∃m',m' < m/\fr.defers=[]/\I m' (fr.env.bM bM) s
 | .loop _ _ _::k,.exit i,fr,s=>mi T H Q k (.exit i) fr s
 | .loop _ _ _::k,.ret,fr,s=>mi T H Q k .ret fr s
 | .again bM a::k,.normal,fr,s=>Wp T H (.loop bM a) fr s (mi T H Q k)
 | .again _ _::k,.exit i,fr,s=>mi T H Q k (.exit i) fr s
 | .again _ _::k,.ret,fr,s=>mi T H Q k .ret fr s
 | .call rs dst b l fr0::k,e,fr,s=>(∀i,e≠ .exit i)/\marks fr.defers=true/\∃r,jH fr.env s rs=some r/\Ug T H b l ⟨iq fr0.env dst (single r),fr0.defers⟩ s (mi T H Q k .normal)
structure dR (T:Nat->Option dJ)(H:au)(a:AC)(k:List iI)(fr:Fr)(s:St)(Q:QP):Prop where
 out:Wp T H a fr s (mi T H Q k)
structure iN (T:Nat->Option dJ)(H:au)(b:Nat)(l:List bz)(k:List iI)(fr:Fr)(s:St)(Q:QP):Prop where
 out:Ug T H b l fr s (mi T H Q k .normal)
structure lB (T:Nat->Option dJ)(H:au)(e:Ex)(k:List iI)(fr:Fr)(s:St)(Q:QP):Prop where
 out:mi T H Q k e fr s
def bY (T:Nat->Option dJ)(H:au)(f:Nat)(x:List D)(s:St)(R:D->St->Prop):Prop:=∃d s1,Ev T H f x s (d,s1)/\R d s1
structure Call (T:Nat->Option dJ)(H:au)(f:Nat)(x:List D)(dst:Option Nat)(b:Nat)(l:List bz)(k:List iI)(fr:Fr)(s:St)(Q:QP):Prop where
 out:bY T H f x s fun d s1=>Ug T H b l ⟨iq fr.env dst d,fr.defers⟩ s1 (mi T H Q k .normal)
variable {b:Nat}{k:List iI}{fr:Fr}{s:St}{Q:QP}{l:List bz}
theorem Fb (h:lB T H .normal k fr s Q):dR T H .skip k fr s Q:=by
 have h:=h.out;exact⟨wp_skip h⟩
theorem IY (h:lB T H .ret k fr s Q):dR T H .ret k fr s Q:=by
 have h:=h.out;exact⟨wp_ret h⟩
theorem Fa {i:Nat}(h:lB T H (.exit i) k fr s Q):dR T H (.exit i) k fr s Q:=by
 have h:=h.out;exact⟨wp_exit h⟩
theorem IX (h:iN T H 0 l k fr s Q):dR T H (.AL l) k fr s Q:=by
 have h:=h.out;exact⟨Yj h⟩
theorem run_seq {a c:AC}(h:dR T H a (.seq c::k) fr s Q):dR T H (.seq a c) k fr s Q:=by
 have h:=h.out;exact⟨wp_seq (Wp.mono h fun e f1 s1 h1=>by cases e <;> exact h1)⟩
theorem BO {id:Nat}{a:AC}(h:dR T H a (.block id::k) fr s Q):dR T H (.block id a) k fr s Q:=by
 have h:=h.out;exact⟨wp_block (Wp.mono h fun e f1 s1 h1=>by cases e <;> exact h1)⟩
theorem wx {c:bO}{x y:AC}(h:dR T H x k fr s Q)(hc:c.ev fr.env=some (.bool true):=by rfl):dR T H (.cond c x y) k fr s Q:=by
 have h:=h.out;exact⟨wp_cond hc h⟩
theorem wv {c:bO}{x y:AC}(h:dR T H y k fr s Q)(hc:c.ev fr.env=some (.bool false):=by rfl):dR T H (.cond c x y) k fr s Q:=by
 have h:=h.out;exact⟨wp_cond hc h⟩
theorem eF {c:bO}{x y:AC}{v:Bool}(h1:v=true->dR T H x k fr s Q)(h2:v=false->dR T H y k fr s Q)(hc:c.ev fr.env=some (.bool v):=by rfl):dR T H (.cond c x y) k fr s Q:=by
 have h1:=fun hh=>(h1 hh).out;have h2:=fun hh=>(h2 hh).out;refine⟨?_⟩;cases v with
 | true=>exact (wx ⟨h1 rfl⟩ hc).out
 | false=>exact (wv ⟨h2 rfl⟩ hc).out
theorem fY {bM:List Nat}{a:AC}(I:Nat->Env->St->Prop)(m:Nat)(hd:fr.defers=[])(h0:I m (fr.env.bM bM) s)
  (h:∀m env s,I m env s->dR T H a (.loop I bM m::k) ⟨env,[]⟩ s Q)(hb:a.iD=false:=by rfl):dR T H (.loop bM a) k fr s Q:=by
 refine⟨?_⟩;refine wp_loop (I:=fun m fr s=>fr.defers=[]/\I m (fr.env.bM bM) s) (fun n fr s hI=> ?_) hb m fr s ⟨hd,h0⟩;obtain⟨env,ds⟩:=fr;obtain⟨pk,hI⟩:=hI;simp only at pk; subst pk;exact Wp.mono (h n _ s hI).out fun e f1 s1 h1=>by cases e <;> exact h1
theorem jw {bM:List Nat}{a:AC}{env:Env}(h:dR T H a (.again bM a::k) ⟨env,fr.defers⟩ s Q)(hk:fr.env.bM bM=env:=by rfl)(hb:a.iD=false:=by rfl):dR T H (.loop bM a) k fr s Q:=by
 have h:=h.out;refine⟨?_⟩;subst hk;obtain⟨e,f1,s1,h1,h2⟩:=h;cases e with
 | normal=>
  obtain⟨e2,f2,s2,h3,h4⟩:=h2;exact⟨e2,f2,s2,.again h1 h3 hb,h4⟩
 | exit i=>exact ⟨_,f1,s1,.stop h1 (by simp) hb,h2⟩
 | ret=>exact ⟨_,f1,s1,.stop h1 (by simp) hb,h2⟩
theorem qI {bM:List Nat}{a:AC}(h:dR T H (.loop bM a) k fr s Q):lB T H .normal (.again bM a::k) fr s Q:=by
 have h:=h.out;refine⟨?_⟩;exact h
theorem zP {bM:List Nat}{a:AC}{i:Nat}(h:lB T H (.exit i) k fr s Q):lB T H (.exit i) (.again bM a::k) fr s Q:=by
 have h:=h.out;refine⟨?_⟩;exact h
theorem zO {bM:List Nat}{a:AC}(h:lB T H .ret k fr s Q):lB T H .ret (.again bM a::k) fr s Q:=by
 have h:=h.out;refine⟨?_⟩;exact h
theorem qK {e:Ex}(h:Q e fr s):lB T H e [] fr s Q:=by
 exact⟨h⟩
theorem zT {c:AC}(h:dR T H c k fr s Q):lB T H .normal (.seq c::k) fr s Q:=by
 have h:=h.out;refine⟨?_⟩;exact h
theorem E8 {c:AC}{i:Nat}(h:lB T H (.exit i) k fr s Q):lB T H (.exit i) (.seq c::k) fr s Q:=by
 have h:=h.out;refine⟨?_⟩;exact h
theorem uZ {c:AC}(h:lB T H .ret k fr s Q):lB T H .ret (.seq c::k) fr s Q:=by
 have h:=h.out;refine⟨?_⟩;exact h
theorem zQ {id:Nat}(h:lB T H .normal k fr s Q):lB T H .normal (.block id::k) fr s Q:=by
 have h:=h.out;refine⟨?_⟩;exact h
theorem qJ {id:Nat}(h:lB T H .ret k fr s Q):lB T H .ret (.block id::k) fr s Q:=by
 have h:=h.out;refine⟨?_⟩;exact h
theorem zR {i:Nat}(h:lB T H .normal k fr s Q):lB T H (.exit i) (.block i::k) fr s Q:=by
 have h:=h.out;refine⟨?_⟩;show (if i=i then _ else _); rw [bQ rfl]; exact h
theorem zS {i id:Nat}(h:lB T H (.exit i) k fr s Q)(hn:Nat.beq i id=false:=by rfl):lB T H (.exit i) (.block id::k) fr s Q:=by
 have h:=h.out;refine⟨?_⟩;show (if i=id then _ else _);rw [aI (fun e=>by subst e; rw [aA]at hn; cases hn)]; exact h
theorem BM {I:Nat->Env->St->Prop}{bM:List Nat}{m i:Nat}(h:lB T H (.exit i) k fr s Q):lB T H (.exit i) (.loop I bM m::k) fr s Q:=by
 have h:=h.out;refine⟨?_⟩;exact h
theorem wq {I:Nat->Env->St->Prop}{bM:List Nat}{m:Nat}(h:lB T H .ret k fr s Q):lB T H .ret (.loop I bM m::k) fr s Q:=by
 have h:=h.out;refine⟨?_⟩;exact h
theorem ec {I:Nat->Env->St->Prop}{bM:List Nat}{m:Nat} (m' :Nat)(hm:m' < m)(hd:fr.defers=[])(h:I m' (fr.env.bM bM) s):lB T H .normal (.loop I bM m::k) fr s Q:=by
 exact⟨m',hm,hd,h⟩
theorem BL {rs:List xl}{t:Nat}{e0:Env}{ds:List (D×List D)}{r:List D}{d:D}(h:iN T H b l k ⟨(t,d)::e0,ds⟩ s Q)(hd:marks fr.defers=true:=by rfl)(hr:jH fr.env s rs=some r:=by rfl)(he:single r=d:=by rfl):lB T H .ret (.call rs (some t) b l ⟨e0,ds⟩::k) fr s Q:=by
 have h:=h.out;refine⟨?_⟩;subst he;exact⟨fun i=>by simp,hd,r,hr,h⟩
theorem BK {rs:List xl}{t:Nat}{e0:Env}{ds:List (D×List D)}{r:List D}{d:D}(h:iN T H b l k ⟨(t,d)::e0,ds⟩ s Q)(hd:marks fr.defers=true:=by rfl)(hr:jH fr.env s rs=some r:=by rfl)(he:single r=d:=by rfl):lB T H .normal (.call rs (some t) b l ⟨e0,ds⟩::k) fr s Q:=by
 have h:=h.out;refine⟨?_⟩;subst he;exact⟨fun i=>by simp,hd,r,hr,h⟩
def NJ (N:Nat)(F:Nat->Env)(I:Nat->St->Prop):Nat->Env->St->Prop:=fun m env s=>∃j,j<=N/\m=N - j/\env=F j/\I j s
theorem fw {bM:List Nat}{a:AC}(N:Nat)(F:Nat->Env)(I:Nat->St->Prop)(hI:I 0 s)(h:∀j s,j<=N->I j s->dR T H a (.loop (NJ N F I) bM (N - j)::k) ⟨F j,[]⟩ s Q)(hd:fr.defers=[]:=by rfl)(hF:fr.env.bM bM=F 0:=by rfl)(hb:a.iD=false:=by rfl):dR T H (.loop bM a) k fr s Q:=by
 refine fY (NJ N F I) N hd ⟨0,cH _,rfl,hF,hI⟩ ?_ hb;rintro m env s ⟨j,hj,rfl,rfl,hI⟩;exact h j s hj hI
theorem dI {N:Nat}{F:Nat->Env}{I:Nat->St->Prop}{bM:List Nat}{j:Nat}(hj:j < N)(hI:I (j+1) s)(hd:fr.defers=[]:=by rfl)(hF:fr.env.bM bM=F (j+1):=by rfl):lB T H .normal (.loop (NJ N F I) bM (N - j)::k) fr s Q:=
 ec (N - (j+1)) (by omega) hd ⟨j+1,by omega,rfl,hF,hI⟩
theorem gG {C:au}{o:bz}{d:D}{s1:St}(hw:aJ fr.env o.guard=some true)(ho:cg C fr.env s (match o.al with | some r=>some (b+r) | none=>none) o.op=some (d,s1)):
  oper C b o fr s=some ({ fr with env:=iq fr.env o.dst d},s1):=by
 obtain⟨dst,op,g,al⟩:=o;unfold oper;rw [hw];cases op
 case defer=>simp [cg]at ho
 case mZ=>simp [cg]at ho
 case iX=>simp [cg]at ho
 all_goals
  cases al <;>
  ·simp only at ho ⊢;rw [ho]
theorem CG (h:lB T H .normal k fr s Q):iN T H b [] k fr s Q:=by
 have h:=h.out;refine⟨?_⟩;exact⟨fr,s,.nil,h⟩
theorem uQ {o:bz}{fr1:Fr}{s1:St}(h1:oper fm b o fr s=some (fr1,s1))(h:iN T H b l k fr1 s1 Q):iN T H b (o::l) k fr s Q:=by
 have h:=h.out;refine⟨?_⟩;exact QR h1 h
theorem dM {dst:Option Nat}{op:eE}{g:Option (Nat×Bool)}{e:Env}{ds:List (D×List D)}{d:D}{s1:St}(h:iN T H b l k ⟨iq e dst d,ds⟩ s1 Q)(hw:aJ e g=some true)(ho:cg fm e s none op=some (d,s1)):
  iN T H b (⟨dst,op,g,none⟩::l) k ⟨e,ds⟩ s Q:=uQ (gG (o:=⟨dst,op,g,none⟩) (fr:=⟨e,ds⟩) hw ho) h
theorem af {f:Nat}{x:List D}{t:Nat}{e:Env}{ds:List (D×List D)}{R:D->St->Prop}(h:bY T H f x s R)(h2:∀d s1,R d s1->iN T H b l k ⟨(t,d)::e,ds⟩ s1 Q):Call T H f x (some t) b l k ⟨e,ds⟩ s Q:=by
 have h2:=fun d s1 hh=>(h2 d s1 hh).out;refine⟨?_⟩;obtain⟨d,s1,h1,h3⟩:=h;exact⟨d,s1,h1,h2 d s1 h3⟩
theorem eD {f:Nat}{fn:dJ}{x:List D}{dst:Option Nat}(hT:T f=some fn)(h:dR T H fn.body (.call fn.results dst b l fr::k) ⟨lW 0 x,[]⟩ s Q)(hy:yS x=false:=by rfl):Call T H f x dst b l k fr s Q:=by
 have h:=h.out;refine⟨?_⟩;refine DW hT (Wp.mono h ?_) hy;rintro e f1 s1 ⟨h1,h2,r,h3,h4⟩;exact⟨h1,h2,r,h3,h4⟩
def QF (rs:List xl)(R:D->St->Prop):QP:=fun e f1 s1=>(∀i,e≠ .exit i)/\marks f1.defers=true/\∃r,jH f1.env s1 rs=some r/\R (single r) s1
theorem aD {f:Nat}{fn:dJ}{x:List D}{R:D->St->Prop}(hT:T f=some fn)(h:dR T H fn.body [] ⟨lW 0 x,[]⟩ s (QF fn.results R))(hy:yS x=false:=by rfl):bY T H f x s R:=by
 have h:=h.out;exact DW hT h hy
theorem ai {rs:List xl}{R:D->St->Prop}{r:List D}{d:D}(h:R d s)(hd:marks fr.defers=true:=by rfl)(hr:jH fr.env s rs=some r:=by rfl)(he:single r=d:=by rfl):lB T H .ret [] fr s (QF rs R):=by
 refine⟨?_⟩;subst he;exact⟨fun i=>by simp,hd,r,hr,h⟩
theorem iG {rs:List xl}{R:D->St->Prop}{r:List D}{d:D}(h:R d s)(hd:marks fr.defers=true:=by rfl)(hr:jH fr.env s rs=some r:=by rfl)(he:single r=d:=by rfl):lB T H .normal [] fr s (QF rs R):=by
 refine⟨?_⟩;subst he;exact⟨fun i=>by simp,hd,r,hr,h⟩
theorem bY.mono {f:Nat}{x:List D} {R R' :D->St->Prop}(h:bY T H f x s R)(hR:∀d s1,R d s1->R' d s1):bY T H f x s R' :=by
 obtain⟨d,s1,h1,h2⟩:=h;exact⟨d,s1,h1,hR _ _ h2⟩
theorem _root_.Go.Ab.St.aG {s:St}{o:Nat}{x:Obj}:(s.bn o x).get o=some x:=by rw [St.Si,bQ rfl]
theorem _root_.Go.Ab.St.bq {s:St}{x:Obj}:(s.aZ x).get s.n=some x:=by rw [St.Sg,bQ rfl]
theorem _root_.Go.Ab.St.cu {s:St}{o j:Nat}{x:Obj}{y:Option Obj}(h:s.get j=y)(hn:j≠o):(s.bn o x).get j=y:=by rw [St.Si,aI hn]; exact h
theorem _root_.Go.Ab.St.dN {s:St}{j:Nat}{x:Obj}{y:Option Obj}(h:s.get j=y)(hn:j≠s.n):(s.aZ x).get j=y:=by rw [St.Sg,aI hn]; exact h
theorem ll {kd:IntKind}{i:Nat}:idx (.int kd (i:Int))=some i:=by simp [idx]
theorem iT {kd:IntKind}{n:Int}(h:0<=n):idx (.int kd n)=some n.toNat:=by simp [idx,h]
theorem si {al:Option Nat}{sz ty o off len cp st:Nat}{es m:List D}(hs:s.Ok)(hg:s.get o=some (.arr sz ty es st))(he:off+len=es.length)(cG:st<=es.length)(hm:len+m.length<=aM)(hn:m≠ []):
  ff s al sz ty (.sl o off len cp) m=some (.sl o off (len+m.length) (len+m.length),s.bn o (.arr sz ty (es++m) st)):=by
 cases m with
 | nil=>exact absurd rfl hn
 | cons x m=>
  have e1:Nat.ble (off+len) es.length=true:=ax (Nat.le_of_eq he);have e2:Nat.ble st (off+len)=true:=ax (by omega);have e3:Nat.ble (len+(x::m).length) aM=true:=ax hm;have e4:Nat.beq (off+len) es.length=true:=by rw [he]; exact aA _
  simp only [ff,hg,aA,dS,e1,e2,e3,e4,hs.set]
theorem append_nil {sz ty z:Nat}{es m:List D}(hs:s.Ok)(hm:m.length<=aM)(hn:m≠ []):
  ff s none sz ty (.vs true z es) m=some (.sl s.n 0 m.length m.length,s.aZ (.arr sz ty m 0)):=by
 cases m with
 | nil=>exact absurd rfl hn
 | cons x m=>
  have e3:Nat.ble (x::m).length aM=true:=ax hm;simp only [ff,e3,hs.XJ]
section
variable {t:Nat}{e:Env}{ds:List (D×List D)}{g:Option (Nat×Bool)}
theorem lR {op:eE}{d:D}{s1:St}(h:iN T H b l k ⟨(t,d)::e,ds⟩ s1 Q)(hw:aJ e g=some true:=by rfl)(ho:cg fm e s none op=some (d,s1):=by rfl):iN T H b (⟨(some t),op,g,none⟩::l) k ⟨e,ds⟩ s Q:=dM h hw ho
theorem qF {op:eE}{d:D}{s1:St}(h:iN T H b l k ⟨e,ds⟩ s1 Q)(hw:aJ e g=some true:=by rfl)(ho:cg fm e s none op=some (d,s1):=by rfl):iN T H b (⟨none,op,g,none⟩::l) k ⟨e,ds⟩ s Q:=dM h hw ho
theorem P3 {op:eE}{s1:St}(h:iN T H b l k ⟨(t,.bool true)::e,ds⟩ s1 Q)(hw:aJ e g=some true:=by rfl)(ho:cg fm e s none op=some (.bool true,s1):=by rfl):iN T H b (⟨(some t),op,g,none⟩::l) k ⟨e,ds⟩ s Q:=dM h hw ho
theorem P2 {op:eE}{s1:St}(h:iN T H b l k ⟨(t,.bool false)::e,ds⟩ s1 Q)(hw:aJ e g=some true:=by rfl)(ho:cg fm e s none op=some (.bool false,s1):=by rfl):iN T H b (⟨(some t),op,g,none⟩::l) k ⟨e,ds⟩ s Q:=dM h hw ho
theorem ER {op:eE}{al:Option Nat}(h:iN T H b l k ⟨(t,.gW [])::e,ds⟩ s Q)(hw:aJ e g=some false:=by rfl):iN T H b (⟨some t,op,g,al⟩::l) k ⟨e,ds⟩ s Q:=by
 refine uQ (fr1:=⟨(t,.gW [])::e,ds⟩) (s1:=s) ?_ h;unfold oper;simp only [hw];rfl
def _root_.Go.Ab.eE.UX:eE->Bool
 | .bin .. =>true
 | .eq .. =>true
 | _=>false
theorem P5 {op:eE}{c:Bool}{s1:St}(h:iN T H b l k ⟨(t,.bool true)::e,ds⟩ s1 Q)(hk:op.UX=true:=by rfl)(hw:aJ e g=some true:=by rfl)(ho:cg fm e s none op=some (.bool c,s1):=by rfl)(hc:c=true:=by first | assumption | (simp only [bf,bF,gA,eu,bne_iff_ne,bne_eq_false_iff_eq,ne_eq,iU,cT]; done) | (simp only [bf,bF,gA,eu,bne_iff_ne,bne_eq_false_iff_eq,ne_eq]; first | assumption | omega)):
  iN T H b (⟨some t,op,g,none⟩::l) k ⟨e,ds⟩ s Q:=by
 subst hc;exact dM h hw ho
theorem P4 {op:eE}{c:Bool}{s1:St}(h:iN T H b l k ⟨(t,.bool false)::e,ds⟩ s1 Q)(hk:op.UX=true:=by rfl)(hw:aJ e g=some true:=by rfl)(ho:cg fm e s none op=some (.bool c,s1):=by rfl)(hc:c=false:=by first | assumption | (simp only [bf,bF,gA,eu,bne_iff_ne,bne_eq_false_iff_eq,ne_eq,iU,cT]; done) | (simp only [bf,bF,gA,eu,bne_iff_ne,bne_eq_false_iff_eq,ne_eq]; first | assumption | omega)):
  iN T H b (⟨some t,op,g,none⟩::l) k ⟨e,ds⟩ s Q:=by
 subst hc;exact dM h hw ho
theorem EO {f:Nat}{args:List bO}{x:List D}(h:Call T H f x (some t) b l k ⟨e,ds⟩ s Q)(hw:aJ e g=some true:=by rfl)(hx:tF e args=some x:=by rfl):iN T H b (⟨(some t),.call false f args,g,none⟩::l) k ⟨e,ds⟩ s Q:=by
 have h:=h.out;refine⟨?_⟩;obtain⟨d,s1,h1,h2⟩:=h;exact vj h1 (fun C hC=>gG (o:=⟨(some t),.call false f args,g,none⟩) (fr:=⟨e,ds⟩) hw (by simp only [cg,hx]; exact hC)) h2
theorem BB {f:bO}{args:List bO}{x:List D}{gf:Nat}{x1 x2 y:List D}(h:Call T H gf y (some t) b l k ⟨e,ds⟩ s Q)(hw:aJ e g=some true:=by rfl)(hf:f.ev e=some (.fn (.func gf) x1 x2):=by rfl)(hx:tF e args=some x:=by rfl)(hy:x1++x++x2=y:=by rfl):iN T H b (⟨(some t),.oG f args,g,none⟩::l) k ⟨e,ds⟩ s Q:=by
 have h:=h.out;refine⟨?_⟩;subst hy;obtain⟨d,s1,h1,h2⟩:=h;exact vj h1 (fun C hC=>gG (o:=⟨(some t),.oG f args,g,none⟩) (fr:=⟨e,ds⟩) hw (by simp only [cg,hf,hx]; exact hC)) h2
theorem vZ {f:bO}{args:List bO}{x:List D}{o:Nat}(h:Call T H 0 (.lv (.yl o)::x) (some t) b l k ⟨e,ds⟩ s Q)(hw:aJ e g=some true:=by rfl)(hf:f.ev e=some (.yl o):=by rfl)(hx:tF e args=some x:=by rfl):iN T H b (⟨(some t),.oG f args,g,none⟩::l) k ⟨e,ds⟩ s Q:=by
 have h:=h.out;refine⟨?_⟩;obtain⟨d,s1,h1,h2⟩:=h;exact vj h1 (fun C hC=>gG (o:=⟨(some t),.oG f args,g,none⟩) (fr:=⟨e,ds⟩) hw (by simp only [cg,hf,hx]; exact hC)) h2
theorem iY {pC:List (Nat×Nat×Recv)}{x:bO}{args:List bO}{y:List D}{ty f:Nat}{v u:D}{r:Recv}(h:Call T H f (u::y) (some t) b l k ⟨e,ds⟩ s Q)(hw:aJ e g=some true:=by rfl)(hv:x.ev e=some (.eM ty v):=by rfl)(hx:tF e args=some y:=by rfl)(ht:xA pC ty=some (f,r):=by rfl)(hu:qb s v r=some u:=by rfl):
  iN T H b (⟨(some t),.invoke pC x args,g,none⟩::l) k ⟨e,ds⟩ s Q:=by
 have h:=h.out;refine⟨?_⟩;obtain⟨d,s1,h1,h2⟩:=h;exact vj h1 (fun C hC=>gG (o:=⟨(some t),.invoke pC x args,g,none⟩) (fr:=⟨e,ds⟩) hw (by simp only [cg,hv,hx,ht,hu]; exact hC)) h2
theorem IG {sz:Option Nat}{x:bO}{o c ty:Nat}{v d:D}(h:iN T H b l k ⟨(t,d)::e,ds⟩ s Q)(hw:aJ e g=some true:=by rfl)(hx:x.ev e=some (.ptr o c):=by rfl)(hg:s.get o=some (.var ty v):=by exact gI)(hp:part v.flat c sz=some d:=by rfl):iN T H b (⟨(some t),.load sz x,g,none⟩::l) k ⟨e,ds⟩ s Q:=
 dM h hw (by simp only [cg,hx,iJ,hg,hp,pw])
theorem IF {sz:Option Nat}{x:bO}{c:Nat}{z d:D}(h:iN T H b l k ⟨(t,d)::e,ds⟩ s Q)(hw:aJ e g=some true:=by rfl)(hx:x.ev e=some (.jJ z c):=by rfl)(hp:part z.flat c sz=some d:=by rfl):iN T H b (⟨(some t),.load sz x,g,none⟩::l) k ⟨e,ds⟩ s Q:=
 dM h hw (by simp only [cg,hx,iJ,hp,pw])
theorem EU {sz:Nat}{x v:bO}{o c ty:Nat}{d w w1:D}(h:iN T H b l k ⟨e,ds⟩ (s.bn o (.var ty w1)) Q)(hw:aJ e g=some true:=by rfl)(hx:x.ev e=some (.ptr o c):=by rfl)(hv:v.ev e=some d:=by rfl)(hs:s.Ok:=by exact oI)(hg:s.get o=some (.var ty w):=by exact gI)(hz:Nat.beq d.flat.length sz=true:=by rfl)(hp:w.over c d=some w1:=by rfl):iN T H b (⟨none,.store sz x v,g,none⟩::l) k ⟨e,ds⟩ s Q:=
 dM (d:= .gW []) h hw (by simp only [cg,hx,hv,jI,hz,hg,hp,hs.set,nY])
theorem IA {ty:Nat}{x:bO}{d:D}(h:iN T H b l k ⟨(t,.ptr s.n 0)::e,ds⟩ (s.aZ (.var ty d)) Q)(hw:aJ e g=some true:=by rfl)(hx:x.ev e=some d:=by rfl)(hd:(d.st && Nat.blt 0 d.flat.length)=true:=by rfl)(hs:s.Ok:=by exact oI):iN T H b (⟨(some t),.box ty x,g,none⟩::l) k ⟨e,ds⟩ s Q:=dM h hw (by simp only [cg,hx,hd,hs.XJ])
theorem BC {r:Option bO}(h:iN T H b l k ⟨(t,.mp s.n)::e,ds⟩ (s.aZ (.map [] 0)) Q)(hw:aJ e g=some true:=by rfl)(hr:wT e r=some none:=by rfl)(hs:s.Ok:=by exact oI):iN T H b (⟨(some t),.zr r,g,none⟩::l) k ⟨e,ds⟩ s Q:=dM h hw (by simp only [cg,hr,hs.XJ])
theorem zE {sz ty len:Nat}{z:D}{parts:List (Nat×bO)}{ps:List (Nat×D)}{es:List D}(h:iN T H b l k ⟨(t,.sl s.n 0 len len)::e,ds⟩ (s.aZ (.arr sz ty es 0)) Q)(hw:aJ e g=some true:=by rfl)(hp:jk e parts=some ps:=by rfl)(hz:eC sz [z]=true:=by rfl)(hf:sX sz (List.replicate len z) ps=some es:=by rfl)(hs:s.Ok:=by exact oI):iN T H b (⟨(some t),.tw sz ty z len parts,g,none⟩::l) k ⟨e,ds⟩ s Q:=dM h hw (by simp only [cg,hp,hz,hf,hs.XJ])
theorem w9 {sz bytes ty:Nat}{z dl dc:D}{ln cp:bO}{l1 c1:Nat}(hl:idx dl=some l1)(hc:idx dc=some c1)(h1:l1<=c1)(h2:c1 * bytes<=140737488355328)(h3:c1<=aM)(h:iN T H b l k ⟨(t,.sl s.n 0 l1 l1)::e,ds⟩ (s.aZ (.arr sz ty (List.replicate l1 z) 0)) Q)(hw:aJ e g=some true:=by rfl)(hx:ln.ev e=some dl:=by rfl)(hy:cp.ev e=some dc:=by rfl)(hz:eC sz [z]=true:=by rfl)(hs:s.Ok:=by exact oI):iN T H b (⟨(some t),.nN sz bytes ty z ln cp,g,none⟩::l) k ⟨e,ds⟩ s Q:=by
 have e1:Nat.ble l1 c1=true:=ax h1;have e2:Nat.ble (c1 * bytes) 140737488355328=true:=ax h2;have e3:Nat.ble c1 aM=true:=ax h3;exact dM h hw (by simp only [cg,hx,hy,hl,hc,e1,e2,e3,hz,dS,hs.XJ])
theorem EP {x:bO}{d:D}(h:iN T H b l k ⟨(t,.lv d)::e,ds⟩ s Q)(hw:aJ e g=some true:=by rfl)(hx:x.ev e=some d:=by rfl)(hn:(e.vn t && d.st)=true:=by rfl):iN T H b (⟨some t,.mZ x,g,none⟩::l) k ⟨e,ds⟩ s Q:=by
 refine uQ (fr1:=⟨(t,.lv d)::e,ds⟩) (s1:=s) ?_ h;unfold oper;simp only [hw,hx,hn]
theorem dO {a sz c:Nat}{x v:bO}{d w w1:D}(h:iN T H b l k ⟨(a,.lv w1)::e,ds⟩ s Q)(hw:aJ e g=some true:=by rfl)(hx:x.A9 e=some (.iE a c):=by rfl)(hv:v.ev e=some d:=by rfl)(ha:e.get a=some (.lv w):=by rfl)(hz:Nat.beq d.flat.length sz=true:=by rfl)(hp:w.over c d=some w1:=by rfl):
  iN T H b (⟨none,.iX a sz x v,g,none⟩::l) k ⟨e,ds⟩ s Q:=by
 refine uQ (fr1:=⟨(a,.lv w1)::e,ds⟩) (s1:=s) ?_ h;unfold oper;simp only [hw,hx,hv,aA,ha,hz,hp,iq]
theorem IC {sz:Nat}{x i:bO}{n:D}{j:Nat}{nl:Bool}{es:List D}{z:D}(h:iN T H b l k ⟨(t,.jJ z 0)::e,ds⟩ s Q)(hw:aJ e g=some true:=by rfl)(hx:x.ev e=some (.vs nl sz es):=by rfl)(hi:i.ev e=some n:=by rfl)(hj:idx n=some j:=by first | exact ll | rfl | exact iT (by omega))(he:es[j]? =some z:=by first | assumption | rfl):iN T H b (⟨some t,.oP sz x i,g,none⟩::l) k ⟨e,ds⟩ s Q:=
 dM h hw (by simp only [cg,hx,hi,hj,mY,aA,he,pw])
theorem IB {sz:Nat}{x i:bO}{n:D}{j o off len cp ty st:Nat}{es:List D}(h:iN T H b l k ⟨(t,.jN o (off+j) 0 (off+cp))::e,ds⟩ s Q)(hw:aJ e g=some true:=by rfl)(hx:x.ev e=some (.sl o off len cp):=by rfl)(hi:i.ev e=some n:=by rfl)(hg:s.get o=some (.arr sz ty es st):=by exact gI)(hj:idx n=some j:=by first | exact ll | rfl | exact iT (by omega))(hl:j < len:=by exact sI)(h1:off+len<=es.length:=by exact sI)(h2:st<=off+cp:=by exact sI):iN T H b (⟨some t,.oP sz x i,g,none⟩::l) k ⟨e,ds⟩ s Q:=by
 have e1:Nat.blt j len=true:=ax (pc hl);have e2:Nat.ble (off+len) es.length=true:=ax h1;have e3:Nat.ble st (off+cp)=true:=ax h2;exact dM h hw (by simp only [cg,hx,hi,hj,mY,hg,aA,e1,e2,e3,pw])
theorem IE {sz:Option Nat}{x:bO}{o i c en z ty st:Nat}{es:List D}{v d:D}(h:iN T H b l k ⟨(t,d)::e,ds⟩ s Q)(hw:aJ e g=some true:=by rfl)(hx:x.ev e=some (.jN o i c en):=by rfl)(hg:s.get o=some (.arr z ty es st):=by exact gI)(hi:es[i]? =some v:=by first | assumption | rfl)(cG:st<=en:=by exact sI)(hp:part v.flat c sz=some d:=by rfl):iN T H b (⟨some t,.load sz x,g,none⟩::l) k ⟨e,ds⟩ s Q:=by
 have e1:Nat.ble st en=true:=ax cG;exact dM h hw (by simp only [cg,hx,iJ,hg,e1,hi,hp,pw])
theorem ES {sz:Nat}{x v:bO}{o i c en z ty st:Nat}{es:List D}{d w w1:D}(h:iN T H b l k ⟨e,ds⟩ (s.bn o (.arr z ty (es.set i w1) es.length)) Q)(hw:aJ e g=some true:=by rfl)(hx:x.ev e=some (.jN o i c en):=by rfl)(hv:v.ev e=some d:=by rfl)(hs:s.Ok:=by exact oI)(hg:s.get o=some (.arr z ty es st):=by exact gI)(hi:es[i]? =some w:=by first | assumption | rfl)(he:en=es.length:=by exact sI)(hz:Nat.beq d.flat.length sz=true:=by rfl)(hp:w.over c d=some w1:=by rfl):iN T H b (⟨none,.store sz x v,g,none⟩::l) k ⟨e,ds⟩ s Q:=by
 subst he;exact dM (d:= .gW []) h hw (by simp only [cg,hx,hv,jI,hz,hg,aA,hi,hp,hs.set,nY])
theorem Iz {sz bytes ty:Nat}{x y:bO}{o off len cp st:Nat}{nl:Bool}{es m:List D}(h:iN T H b l k ⟨(t,.sl o off (len+m.length) (len+m.length))::e,ds⟩ (s.bn o (.arr sz ty (es++m) st)) Q)(hw:aJ e g=some true:=by rfl)(hx:x.ev e=some (.sl o off len cp):=by rfl)(hy:y.ev e=some (.vs nl sz m):=by rfl)(hs:s.Ok:=by exact oI)(hg:s.get o=some (.arr sz ty es st):=by exact gI)(hb:Nat.ble bytes 4096=true:=by rfl)(ha:eC sz m=true:=by rfl)(hn:m≠ []:=by simp)(he:off+len=es.length:=by exact sI)(cG:st<=es.length:=by exact sI)(hm:len+m.length<=aM:=by exact sI):iN T H b (⟨some t,.append sz bytes ty x y,g,none⟩::l) k ⟨e,ds⟩ s Q:=by
 refine dM h hw ?_;simp only [cg,hx,hy,items,aA,eG,hb,ha,si hs hg he cG hm hn]
theorem Iy {sz bytes ty z:Nat}{x y:bO}{nl:Bool}{es m:List D}(h:iN T H b l k ⟨(t,.sl s.n 0 m.length m.length)::e,ds⟩ (s.aZ (.arr sz ty m 0)) Q)(hw:aJ e g=some true:=by rfl)(hx:x.ev e=some (.vs true z es):=by rfl)(hy:y.ev e=some (.vs nl sz m):=by rfl)(hs:s.Ok:=by exact oI)(hb:Nat.ble bytes 4096=true:=by rfl)(ha:eC sz m=true:=by rfl)(hn:m≠ []:=by simp)(hm:m.length<=aM:=by exact sI):iN T H b (⟨some t,.append sz bytes ty x y,g,none⟩::l) k ⟨e,ds⟩ s Q:=by
 refine dM h hw ?_;simp only [cg,hx,hy,items,aA,eG,hb,ha,append_nil hs hm hn]
theorem IL {sz:Nat}{z d:D}{x:bO}(h:iN T H b l k ⟨(t,.vs false sz [d])::e,ds⟩ s Q)(hw:aJ e g=some true:=by rfl)(hx:x.ev e=some d:=by rfl)(hz:eC sz [z]=true:=by rfl)(h1:Nat.beq d.flat.length sz=true:=by rfl)(h2:d.st=true:=by rfl):iN T H b (⟨some t,.pP sz z 1 [(0,x)],g,none⟩::l) k ⟨e,ds⟩ s Q:=
 dM h hw (by simp only [cg,jk,hx,hz,sX,h1,h2,List.replicate,aT,b9,Nat.blt,Nat.ble,jD])
theorem Uc {j:Nat}(h:j+1 < 9223372036854775808):IntKind.wrap .i64 ((j:Int)+1)=((j+1:Nat):Int):=by
 simp only [IntKind.wrap,IntKind.signed,IntKind.bits,fO,bf,ge_iff_le];rw [show ((2:Int) ^ (64 - 1))=9223372036854775808 from rfl,show ((2:Int) ^ 64)=18446744073709551616 from rfl];split <;> omega
theorem ID {x:bO}{j:Nat}(h:iN T H b l k ⟨(t,.int .i64 ((j+1:Nat):Int))::e,ds⟩ s Q)(hw:aJ e g=some true:=by rfl)(hx:x.ev e=some (.int .i64 (Nat.cast j)):=by rfl)(hj:j+1 < 9223372036854775808:=by omega):iN T H b (⟨some t,.bin .add x (.c (.int .i64 1)),g,none⟩::l) k ⟨e,ds⟩ s Q:=by
 have hy:(bO.c (.int .i64 1)).ev e=some (.int .i64 1):=rfl;have hb:Me .add (.int .i64 (j:Int)) (.int .i64 1)=some (.int .i64 ((j+1:Nat):Int)):=by
  show some (D.int .i64 (IntKind.wrap .i64 ((j:Int)+1)))=_;rw [Uc hj]
 exact dM h hw (by simp only [cg,hx,hy,hb,pw])
theorem IK {sz ty:Nat}{x:bO}{lo hi:Option bO} {a b' :Option D}{lo' hi' o off len cp st:Nat}{es:List D}(h:iN T H b l k ⟨(t,.sl o (off+lo') (hi' - lo') (cp - lo'))::e,ds⟩ s Q)(hw:aJ e g=some true:=by rfl)(hx:x.ev e=some (.sl o off len cp):=by rfl)(ha:wT e lo=some a:=by rfl) (iS :wT e hi=some b' :=by rfl)(Q4:mN 0 a=some lo' :=by first | rfl | exact ll | exact iT (by omega))(kv:(match b' with | none=>some len | some d=>idx d)=some hi' :=by first | rfl | exact ll | exact iT (by omega))(hg:s.get o=some (.arr sz ty es st):=by exact gI)(h1:off+len<=es.length:=by exact sI)(h2:st<=off+cp:=by exact sI)(h3:lo' <=hi' :=by exact sI)(h4:hi' <=cp:=by exact sI):iN T H b (⟨some t,.KT sz x lo hi none,g,none⟩::l) k ⟨e,ds⟩ s Q:=by
 have e1:Nat.ble (off+len) es.length=true:=ax h1;have e2:Nat.ble st (off+cp)=true:=ax h2;have e3:Nat.ble lo' hi' =true:=ax h3;have e4:Nat.ble hi' cp=true:=ax h4;have e5:wT e none=some none:=rfl;have e6:mN 0 none=some 0:=rfl;refine dM h hw ?_;cases b' with
 | none=>
  simp only [aa]at kv; subst kv;simp only [cg,hx,ha,iS,e5,Q4,e6,items,hg,e1,e2,aA,eG,gD,yr,Option.getD,e3,e4,pw]
 | some d=>
  simp only at kv;have jb:mN 0 (some d)=some hi' :=kv;simp only [cg,hx,ha,iS,e5,Q4,e6,jb,items,hg,e1,e2,aA,eG,gD,yr,Option.getD,e3,e4,pw]
theorem IH {et:ET}{z kd v:D}{ok:Bool}{m ky:bO}{o c i:Nat}{es:List (Nat×D×D)}(h:iN T H b l k ⟨(t,EC ok v true)::e,ds⟩ s Q)(hw:aJ e g=some true:=by rfl)(hm:m.ev e=some (.mp o):=by rfl)(hky:ky.ev e=some kd:=by rfl)(kM:oT et kd=true:=by rfl)(hg:s.get o=some (.map es c):=by exact gI)(hf:findKey et kd es 0=some (some (i,v)):=by rfl):iN T H b (⟨some t,.lookup et z ok m ky,g,none⟩::l) k ⟨e,ds⟩ s Q:=
 dM h hw (by simp only [cg,hm,hky,kM,hg,hf])
end
end Go.Ab.Sm
