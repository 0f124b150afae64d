/- Part. -/
import Derived.Test.YtmcdajnpdekocaaGreatDoorG25
set_option linter.unusedSectionVars false
set_option linter.unusedSimpArgs false
set_option linter.unusedVariables false
namespace Go.Ab.Sm
theorem nI {p:Prop}(h:p:=by repeat (first | assumption | refine St.gsN ?_ (by first | assumption | (apply Ne.symm; assumption) | omega | (simp only [St.nP0,St.nS0,St.n_up]; omega)) | refine St.gpN ?_ (by first | assumption | (apply Ne.symm; assumption) | omega | (simp only [St.nP0,St.nS0,St.n_up]; omega)) | refine St.get_up ?_ | exact St.Ok.fresh (by assumption) _ (by first | assumption | omega | (simp only [St.nP0,St.nS0,St.n_up]; omega)))):p:=h
theorem gI {p:Prop}(h:p:=by repeat (first | assumption | exact St.gsE | exact St.gpE | refine St.gsN ?_ (by first | assumption | (apply Ne.symm; assumption) | omega | (simp only [St.nP0,St.nS0,St.n_up]; omega)) | refine St.gpN ?_ (by first | assumption | (apply Ne.symm; assumption) | omega | (simp only [St.nP0,St.nS0,St.n_up]; omega)) | refine St.get_up ?_)):p:=h
theorem cI {p:Prop}(h:p:=by first | (with_reducible exact chk_nil) | (simp (disch:=first | assumption | omega | (apply Ne.symm; assumption)) only [ckA,zDb,fpOf,wtD,fpRd,fpWr,fpRg,fpRd.objs,Opd.ev,Env.get,Nat.beq,disj,memN,Go.Ab.T.beq_f,List.nil_append,List.cons_append,List.append_nil,List.getElem?_cons_succ,List.getElem?_cons_zero,Bool.and_true,Bool.true_and,Bool.and_self]; done) | rfl):p:=h
theorem fI {p:Prop}(h:p:=by first | (dsimp only [fpOf,wtD,fpRd,fpWr,fpRg,fpRd.objs,Opd.ev,Env.get,Nat.beq,Option.getD]; done) | (dsimp only [fpOf,wtD,fpRd,fpWr,fpRg,fpRd.objs,Opd.ev,Env.get,Nat.beq,Option.getD]; rfl) | rfl):p:=h
theorem oI {p:Prop}(h:p:=by repeat (first | assumption | refine St.Ok.push0 ?_ _ | refine St.Ok.set0 ?_ _ (by first | assumption | omega | (simp only [St.nP0,St.nS0,St.n_up]; omega)) | refine St.Ok.up ?_ _)):p:=h
theorem sI {p:Prop}(h:p:=by first | assumption | omega | (simp only [mxE,List.length_append,List.length_cons,List.length_nil,List.length_replicate,List.length_set,List.length_map]; omega)):p:=h
theorem bI {p:Prop}(h:p:=by repeat (first | assumption | exact Beh.refl (by assumption) | refine Beh.set ?_ _ (by first | assumption | omega | (simp only [St.nP0,St.nS0,St.n_up]; omega)) (fun hbeh=>by first | (exfalso; omega) | (exfalso; simp only [St.nP0,St.nS0,St.n_up]at hbeh; omega) | (simp; done)) | refine Beh.push ?_ _ | refine Beh.up ?_ _)):p:=h
open Go Go.Ab
variable {T:Nat→Option AFn}{H:zAa}
abbrev QP:=Ex→Fr→St→Prop
inductive Kont where
 | seq (b:AC)
 | block (id:Nat)
 | loop (I:Nat→Env→St→Prop) (keep:List Nat) (m:Nat)
 | again (keep:List Nat) (a:AC)
 | call (rs:List ARes) (dst:Option Nat) (b:Nat) (l:List zPk) (fr:Fr)
def Post (T:Nat→Option AFn)(H:zAa)(Q:QP):List Kont→Ex→Fr→St→Prop
 | [],e,fr,s=>Q e fr s
 | .seq b::k,.normal,fr,s=>Wp T H b fr s (Post T H Q k)
 | .seq _::k,.exit i,fr,s=>Post T H Q k (.exit i) fr s
 | .seq _::k,.ret,fr,s=>Post T H Q k .ret fr s
 | .block id::k,.exit i,fr,s=>if i=id then Post T H Q k .normal fr s else Post T H Q k (.exit i) fr s
 | .block _::k,.normal,fr,s=>Post T H Q k .normal fr s
 | .block _::k,.ret,fr,s=>Post T H Q k .ret fr s
 | .loop I keep m::_,.normal,fr,s=>∃m',m' < m∧fr.defers=[]∧I m' (fr.env.keep keep) s
 | .loop _ _ _::k,.exit i,fr,s=>Post T H Q k (.exit i) fr s
 | .loop _ _ _::k,.ret,fr,s=>Post T H Q k .ret fr s
 | .again keep a::k,.normal,fr,s=>Wp T H (.loop keep a) fr s (Post T H Q k)
 | .again _ _::k,.exit i,fr,s=>Post T H Q k (.exit i) fr s
 | .again _ _::k,.ret,fr,s=>Post T H Q k .ret fr s
 | .call rs dst b l fr0::k,e,fr,s=>(∀i,e≠ .exit i)∧marks fr.defers=true∧∃r,resD fr.env s rs=some r∧WpO T H b l ⟨putD fr0.env dst (single r),fr0.defers⟩ s (Post T H Q k .normal)
structure Run (T:Nat→Option AFn)(H:zAa)(a:AC)(k:List Kont)(fr:Fr)(s:St)(Q:QP):Prop where
 out:Wp T H a fr s (Post T H Q k)
structure Ops (T:Nat→Option AFn)(H:zAa)(b:Nat)(l:List zPk)(k:List Kont)(fr:Fr)(s:St)(Q:QP):Prop where
 out:WpO T H b l fr s (Post T H Q k .normal)
structure Ret (T:Nat→Option AFn)(H:zAa)(e:Ex)(k:List Kont)(fr:Fr)(s:St)(Q:QP):Prop where
 out:Post T H Q k e fr s
def EvP (T:Nat→Option AFn)(H:zAa)(f:Nat)(x:List D)(s:St)(R:D→St→Prop):Prop:=∃d s1,Ev T H f x s (d,s1)∧R d s1
structure Call (T:Nat→Option AFn)(H:zAa)(f:Nat)(x:List D)(dst:Option Nat)(b:Nat)(l:List zPk)(k:List Kont)(fr:Fr)(s:St)(Q:QP):Prop where
 out:EvP T H f x s fun d s1=>WpO T H b l ⟨putD fr.env dst d,fr.defers⟩ s1 (Post T H Q k .normal)
variable {b:Nat}{k:List Kont}{fr:Fr}{s:St}{Q:QP}{l:List zPk}
theorem zVe (h:Ret T H .normal k fr s Q):Run T H .skip k fr s Q:=by
 have h:=h.out
 exact⟨wp_skip h⟩
theorem yAb (h:Ret T H .ret k fr s Q):Run T H .ret k fr s Q:=by
 have h:=h.out
 exact⟨wp_ret h⟩
theorem zVf {i:Nat}(h:Ret T H (.exit i) k fr s Q):Run T H (.exit i) k fr s Q:=by
 have h:=h.out
 exact⟨wp_exit h⟩
theorem yAc (h:Ops T H 0 l k fr s Q):Run T H (.reg l) k fr s Q:=by
 have h:=h.out
 exact⟨wp_reg h⟩
theorem zJl {a c:AC}(h:Run T H a (.seq c::k) fr s Q):Run T H (.seq a c) k fr s Q:=by
 have h:=h.out
 exact⟨wp_seq (Wp.mono h fun e f1 s1 h1=>by cases e <;> exact h1)⟩
theorem zOz {id:Nat}{a:AC}(h:Run T H a (.block id::k) fr s Q):Run T H (.block id a) k fr s Q:=by
 have h:=h.out
 exact⟨wp_block (Wp.mono h fun e f1 s1 h1=>by cases e <;> exact h1)⟩
theorem zJx {c:Opd}{x y:AC}(h:Run T H x k fr s Q)(hc:c.ev fr.env=some (.bool true):=by rfl):Run T H (.cond c x y) k fr s Q:=by
 have h:=h.out
 exact⟨wp_cond hc h⟩
theorem zJy {c:Opd}{x y:AC}(h:Run T H y k fr s Q)(hc:c.ev fr.env=some (.bool false):=by rfl):Run T H (.cond c x y) k fr s Q:=by
 have h:=h.out
 exact⟨wp_cond hc h⟩
theorem zAg {c:Opd}{x y:AC}{v:Bool}(h1:v=true→Run T H x k fr s Q)(h2:v=false→Run T H y k fr s Q)(hc:c.ev fr.env=some (.bool v):=by rfl):Run T H (.cond c x y) k fr s Q:=by
 have h1:=fun hh=>(h1 hh).out
 have h2:=fun hh=>(h2 hh).out
 refine⟨?_⟩
 cases v with
 | true=>exact (zJx ⟨h1 rfl⟩ hc).out
 | false=>exact (zJy ⟨h2 rfl⟩ hc).out
theorem zAm {keep:List Nat}{a:AC}(I:Nat→Env→St→Prop)(m:Nat)(hd:fr.defers=[])(h0:I m (fr.env.keep keep) s)
  (h:∀m env s,I m env s→Run T H a (.loop I keep m::k) ⟨env,[]⟩ s Q)(hb:a.isRangef=false:=by rfl):Run T H (.loop keep a) k fr s Q:=by
 refine⟨?_⟩
 refine wp_loop (I:=fun m fr s=>fr.defers=[]∧I m (fr.env.keep keep) s) (fun n fr s hI=> ?_) hb m fr s ⟨hd,h0⟩
 obtain⟨env,ds⟩:=fr
 obtain⟨hds,hI⟩:=hI
 simp only at hds; subst hds
 exact Wp.mono (h n _ s hI).out fun e f1 s1 h1=>by cases e <;> exact h1
theorem zCr {keep:List Nat}{a:AC}{env:Env}(h:Run T H a (.again keep a::k) ⟨env,fr.defers⟩ s Q)(hk:fr.env.keep keep=env:=by rfl)(hb:a.isRangef=false:=by rfl):Run T H (.loop keep a) k fr s Q:=by
 have h:=h.out
 refine⟨?_⟩
 subst hk
 obtain⟨e,f1,s1,h1,h2⟩:=h
 cases e with
 | normal=>
  obtain⟨e2,f2,s2,h3,h4⟩:=h2
  exact⟨e2,f2,s2,.again h1 h3 hb,h4⟩
 | exit i=>exact ⟨_,f1,s1,.stop h1 (by simp) hb,h2⟩
 | ret=>exact ⟨_,f1,s1,.stop h1 (by simp) hb,h2⟩
theorem zMe {keep:List Nat}{a:AC}{i:Nat}(h:Ret T H (.exit i) k fr s Q):Ret T H (.exit i) (.again keep a::k) fr s Q:=by
 have h:=h.out
 refine⟨?_⟩
 exact h
theorem zMf {keep:List Nat}{a:AC}(h:Ret T H .ret k fr s Q):Ret T H .ret (.again keep a::k) fr s Q:=by
 have h:=h.out
 refine⟨?_⟩
 exact h
theorem zGg {e:Ex}(h:Q e fr s):Ret T H e [] fr s Q:=by
 exact⟨h⟩
theorem zNl {c:AC}(h:Run T H c k fr s Q):Ret T H .normal (.seq c::k) fr s Q:=by
 have h:=h.out
 refine⟨?_⟩
 exact h
theorem zVh {c:AC}{i:Nat}(h:Ret T H (.exit i) k fr s Q):Ret T H (.exit i) (.seq c::k) fr s Q:=by
 have h:=h.out
 refine⟨?_⟩
 exact h
theorem zVi {c:AC}(h:Ret T H .ret k fr s Q):Ret T H .ret (.seq c::k) fr s Q:=by
 have h:=h.out
 refine⟨?_⟩
 exact h
theorem zMd {id:Nat}(h:Ret T H .normal k fr s Q):Ret T H .normal (.block id::k) fr s Q:=by
 have h:=h.out
 refine⟨?_⟩
 exact h
theorem zMc {id:Nat}(h:Ret T H .ret k fr s Q):Ret T H .ret (.block id::k) fr s Q:=by
 have h:=h.out
 refine⟨?_⟩
 exact h
theorem zMb {i:Nat}(h:Ret T H .normal k fr s Q):Ret T H (.exit i) (.block i::k) fr s Q:=by
 have h:=h.out
 refine⟨?_⟩
 show (if i=i then _ else _); rw [if_pos rfl]; exact h
theorem zMa {i id:Nat}(h:Ret T H (.exit i) k fr s Q)(hn:Nat.beq i id=false:=by rfl):Ret T H (.exit i) (.block id::k) fr s Q:=by
 have h:=h.out
 refine⟨?_⟩
 show (if i=id then _ else _)
 rw [if_neg (fun e=>by subst e; rw [Nat.beq_refl]at hn; cases hn)]; exact h
theorem zPb {I:Nat→Env→St→Prop}{keep:List Nat}{m i:Nat}(h:Ret T H (.exit i) k fr s Q):Ret T H (.exit i) (.loop I keep m::k) fr s Q:=by
 have h:=h.out
 refine⟨?_⟩
 exact h
theorem zPc {I:Nat→Env→St→Prop}{keep:List Nat}{m:Nat}(h:Ret T H .ret k fr s Q):Ret T H .ret (.loop I keep m::k) fr s Q:=by
 have h:=h.out
 refine⟨?_⟩
 exact h
theorem rtN {I:Nat→Env→St→Prop}{keep:List Nat}{m:Nat} (m' :Nat)(hm:m' < m)(hd:fr.defers=[])(h:I m' (fr.env.keep keep) s):Ret T H .normal (.loop I keep m::k) fr s Q:=by
 exact⟨m',hm,hd,h⟩
theorem zPd {rs:List ARes}{t:Nat}{e0:Env}{ds:List (D×List D)}{r:List D}{d:D}(h:Ops T H b l k ⟨(t,d)::e0,ds⟩ s Q)(hd:marks fr.defers=true:=by rfl)(hr:resD fr.env s rs=some r:=by rfl)(he:single r=d:=by rfl):Ret T H .ret (.call rs (some t) b l ⟨e0,ds⟩::k) fr s Q:=by
 have h:=h.out
 refine⟨?_⟩
 subst he
 exact⟨fun i=>by simp,hd,r,hr,h⟩
theorem zPe {rs:List ARes}{t:Nat}{e0:Env}{ds:List (D×List D)}{r:List D}{d:D}(h:Ops T H b l k ⟨(t,d)::e0,ds⟩ s Q)(hd:marks fr.defers=true:=by rfl)(hr:resD fr.env s rs=some r:=by rfl)(he:single r=d:=by rfl):Ret T H .normal (.call rs (some t) b l ⟨e0,ds⟩::k) fr s Q:=by
 have h:=h.out
 refine⟨?_⟩
 subst he
 exact⟨fun i=>by simp,hd,r,hr,h⟩
def cntI (N:Nat)(F:Nat→Env)(I:Nat→St→Prop):Nat→Env→St→Prop:=fun m env s=>∃j,j≤N∧m=N - j∧env=F j∧I j s
theorem zAh {keep:List Nat}{a:AC}(N:Nat)(F:Nat→Env)(I:Nat→St→Prop)(hI:I 0 s)(h:∀j s,j≤N→I j s→Run T H a (.loop (cntI N F I) keep (N - j)::k) ⟨F j,[]⟩ s Q)(hd:fr.defers=[]:=by rfl)(hF:fr.env.keep keep=F 0:=by rfl)(hb:a.isRangef=false:=by rfl):Run T H (.loop keep a) k fr s Q:=by
 refine zAm (cntI N F I) N hd ⟨0,Nat.zero_le _,rfl,hF,hI⟩ ?_ hb
 rintro m env s ⟨j,hj,rfl,rfl,hI⟩
 exact h j s hj hI
theorem rtC {N:Nat}{F:Nat→Env}{I:Nat→St→Prop}{keep:List Nat}{j:Nat}(hj:j < N)(hI:I (j+1) s)(hd:fr.defers=[]:=by rfl)(hF:fr.env.keep keep=F (j+1):=by rfl):Ret T H .normal (.loop (cntI N F I) keep (N - j)::k) fr s Q:=
 rtN (N - (j+1)) (by omega) hd ⟨j+1,by omega,rfl,hF,hI⟩
theorem zBa {C:zAa}{o:zPk}{d:D}{s1:St}(hw:wtD fr.env o.guard=some true)(ho:opF C fr.env s (match o.al with | some r=>some (b+r) | none=>none) o.op=some (d,s1)):
  oper C b o fr s=some ({ fr with env:=putD fr.env o.dst d},s1):=by
 obtain⟨dst,op,g,al⟩:=o
 unfold oper
 rw [hw]
 cases op
 case defer=>simp [opF]at ho
 case lbox=>simp [opF]at ho
 case lstore=>simp [opF]at ho
 all_goals
  cases al <;>
  ·simp only at ho ⊢
   rw [ho]
theorem zTe (h:Ret T H .normal k fr s Q):Ops T H b [] k fr s Q:=by
 have h:=h.out
 refine⟨?_⟩
 exact⟨fr,s,.nil,h⟩
theorem zIz {o:zPk}{fr1:Fr}{s1:St}(h1:oper zAq b o fr s=some (fr1,s1))(h:Ops T H b l k fr1 s1 Q):Ops T H b (o::l) k fr s Q:=by
 have h:=h.out
 refine⟨?_⟩
 exact yIc h1 h
theorem opA {dst:Option Nat}{op:AOp}{g:Option (Nat×Bool)}{e:Env}{ds:List (D×List D)}{d:D}{s1:St}(h:Ops T H b l k ⟨putD e dst d,ds⟩ s1 Q)(hw:wtD e g=some true)(ho:opF zAq e s none op=some (d,s1)):
  Ops T H b (⟨dst,op,g,none⟩::l) k ⟨e,ds⟩ s Q:=zIz (zBa (o:=⟨dst,op,g,none⟩) (fr:=⟨e,ds⟩) hw ho) h
theorem clE {f:Nat}{x:List D}{t:Nat}{e:Env}{ds:List (D×List D)}{R:D→St→Prop}(h:EvP T H f x s R)(h2:∀d s1,R d s1→Ops T H b l k ⟨(t,d)::e,ds⟩ s1 Q):Call T H f x (some t) b l k ⟨e,ds⟩ s Q:=by
 have h2:=fun d s1 hh=>(h2 d s1 hh).out
 refine⟨?_⟩
 obtain⟨d,s1,h1,h3⟩:=h
 exact⟨d,s1,h1,h2 d s1 h3⟩
theorem zAi {f:Nat}{fn:AFn}{x:List D}{dst:Option Nat}(hT:T f=some fn)(h:Run T H fn.body (.call fn.results dst b l fr::k) ⟨env0 0 x,[]⟩ s Q)(hy:yS x=false:=by rfl):Call T H f x dst b l k fr s Q:=by
 have h:=h.out
 refine⟨?_⟩
 refine zWg hT (Wp.mono h ?_) hy
 rintro e f1 s1 ⟨h1,h2,r,h3,h4⟩
 exact⟨h1,h2,r,h3,h4⟩
def QF (rs:List ARes)(R:D→St→Prop):QP:=fun e f1 s1=>(∀i,e≠ .exit i)∧marks f1.defers=true∧∃r,resD f1.env s1 rs=some r∧R (single r) s1
theorem evI {f:Nat}{fn:AFn}{x:List D}{R:D→St→Prop}(hT:T f=some fn)(h:Run T H fn.body [] ⟨env0 0 x,[]⟩ s (QF fn.results R))(hy:yS x=false:=by rfl):EvP T H f x s R:=by
 have h:=h.out
 exact zWg hT h hy
theorem rtF {rs:List ARes}{R:D→St→Prop}{r:List D}{d:D}(h:R d s)(hd:marks fr.defers=true:=by rfl)(hr:resD fr.env s rs=some r:=by rfl)(he:single r=d:=by rfl):Ret T H .ret [] fr s (QF rs R):=by
 refine⟨?_⟩
 subst he
 exact⟨fun i=>by simp,hd,r,hr,h⟩
theorem zBx {rs:List ARes}{R:D→St→Prop}{r:List D}{d:D}(h:R d s)(hd:marks fr.defers=true:=by rfl)(hr:resD fr.env s rs=some r:=by rfl)(he:single r=d:=by rfl):Ret T H .normal [] fr s (QF rs R):=by
 refine⟨?_⟩
 subst he
 exact⟨fun i=>by simp,hd,r,hr,h⟩
theorem EvP.mono {f:Nat}{x:List D} {R R' :D→St→Prop}(h:EvP T H f x s R)(hR:∀d s1,R d s1→R' d s1):EvP T H f x s R' :=by
 obtain⟨d,s1,h1,h2⟩:=h
 exact⟨d,s1,h1,hR _ _ h2⟩
theorem _root_.Go.Ab.St.gsE {s:St}{o:Nat}{x:Obj}:(s.set0 o x).get o=some x:=by rw [St.getS,if_pos rfl]
theorem _root_.Go.Ab.St.gpE {s:St}{x:Obj}:(s.push0 x).get s.n=some x:=by rw [St.getP,if_pos rfl]
theorem _root_.Go.Ab.St.gsN {s:St}{o j:Nat}{x:Obj}{y:Option Obj}(h:s.get j=y)(hn:j≠o):(s.set0 o x).get j=y:=by rw [St.getS,if_neg hn]; exact h
theorem _root_.Go.Ab.St.gpN {s:St}{j:Nat}{x:Obj}{y:Option Obj}(h:s.get j=y)(hn:j≠s.n):(s.push0 x).get j=y:=by rw [St.getP,if_neg hn]; exact h
theorem zPz {kd:IntKind}{i:Nat}:idx (.int kd (i:Int))=some i:=by simp [idx]
theorem zBo {kd:IntKind}{n:Int}(h:0≤n):idx (.int kd n)=some n.toNat:=by simp [idx,h]
theorem zHl {al:Option Nat}{sz ty o off len cp st:Nat}{es m:List D}(hs:s.Ok)(hg:s.get o=some (.arr sz ty es st))(he:off+len=es.length)(hst:st≤es.length)(hm:len+m.length≤mxE)(hn:m≠ []):
  zAn s al sz ty (.sl o off len cp) m=some (.sl o off (len+m.length) (len+m.length),s.set0 o (.arr sz ty (es++m) st)):=by
 cases m with
 | nil=>exact absurd rfl hn
 | cons x m=>
  have e1:Nat.ble (off+len) es.length=true:=Nat.ble_eq_true_of_le (Nat.le_of_eq he)
  have e2:Nat.ble st (off+len)=true:=Nat.ble_eq_true_of_le (by omega)
  have e3:Nat.ble (len+(x::m).length) mxE=true:=Nat.ble_eq_true_of_le hm
  have e4:Nat.beq (off+len) es.length=true:=by rw [he]; exact Nat.beq_refl _
  simp only [zAn,hg,Nat.beq_refl,Bool.and_self,e1,e2,e3,e4,hs.set]
theorem append_nil {sz ty z:Nat}{es m:List D}(hs:s.Ok)(hm:m.length≤mxE)(hn:m≠ []):
  zAn s none sz ty (.vs true z es) m=some (.sl s.n 0 m.length m.length,s.push0 (.arr sz ty m 0)):=by
 cases m with
 | nil=>exact absurd rfl hn
 | cons x m=>
  have e3:Nat.ble (x::m).length mxE=true:=Nat.ble_eq_true_of_le hm
  simp only [zAn,e3,hs.mkN]
section
variable {t:Nat}{e:Env}{ds:List (D×List D)}{g:Option (Nat×Bool)}
theorem zDp {op:AOp}{d:D}{s1:St}(h:Ops T H b l k ⟨(t,d)::e,ds⟩ s1 Q)(hw:wtD e g=some true:=by rfl)(ho:opF zAq e s none op=some (d,s1):=by rfl):Ops T H b (⟨(some t),op,g,none⟩::l) k ⟨e,ds⟩ s Q:=opA h hw ho
theorem zGh {op:AOp}{d:D}{s1:St}(h:Ops T H b l k ⟨e,ds⟩ s1 Q)(hw:wtD e g=some true:=by rfl)(ho:opF zAq e s none op=some (d,s1):=by rfl):Ops T H b (⟨none,op,g,none⟩::l) k ⟨e,ds⟩ s Q:=opA h hw ho
theorem ops_bT {op:AOp}{s1:St}(h:Ops T H b l k ⟨(t,.bool true)::e,ds⟩ s1 Q)(hw:wtD e g=some true:=by rfl)(ho:opF zAq e s none op=some (.bool true,s1):=by rfl):Ops T H b (⟨(some t),op,g,none⟩::l) k ⟨e,ds⟩ s Q:=opA h hw ho
theorem ops_bF {op:AOp}{s1:St}(h:Ops T H b l k ⟨(t,.bool false)::e,ds⟩ s1 Q)(hw:wtD e g=some true:=by rfl)(ho:opF zAq e s none op=some (.bool false,s1):=by rfl):Ops T H b (⟨(some t),op,g,none⟩::l) k ⟨e,ds⟩ s Q:=opA h hw ho
theorem zVn {op:AOp}{al:Option Nat}(h:Ops T H b l k ⟨(t,.tup [])::e,ds⟩ s Q)(hw:wtD e g=some false:=by rfl):Ops T H b (⟨some t,op,g,al⟩::l) k ⟨e,ds⟩ s Q:=by
 refine zIz (fr1:=⟨(t,.tup [])::e,ds⟩) (s1:=s) ?_ h
 unfold oper
 simp only [hw]
 rfl
def _root_.Go.Ab.AOp.isCmp:AOp→Bool
 | .bin .. =>true
 | .eq .. =>true
 | _=>false
theorem ops_cT {op:AOp}{c:Bool}{s1:St}(h:Ops T H b l k ⟨(t,.bool true)::e,ds⟩ s1 Q)(hk:op.isCmp=true:=by rfl)(hw:wtD e g=some true:=by rfl)(ho:opF zAq e s none op=some (.bool c,s1):=by rfl)(hc:c=true:=by first | assumption | (simp only [decide_eq_true_eq,decide_eq_false_iff_not,beq_iff_eq,beq_eq_false_iff_ne,bne_iff_ne,bne_eq_false_iff_eq,ne_eq,not_true_eq_false,not_false_eq_true]; done) | (simp only [decide_eq_true_eq,decide_eq_false_iff_not,beq_iff_eq,beq_eq_false_iff_ne,bne_iff_ne,bne_eq_false_iff_eq,ne_eq]; first | assumption | omega)):
  Ops T H b (⟨some t,op,g,none⟩::l) k ⟨e,ds⟩ s Q:=by
 subst hc
 exact opA h hw ho
theorem ops_cF {op:AOp}{c:Bool}{s1:St}(h:Ops T H b l k ⟨(t,.bool false)::e,ds⟩ s1 Q)(hk:op.isCmp=true:=by rfl)(hw:wtD e g=some true:=by rfl)(ho:opF zAq e s none op=some (.bool c,s1):=by rfl)(hc:c=false:=by first | assumption | (simp only [decide_eq_true_eq,decide_eq_false_iff_not,beq_iff_eq,beq_eq_false_iff_ne,bne_iff_ne,bne_eq_false_iff_eq,ne_eq,not_true_eq_false,not_false_eq_true]; done) | (simp only [decide_eq_true_eq,decide_eq_false_iff_not,beq_iff_eq,beq_eq_false_iff_ne,bne_iff_ne,bne_eq_false_iff_eq,ne_eq]; first | assumption | omega)):
  Ops T H b (⟨some t,op,g,none⟩::l) k ⟨e,ds⟩ s Q:=by
 subst hc
 exact opA h hw ho
theorem zVp {f:Nat}{args:List Opd}{x:List D}(h:Call T H f x (some t) b l k ⟨e,ds⟩ s Q)(hw:wtD e g=some true:=by rfl)(hx:evs e args=some x:=by rfl):Ops T H b (⟨(some t),.call false f args,g,none⟩::l) k ⟨e,ds⟩ s Q:=by
 have h:=h.out
 refine⟨?_⟩
 obtain⟨d,s1,h1,h2⟩:=h
 exact zIt h1 (fun C hC=>zBa (o:=⟨(some t),.call false f args,g,none⟩) (fr:=⟨e,ds⟩) hw (by simp only [opF,hx]; exact hC)) h2
theorem zRg {f:Opd}{args:List Opd}{x:List D}{gf:Nat}{x1 x2 y:List D}(h:Call T H gf y (some t) b l k ⟨e,ds⟩ s Q)(hw:wtD e g=some true:=by rfl)(hf:f.ev e=some (.fn (.func gf) x1 x2):=by rfl)(hx:evs e args=some x:=by rfl)(hy:x1++x++x2=y:=by rfl):Ops T H b (⟨(some t),.callv f args,g,none⟩::l) k ⟨e,ds⟩ s Q:=by
 have h:=h.out
 refine⟨?_⟩
 subst hy
 obtain⟨d,s1,h1,h2⟩:=h
 exact zIt h1 (fun C hC=>zBa (o:=⟨(some t),.callv f args,g,none⟩) (fr:=⟨e,ds⟩) hw (by simp only [opF,hf,hx]; exact hC)) h2
theorem zKb {f:Opd}{args:List Opd}{x:List D}{o:Nat}(h:Call T H 0 (.lv (.yl o)::x) (some t) b l k ⟨e,ds⟩ s Q)(hw:wtD e g=some true:=by rfl)(hf:f.ev e=some (.yl o):=by rfl)(hx:evs e args=some x:=by rfl):Ops T H b (⟨(some t),.callv f args,g,none⟩::l) k ⟨e,ds⟩ s Q:=by
 have h:=h.out
 refine⟨?_⟩
 obtain⟨d,s1,h1,h2⟩:=h
 exact zIt h1 (fun C hC=>zBa (o:=⟨(some t),.callv f args,g,none⟩) (fr:=⟨e,ds⟩) hw (by simp only [opF,hf,hx]; exact hC)) h2
theorem zCc {tbl:List (Nat×Nat×Recv)}{x:Opd}{args:List Opd}{y:List D}{ty f:Nat}{v u:D}{r:Recv}(h:Call T H f (u::y) (some t) b l k ⟨e,ds⟩ s Q)(hw:wtD e g=some true:=by rfl)(hv:x.ev e=some (.ifc ty v):=by rfl)(hx:evs e args=some y:=by rfl)(ht:tblR tbl ty=some (f,r):=by rfl)(hu:zQw s v r=some u:=by rfl):
  Ops T H b (⟨(some t),.invoke tbl x args,g,none⟩::l) k ⟨e,ds⟩ s Q:=by
 have h:=h.out
 refine⟨?_⟩
 obtain⟨d,s1,h1,h2⟩:=h
 exact zIt h1 (fun C hC=>zBa (o:=⟨(some t),.invoke tbl x args,g,none⟩) (fr:=⟨e,ds⟩) hw (by simp only [opF,hv,hx,ht,hu]; exact hC)) h2
theorem yAo {sz:Option Nat}{x:Opd}{o c ty:Nat}{v d:D}(h:Ops T H b l k ⟨(t,d)::e,ds⟩ s Q)(hw:wtD e g=some true:=by rfl)(hx:x.ev e=some (.ptr o c):=by rfl)(hg:s.get o=some (.var ty v):=by exact gI)(hp:part v.flat c sz=some d:=by rfl):Ops T H b (⟨(some t),.load sz x,g,none⟩::l) k ⟨e,ds⟩ s Q:=
 opA h hw (by simp only [opF,hx,zPr,hg,hp,ofO])
theorem yAp {sz:Option Nat}{x:Opd}{c:Nat}{z d:D}(h:Ops T H b l k ⟨(t,d)::e,ds⟩ s Q)(hw:wtD e g=some true:=by rfl)(hx:x.ev e=some (.vptr z c):=by rfl)(hp:part z.flat c sz=some d:=by rfl):Ops T H b (⟨(some t),.load sz x,g,none⟩::l) k ⟨e,ds⟩ s Q:=
 opA h hw (by simp only [opF,hx,zPr,hp,ofO])
theorem zVk {sz:Nat}{x v:Opd}{o c ty:Nat}{d w w1:D}(h:Ops T H b l k ⟨e,ds⟩ (s.set0 o (.var ty w1)) Q)(hw:wtD e g=some true:=by rfl)(hx:x.ev e=some (.ptr o c):=by rfl)(hv:v.ev e=some d:=by rfl)(hs:s.Ok:=by exact oI)(hg:s.get o=some (.var ty w):=by exact gI)(hz:Nat.beq d.flat.length sz=true:=by rfl)(hp:w.over c d=some w1:=by rfl):Ops T H b (⟨none,.store sz x v,g,none⟩::l) k ⟨e,ds⟩ s Q:=
 opA (d:= .tup []) h hw (by simp only [opF,hx,hv,zCd,hz,hg,hp,hs.set,ofS])
theorem yAv {ty:Nat}{x:Opd}{d:D}(h:Ops T H b l k ⟨(t,.ptr s.n 0)::e,ds⟩ (s.push0 (.var ty d)) Q)(hw:wtD e g=some true:=by rfl)(hx:x.ev e=some d:=by rfl)(hd:(d.st && Nat.blt 0 d.flat.length)=true:=by rfl)(hs:s.Ok:=by exact oI):Ops T H b (⟨(some t),.box ty x,g,none⟩::l) k ⟨e,ds⟩ s Q:=opA h hw (by simp only [opF,hx,hd,hs.mkN])
theorem zRf {r:Option Opd}(h:Ops T H b l k ⟨(t,.mp s.n)::e,ds⟩ (s.push0 (.map [] 0)) Q)(hw:wtD e g=some true:=by rfl)(hr:evo e r=some none:=by rfl)(hs:s.Ok:=by exact oI):Ops T H b (⟨(some t),.mkmap r,g,none⟩::l) k ⟨e,ds⟩ s Q:=opA h hw (by simp only [opF,hr,hs.mkN])
theorem zMh {sz ty len:Nat}{z:D}{parts:List (Nat×Opd)}{ps:List (Nat×D)}{es:List D}(h:Ops T H b l k ⟨(t,.sl s.n 0 len len)::e,ds⟩ (s.push0 (.arr sz ty es 0)) Q)(hw:wtD e g=some true:=by rfl)(hp:zBw e parts=some ps:=by rfl)(hz:allSz sz [z]=true:=by rfl)(hf:zQy sz (List.replicate len z) ps=some es:=by rfl)(hs:s.Ok:=by exact oI):Ops T H b (⟨(some t),.bslice sz ty z len parts,g,none⟩::l) k ⟨e,ds⟩ s Q:=opA h hw (by simp only [opF,hp,hz,hf,hs.mkN])
theorem zKu {sz bytes ty:Nat}{z dl dc:D}{ln cp:Opd}{l1 c1:Nat}(hl:idx dl=some l1)(hc:idx dc=some c1)(h1:l1≤c1)(h2:c1 * bytes≤140737488355328)(h3:c1≤mxE)(h:Ops T H b l k ⟨(t,.sl s.n 0 l1 l1)::e,ds⟩ (s.push0 (.arr sz ty (List.replicate l1 z) 0)) Q)(hw:wtD e g=some true:=by rfl)(hx:ln.ev e=some dl:=by rfl)(hy:cp.ev e=some dc:=by rfl)(hz:allSz sz [z]=true:=by rfl)(hs:s.Ok:=by exact oI):Ops T H b (⟨(some t),.mkslice sz bytes ty z ln cp,g,none⟩::l) k ⟨e,ds⟩ s Q:=by
 have e1:Nat.ble l1 c1=true:=Nat.ble_eq_true_of_le h1
 have e2:Nat.ble (c1 * bytes) 140737488355328=true:=Nat.ble_eq_true_of_le h2
 have e3:Nat.ble c1 mxE=true:=Nat.ble_eq_true_of_le h3
 exact opA h hw (by simp only [opF,hx,hy,hl,hc,e1,e2,e3,hz,Bool.and_self,hs.mkN])
theorem zVo {x:Opd}{d:D}(h:Ops T H b l k ⟨(t,.lv d)::e,ds⟩ s Q)(hw:wtD e g=some true:=by rfl)(hx:x.ev e=some d:=by rfl)(hn:(e.noL t && d.st)=true:=by rfl):Ops T H b (⟨some t,.lbox x,g,none⟩::l) k ⟨e,ds⟩ s Q:=by
 refine zIz (fr1:=⟨(t,.lv d)::e,ds⟩) (s1:=s) ?_ h
 unfold oper
 simp only [hw,hx,hn]
theorem opL {a sz c:Nat}{x v:Opd}{d w w1:D}(h:Ops T H b l k ⟨(a,.lv w1)::e,ds⟩ s Q)(hw:wtD e g=some true:=by rfl)(hx:x.evp e=some (.lptr a c):=by rfl)(hv:v.ev e=some d:=by rfl)(ha:e.get a=some (.lv w):=by rfl)(hz:Nat.beq d.flat.length sz=true:=by rfl)(hp:w.over c d=some w1:=by rfl):
  Ops T H b (⟨none,.lstore a sz x v,g,none⟩::l) k ⟨e,ds⟩ s Q:=by
 refine zIz (fr1:=⟨(a,.lv w1)::e,ds⟩) (s1:=s) ?_ h
 unfold oper
 simp only [hw,hx,hv,Nat.beq_refl,ha,hz,hp,putD]
theorem yAs {sz:Nat}{x i:Opd}{n:D}{j:Nat}{nl:Bool}{es:List D}{z:D}(h:Ops T H b l k ⟨(t,.vptr z 0)::e,ds⟩ s Q)(hw:wtD e g=some true:=by rfl)(hx:x.ev e=some (.vs nl sz es):=by rfl)(hi:i.ev e=some n:=by rfl)(hj:idx n=some j:=by first | exact zPz | rfl | exact zBo (by omega))(he:es[j]? =some z:=by first | assumption | rfl):Ops T H b (⟨some t,.iaddr sz x i,g,none⟩::l) k ⟨e,ds⟩ s Q:=
 opA h hw (by simp only [opF,hx,hi,hj,zEz,Nat.beq_refl,he,ofO])
theorem yAt {sz:Nat}{x i:Opd}{n:D}{j o off len cp ty st:Nat}{es:List D}(h:Ops T H b l k ⟨(t,.eptr o (off+j) 0 (off+cp))::e,ds⟩ s Q)(hw:wtD e g=some true:=by rfl)(hx:x.ev e=some (.sl o off len cp):=by rfl)(hi:i.ev e=some n:=by rfl)(hg:s.get o=some (.arr sz ty es st):=by exact gI)(hj:idx n=some j:=by first | exact zPz | rfl | exact zBo (by omega))(hl:j < len:=by exact sI)(h1:off+len≤es.length:=by exact sI)(h2:st≤off+cp:=by exact sI):Ops T H b (⟨some t,.iaddr sz x i,g,none⟩::l) k ⟨e,ds⟩ s Q:=by
 have e1:Nat.blt j len=true:=Nat.ble_eq_true_of_le (Nat.succ_le_of_lt hl)
 have e2:Nat.ble (off+len) es.length=true:=Nat.ble_eq_true_of_le h1
 have e3:Nat.ble st (off+cp)=true:=Nat.ble_eq_true_of_le h2
 exact opA h hw (by simp only [opF,hx,hi,hj,zEz,hg,Nat.beq_refl,e1,e2,e3,ofO])
theorem yAq {sz:Option Nat}{x:Opd}{o i c en z ty st:Nat}{es:List D}{v d:D}(h:Ops T H b l k ⟨(t,d)::e,ds⟩ s Q)(hw:wtD e g=some true:=by rfl)(hx:x.ev e=some (.eptr o i c en):=by rfl)(hg:s.get o=some (.arr z ty es st):=by exact gI)(hi:es[i]? =some v:=by first | assumption | rfl)(hst:st≤en:=by exact sI)(hp:part v.flat c sz=some d:=by rfl):Ops T H b (⟨some t,.load sz x,g,none⟩::l) k ⟨e,ds⟩ s Q:=by
 have e1:Nat.ble st en=true:=Nat.ble_eq_true_of_le hst
 exact opA h hw (by simp only [opF,hx,zPr,hg,e1,hi,hp,ofO])
theorem zVm {sz:Nat}{x v:Opd}{o i c en z ty st:Nat}{es:List D}{d w w1:D}(h:Ops T H b l k ⟨e,ds⟩ (s.set0 o (.arr z ty (es.set i w1) es.length)) Q)(hw:wtD e g=some true:=by rfl)(hx:x.ev e=some (.eptr o i c en):=by rfl)(hv:v.ev e=some d:=by rfl)(hs:s.Ok:=by exact oI)(hg:s.get o=some (.arr z ty es st):=by exact gI)(hi:es[i]? =some w:=by first | assumption | rfl)(he:en=es.length:=by exact sI)(hz:Nat.beq d.flat.length sz=true:=by rfl)(hp:w.over c d=some w1:=by rfl):Ops T H b (⟨none,.store sz x v,g,none⟩::l) k ⟨e,ds⟩ s Q:=by
 subst he
 exact opA (d:= .tup []) h hw (by simp only [opF,hx,hv,zCd,hz,hg,Nat.beq_refl,hi,hp,hs.set,ofS])
theorem yAw {sz bytes ty:Nat}{x y:Opd}{o off len cp st:Nat}{nl:Bool}{es m:List D}(h:Ops T H b l k ⟨(t,.sl o off (len+m.length) (len+m.length))::e,ds⟩ (s.set0 o (.arr sz ty (es++m) st)) Q)(hw:wtD e g=some true:=by rfl)(hx:x.ev e=some (.sl o off len cp):=by rfl)(hy:y.ev e=some (.vs nl sz m):=by rfl)(hs:s.Ok:=by exact oI)(hg:s.get o=some (.arr sz ty es st):=by exact gI)(hb:Nat.ble bytes 4096=true:=by rfl)(ha:allSz sz m=true:=by rfl)(hn:m≠ []:=by simp)(he:off+len=es.length:=by exact sI)(hst:st≤es.length:=by exact sI)(hm:len+m.length≤mxE:=by exact sI):Ops T H b (⟨some t,.append sz bytes ty x y,g,none⟩::l) k ⟨e,ds⟩ s Q:=by
 refine opA h hw ?_
 simp only [opF,hx,hy,items,Nat.beq_refl,Bool.true_or,hb,ha,zHl hs hg he hst hm hn]
theorem yAx {sz bytes ty z:Nat}{x y:Opd}{nl:Bool}{es m:List D}(h:Ops T H b l k ⟨(t,.sl s.n 0 m.length m.length)::e,ds⟩ (s.push0 (.arr sz ty m 0)) Q)(hw:wtD e g=some true:=by rfl)(hx:x.ev e=some (.vs true z es):=by rfl)(hy:y.ev e=some (.vs nl sz m):=by rfl)(hs:s.Ok:=by exact oI)(hb:Nat.ble bytes 4096=true:=by rfl)(ha:allSz sz m=true:=by rfl)(hn:m≠ []:=by simp)(hm:m.length≤mxE:=by exact sI):Ops T H b (⟨some t,.append sz bytes ty x y,g,none⟩::l) k ⟨e,ds⟩ s Q:=by
 refine opA h hw ?_
 simp only [opF,hx,hy,items,Nat.beq_refl,Bool.true_or,hb,ha,append_nil hs hm hn]
theorem yAi {sz:Nat}{z d:D}{x:Opd}(h:Ops T H b l k ⟨(t,.vs false sz [d])::e,ds⟩ s Q)(hw:wtD e g=some true:=by rfl)(hx:x.ev e=some d:=by rfl)(hz:allSz sz [z]=true:=by rfl)(h1:Nat.beq d.flat.length sz=true:=by rfl)(h2:d.st=true:=by rfl):Ops T H b (⟨some t,.vslice sz z 1 [(0,x)],g,none⟩::l) k ⟨e,ds⟩ s Q:=
 opA h hw (by simp only [opF,zBw,hx,hz,zQy,h1,h2,List.replicate,List.length_cons,List.length_nil,Nat.blt,Nat.ble,List.set_cons_zero])
theorem wrap_up {j:Nat}(h:j+1 < 9223372036854775808):IntKind.wrap .i64 ((j:Int)+1)=((j+1:Nat):Int):=by
 simp only [IntKind.wrap,IntKind.signed,IntKind.bits,Bool.true_and,decide_eq_true_eq,ge_iff_le]
 rw [show ((2:Int) ^ (64 - 1))=9223372036854775808 from rfl,show ((2:Int) ^ 64)=18446744073709551616 from rfl]
 split <;> omega
theorem yAr {x:Opd}{j:Nat}(h:Ops T H b l k ⟨(t,.int .i64 ((j+1:Nat):Int))::e,ds⟩ s Q)(hw:wtD e g=some true:=by rfl)(hx:x.ev e=some (.int .i64 (Nat.cast j)):=by rfl)(hj:j+1 < 9223372036854775808:=by omega):Ops T H b (⟨some t,.bin .add x (.c (.int .i64 1)),g,none⟩::l) k ⟨e,ds⟩ s Q:=by
 have hy:(Opd.c (.int .i64 1)).ev e=some (.int .i64 1):=rfl
 have hb:binD .add (.int .i64 (j:Int)) (.int .i64 1)=some (.int .i64 ((j+1:Nat):Int)):=by
  show some (D.int .i64 (IntKind.wrap .i64 ((j:Int)+1)))=_
  rw [wrap_up hj]
 exact opA h hw (by simp only [opF,hx,hy,hb,ofO])
theorem yAk {sz ty:Nat}{x:Opd}{lo hi:Option Opd} {a b' :Option D}{lo' hi' o off len cp st:Nat}{es:List D}(h:Ops T H b l k ⟨(t,.sl o (off+lo') (hi' - lo') (cp - lo'))::e,ds⟩ s Q)(hw:wtD e g=some true:=by rfl)(hx:x.ev e=some (.sl o off len cp):=by rfl)(ha:evo e lo=some a:=by rfl) (hb' :evo e hi=some b' :=by rfl)(ha1:idxo 0 a=some lo' :=by first | rfl | exact zPz | exact zBo (by omega))(hb1:(match b' with | none=>some len | some d=>idx d)=some hi' :=by first | rfl | exact zPz | exact zBo (by omega))(hg:s.get o=some (.arr sz ty es st):=by exact gI)(h1:off+len≤es.length:=by exact sI)(h2:st≤off+cp:=by exact sI)(h3:lo' ≤hi' :=by exact sI)(h4:hi' ≤cp:=by exact sI):Ops T H b (⟨some t,.ssl sz x lo hi none,g,none⟩::l) k ⟨e,ds⟩ s Q:=by
 have e1:Nat.ble (off+len) es.length=true:=Nat.ble_eq_true_of_le h1
 have e2:Nat.ble st (off+cp)=true:=Nat.ble_eq_true_of_le h2
 have e3:Nat.ble lo' hi' =true:=Nat.ble_eq_true_of_le h3
 have e4:Nat.ble hi' cp=true:=Nat.ble_eq_true_of_le h4
 have e5:evo e none=some none:=rfl
 have e6:idxo 0 none=some 0:=rfl
 refine opA h hw ?_
 cases b' with
 | none=>
  simp only [Option.some.injEq]at hb1; subst hb1
  simp only [opF,hx,ha,hb',e5,ha1,e6,items,hg,e1,e2,Nat.beq_refl,Bool.true_or,zBe,cutD,Option.getD,e3,e4,ofO]
 | some d=>
  simp only at hb1
  have hb2:idxo 0 (some d)=some hi' :=hb1
  simp only [opF,hx,ha,hb',e5,ha1,e6,hb2,items,hg,e1,e2,Nat.beq_refl,Bool.true_or,zBe,cutD,Option.getD,e3,e4,ofO]
theorem yAn {et:ET}{z kd v:D}{ok:Bool}{m ky:Opd}{o c i:Nat}{es:List (Nat×D×D)}(h:Ops T H b l k ⟨(t,okD ok v true)::e,ds⟩ s Q)(hw:wtD e g=some true:=by rfl)(hm:m.ev e=some (.mp o):=by rfl)(hky:ky.ev e=some kd:=by rfl)(hkd:keyD et kd=true:=by rfl)(hg:s.get o=some (.map es c):=by exact gI)(hf:findKey et kd es 0=some (some (i,v)):=by rfl):Ops T H b (⟨some t,.lookup et z ok m ky,g,none⟩::l) k ⟨e,ds⟩ s Q:=
 opA h hw (by simp only [opF,hm,hky,hkd,hg,hf])
end
end Go.Ab.Sm
