/- Part. -/
import Derived.Test.YthaiegafejbmoaaGreatDoorG17
set_option linter.unusedSectionVars false
set_option linter.unusedSimpArgs false
set_option linter.unusedVariables false
namespace Go.Ab
open Go
variable [eh]
inductive Key where
 | g (t:Nat) | c (t:Nat) | h (o:Nat) | hc (o c:Nat) | n | d
inductive Vl where
 | D (d:Option D) | O (o:Option Obj) | N (n:Nat) | L (l:List (D×List D))
def blank:Option D->Option D
 | some (.lv _)=>some (.lv .dU)
 | r=>r
def cont:Option D->Option D
 | some (.lv x)=>some x
 | _=>none
def qU (v:D):D:=match v with
 | .agg cs=> .agg (List.replicate cs.length .dU)
 | _=> .dU
def jT:Option Obj->Option Obj
 | some (.var t v)=>some (.var t (qU v))
 | x=>x
def ja:Option Obj->Nat->Option D
 | some (.var _ v),c=>v.flat[c]?
 | _,_=>none
theorem Ff {a:Option Obj}{t:Nat}{v:D}(h:jT a=some (.var t v)):∃u,a=some (.var t u)/\qU u=v:=by
 unfold jT at h;split at h
 ·simp only [aa,Obj.var.injEq]at h;obtain⟨rfl,h⟩:=h;exact⟨_,rfl,h⟩
 ·rename_i hn;subst h;exact absurd rfl (hn t v)
theorem Bc (u:D):(qU u).flat.length=u.flat.length:=by
 cases u <;> simp [qU,D.flat]
theorem Qv {u v:D}(h:qU u=qU v):u.flat.length=v.flat.length:=by rw [← Bc u,← Bc v,h]
theorem Hf {u v:D}(h:qU u=qU v)(hc:∀c:Nat,u.flat[c]? =v.flat[c]?):u=v:=by
 have hl:u.flat=v.flat:=iQ hc;cases u <;> cases v <;> simp_all [qU,D.flat]
theorem Oj {a b:Option Obj}(h:jT a=jT b)(hc:∀c,ja a c=ja b c):a=b:=by
 cases b with
 | none=>
  cases a with
  | none=>rfl
  | some x=>cases x <;> simp [jT]at h
 | some y=>
  cases y with
  | var t v=>
   simp only [jT]at h;obtain⟨u,rfl,hu⟩:=Ff h;simp only [ja]at hc;rw [Hf hu hc]
  | arr z t l k=>cases a with
   | none=>simp [jT]at h
   | some x=>cases x <;> simp_all [jT]
  | map l c=>cases a with
   | none=>simp [jT]at h
   | some x=>cases x <;> simp_all [jT]
  | oW l c=>cases a with
   | none=>simp [jT]at h
   | some x=>cases x <;> simp_all [jT]
  | loop l c=>cases a with
   | none=>simp [jT]at h
   | some x=>cases x <;> simp_all [jT]
  | dead=>cases a with
   | none=>simp [jT]at h
   | some x=>cases x <;> simp_all [jT]
def SL (rg:List (Nat×Nat×Nat))(x c:Nat):Prop:=rg=[]\/∃r∈rg,r.1=x/\r.2.1<=c/\c < r.2.1+r.2.2
def val (fr:Fr)(s:St):Key->Vl
 | .g t=> .D (blank (fr.env.get t))
 | .c t=> .D (cont (fr.env.get t))
 | .h o=> .O (jT (s.get o))
 | .hc o c=> .D (ja (s.get o) c)
 | .n=> .N s.n
 | .d=> .L fr.defers
theorem Dq {a b:Option D}(h:blank a=blank b):SS a b:=by
 unfold blank at h;split at h <;> split at h
 ·exact .inr ⟨_,_,rfl,rfl⟩
 ·subst h; exact .inr ⟨_,_,rfl,rfl⟩
 ·subst h; exact .inr ⟨_,_,rfl,rfl⟩
 ·exact .inl h
theorem Gi {a b:Option D}(h:blank a=blank b)(hc:cont a=cont b):a=b:=by
 rcases Dq h with h | ⟨x,y,rfl,rfl⟩
 ·exact h
 ·simp only [cont,aa]at hc; rw [hc]
def uE:Option D->Bool
 | some (.lv _)=>true
 | _=>false
theorem qA (e:Env)(t:Nat):e.ke t=uE (e.get t):=by
 unfold Env.ke uE; rfl
theorem O5 {a b:Option D}(h:SS a b):uE a=uE b:=by
 rcases h with h | ⟨x,y,rfl,rfl⟩
 ·rw [h]
 ·rfl
theorem Mf {a:Option D}(h:uE a=false):blank a=a:=by
 unfold blank; split
 ·cases h
 ·rfl
theorem HR {a:Option D}(h:uE a=false):cont a=none:=by
 unfold cont; split
 ·cases h
 ·rfl
section
variable {fr fr' fr1 vK:Fr}{s s' s1 s2:St}{C:au}{b hi:Nat}{o:bz}
theorem CX {t:Nat}(hg:val fr s (.g t)=val fr1 s1 (.g t))(hc:val fr s (.c t)=val fr1 s1 (.c t)):fr.env.get t=fr1.env.get t:=by
 simp only [val,Vl.D.injEq]at hg hc;exact Gi hg hc
theorem Hw {t:Nat}(hg:val fr s (.g t)=val fr1 s1 (.g t)):SS (fr.env.get t) (fr1.env.get t):=by
 simp only [val,Vl.D.injEq]at hg;exact Dq hg
theorem Inv.vX {ρ0:Gh}{w0 w:World}{nt:Nat}{a:Act}(h:∀k,val fr s k=val fr1 s1 k)(hI:Inv ρ0 w0 nt fr s a w):Inv ρ0 w0 nt fr1 s1 a w:=by
 have he:∀t,fr.env.get t=fr1.env.get t:=fun t=>CX (h (.g t)) (h (.c t));have ho:∀o,s.get o=s1.get o:=fun o=>Oj (by have:=h (.h o); simpa only [val,Vl.O.injEq] using this) (fun c=>by have:=h (.hc o c); simpa only [val,Vl.D.injEq] using this);have hn:s.n=s1.n:=by have:=h .n; simpa only [val,Vl.N.injEq] using this
 have hd:fr.defers=fr1.defers:=by have:=h .d; simpa only [val,Vl.L.injEq] using this
 obtain⟨ρ,h1,h2,h3⟩:=hI;refine⟨ρ,h1,⟨⟨fun t d hd=> ?_,fun t t' x x' b dn g1 g2=>h2.env.inj t t' x x' b dn (by rw [he]; exact g1) (by rw [he]; exact g2)⟩,h2.size,hd ▸ h2.defers⟩,⟨fun o x hx=> ?_,fun o x hx=>h3.ok o x (by rw [ho]; exact hx),fun o hx=>h3.no o (by rw [ho]; exact hx),h3.live,h3.size⟩⟩
 ·have:=h2.env.slot t d (by rw [he]; exact hd);cases d with
  | iE k c=>simp only [dV]at *; exact fun x hx=>this x (by rw [he]; exact hx)
  | _=>exact this
 ·rw [← hn]; exact h3.lt o x (by rw [ho]; exact hx)
def eE.wg:eE->Option Nat
 | .iX a _ _ _=>some a
 | _=>none
def tY (b hi:Nat)(o:bz)(fr:Fr):Key->Prop
 | .g t=>t∈o.sl
 | .c t=>o.op.own=some t
 | .h x=>(o.op.kind=4/\(x < b\/hi<=x))\/o.op.kind=5\/x∈(cl b fr.env o).1\/x∈(cl b fr.env o).2.1
 | .hc x c=>(o.op.kind=4/\(x < b\/hi<=x))\/o.op.kind=5\/(x∈(cl b fr.env o).1/\SL (cl b fr.env o).2.2 x c)\/x∈(cl b fr.env o).2.1
 | .n=>o.op.kind=3\/o.op.kind=4\/o.op.kind=5\/o.op.kind=9
 | .d=>o.op.kind=5
def kE (b:Nat)(o:bz)(fr:Fr) (s s' :St):Key->Prop
 | .g t=>o.dst=some t
 | .c t=>o.op.wg=some t
 | .h x=>(o.op.kind=5/\jT (s'.get x)≠jT (s.get x))\/x∈(cl b fr.env o).2.1
 | .hc x c=>(o.op.kind=5/\ja (s'.get x) c≠ja (s.get x) c)\/x∈(cl b fr.env o).2.1
 | .n=>o.op.kind=5
 | .d=>o.op.kind=5
theorem I6 {k:Key}(h:kE b o fr s s' k)(hg:∀t,k≠ .g t):tY b hi o fr k:=by
 cases k with
 | g t=>exact absurd rfl (hg t)
 | c t=>
  simp only [kE,tY]at *;cases ho:o.op <;> simp [ho,eE.wg,eE.own]at h ⊢;exact h
 | h x=>simp only [kE,tY]at *; rcases h with h | h; exact .inr (.inl h.1); exact .inr (.inr (.inr h))
 | hc x c=>simp only [kE,tY]at *; rcases h with h | h; exact .inr (.inl h.1); exact .inr (.inr (.inr h))
 | n=>simp only [kE,tY]at *; exact .inr (.inr (.inl h))
 | d=>exact h
theorem vV {e:Env}{dst:Option Nat}{d:D}{t:Nat}(h:(iq e dst d).cE dst=false)(ht:dst=some t):uE (some d)=false:=by
 subst ht;simp only [Env.cE,iq,qA,cY,ei]at h;exact h
theorem qj {e:Env}{df:List (D×List D)}{dst:Option Nat}{d:D}{u:Nat}(h1:(iq e dst d).cE dst=false)(hu:dst=some u):val { env:=iq e dst d,defers:=df} s (.g u)= .D (some d):=by
 subst hu;have hd:=vV h1 rfl;simp only [val,iq,cY,ei,Mf hd]
theorem o6 {e:Env}{df:List (D×List D)}{dst:Option Nat}{d:D}(h0:e.cE dst=false)(h1:(iq e dst d).cE dst=false)(k:Key)(hk:∀u,k= .g u->dst≠some u):
  val { env:=iq e dst d,defers:=df} s k=val { env:=e,defers:=df} s k:=by
 cases dst with
 | none=>rfl
 | some t=>
  have hd:=vV h1 rfl;simp only [Env.cE,qA]at h0;cases k with
  | g u=>
   have:=hk u rfl;simp only [ne_eq,aa]at this;simp only [val,iq,cY,aI this]
  | c u=>
   simp only [val,iq,cY];split
   ·rename_i e; subst e;rw [HR hd,HR h0]
   ·rfl
  | _=>rfl
theorem tM (mM:∀t,fr1.env.ke t=fr.env.ke t)(h:fr.env.cE o.dst=false):fr1.env.cE o.dst=false:=by
 cases hd:o.dst with
 | none=>rfl
 | some t=>simp only [hd,Env.cE]at h ⊢; rw [mM]; exact h
theorem tL {e:Env}{dst:Option Nat}{d:D}(h:∀t,dst=some t->uE (some d)=false):(iq e dst d).cE dst=false:=by
 cases dst with
 | none=>rfl
 | some t=>simp only [Env.cE,iq,qA,cY,ei]; exact h t rfl
theorem Io {d:D}{df df1:List (D×List D)}(mM:∀t,fr1.env.ke t=fr.env.ke t)(h0:fr.env.cE o.dst=false)(h1:(iq fr.env o.dst d).cE o.dst=false)(hW:o.op.wg=none)
  (hs:∀x,o.op.kind=5\/x∈(cl b fr.env o).2.1->s2.get x=s'.get x) (gy :o.op.kind≠5->∀x,x ∉ (cl b fr.env o).2.1->s2.get x=s1.get x)(hs5:o.op.kind=5->∀x,s1.get x=s.get x)
  (hn:o.op.kind=5->s2.n=s'.n) (OM :o.op.kind≠5->s2.n=s1.n)(hd:o.op.kind=5->df1=df) (Q5 :o.op.kind≠5->df1=fr1.defers):
  (∀k,kE b o fr s s' k->val { env:=iq fr1.env o.dst d,defers:=df1} s2 k=val { env:=iq fr.env o.dst d,defers:=df} s' k)/\
  (∀k, ¬ kE b o fr s s' k->val { env:=iq fr1.env o.dst d,defers:=df1} s2 k=val fr1 s1 k):=by
 have g0:=tM (o:=o) mM h0;have g1:(iq fr1.env o.dst d).cE o.dst=false:=tL fun t ht=>vV h1 ht;refine⟨fun k hk=> ?_,fun k hk=> ?_⟩
 ·cases k with
  | g u=>simp only [kE]at hk; rw [qj g1 hk,qj h1 hk]
  | c u=>simp only [kE,hW]at hk; cases hk
  | h x=>simp only [kE]at hk; simp only [val,hs x (hk.imp og id)]
  | hc x c=>simp only [kE]at hk; simp only [val,hs x (hk.imp og id)]
  | n=>simp only [kE]at hk; simp only [val,hn hk]
  | d=>simp only [kE]at hk; simp only [val,hd hk]
 ·rw [o6 g0 g1 k (by rintro u rfl; exact hk)];cases k with
  | g u=>rfl
  | c u=>rfl
  | h x=>
   simp only [kE,jr,not_and,Classical.not_not]at hk;by_cases h5:o.op.kind=5
   ·simp only [val,hs x (.inl h5),hk.1 h5,hs5 h5 x]
   ·simp only [val,gy h5 x hk.2]
  | hc x c=>
   simp only [kE,jr,not_and,Classical.not_not]at hk;by_cases h5:o.op.kind=5
   ·simp only [val,hs x (.inl h5),hk.1 h5,hs5 h5 x]
   ·simp only [val,gy h5 x hk.2]
  | n=>simp only [kE]at hk; simp only [val,OM hk]
  | d=>simp only [kE]at hk; simp only [val,Q5 hk]
theorem FE {g:Option (Nat×Bool)}{e e1:Env}(h:∀t q,g=some (t,q)->SS (e.get t) (e1.get t)):aJ e g=aJ e1 g:=by
 cases g with
 | none=>rfl
 | some p=>
  obtain⟨t,q⟩:=p;simp only [aJ];rcases h t q rfl with h | ⟨x,y,h1,h2⟩
  ·rw [h]
  ·rw [h1,h2]
theorem eS {x:Nat}{q:Obj}(u:Nat):(s.bn x q).get u=if u=x then some q else s.get u:=T.pj _ _ _ _
theorem GP {p:eE}:p.kind=0\/p.kind=6\/p.kind=1\/p.kind=2\/p.kind=3\/p.kind=4\/p.kind=5\/p.kind=9\/(∃a x y z,p= .iX a x y z)\/∃x,p= .mZ x:=by
 cases p <;> first
  | (simp [eE.kind]; done)
  | (rename_i ro _ _; cases ro <;> simp [eE.kind]; done)
theorem Kf {p:eE}(h:p.kind=4):∃f l,p= .call true f l:=by
 cases p <;> first
  | (exfalso; revert h; simp [eE.kind]; done)
  | (rename_i ro _ _; cases ro <;> revert h <;> simp [eE.kind]; done)
theorem JN (h:aJ fr.env o.guard=some true):cl b fr.env o=(bD fr.env o.op,(match o.al with | some r=>(b+r)::mK fr.env o.op | none=>mK fr.env o.op),gF fr.env o.op):=by
 simp only [cl,h];rfl
theorem PZ {q:D×St}(hw:aJ fr.env o.guard=some true)(sE:∀f l,o.op≠ .defer f l)(qS:∀x,o.op≠ .mZ x)(Rb:∀a z x v,o.op≠ .iX a z x v)
  (h:cg C fr.env s (match o.al with | some r=>some (b+r) | none=>none) o.op=some q):oper C b o fr s=some ({ fr with env:=iq fr.env o.dst q.1},q.2):=by
 unfold oper;rw [hw]
 cases hp:o.op <;> first
  | exact absurd hp (sE _ _)
  | exact absurd hp (qS _)
  | exact absurd hp (Rb _ _ _ _)
  | (rw [hp]at h; simp only; cases C3:o.al <;> simp only [C3]at h <;> simp only [h])
theorem G9 {l m:List D}{c:Nat}{sz:Option Nat}(hl:l.length=m.length)(hc:∀k,c<=k->k < c+(sz.getD 1)->l[k]? =m[k]?):part l c sz=part m c sz:=by
 cases sz with
 | none=>simp only [part]; exact hc c (aq _) (by simp)
 | some n=>
  simp only [part,hl];split
  ·have:(l.drop c).take n=(m.drop c).take n:=by
    apply iQ;intro k;rw [da,da];split
    ·rw [cS,cS]; exact hc _ (by omega) (by simp only [eB]; omega)
    ·rfl
   rw [this]
  ·rfl
theorem NZ {e:Env}{sz:Option Nat}{x:bO}{ob c:Nat}{al:Option Nat}{wr:List Nat}(hx:x.ev e=some (.ptr ob c))(hk:jT (s2.get ob)=jT (s.get ob))(hc:∀k,c<=k->k < c+(sz.getD 1)->ja (s2.get ob) k=ja (s.get ob) k):
  Vr (fun S=>cg C e S al (.load sz x)) s s2 wr:=by
 have Lh:iJ s2 sz (.ptr ob c)=iJ s sz (.ptr ob c):=by
  simp only [iJ];cases hs:s.get ob with
  | none=>
   rw [hs]at hk;have:s2.get ob=none:=by
    cases h2:s2.get ob with
    | none=>rfl
    | some y=>rw [h2]at hk; cases y <;> simp [jT]at hk
   rw [this]
  | some y=>
   rw [hs]at hk hc;cases y with
   | var t v=>
    simp only [jT]at hk;obtain⟨u,h2,hu⟩:=Ff hk;rw [h2]at hc ⊢;simp only [ja]at hc;exact G9 (Qv hu) hc
   | _=>
    cases h2:s2.get ob with
    | none=>rfl
    | some y2=>rw [h2]at hk; cases y2 <;> simp_all [jT]
 intro d s' h;simp only [cg,hx]at h ⊢;refine .inl ?_;rw [Lh];exact sJ h
theorem abc {e:Env}{al:Option Nat}{f:Nat}{l:List bO}{wr:List Nat}(hC:De C b hi)(hn:s2.n=s.n)(hl:s2.lk=s.lk)(hr:s2.ro=s.ro)(hg:∀o,o < b\/hi<=o->s2.get o=s.get o):Vr (fun S=>cg C e S al (.call true f l)) s s2 wr:=by
 intro d s' h;simp only [cg]at h ⊢;split at h
 ·split at h
  ·rename_i h1;simp only [aa,ab]at h;obtain⟨rfl,rfl⟩:=h;have k:=hC _ _ { s with ro:=true} { s2 with ro:=true} _ _ rfl rfl hn hl hg h1;exact .inl ⟨rfl,by simp only [k]⟩
  ·cases h
 ·cases h
theorem EL (h:oper C b o fr s=some (fr',s'))(lE:lQ o=true)(h0:fr.env.cE o.dst=false)(h1:fr'.env.cE o.dst=false)(lU:∀k,tY b hi o fr k->val fr1 s1 k=val fr s k)(mM:∀t,fr1.env.ke t=fr.env.ke t)(W8:De C b hi):
  ∃Vb vK s2,((∀k,val fr1 Vb k=val fr1 s1 k)/\(s1=s->Vb =s))/\oper C b o fr1 Vb =some (vK,s2)/\(∀k,kE b o fr s s' k->val vK s2 k=val fr' s' k)/\(∀k, ¬ kE b o fr s s' k->val vK s2 k=val fr1 s1 k):=by
 have td:∀t∈o.sl,SS (fr1.env.get t) (fr.env.get t):=fun t ht=>Hw (lU (.g t) ht)
 have nK:∀t∈o.op.sl,SS (fr1.env.get t) (fr.env.get t):=fun t ht=>td t (by
  unfold bz.sl; split
  ·exact cW _ ht
  ·exact ht)
 have hw:aJ fr1.env o.guard=aJ fr.env o.guard:=FE fun t q hg=>td t (by unfold bz.sl; rw [hg]; simp);have YK:∀x,tY b hi o fr (.h x)->jT (s1.get x)=jT (s.get x):=fun x hx=>by have:=lU _ hx; simpa only [val,Vl.O.injEq] using this
 have hrc:∀x c,tY b hi o fr (.hc x c)->ja (s1.get x) c=ja (s.get x) c:=fun x c hx=>by have:=lU _ hx; simpa only [val,Vl.D.injEq] using this
 have Ao:∀x,(o.op.kind=4/\(x < b\/hi<=x))\/o.op.kind=5\/(x∈(cl b fr.env o).1/\(cl b fr.env o).2.2=[])\/x∈(cl b fr.env o).2.1->s1.get x=s.get x:=fun x hx=>Oj (YK x (by
  rcases hx with h | h | h | h
  ·exact .inl h
  ·exact .inr (.inl h)
  ·exact .inr (.inr (.inl h.1))
  ·exact .inr (.inr (.inr h)))) (fun c=>hrc x c (by
  rcases hx with h | h | h | h
  ·exact .inl h
  ·exact .inr (.inl h)
  ·exact .inr (.inr (.inl ⟨h.1,.inl h.2⟩))
  ·exact .inr (.inr (.inr h))))
 have hrn:tY b hi o fr .n->s1.n=s.n:=fun hx=>by have:=lU _ hx; simpa only [val,Vl.N.injEq] using this
 have hrD:tY b hi o fr .d->fr1.defers=fr.defers:=fun hx=>by have:=lU _ hx; simpa only [val,Vl.L.injEq] using this
 have kA:∀t,o.op.own=some t->t∈o.op.sl:=fun t ht=>by
  cases hp:o.op <;> simp [hp,eE.own]at ht <;> simp [eE.sl,ht]
 unfold oper at h;split at h
 ·rename_i UT;split at h
  ·
   rename_i f args hp;split at h
   ·rename_i g x y l hf hl;simp only [aa,ab]at h;obtain⟨rfl,rfl⟩:=h;have k5:o.op.kind=5:=by rw [hp]; rfl
    have hf1:f.ev fr1.env=some (.fn g x y):=by rw [fi (e' :=fr.env)]; exact hf; intro t ht; exact nK t (by rw [hp]; simp [eE.sl,ht])
    have sS:tF fr1.env args=some l:=by rw [kL (e' :=fr.env)]; exact hl; intro t ht; exact nK t (by rw [hp]; simp [eE.sl,ht])
    have kU:=Io (b:=b) (o:=o) (fr:=fr) (fr1:=fr1) (s:=s) (s1:=s1) (s2:=s1) (s' :=s) (d:= .gW []) (df:=(.fn g x y,l)::fr.defers) (df1:=(.fn g x y,l)::fr1.defers) mM h0 h1 (by rw [hp]; rfl)
     (fun x _=>Ao x (.inr (.inl k5))) (fun h=>absurd k5 h) (fun _ x=>Ao x (.inr (.inl k5))) (fun _=>hrn (.inr (.inr (.inl k5)))) (fun h=>absurd k5 h) (fun _=>by rw [hrD k5]) (fun h=>absurd k5 h)
    refine⟨s1,_,s1,⟨fun _=>rfl,id⟩, ?_,kU.1,kU.2⟩;unfold oper;rw [hw,UT];simp only [hp,hf1,sS]
   ·cases h
  ·
   rename_i x hp;simp [lQ,hp]at lE
  ·
   rename_i a sz x v hp;split at h
   ·rename_i a' c d hx hv;split at h
    ·rename_i w hb hga hlen;split at h
     ·rename_i w' GJ;obtain rfl:=ay hb;simp only [aa,ab]at h;obtain⟨rfl,rfl⟩:=h;have vS:x.A9 fr1.env=some (.iE a c):=by rw [kK (e' :=fr.env)]; exact hx; intro t ht; exact nK t (by rw [hp]; simp [eE.sl,ht])
      have ql:v.ev fr1.env=some d:=by rw [fi (e' :=fr.env)]; exact hv; intro t ht; exact nK t (by rw [hp]; simp [eE.sl,ht])
      have aac:fr1.env.get a=some (.lv w):=by
       rw [← hga]
       exact CX (lU (.g a) (by
        show a∈o.sl;unfold bz.sl; rw [hp]; split <;> simp [eE.sl])) (lU (.c a) (by simp [tY,hp,eE.own]))
      have hda:o.dst≠some a:=by
       intro e; rw [e]at h0; simp [Env.cE,qA,hga,uE]at h0
      have g0:=tM (o:=o) mM h0
      have p0:∀(e:Env),e.cE o.dst=false->Env.cE ((a,D.lv w')::e) o.dst=false:=fun e he=>by
       cases hd:o.dst with
       | none=>rfl
       | some t=>
        rw [hd]at hda he;have:a≠t:=fun e=>hda (by rw [e]);simp only [Env.cE,qA,cY,aI this]at he ⊢; exact he
      have p1:∀(e:Env),Env.cE (iq e o.dst (.gW [])) o.dst=false:=fun e=>tL fun _ _=>rfl;refine⟨s1,{ fr1 with env:=iq ((a,.lv w')::fr1.env) o.dst (.gW [])},s1,⟨fun _=>rfl,id⟩, ?_, ?_, ?_⟩
      ·unfold oper;rw [hw,UT];have kv:Nat.beq a a=true:=aA a;simp only [hp,vS,ql,kv,aac,hlen,GJ]
      ·intro k hk;cases k with
       | g u=>simp only [kE]at hk; rw [qj (p1 _) hk,qj (p1 _) hk]
       | c u=>
        simp only [kE,hp,eE.wg,aa]at hk;subst hk;rw [o6 (p0 _ g0) (p1 _) _ (by intro u hu; cases hu),o6 (p0 _ h0) (p1 _) _ (by intro u hu; cases hu)];simp only [val,cY,ei,cont]
       | h x=>
        simp only [kE]at hk;have:=Ao x (hk.elim (fun h=> .inr (.inl h.1)) (fun h=> .inr (.inr (.inr h))));simp only [val,this]
       | hc x c=>
        simp only [kE]at hk;have:=Ao x (hk.elim (fun h=> .inr (.inl h.1)) (fun h=> .inr (.inr (.inr h))));simp only [val,this]
       | n=>simp only [kE,hp,eE.kind]at hk; cases hk
       | d=>simp only [kE,hp,eE.kind]at hk; cases hk
      ·intro k hk;rw [o6 (p0 _ g0) (p1 _) k (by rintro u rfl; exact hk)];cases k with
       | g u=>
        simp only [val,cY];split
        ·rename_i e; subst e; rw [aac]; rfl
        ·rfl
       | c u=>
        simp only [kE,hp,eE.wg,aa]at hk;simp only [val,cY,aI hk]
       | _=>rfl
     ·cases h
    ·cases h
   ·cases h
  ·
   rename_i sE qS Rb;split at h
   ·rename_i d s0 hF;simp only [aa,ab]at h;obtain⟨rfl,rfl⟩:=h;have hW:o.op.wg=none:=by
     cases hp:o.op <;> simp [eE.wg];exact absurd hp (by intro e; exact Rb _ _ _ _ e)
    have hF1:∀S,cg C fr1.env S (match o.al with | some r=>some (b+r) | none=>none) o.op=cg C fr.env S (match o.al with | some r=>some (b+r) | none=>none) o.op:=fun S=>
     Tt nK mM (fun a sz x hp=>CX (lU (.g a) (by show a∈o.sl; unfold bz.sl; rw [hp]; split <;> simp [eE.sl])) (lU (.c a) (by simp [tY,hp,eE.own])))
    have fK:∀S q,cg C fr.env S (match o.al with | some r=>some (b+r) | none=>none) o.op=some q->oper C b o fr1 S=some ({ fr1 with env:=iq fr1.env o.dst q.1},q.2):=fun S q hq=>by
     rw [← hF1]at hq;exact PZ (hw.trans UT) sE qS Rb hq
    have same:∀k,val fr1 { s1 with ro:=s.ro,lk:=s.lk} k=val fr1 s1 k:=fun k=>by cases k <;> rfl
    have swap:o.op.kind=5->∀k,val fr1 s k=val fr1 s1 k:=fun hk k=>by
     cases k with
     | h x=>simp only [val]; rw [Ao x (.inr (.inl hk))]
     | hc x c=>simp only [val]; rw [Ao x (.inr (.inl hk))]
     | n=>simp only [val]; rw [hrn (.inr (.inr (.inl hk)))]
     | _=>rfl
    have fin:=fun (s2:St)=>Io (b:=b) (o:=o) (fr:=fr) (fr1:=fr1) (s:=s) (s1:=s1) (s2:=s2) (s' :=s0) (d:=d) (df:=fr.defers) (df1:=fr1.defers) mM h0 h1 hW
    have eff:∀wr,(∀x,x∈wr->x∈(cl b fr.env o).2.1)->o.op.kind≠5->Vr (fun S=>cg C fr.env S (match o.al with | some r=>some (b+r) | none=>none) o.op) s { s1 with ro:=s.ro,lk:=s.lk} wr->
      ∃Vb vK s2,((∀k,val fr1 Vb k=val fr1 s1 k)/\(s1=s->Vb =s))/\oper C b o fr1 Vb =some (vK,s2)/\(∀k,kE b o fr s s0 k->val vK s2 k=val { fr with env:=iq fr.env o.dst d} s0 k)/\(∀k, ¬ kE b o fr s s0 k->val vK s2 k=val fr1 s1 k):=by
     intro wr hwr k5 hE;rcases hE d s0 hF with ⟨rfl,e2⟩ | ⟨x,q,hx,rfl,e2⟩
     ·have kU:=fin { s1 with ro:=s0.ro,lk:=s0.lk} (fun x hx=>Ao x (hx.elim (fun h=>absurd h k5) (fun h=> .inr (.inr (.inr h))))) (fun _ _ _=>rfl) (fun h=>absurd h k5) (fun h=>absurd h k5) (fun _=>rfl) (fun h=>absurd h k5) (fun _=>rfl);exact⟨_,_,_,⟨same,by rintro rfl; rfl⟩,fK _ _ e2,kU.1,kU.2⟩
     ·have kU:=fin (St.bn { s1 with ro:=s.ro,lk:=s.lk} x q) (fun u hu=>by
        rw [eS,eS];split
        ·rfl
        ·exact Ao u (hu.elim (fun h=>absurd h k5) (fun h=> .inr (.inr (.inr h))))) (fun _ u hu=>by
        rw [eS,aI (by rintro rfl; exact hu (hwr u hx))]; rfl) (fun h=>absurd h k5) (fun h=>absurd h k5) (fun _=>rfl) (fun h=>absurd h k5) (fun _=>rfl)
      exact⟨_,_,_,⟨same,by rintro rfl; rfl⟩,fK _ _ e2,kU.1,kU.2⟩
    have Xf:=JN (b:=b) UT
    have hwr:∀x,x∈mK fr.env o.op->x∈(cl b fr.env o).2.1:=fun x hx=>by
     rw [Xf]; simp only; split
     ·exact cW _ hx
     ·exact hx
    have ZU:gF fr.env o.op=[]->Dc (bD fr.env o.op++mK fr.env o.op) s { s1 with ro:=s.ro,lk:=s.lk}:=fun UQ x hx=>by
     simp only [cN]at hx;exact Ao x (hx.elim (fun h=> .inr (.inr (.inl ⟨by rw [Xf]; exact h,by rw [Xf]; exact UQ⟩))) (fun h=> .inr (.inr (.inr (hwr x h)))))
    have aaw:o.op.kind≠1->gF fr.env o.op=[]:=fun dn=>by
     cases hp:o.op <;> simp only [gF];rw [hp]at dn; exact absurd rfl dn
    rcases GP (p:=o.op) with hk | hk | hk | hk | hk | hk | hk | hk | ⟨a,x,y,z,hk⟩ | ⟨x,hk⟩
    ·exact eff [] (fun x hx=>by cases hx) (by omega) (Zz (.inl hk))
    ·exact eff [] (fun x hx=>by cases hx) (by omega) (Zz (.inr hk))
    ·by_cases UQ:gF fr.env o.op=[]
     ·exact eff [] (fun x hx=>by cases hx) (by omega) (aa9 hk (ZU UQ).app.1)
     ·have ⟨sz,x,ob,c,hp,hx⟩:∃sz x ob c,o.op= .load sz x/\x.ev fr.env=some (.ptr ob c):=by
       cases hp:o.op <;> rw [hp]at UQ <;> first
        | exact absurd rfl UQ
        | (simp only [gF]at UQ
           split at UQ
           ·exact⟨_,_,_,_,rfl,by assumption⟩
           ·exact absurd rfl UQ)
      have qY:ob∈(cl b fr.env o).1:=by rw [Xf]; simp only [hp,bD,hx,bD.cL]; simp
      have hE:=NZ (C:=C) (al:=match o.al with | some r=>some (b+r) | none=>none) (wr:=[]) (s:=s) (s2:= { s1 with ro:=s.ro,lk:=s.lk}) (sz:=sz) hx (YK ob (.inr (.inr (.inl qY)))) (fun k h1 h2=>hrc ob k (.inr (.inr (.inl ⟨qY,.inr ⟨(ob,c,sz.getD 1),by rw [Xf]; simp only [hp,gF,hx]; simp,rfl,h1,h2⟩⟩))));exact eff [] (fun x hx=>by cases hx) (by omega) (by rw [hp]; exact hE)
    ·exact eff _ hwr (by omega) (aba hk rfl rfl (ZU (aaw (by omega))))
    ·simp only [lQ,Ea,hk,aB]at lE;obtain⟨r,C3⟩:=iW.1 (show o.al.isSome=true by simpa using lE.2);have qY:b+r∈(cl b fr.env o).2.1:=by rw [Xf,C3]; simp
     simp only [C3]at eff hF fK;exact eff [b+r] (fun x hx=>by simp only [eI]at hx; rw [hx]; exact qY) (by omega) (abb hk rfl (hrn (.inl hk)) (Ao _ (.inr (.inr (.inr qY)))))
    ·obtain⟨f,l,hp⟩:=Kf hk;exact eff [] (fun x hx=>by cases hx) (by omega) (by rw [hp]; exact abc W8 (hrn (.inr (.inl hk))) rfl rfl (fun x hx=>Ao x (.inl ⟨hk,hx⟩)))
    ·have kU:=fin s0 (fun _ _=>rfl) (fun h=>absurd hk h) (fun _ x=>Ao x (.inr (.inl hk))) (fun _=>rfl) (fun h=>absurd hk h) (fun _=>hrD hk) (fun _=>rfl);exact⟨s,_,_,⟨swap hk,fun _=>rfl⟩,fK _ _ hF,kU.1,kU.2⟩
    ·simp only [lQ,Ea,hk,aB]at lE;obtain⟨r,C3⟩:=iW.1 (show o.al.isSome=true by simpa using lE.2);have qY:b+r∈(cl b fr.env o).2.1:=by rw [Xf,C3]; simp
     simp only [C3]at hF fK;have k5:o.op.kind≠5:=by omega
     have XD:∀x,x∈(b+r)::mK fr.env o.op->x∈(cl b fr.env o).2.1:=fun x hx=>by
      rcases aN.1 hx with rfl | hx
      ·exact qY
      ·exact hwr x hx
     rcases abd (C:=C) (e:=fr.env) (s:=s) (s2:= { s1 with ro:=s.ro,lk:=s.lk}) (k:=b+r) hk rfl rfl (hrn (.inr (.inr (.inr hk)))) (ZU (aaw (by omega))) (Ao _ (.inr (.inr (.inr qY)))) d s0 hF with ⟨rfl,e2⟩ | ⟨x,q,hx,rfl,e2⟩ | ⟨x,q,x',q',hx,Bj,rfl,e2⟩
     ·have kU:=fin { s1 with ro:=s0.ro,lk:=s0.lk} (fun x hx=>Ao x (hx.elim (fun h=>absurd h k5) (fun h=> .inr (.inr (.inr h))))) (fun _ _ _=>rfl) (fun h=>absurd h k5) (fun h=>absurd h k5) (fun _=>rfl) (fun h=>absurd h k5) (fun _=>rfl);exact⟨_,_,_,⟨same,by rintro rfl; rfl⟩,fK _ _ e2,kU.1,kU.2⟩
     ·have kU:=fin (St.bn { s1 with ro:=s.ro,lk:=s.lk} x q) (fun u hu=>by
        rw [eS,eS];split
        ·rfl
        ·exact Ao u (hu.elim (fun h=>absurd h k5) (fun h=> .inr (.inr (.inr h))))) (fun _ u hu=>by
        rw [eS,aI (by rintro rfl; exact hu (XD u hx))]; rfl) (fun h=>absurd h k5) (fun h=>absurd h k5) (fun _=>rfl) (fun h=>absurd h k5) (fun _=>rfl)
      exact⟨_,_,_,⟨same,by rintro rfl; rfl⟩,fK _ _ e2,kU.1,kU.2⟩
     ·have kU:=fin ((St.bn { s1 with ro:=s.ro,lk:=s.lk} x q).bn x' q') (fun u hu=>by
        rw [eS,eS,eS,eS];split
        ·rfl
        ·split
         ·rfl
         ·exact Ao u (hu.elim (fun h=>absurd h k5) (fun h=> .inr (.inr (.inr h))))) (fun _ u hu=>by
        rw [eS,aI (by rintro rfl; exact hu (XD u Bj)),eS,aI (by rintro rfl; exact hu (XD u hx))]; rfl) (fun h=>absurd h k5) (fun h=>absurd h k5) (fun _=>rfl) (fun h=>absurd h k5) (fun _=>rfl)
      exact⟨_,_,_,⟨same,by rintro rfl; rfl⟩,fK _ _ e2,kU.1,kU.2⟩
    ·exact absurd hk (Rb _ _ _ _)
    ·exact absurd hk (qS _)
   ·cases h
 ·rename_i UT;simp only [aa,ab]at h;obtain⟨rfl,rfl⟩:=h;have g0:=tM (o:=o) mM h0;have p1:∀(e:Env),Env.cE (iq e o.dst (.gW [])) o.dst=false:=fun e=>tL fun _ _=>rfl;refine⟨s1,{ fr1 with env:=iq fr1.env o.dst (.gW [])},s1,⟨fun _=>rfl,id⟩,by unfold oper; rw [hw,UT],fun k hk=> ?_,fun k hk=> ?_⟩
  ·by_cases YB:∃u,k= .g u
   ·obtain⟨u,rfl⟩:=YB;simp only [kE]at hk;rw [qj (p1 _) hk,qj (p1 _) hk]
   ·have YB:∀u,k≠ .g u:=fun u e=>YB ⟨u,e⟩;rw [o6 g0 (p1 _) k (fun u e=>absurd e (YB u)),o6 h0 (p1 _) k (fun u e=>absurd e (YB u))];exact lU k (I6 hk YB)
  ·rw [o6 g0 (p1 _) k (by rintro u rfl; exact hk)]
 ·cases h
theorem G5 (h:oper C b o fr s=some (fr',s'))(lE:lQ o=true)(h0:fr.env.cE o.dst=false)(h1:fr'.env.cE o.dst=false)(W8:De C b hi){k:Key}(hk: ¬ kE b o fr s s' k):val fr' s' k=val fr s k:=by
 obtain⟨Vb,vK,s2,⟨_,g1⟩,g2,_,g4⟩:=EL (fr1:=fr) (s1:=s) h lE h0 h1 (fun _ _=>rfl) (fun _=>rfl) W8;rw [g1 rfl,h]at g2;simp only [aa,ab]at g2;obtain⟨rfl,rfl⟩:=g2;exact g4 k hk
end
end Go.Ab
