/- Part. -/
import Derived.Test.YtjaldhgmboeffaaGreatDoorG15
set_option linter.unusedSimpArgs false
set_option linter.unusedVariables false
set_option linter.unusedSectionVars false
namespace Go.Ab
open Go
variable [eV]
inductive Key where
 | g (t:Nat) | c (t:Nat) | h (o:Nat) | hc (o c:Nat) | n | d
inductive Vl where
 | D (d:Option D) | O (o:Option Obj) | N (n:Nat) | L (l:List (D×List D))
def blank:Option D->Option D
 | some (.lv _)=>some (.lv .cz)
 | r=>r
def cont:Option D->Option D
 | some (.lv x)=>some x
 | _=>none
def qW (v:D):D:=match v with
 | .agg cs=> .agg (List.replicate cs.length .cz)
 | _=> .cz
def kg:Option Obj->Option Obj
 | some (.var t v)=>some (.var t (qW v))
 | x=>x
def jq:Option Obj->Nat->Option D
 | some (.var _ v),c=>v.flat[c]?
 | _,_=>none
theorem DP {a:Option Obj}{t:Nat}{v:D}(h:kg a=some (.var t v)):∃u,a=some (.var t u)/\qW u=v:=by
 unfold kg at h;split at h
 ·simp only [aa,Obj.var.injEq]at h;obtain⟨rfl,h⟩:=h;exact⟨_,rfl,h⟩
 ·rename_i hn;subst h;exact absurd rfl (hn t v)
theorem AW (u:D):(qW u).flat.length=u.flat.length:=by
 cases u <;> simp [qW,D.flat]
theorem Od {u v:D}(h:qW u=qW v):u.flat.length=v.flat.length:=by rw [← AW u,← AW v,h]
theorem GK {u v:D}(h:qW u=qW v)(hc:∀c:Nat,u.flat[c]? =v.flat[c]?):u=v:=by
 have hl:u.flat=v.flat:=kr hc;cases u <;> cases v <;> simp_all [qW,D.flat]
theorem Me {a b:Option Obj}(h:kg a=kg b)(hc:∀c,jq a c=jq b c):a=b:=by
 cases b with
 | none=>
  cases a with
  | none=>rfl
  | some x=>cases x <;> simp [kg]at h
 | some y=>
  cases y with
  | var t v=>
   simp only [kg]at h;obtain⟨u,rfl,hu⟩:=DP h;simp only [jq]at hc;rw [GK hu hc]
  | arr z t l k=>cases a with
   | none=>simp [kg]at h
   | some x=>cases x <;> simp_all [kg]
  | map l c=>cases a with
   | none=>simp [kg]at h
   | some x=>cases x <;> simp_all [kg]
  | lF l c=>cases a with
   | none=>simp [kg]at h
   | some x=>cases x <;> simp_all [kg]
  | loop l c=>cases a with
   | none=>simp [kg]at h
   | some x=>cases x <;> simp_all [kg]
  | dead=>cases a with
   | none=>simp [kg]at h
   | some x=>cases x <;> simp_all [kg]
def Sf (rg:List (Nat×Nat×Nat))(x c:Nat):Prop:=rg=[]\/∃r∈rg,r.1=x/\r.2.1<=c/\c < r.2.1+r.2.2
def val (fr:Fr)(s:St):Key->Vl
 | .g t=> .D (blank (fr.env.get t))
 | .c t=> .D (cont (fr.env.get t))
 | .h o=> .O (kg (s.get o))
 | .hc o c=> .D (jq (s.get o) c)
 | .n=> .N s.n
 | .d=> .L fr.defers
theorem DS {a b:Option D}(h:blank a=blank b):SS a b:=by
 unfold blank at h;split at h <;> split at h
 ·exact .inr ⟨_,_,rfl,rfl⟩
 ·subst h; exact .inr ⟨_,_,rfl,rfl⟩
 ·subst h; exact .inr ⟨_,_,rfl,rfl⟩
 ·exact .inl h
theorem GA {a b:Option D}(h:blank a=blank b)(hc:cont a=cont b):a=b:=by
 rcases DS h with h | ⟨x,y,rfl,rfl⟩
 ·exact h
 ·simp only [cont,aa]at hc; rw [hc]
def uq:Option D->Bool
 | some (.lv _)=>true
 | _=>false
theorem qE (e:Env)(t:Nat):e.kC t=uq (e.get t):=by
 unfold Env.kC uq; rfl
theorem LR {a b:Option D}(h:SS a b):uq a=uq b:=by
 rcases h with h | ⟨x,y,rfl,rfl⟩
 ·rw [h]
 ·rfl
theorem NV {a:Option D}(h:uq a=false):blank a=a:=by
 unfold blank; split
 ·cases h
 ·rfl
theorem Iu {a:Option D}(h:uq a=false):cont a=none:=by
 unfold cont; split
 ·cases h
 ·rfl
section
variable {fr fr' fr1 vB:Fr}{s s' s1 s2:St}{C:ay}{b hi:Nat}{o:bg}
theorem Bq {t:Nat}(hg:val fr s (.g t)=val fr1 s1 (.g t))(hc:val fr s (.c t)=val fr1 s1 (.c t)):fr.env.get t=fr1.env.get t:=by
 simp only [val,Vl.D.injEq]at hg hc;exact GA hg hc
theorem G0 {t:Nat}(hg:val fr s (.g t)=val fr1 s1 (.g t)):SS (fr.env.get t) (fr1.env.get t):=by
 simp only [val,Vl.D.injEq]at hg;exact DS hg
theorem Inv.vT {ρ0:Gh}{w0 w:World}{nt:Nat}{a:Act}(h:∀k,val fr s k=val fr1 s1 k)(hI:Inv ρ0 w0 nt fr s a w):Inv ρ0 w0 nt fr1 s1 a w:=by
 have he:∀t,fr.env.get t=fr1.env.get t:=fun t=>Bq (h (.g t)) (h (.c t));have ho:∀o,s.get o=s1.get o:=fun o=>Me (by have:=h (.h o); simpa only [val,Vl.O.injEq] using this) (fun c=>by have:=h (.hc o c); simpa only [val,Vl.D.injEq] using this);have hn:s.n=s1.n:=by have:=h .n; simpa only [val,Vl.N.injEq] using this
 have hd:fr.defers=fr1.defers:=by have:=h .d; simpa only [val,Vl.L.injEq] using this
 obtain⟨ρ,h1,h2,h3⟩:=hI;refine⟨ρ,h1,⟨⟨fun t d hd=> ?_,fun t t' x x' b cE g1 g2=>h2.env.inj t t' x x' b cE (by rw [he]; exact g1) (by rw [he]; exact g2)⟩,h2.size,hd ▸ h2.defers⟩,⟨fun o x hx=> ?_,fun o x hx=>h3.ok o x (by rw [ho]; exact hx),fun o hx=>h3.no o (by rw [ho]; exact hx),h3.live,h3.size⟩⟩
 ·have:=h2.env.slot t d (by rw [he]; exact hd);cases d with
  | iG k c=>simp only [er]at *; exact fun x hx=>this x (by rw [he]; exact hx)
  | _=>exact this
 ·rw [← hn]; exact h3.lt o x (by rw [ho]; exact hx)
def eQ.vU:eQ->Option Nat
 | .iX a _ _ _=>some a
 | _=>none
def tO (b hi:Nat)(o:bg)(fr:Fr):Key->Prop
 | .g t=>t∈o.sl
 | .c t=>o.op.own=some t
 | .h x=>(o.op.kind=4/\(x < b\/hi<=x))\/o.op.kind=5\/x∈(cF b fr.env o).1\/x∈(cF b fr.env o).2.1
 | .hc x c=>(o.op.kind=4/\(x < b\/hi<=x))\/o.op.kind=5\/(x∈(cF b fr.env o).1/\Sf (cF b fr.env o).2.2 x c)\/x∈(cF b fr.env o).2.1
 | .n=>o.op.kind=3\/o.op.kind=4\/o.op.kind=5\/o.op.kind=9
 | .d=>o.op.kind=5
def kW (b:Nat)(o:bg)(fr:Fr) (s s' :St):Key->Prop
 | .g t=>o.dst=some t
 | .c t=>o.op.vU=some t
 | .h x=>(o.op.kind=5/\kg (s'.get x)≠kg (s.get x))\/x∈(cF b fr.env o).2.1
 | .hc x c=>(o.op.kind=5/\jq (s'.get x) c≠jq (s.get x) c)\/x∈(cF b fr.env o).2.1
 | .n=>o.op.kind=5
 | .d=>o.op.kind=5
theorem It {k:Key}(h:kW b o fr s s' k)(hg:∀t,k≠ .g t):tO b hi o fr k:=by
 cases k with
 | g t=>exact absurd rfl (hg t)
 | c t=>
  simp only [kW,tO]at *;cases ho:o.op <;> simp [ho,eQ.vU,eQ.own]at h ⊢;exact h
 | h x=>simp only [kW,tO]at *; rcases h with h | h; exact .inr (.inl h.1); exact .inr (.inr (.inr h))
 | hc x c=>simp only [kW,tO]at *; rcases h with h | h; exact .inr (.inl h.1); exact .inr (.inr (.inr h))
 | n=>simp only [kW,tO]at *; exact .inr (.inr (.inl h))
 | d=>exact h
theorem vg {e:Env}{dst:Option Nat}{d:D}{t:Nat}(h:(ij e dst d).cY dst=false)(ht:dst=some t):uq (some d)=false:=by
 subst ht;simp only [Env.cY,ij,qE,dB,eu]at h;exact h
theorem qp {e:Env}{df:List (D×List D)}{dst:Option Nat}{d:D}{u:Nat}(h1:(ij e dst d).cY dst=false)(hu:dst=some u):val { env:=ij e dst d,defers:=df} s (.g u)= .D (some d):=by
 subst hu;have hd:=vg h1 rfl;simp only [val,ij,dB,eu,NV hd]
theorem pe {e:Env}{df:List (D×List D)}{dst:Option Nat}{d:D}(h0:e.cY dst=false)(h1:(ij e dst d).cY dst=false)(k:Key)(hk:∀u,k= .g u->dst≠some u):
  val { env:=ij e dst d,defers:=df} s k=val { env:=e,defers:=df} s k:=by
 cases dst with
 | none=>rfl
 | some t=>
  have hd:=vg h1 rfl;simp only [Env.cY,qE]at h0;cases k with
  | g u=>
   have:=hk u rfl;simp only [ne_eq,aa]at this;simp only [val,ij,dB,aK this]
  | c u=>
   simp only [val,ij,dB];split
   ·rename_i e; subst e;rw [Iu hd,Iu h0]
   ·rfl
  | _=>rfl
theorem tC (nD:∀t,fr1.env.kC t=fr.env.kC t)(h:fr.env.cY o.dst=false):fr1.env.cY o.dst=false:=by
 cases hd:o.dst with
 | none=>rfl
 | some t=>simp only [hd,Env.cY]at h ⊢; rw [nD]; exact h
theorem tr {e:Env}{dst:Option Nat}{d:D}(h:∀t,dst=some t->uq (some d)=false):(ij e dst d).cY dst=false:=by
 cases dst with
 | none=>rfl
 | some t=>simp only [Env.cY,ij,qE,dB,eu]; exact h t rfl
theorem Il {d:D}{df df1:List (D×List D)}(nD:∀t,fr1.env.kC t=fr.env.kC t)(h0:fr.env.cY o.dst=false)(h1:(ij fr.env o.dst d).cY o.dst=false)(hW:o.op.vU=none)
  (hs:∀x,o.op.kind=5\/x∈(cF b fr.env o).2.1->s2.get x=s'.get x) (gW :o.op.kind≠5->∀x,x ∉ (cF b fr.env o).2.1->s2.get x=s1.get x)(hs5:o.op.kind=5->∀x,s1.get x=s.get x)
  (hn:o.op.kind=5->s2.n=s'.n) (Fm :o.op.kind≠5->s2.n=s1.n)(hd:o.op.kind=5->df1=df) (Ae :o.op.kind≠5->df1=fr1.defers):
  (∀k,kW b o fr s s' k->val { env:=ij fr1.env o.dst d,defers:=df1} s2 k=val { env:=ij fr.env o.dst d,defers:=df} s' k)/\
  (∀k, ¬ kW b o fr s s' k->val { env:=ij fr1.env o.dst d,defers:=df1} s2 k=val fr1 s1 k):=by
 have g0:=tC (o:=o) nD h0;have g1:(ij fr1.env o.dst d).cY o.dst=false:=tr fun t ht=>vg h1 ht;refine⟨fun k hk=> ?_,fun k hk=> ?_⟩
 ·cases k with
  | g u=>simp only [kW]at hk; rw [qp g1 hk,qp h1 hk]
  | c u=>simp only [kW,hW]at hk; cases hk
  | h x=>simp only [kW]at hk; simp only [val,hs x (hk.imp pt id)]
  | hc x c=>simp only [kW]at hk; simp only [val,hs x (hk.imp pt id)]
  | n=>simp only [kW]at hk; simp only [val,hn hk]
  | d=>simp only [kW]at hk; simp only [val,hd hk]
 ·rw [pe g0 g1 k (by rintro u rfl; exact hk)];cases k with
  | g u=>rfl
  | c u=>rfl
  | h x=>
   simp only [kW,kK,not_and,Classical.not_not]at hk;by_cases h5:o.op.kind=5
   ·simp only [val,hs x (.inl h5),hk.1 h5,hs5 h5 x]
   ·simp only [val,gW h5 x hk.2]
  | hc x c=>
   simp only [kW,kK,not_and,Classical.not_not]at hk;by_cases h5:o.op.kind=5
   ·simp only [val,hs x (.inl h5),hk.1 h5,hs5 h5 x]
   ·simp only [val,gW h5 x hk.2]
  | n=>simp only [kW]at hk; simp only [val,Fm hk]
  | d=>simp only [kW]at hk; simp only [val,Ae hk]
theorem Dp {g:Option (Nat×Bool)}{e e1:Env}(h:∀t q,g=some (t,q)->SS (e.get t) (e1.get t)):aI e g=aI e1 g:=by
 cases g with
 | none=>rfl
 | some p=>
  obtain⟨t,q⟩:=p;simp only [aI];rcases h t q rfl with h | ⟨x,y,h1,h2⟩
  ·rw [h]
  ·rw [h1,h2]
theorem fv {x:Nat}{q:Obj}(u:Nat):(s.bF x q).get u=if u=x then some q else s.get u:=T.pN _ _ _ _
theorem GS {p:eQ}:p.kind=0\/p.kind=6\/p.kind=1\/p.kind=2\/p.kind=3\/p.kind=4\/p.kind=5\/p.kind=9\/(∃a x y z,p= .iX a x y z)\/∃x,p= .nv x:=by
 cases p <;> first
  | (simp [eQ.kind]; done)
  | (rename_i ro _ _; cases ro <;> simp [eQ.kind]; done)
theorem J8 {p:eQ}(h:p.kind=4):∃f l,p= .call true f l:=by
 cases p <;> first
  | (exfalso; revert h; simp [eQ.kind]; done)
  | (rename_i ro _ _; cases ro <;> revert h <;> simp [eQ.kind]; done)
theorem JN (h:aI fr.env o.guard=some true):cF b fr.env o=(bC fr.env o.op,(match o.al with | some r=>(b+r)::nC fr.env o.op | none=>nC fr.env o.op),gk fr.env o.op):=by
 simp only [cF,h];rfl
theorem LD {q:D×St}(hw:aI fr.env o.guard=some true)(tc:∀f l,o.op≠ .defer f l)(qU:∀x,o.op≠ .nv x)(Pw:∀a z x v,o.op≠ .iX a z x v)
  (h:cC C fr.env s (match o.al with | some r=>some (b+r) | none=>none) o.op=some q):oper C b o fr s=some ({ fr with env:=ij fr.env o.dst q.1},q.2):=by
 unfold oper;rw [hw]
 cases hp:o.op <;> first
  | exact absurd hp (tc _ _)
  | exact absurd hp (qU _)
  | exact absurd hp (Pw _ _ _ _)
  | (rw [hp]at h; simp only; cases Lc:o.al <;> simp only [Lc]at h <;> simp only [h])
theorem Gk {l m:List D}{c:Nat}{sz:Option Nat}(hl:l.length=m.length)(hc:∀k,c<=k->k < c+(sz.getD 1)->l[k]? =m[k]?):part l c sz=part m c sz:=by
 cases sz with
 | none=>simp only [part]; exact hc c (aq _) (by simp)
 | some n=>
  simp only [part,hl];split
  ·have:(l.drop c).take n=(m.drop c).take n:=by
    apply kr;intro k;rw [de,de];split
    ·rw [cX,cX]; exact hc _ (by omega) (by simp only [eZ]; omega)
    ·rfl
   rw [this]
  ·rfl
theorem NQ {e:Env}{sz:Option Nat}{x:bP}{ob c:Nat}{al:Option Nat}{wr:List Nat}(hx:x.ev e=some (.ptr ob c))(hk:kg (s2.get ob)=kg (s.get ob))(hc:∀k,c<=k->k < c+(sz.getD 1)->jq (s2.get ob) k=jq (s.get ob) k):
  V0 (fun S=>cC C e S al (.load sz x)) s s2 wr:=by
 have K5:iP s2 sz (.ptr ob c)=iP s sz (.ptr ob c):=by
  simp only [iP];cases hs:s.get ob with
  | none=>
   rw [hs]at hk;have:s2.get ob=none:=by
    cases h2:s2.get ob with
    | none=>rfl
    | some y=>rw [h2]at hk; cases y <;> simp [kg]at hk
   rw [this]
  | some y=>
   rw [hs]at hk hc;cases y with
   | var t v=>
    simp only [kg]at hk;obtain⟨u,h2,hu⟩:=DP hk;rw [h2]at hc ⊢;simp only [jq]at hc;exact Gk (Od hu) hc
   | _=>
    cases h2:s2.get ob with
    | none=>rfl
    | some y2=>rw [h2]at hk; cases y2 <;> simp_all [kg]
 intro d s' h;simp only [cC,hx]at h ⊢;refine .inl ?_;rw [K5];exact sv h
theorem abA {e:Env}{al:Option Nat}{f:Nat}{l:List bP}{wr:List Nat}(hC:D2 C b hi)(hn:s2.n=s.n)(hl:s2.lk=s.lk)(hr:s2.ro=s.ro)(hg:∀o,o < b\/hi<=o->s2.get o=s.get o):V0 (fun S=>cC C e S al (.call true f l)) s s2 wr:=by
 intro d s' h;simp only [cC]at h ⊢;split at h
 ·split at h
  ·rename_i h1;simp only [aa,ae]at h;obtain⟨rfl,rfl⟩:=h;have k:=hC _ _ { s with ro:=true} { s2 with ro:=true} _ _ rfl rfl hn hl hg h1;exact .inl ⟨rfl,by simp only [k]⟩
  ·cases h
 ·cases h
theorem DK (h:oper C b o fr s=some (fr',s'))(fK:l8 o=true)(h0:fr.env.cY o.dst=false)(h1:fr'.env.cY o.dst=false)(mr:∀k,tO b hi o fr k->val fr1 s1 k=val fr s k)(nD:∀t,fr1.env.kC t=fr.env.kC t)(VZ:D2 C b hi):
  ∃Tz vB s2,((∀k,val fr1 Tz k=val fr1 s1 k)/\(s1=s->Tz =s))/\oper C b o fr1 Tz =some (vB,s2)/\(∀k,kW b o fr s s' k->val vB s2 k=val fr' s' k)/\(∀k, ¬ kW b o fr s s' k->val vB s2 k=val fr1 s1 k):=by
 have sO:∀t∈o.sl,SS (fr1.env.get t) (fr.env.get t):=fun t ht=>G0 (mr (.g t) ht)
 have oq:∀t∈o.op.sl,SS (fr1.env.get t) (fr.env.get t):=fun t ht=>sO t (by
  unfold bg.sl; split
  ·exact eF _ ht
  ·exact ht)
 have hw:aI fr1.env o.guard=aI fr.env o.guard:=Dp fun t q hg=>sO t (by unfold bg.sl; rw [hg]; simp);have Ye:∀x,tO b hi o fr (.h x)->kg (s1.get x)=kg (s.get x):=fun x hx=>by have:=mr _ hx; simpa only [val,Vl.O.injEq] using this
 have hrc:∀x c,tO b hi o fr (.hc x c)->jq (s1.get x) c=jq (s.get x) c:=fun x c hx=>by have:=mr _ hx; simpa only [val,Vl.D.injEq] using this
 have zR:∀x,(o.op.kind=4/\(x < b\/hi<=x))\/o.op.kind=5\/(x∈(cF b fr.env o).1/\(cF b fr.env o).2.2=[])\/x∈(cF b fr.env o).2.1->s1.get x=s.get x:=fun x hx=>Me (Ye x (by
  rcases hx with h | h | h | h
  ·exact .inl h
  ·exact .inr (.inl h)
  ·exact .inr (.inr (.inl h.1))
  ·exact .inr (.inr (.inr h)))) (fun c=>hrc x c (by
  rcases hx with h | h | h | h
  ·exact .inl h
  ·exact .inr (.inl h)
  ·exact .inr (.inr (.inl ⟨h.1,.inl h.2⟩))
  ·exact .inr (.inr (.inr h))))
 have Qr:tO b hi o fr .n->s1.n=s.n:=fun hx=>by have:=mr _ hx; simpa only [val,Vl.N.injEq] using this
 have hrD:tO b hi o fr .d->fr1.defers=fr.defers:=fun hx=>by have:=mr _ hx; simpa only [val,Vl.L.injEq] using this
 have lC:∀t,o.op.own=some t->t∈o.op.sl:=fun t ht=>by
  cases hp:o.op <;> simp [hp,eQ.own]at ht <;> simp [eQ.sl,ht]
 unfold oper at h;split at h
 ·rename_i x8;split at h
  ·
   rename_i f args hp;split at h
   ·rename_i g x y l hf hl;simp only [aa,ae]at h;obtain⟨rfl,rfl⟩:=h;have k5:o.op.kind=5:=by rw [hp]; rfl
    have hf1:f.ev fr1.env=some (.fn g x y):=by rw [fG (e' :=fr.env)]; exact hf; intro t ht; exact oq t (by rw [hp]; simp [eQ.sl,ht])
    have sq:sg fr1.env args=some l:=by rw [lE (e' :=fr.env)]; exact hl; intro t ht; exact oq t (by rw [hp]; simp [eQ.sl,ht])
    have jr:=Il (b:=b) (o:=o) (fr:=fr) (fr1:=fr1) (s:=s) (s1:=s1) (s2:=s1) (s' :=s) (d:= .gK []) (df:=(.fn g x y,l)::fr.defers) (df1:=(.fn g x y,l)::fr1.defers) nD h0 h1 (by rw [hp]; rfl)
     (fun x _=>zR x (.inr (.inl k5))) (fun h=>absurd k5 h) (fun _ x=>zR x (.inr (.inl k5))) (fun _=>Qr (.inr (.inr (.inl k5)))) (fun h=>absurd k5 h) (fun _=>by rw [hrD k5]) (fun h=>absurd k5 h)
    refine⟨s1,_,s1,⟨fun _=>rfl,id⟩, ?_,jr.1,jr.2⟩;unfold oper;rw [hw,x8];simp only [hp,hf1,sq]
   ·cases h
  ·
   rename_i x hp;simp [l8,hp]at fK
  ·
   rename_i a sz x v hp;split at h
   ·rename_i a' c d hx hv;split at h
    ·rename_i w hb hga hlen;split at h
     ·rename_i w' Gv;obtain rfl:=aD hb;simp only [aa,ae]at h;obtain⟨rfl,rfl⟩:=h;have vR:x.yP fr1.env=some (.iG a c):=by rw [lI (e' :=fr.env)]; exact hx; intro t ht; exact oq t (by rw [hp]; simp [eQ.sl,ht])
      have qq:v.ev fr1.env=some d:=by rw [fG (e' :=fr.env)]; exact hv; intro t ht; exact oq t (by rw [hp]; simp [eQ.sl,ht])
      have YD:fr1.env.get a=some (.lv w):=by
       rw [← hga]
       exact Bq (mr (.g a) (by
        show a∈o.sl;unfold bg.sl; rw [hp]; split <;> simp [eQ.sl])) (mr (.c a) (by simp [tO,hp,eQ.own]))
      have hda:o.dst≠some a:=by
       intro e; rw [e]at h0; simp [Env.cY,qE,hga,uq]at h0
      have g0:=tC (o:=o) nD h0
      have p0:∀(e:Env),e.cY o.dst=false->Env.cY ((a,D.lv w')::e) o.dst=false:=fun e he=>by
       cases hd:o.dst with
       | none=>rfl
       | some t=>
        rw [hd]at hda he;have:a≠t:=fun e=>hda (by rw [e]);simp only [Env.cY,qE,dB,aK this]at he ⊢; exact he
      have p1:∀(e:Env),Env.cY (ij e o.dst (.gK [])) o.dst=false:=fun e=>tr fun _ _=>rfl;refine⟨s1,{ fr1 with env:=ij ((a,.lv w')::fr1.env) o.dst (.gK [])},s1,⟨fun _=>rfl,id⟩, ?_, ?_, ?_⟩
      ·unfold oper;rw [hw,x8];have kO:Nat.beq a a=true:=aA a;simp only [hp,vR,qq,kO,YD,hlen,Gv]
      ·intro k hk;cases k with
       | g u=>simp only [kW]at hk; rw [qp (p1 _) hk,qp (p1 _) hk]
       | c u=>
        simp only [kW,hp,eQ.vU,aa]at hk;subst hk;rw [pe (p0 _ g0) (p1 _) _ (by intro u hu; cases hu),pe (p0 _ h0) (p1 _) _ (by intro u hu; cases hu)];simp only [val,dB,eu,cont]
       | h x=>
        simp only [kW]at hk;have:=zR x (hk.elim (fun h=> .inr (.inl h.1)) (fun h=> .inr (.inr (.inr h))));simp only [val,this]
       | hc x c=>
        simp only [kW]at hk;have:=zR x (hk.elim (fun h=> .inr (.inl h.1)) (fun h=> .inr (.inr (.inr h))));simp only [val,this]
       | n=>simp only [kW,hp,eQ.kind]at hk; cases hk
       | d=>simp only [kW,hp,eQ.kind]at hk; cases hk
      ·intro k hk;rw [pe (p0 _ g0) (p1 _) k (by rintro u rfl; exact hk)];cases k with
       | g u=>
        simp only [val,dB];split
        ·rename_i e; subst e; rw [YD]; rfl
        ·rfl
       | c u=>
        simp only [kW,hp,eQ.vU,aa]at hk;simp only [val,dB,aK hk]
       | _=>rfl
     ·cases h
    ·cases h
   ·cases h
  ·
   rename_i tc qU Pw;split at h
   ·rename_i d s0 hF;simp only [aa,ae]at h;obtain⟨rfl,rfl⟩:=h;have hW:o.op.vU=none:=by
     cases hp:o.op <;> simp [eQ.vU];exact absurd hp (by intro e; exact Pw _ _ _ _ e)
    have hF1:∀S,cC C fr1.env S (match o.al with | some r=>some (b+r) | none=>none) o.op=cC C fr.env S (match o.al with | some r=>some (b+r) | none=>none) o.op:=fun S=>
     Qo oq nD (fun a sz x hp=>Bq (mr (.g a) (by show a∈o.sl; unfold bg.sl; rw [hp]; split <;> simp [eQ.sl])) (mr (.c a) (by simp [tO,hp,eQ.own])))
    have fY:∀S q,cC C fr.env S (match o.al with | some r=>some (b+r) | none=>none) o.op=some q->oper C b o fr1 S=some ({ fr1 with env:=ij fr1.env o.dst q.1},q.2):=fun S q hq=>by
     rw [← hF1]at hq;exact LD (hw.trans x8) tc qU Pw hq
    have same:∀k,val fr1 { s1 with ro:=s.ro,lk:=s.lk} k=val fr1 s1 k:=fun k=>by cases k <;> rfl
    have swap:o.op.kind=5->∀k,val fr1 s k=val fr1 s1 k:=fun hk k=>by
     cases k with
     | h x=>simp only [val]; rw [zR x (.inr (.inl hk))]
     | hc x c=>simp only [val]; rw [zR x (.inr (.inl hk))]
     | n=>simp only [val]; rw [Qr (.inr (.inr (.inl hk)))]
     | _=>rfl
    have fin:=fun (s2:St)=>Il (b:=b) (o:=o) (fr:=fr) (fr1:=fr1) (s:=s) (s1:=s1) (s2:=s2) (s' :=s0) (d:=d) (df:=fr.defers) (df1:=fr1.defers) nD h0 h1 hW
    have eff:∀wr,(∀x,x∈wr->x∈(cF b fr.env o).2.1)->o.op.kind≠5->V0 (fun S=>cC C fr.env S (match o.al with | some r=>some (b+r) | none=>none) o.op) s { s1 with ro:=s.ro,lk:=s.lk} wr->
      ∃Tz vB s2,((∀k,val fr1 Tz k=val fr1 s1 k)/\(s1=s->Tz =s))/\oper C b o fr1 Tz =some (vB,s2)/\(∀k,kW b o fr s s0 k->val vB s2 k=val { fr with env:=ij fr.env o.dst d} s0 k)/\(∀k, ¬ kW b o fr s s0 k->val vB s2 k=val fr1 s1 k):=by
     intro wr hwr k5 hE;rcases hE d s0 hF with ⟨rfl,e2⟩ | ⟨x,q,hx,rfl,e2⟩
     ·have jr:=fin { s1 with ro:=s0.ro,lk:=s0.lk} (fun x hx=>zR x (hx.elim (fun h=>absurd h k5) (fun h=> .inr (.inr (.inr h))))) (fun _ _ _=>rfl) (fun h=>absurd h k5) (fun h=>absurd h k5) (fun _=>rfl) (fun h=>absurd h k5) (fun _=>rfl);exact⟨_,_,_,⟨same,by rintro rfl; rfl⟩,fY _ _ e2,jr.1,jr.2⟩
     ·have jr:=fin (St.bF { s1 with ro:=s.ro,lk:=s.lk} x q) (fun u hu=>by
        rw [fv,fv];split
        ·rfl
        ·exact zR u (hu.elim (fun h=>absurd h k5) (fun h=> .inr (.inr (.inr h))))) (fun _ u hu=>by
        rw [fv,aK (by rintro rfl; exact hu (hwr u hx))]; rfl) (fun h=>absurd h k5) (fun h=>absurd h k5) (fun _=>rfl) (fun h=>absurd h k5) (fun _=>rfl)
      exact⟨_,_,_,⟨same,by rintro rfl; rfl⟩,fY _ _ e2,jr.1,jr.2⟩
    have V6:=JN (b:=b) x8
    have hwr:∀x,x∈nC fr.env o.op->x∈(cF b fr.env o).2.1:=fun x hx=>by
     rw [V6]; simp only; split
     ·exact eF _ hx
     ·exact hx
    have Z3:gk fr.env o.op=[]->Da (bC fr.env o.op++nC fr.env o.op) s { s1 with ro:=s.ro,lk:=s.lk}:=fun Ta x hx=>by
     simp only [bK]at hx;exact zR x (hx.elim (fun h=> .inr (.inr (.inl ⟨by rw [V6]; exact h,by rw [V6]; exact Ta⟩))) (fun h=> .inr (.inr (.inr (hwr x h)))))
    have aac:o.op.kind≠1->gk fr.env o.op=[]:=fun cE=>by
     cases hp:o.op <;> simp only [gk];rw [hp]at cE; exact absurd rfl cE
    rcases GS (p:=o.op) with hk | hk | hk | hk | hk | hk | hk | hk | ⟨a,x,y,z,hk⟩ | ⟨x,hk⟩
    ·exact eff [] (fun x hx=>by cases hx) (by omega) (Zn (.inl hk))
    ·exact eff [] (fun x hx=>by cases hx) (by omega) (Zn (.inr hk))
    ·by_cases Ta:gk fr.env o.op=[]
     ·exact eff [] (fun x hx=>by cases hx) (by omega) (acf hk (Z3 Ta).app.1)
     ·have ⟨sz,x,ob,c,hp,hx⟩:∃sz x ob c,o.op= .load sz x/\x.ev fr.env=some (.ptr ob c):=by
       cases hp:o.op <;> rw [hp]at Ta <;> first
        | exact absurd rfl Ta
        | (simp only [gk]at Ta
           split at Ta
           ·exact⟨_,_,_,_,rfl,by assumption⟩
           ·exact absurd rfl Ta)
      have mD:ob∈(cF b fr.env o).1:=by rw [V6]; simp only [hp,bC,hx,bC.cW]; simp
      have hE:=NQ (C:=C) (al:=match o.al with | some r=>some (b+r) | none=>none) (wr:=[]) (s:=s) (s2:= { s1 with ro:=s.ro,lk:=s.lk}) (sz:=sz) hx (Ye ob (.inr (.inr (.inl mD)))) (fun k h1 h2=>hrc ob k (.inr (.inr (.inl ⟨mD,.inr ⟨(ob,c,sz.getD 1),by rw [V6]; simp only [hp,gk,hx]; simp,rfl,h1,h2⟩⟩))));exact eff [] (fun x hx=>by cases hx) (by omega) (by rw [hp]; exact hE)
    ·exact eff _ hwr (by omega) (abL hk rfl rfl (Z3 (aac (by omega))))
    ·simp only [l8,D9,hk,aB]at fK;obtain⟨r,Lc⟩:=jo.1 (show o.al.isSome=true by simpa using fK.2);have mD:b+r∈(cF b fr.env o).2.1:=by rw [V6,Lc]; simp
     simp only [Lc]at eff hF fY;exact eff [b+r] (fun x hx=>by simp only [cH]at hx; rw [hx]; exact mD) (by omega) (abV hk rfl (Qr (.inl hk)) (zR _ (.inr (.inr (.inr mD)))))
    ·obtain⟨f,l,hp⟩:=J8 hk;exact eff [] (fun x hx=>by cases hx) (by omega) (by rw [hp]; exact abA VZ (Qr (.inr (.inl hk))) rfl rfl (fun x hx=>zR x (.inl ⟨hk,hx⟩)))
    ·have jr:=fin s0 (fun _ _=>rfl) (fun h=>absurd hk h) (fun _ x=>zR x (.inr (.inl hk))) (fun _=>rfl) (fun h=>absurd hk h) (fun _=>hrD hk) (fun _=>rfl);exact⟨s,_,_,⟨swap hk,fun _=>rfl⟩,fY _ _ hF,jr.1,jr.2⟩
    ·simp only [l8,D9,hk,aB]at fK;obtain⟨r,Lc⟩:=jo.1 (show o.al.isSome=true by simpa using fK.2);have mD:b+r∈(cF b fr.env o).2.1:=by rw [V6,Lc]; simp
     simp only [Lc]at hF fY;have k5:o.op.kind≠5:=by omega
     have Wc:∀x,x∈(b+r)::nC fr.env o.op->x∈(cF b fr.env o).2.1:=fun x hx=>by
      rcases bR.1 hx with rfl | hx
      ·exact mD
      ·exact hwr x hx
     rcases ab4 (C:=C) (e:=fr.env) (s:=s) (s2:= { s1 with ro:=s.ro,lk:=s.lk}) (k:=b+r) hk rfl rfl (Qr (.inr (.inr (.inr hk)))) (Z3 (aac (by omega))) (zR _ (.inr (.inr (.inr mD)))) d s0 hF with ⟨rfl,e2⟩ | ⟨x,q,hx,rfl,e2⟩ | ⟨x,q,x',q',hx,yQ,rfl,e2⟩
     ·have jr:=fin { s1 with ro:=s0.ro,lk:=s0.lk} (fun x hx=>zR x (hx.elim (fun h=>absurd h k5) (fun h=> .inr (.inr (.inr h))))) (fun _ _ _=>rfl) (fun h=>absurd h k5) (fun h=>absurd h k5) (fun _=>rfl) (fun h=>absurd h k5) (fun _=>rfl);exact⟨_,_,_,⟨same,by rintro rfl; rfl⟩,fY _ _ e2,jr.1,jr.2⟩
     ·have jr:=fin (St.bF { s1 with ro:=s.ro,lk:=s.lk} x q) (fun u hu=>by
        rw [fv,fv];split
        ·rfl
        ·exact zR u (hu.elim (fun h=>absurd h k5) (fun h=> .inr (.inr (.inr h))))) (fun _ u hu=>by
        rw [fv,aK (by rintro rfl; exact hu (Wc u hx))]; rfl) (fun h=>absurd h k5) (fun h=>absurd h k5) (fun _=>rfl) (fun h=>absurd h k5) (fun _=>rfl)
      exact⟨_,_,_,⟨same,by rintro rfl; rfl⟩,fY _ _ e2,jr.1,jr.2⟩
     ·have jr:=fin ((St.bF { s1 with ro:=s.ro,lk:=s.lk} x q).bF x' q') (fun u hu=>by
        rw [fv,fv,fv,fv];split
        ·rfl
        ·split
         ·rfl
         ·exact zR u (hu.elim (fun h=>absurd h k5) (fun h=> .inr (.inr (.inr h))))) (fun _ u hu=>by
        rw [fv,aK (by rintro rfl; exact hu (Wc u yQ)),fv,aK (by rintro rfl; exact hu (Wc u hx))]; rfl) (fun h=>absurd h k5) (fun h=>absurd h k5) (fun _=>rfl) (fun h=>absurd h k5) (fun _=>rfl)
      exact⟨_,_,_,⟨same,by rintro rfl; rfl⟩,fY _ _ e2,jr.1,jr.2⟩
    ·exact absurd hk (Pw _ _ _ _)
    ·exact absurd hk (qU _)
   ·cases h
 ·rename_i x8;simp only [aa,ae]at h;obtain⟨rfl,rfl⟩:=h;have g0:=tC (o:=o) nD h0;have p1:∀(e:Env),Env.cY (ij e o.dst (.gK [])) o.dst=false:=fun e=>tr fun _ _=>rfl;refine⟨s1,{ fr1 with env:=ij fr1.env o.dst (.gK [])},s1,⟨fun _=>rfl,id⟩,by unfold oper; rw [hw,x8],fun k hk=> ?_,fun k hk=> ?_⟩
  ·by_cases Yf:∃u,k= .g u
   ·obtain⟨u,rfl⟩:=Yf;simp only [kW]at hk;rw [qp (p1 _) hk,qp (p1 _) hk]
   ·have Yf:∀u,k≠ .g u:=fun u e=>Yf ⟨u,e⟩;rw [pe g0 (p1 _) k (fun u e=>absurd e (Yf u)),pe h0 (p1 _) k (fun u e=>absurd e (Yf u))];exact mr k (It hk Yf)
  ·rw [pe g0 (p1 _) k (by rintro u rfl; exact hk)]
 ·cases h
theorem F8 (h:oper C b o fr s=some (fr',s'))(fK:l8 o=true)(h0:fr.env.cY o.dst=false)(h1:fr'.env.cY o.dst=false)(VZ:D2 C b hi){k:Key}(hk: ¬ kW b o fr s s' k):val fr' s' k=val fr s k:=by
 obtain⟨Tz,vB,s2,⟨_,g1⟩,g2,_,g4⟩:=DK (fr1:=fr) (s1:=s) h fK h0 h1 (fun _ _=>rfl) (fun _=>rfl) VZ;rw [g1 rfl,h]at g2;simp only [aa,ae]at g2;obtain⟨rfl,rfl⟩:=g2;exact g4 k hk
end
end Go.Ab
