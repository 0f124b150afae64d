/- Part. -/
import Derived.Test.YtdkejjahldkkoaaGreatDoorG15
import Derived.Orders
set_option linter.unusedSectionVars false
set_option linter.unusedSimpArgs false
set_option linter.unusedVariables false
namespace Go.Ab
open Go
variable [eW]
inductive Key where
 | g (t:Nat) | c (t:Nat) | h (o:Nat) | hc (o c:Nat) | n | d
inductive Vl where
 | D (d:Option D) | O (o:Option Obj) | N (n:Nat) | L (l:List (D×List D))
def blank:Option D->Option D
 | some (.lv _)=>some (.lv .cT)
 | r=>r
def cont:Option D->Option D
 | some (.lv x)=>some x
 | _=>none
def rn (v:D):D:=match v with
 | .agg cs=> .agg (List.replicate cs.length .cT)
 | _=> .cT
def ka:Option Obj->Option Obj
 | some (.var t v)=>some (.var t (rn v))
 | x=>x
def jq:Option Obj->Nat->Option D
 | some (.var _ v),c=>v.flat[c]?
 | _,_=>none
theorem Eg {a:Option Obj}{t:Nat}{v:D}(h:ka a=some (.var t v)):∃u,a=some (.var t u)/\rn u=v:=by
 unfold ka at h;split at h
 ·simp only [aa,Obj.var.injEq]at h;obtain⟨rfl,h⟩:=h;exact⟨_,rfl,h⟩
 ·rename_i hn;subst h;exact absurd rfl (hn t v)
theorem Ap (u:D):(rn u).flat.length=u.flat.length:=by
 cases u <;> simp [rn,D.flat]
theorem Ow {u v:D}(h:rn u=rn v):u.flat.length=v.flat.length:=by rw [← Ap u,← Ap v,h]
theorem FR {u v:D}(h:rn u=rn v)(hc:∀c:Nat,u.flat[c]? =v.flat[c]?):u=v:=by
 have hl:u.flat=v.flat:=ki hc;cases u <;> cases v <;> simp_all [rn,D.flat]
theorem Pq {a b:Option Obj}(h:ka a=ka b)(hc:∀c,jq a c=jq b c):a=b:=by
 cases b with
 | none=>
  cases a with
  | none=>rfl
  | some x=>cases x <;> simp [ka]at h
 | some y=>
  cases y with
  | var t v=>
   simp only [ka]at h;obtain⟨u,rfl,hu⟩:=Eg h;simp only [jq]at hc;rw [FR hu hc]
  | arr z t l k=>cases a with
   | none=>simp [ka]at h
   | some x=>cases x <;> simp_all [ka]
  | map l c=>cases a with
   | none=>simp [ka]at h
   | some x=>cases x <;> simp_all [ka]
  | lz l c=>cases a with
   | none=>simp [ka]at h
   | some x=>cases x <;> simp_all [ka]
  | loop l c=>cases a with
   | none=>simp [ka]at h
   | some x=>cases x <;> simp_all [ka]
  | dead=>cases a with
   | none=>simp [ka]at h
   | some x=>cases x <;> simp_all [ka]
def Q0 (rg:List (Nat×Nat×Nat))(x c:Nat):Prop:=rg=[]\/∃r∈rg,r.1=x/\r.2.1<=c/\c < r.2.1+r.2.2
def val (fr:Fr)(s:St):Key->Vl
 | .g t=> .D (blank (fr.env.get t))
 | .c t=> .D (cont (fr.env.get t))
 | .h o=> .O (ka (s.get o))
 | .hc o c=> .D (jq (s.get o) c)
 | .n=> .N s.n
 | .d=> .L fr.defers
theorem DQ {a b:Option D}(h:blank a=blank b):SS a b:=by
 unfold blank at h;split at h <;> split at h
 ·exact .inr ⟨_,_,rfl,rfl⟩
 ·subst h; exact .inr ⟨_,_,rfl,rfl⟩
 ·subst h; exact .inr ⟨_,_,rfl,rfl⟩
 ·exact .inl h
theorem Hb {a b:Option D}(h:blank a=blank b)(hc:cont a=cont b):a=b:=by
 rcases DQ h with h | ⟨x,y,rfl,rfl⟩
 ·exact h
 ·simp only [cont,aa]at hc; rw [hc]
def u9:Option D->Bool
 | some (.lv _)=>true
 | _=>false
theorem qT (e:Env)(t:Nat):e.kG t=u9 (e.get t):=by
 unfold Env.kG u9; rfl
theorem NC {a b:Option D}(h:SS a b):u9 a=u9 b:=by
 rcases h with h | ⟨x,y,rfl,rfl⟩
 ·rw [h]
 ·rfl
theorem LX {a:Option D}(h:u9 a=false):blank a=a:=by
 unfold blank; split
 ·cases h
 ·rfl
theorem ID {a:Option D}(h:u9 a=false):cont a=none:=by
 unfold cont; split
 ·cases h
 ·rfl
section
variable {fr fr' fr1 vo:Fr}{s s' s1 s2:St}{C:au}{b hi:Nat}{o:bj}
theorem B5 {t:Nat}(hg:val fr s (.g t)=val fr1 s1 (.g t))(hc:val fr s (.c t)=val fr1 s1 (.c t)):fr.env.get t=fr1.env.get t:=by
 simp only [val,Vl.D.injEq]at hg hc;exact Hb hg hc
theorem F7 {t:Nat}(hg:val fr s (.g t)=val fr1 s1 (.g t)):SS (fr.env.get t) (fr1.env.get t):=by
 simp only [val,Vl.D.injEq]at hg;exact DQ hg
theorem Inv.vZ {ρ0:Gh}{w0 w:World}{nt:Nat}{a:Act}(h:∀k,val fr s k=val fr1 s1 k)(hI:Inv ρ0 w0 nt fr s a w):Inv ρ0 w0 nt fr1 s1 a w:=by
 have he:∀t,fr.env.get t=fr1.env.get t:=fun t=>B5 (h (.g t)) (h (.c t));have ho:∀o,s.get o=s1.get o:=fun o=>Pq (by have:=h (.h o); simpa only [val,Vl.O.injEq] using this) (fun c=>by have:=h (.hc o c); simpa only [val,Vl.D.injEq] using this);have hn:s.n=s1.n:=by have:=h .n; simpa only [val,Vl.N.injEq] using this
 have hd:fr.defers=fr1.defers:=by have:=h .d; simpa only [val,Vl.L.injEq] using this
 obtain⟨ρ,h1,h2,h3⟩:=hI;refine⟨ρ,h1,⟨⟨fun t d hd=> ?_,fun t t' x x' b cC g1 g2=>h2.env.inj t t' x x' b cC (by rw [he]; exact g1) (by rw [he]; exact g2)⟩,h2.size,hd ▸ h2.defers⟩,⟨fun o x hx=> ?_,fun o x hx=>h3.ok o x (by rw [ho]; exact hx),fun o hx=>h3.no o (by rw [ho]; exact hx),h3.live,h3.size⟩⟩
 ·have:=h2.env.slot t d (by rw [he]; exact hd);cases d with
  | iI k c=>simp only [ej]at *; exact fun x hx=>this x (by rw [he]; exact hx)
  | _=>exact this
 ·rw [← hn]; exact h3.lt o x (by rw [ho]; exact hx)
def eN.vI:eN->Option Nat
 | .iY a _ _ _=>some a
 | _=>none
def tT (b hi:Nat)(o:bj)(fr:Fr):Key->Prop
 | .g t=>t∈o.sl
 | .c t=>o.op.own=some t
 | .h x=>(o.op.kind=4/\(x < b\/hi<=x))\/o.op.kind=5\/x∈(cE b fr.env o).1\/x∈(cE b fr.env o).2.1
 | .hc x c=>(o.op.kind=4/\(x < b\/hi<=x))\/o.op.kind=5\/(x∈(cE b fr.env o).1/\Q0 (cE b fr.env o).2.2 x c)\/x∈(cE b fr.env o).2.1
 | .n=>o.op.kind=3\/o.op.kind=4\/o.op.kind=5\/o.op.kind=9
 | .d=>o.op.kind=5
def kU (b:Nat)(o:bj)(fr:Fr) (s s' :St):Key->Prop
 | .g t=>o.dst=some t
 | .c t=>o.op.vI=some t
 | .h x=>(o.op.kind=5/\ka (s'.get x)≠ka (s.get x))\/x∈(cE b fr.env o).2.1
 | .hc x c=>(o.op.kind=5/\jq (s'.get x) c≠jq (s.get x) c)\/x∈(cE b fr.env o).2.1
 | .n=>o.op.kind=5
 | .d=>o.op.kind=5
theorem HV {k:Key}(h:kU b o fr s s' k)(hg:∀t,k≠ .g t):tT b hi o fr k:=by
 cases k with
 | g t=>exact absurd rfl (hg t)
 | c t=>
  simp only [kU,tT]at *;cases ho:o.op <;> simp [ho,eN.vI,eN.own]at h ⊢;exact h
 | h x=>simp only [kU,tT]at *; rcases h with h | h; exact .inr (.inl h.1); exact .inr (.inr (.inr h))
 | hc x c=>simp only [kU,tT]at *; rcases h with h | h; exact .inr (.inl h.1); exact .inr (.inr (.inr h))
 | n=>simp only [kU,tT]at *; exact .inr (.inr (.inl h))
 | d=>exact h
theorem vH {e:Env}{dst:Option Nat}{d:D}{t:Nat}(h:(iu e dst d).cX dst=false)(ht:dst=some t):u9 (some d)=false:=by
 subst ht;simp only [Env.cX,iu,qT,dB,ep]at h;exact h
theorem qq {e:Env}{df:List (D×List D)}{dst:Option Nat}{d:D}{u:Nat}(h1:(iu e dst d).cX dst=false)(hu:dst=some u):val { env:=iu e dst d,defers:=df} s (.g u)= .D (some d):=by
 subst hu;have hd:=vH h1 rfl;simp only [val,iu,dB,ep,LX hd]
theorem oS {e:Env}{df:List (D×List D)}{dst:Option Nat}{d:D}(h0:e.cX dst=false)(h1:(iu e dst d).cX dst=false)(k:Key)(hk:∀u,k= .g u->dst≠some u):
  val { env:=iu e dst d,defers:=df} s k=val { env:=e,defers:=df} s k:=by
 cases dst with
 | none=>rfl
 | some t=>
  have hd:=vH h1 rfl;simp only [Env.cX,qT]at h0;cases k with
  | g u=>
   have:=hk u rfl;simp only [ne_eq,aa]at this;simp only [val,iu,dB,aJ this]
  | c u=>
   simp only [val,iu,dB];split
   ·rename_i e; subst e;rw [ID hd,ID h0]
   ·rfl
  | _=>rfl
theorem tD (na:∀t,fr1.env.kG t=fr.env.kG t)(h:fr.env.cX o.dst=false):fr1.env.cX o.dst=false:=by
 cases hd:o.dst with
 | none=>rfl
 | some t=>simp only [hd,Env.cX]at h ⊢; rw [na]; exact h
theorem tE {e:Env}{dst:Option Nat}{d:D}(h:∀t,dst=some t->u9 (some d)=false):(iu e dst d).cX dst=false:=by
 cases dst with
 | none=>rfl
 | some t=>simp only [Env.cX,iu,qT,dB,ep]; exact h t rfl
theorem H7 {d:D}{df df1:List (D×List D)}(na:∀t,fr1.env.kG t=fr.env.kG t)(h0:fr.env.cX o.dst=false)(h1:(iu fr.env o.dst d).cX o.dst=false)(hW:o.op.vI=none)
  (hs:∀x,o.op.kind=5\/x∈(cE b fr.env o).2.1->s2.get x=s'.get x) (gY :o.op.kind≠5->∀x,x ∉ (cE b fr.env o).2.1->s2.get x=s1.get x)(hs5:o.op.kind=5->∀x,s1.get x=s.get x)
  (hn:o.op.kind=5->s2.n=s'.n) (Fu :o.op.kind≠5->s2.n=s1.n)(hd:o.op.kind=5->df1=df) (A1 :o.op.kind≠5->df1=fr1.defers):
  (∀k,kU b o fr s s' k->val { env:=iu fr1.env o.dst d,defers:=df1} s2 k=val { env:=iu fr.env o.dst d,defers:=df} s' k)/\
  (∀k, ¬ kU b o fr s s' k->val { env:=iu fr1.env o.dst d,defers:=df1} s2 k=val fr1 s1 k):=by
 have g0:=tD (o:=o) na h0;have g1:(iu fr1.env o.dst d).cX o.dst=false:=tE fun t ht=>vH h1 ht;refine⟨fun k hk=> ?_,fun k hk=> ?_⟩
 ·cases k with
  | g u=>simp only [kU]at hk; rw [qq g1 hk,qq h1 hk]
  | c u=>simp only [kU,hW]at hk; cases hk
  | h x=>simp only [kU]at hk; simp only [val,hs x (hk.imp pk id)]
  | hc x c=>simp only [kU]at hk; simp only [val,hs x (hk.imp pk id)]
  | n=>simp only [kU]at hk; simp only [val,hn hk]
  | d=>simp only [kU]at hk; simp only [val,hd hk]
 ·rw [oS g0 g1 k (by rintro u rfl; exact hk)];cases k with
  | g u=>rfl
  | c u=>rfl
  | h x=>
   simp only [kU,kH,not_and,Classical.not_not]at hk;by_cases h5:o.op.kind=5
   ·simp only [val,hs x (.inl h5),hk.1 h5,hs5 h5 x]
   ·simp only [val,gY h5 x hk.2]
  | hc x c=>
   simp only [kU,kH,not_and,Classical.not_not]at hk;by_cases h5:o.op.kind=5
   ·simp only [val,hs x (.inl h5),hk.1 h5,hs5 h5 x]
   ·simp only [val,gY h5 x hk.2]
  | n=>simp only [kU]at hk; simp only [val,Fu hk]
  | d=>simp only [kU]at hk; simp only [val,A1 hk]
theorem C3 {g:Option (Nat×Bool)}{e e1:Env}(h:∀t q,g=some (t,q)->SS (e.get t) (e1.get t)):aI e g=aI e1 g:=by
 cases g with
 | none=>rfl
 | some p=>
  obtain⟨t,q⟩:=p;simp only [aI];rcases h t q rfl with h | ⟨x,y,h1,h2⟩
  ·rw [h]
  ·rw [h1,h2]
theorem fu {x:Nat}{q:Obj}(u:Nat):(s.bD x q).get u=if u=x then some q else s.get u:=T.pI _ _ _ _
theorem Gy {p:eN}:p.kind=0\/p.kind=6\/p.kind=1\/p.kind=2\/p.kind=3\/p.kind=4\/p.kind=5\/p.kind=9\/(∃a x y z,p= .iY a x y z)\/∃x,p= .nC x:=by
 cases p <;> first
  | (simp [eN.kind]; done)
  | (rename_i ro _ _; cases ro <;> simp [eN.kind]; done)
theorem JA {p:eN}(h:p.kind=4):∃f l,p= .call true f l:=by
 cases p <;> first
  | (exfalso; revert h; simp [eN.kind]; done)
  | (rename_i ro _ _; cases ro <;> revert h <;> simp [eN.kind]; done)
theorem Jm (h:aI fr.env o.guard=some true):cE b fr.env o=(bz fr.env o.op,(match o.al with | some r=>(b+r)::nj fr.env o.op | none=>nj fr.env o.op),fZ fr.env o.op):=by
 simp only [cE,h];rfl
theorem Oh {q:D×St}(hw:aI fr.env o.guard=some true)(tK:∀f l,o.op≠ .defer f l)(qW:∀x,o.op≠ .nC x)(PS:∀a z x v,o.op≠ .iY a z x v)
  (h:cB C fr.env s (match o.al with | some r=>some (b+r) | none=>none) o.op=some q):oper C b o fr s=some ({ fr with env:=iu fr.env o.dst q.1},q.2):=by
 unfold oper;rw [hw]
 cases hp:o.op <;> first
  | exact absurd hp (tK _ _)
  | exact absurd hp (qW _)
  | exact absurd hp (PS _ _ _ _)
  | (rw [hp]at h; simp only; cases Lj:o.al <;> simp only [Lj]at h <;> simp only [h])
theorem GX {l m:List D}{c:Nat}{sz:Option Nat}(hl:l.length=m.length)(hc:∀k,c<=k->k < c+(sz.getD 1)->l[k]? =m[k]?):part l c sz=part m c sz:=by
 cases sz with
 | none=>simp only [part]; exact hc c (an _) (by simp)
 | some n=>
  simp only [part,hl];split
  ·have:(l.drop c).take n=(m.drop c).take n:=by
    apply ki;intro k;rw [de,de];split
    ·rw [cW,cW]; exact hc _ (by omega) (by simp only [eQ]; omega)
    ·rfl
   rw [this]
  ·rfl
theorem MC {e:Env}{sz:Option Nat}{x:bP}{ob c:Nat}{al:Option Nat}{wr:List Nat}(hx:x.ev e=some (.ptr ob c))(hk:ka (s2.get ob)=ka (s.get ob))(hc:∀k,c<=k->k < c+(sz.getD 1)->jq (s2.get ob) k=jq (s.get ob) k):
  VQ (fun S=>cB C e S al (.load sz x)) s s2 wr:=by
 have Lf:iR s2 sz (.ptr ob c)=iR s sz (.ptr ob c):=by
  simp only [iR];cases hs:s.get ob with
  | none=>
   rw [hs]at hk;have:s2.get ob=none:=by
    cases h2:s2.get ob with
    | none=>rfl
    | some y=>rw [h2]at hk; cases y <;> simp [ka]at hk
   rw [this]
  | some y=>
   rw [hs]at hk hc;cases y with
   | var t v=>
    simp only [ka]at hk;obtain⟨u,h2,hu⟩:=Eg hk;rw [h2]at hc ⊢;simp only [jq]at hc;exact GX (Ow hu) hc
   | _=>
    cases h2:s2.get ob with
    | none=>rfl
    | some y2=>rw [h2]at hk; cases y2 <;> simp_all [ka]
 intro d s' h;simp only [cB,hx]at h ⊢;refine .inl ?_;rw [Lf];exact sM h
theorem ab6 {e:Env}{al:Option Nat}{f:Nat}{l:List bP}{wr:List Nat}(hC:Ew C b hi)(hn:s2.n=s.n)(hl:s2.lk=s.lk)(hr:s2.ro=s.ro)(hg:∀o,o < b\/hi<=o->s2.get o=s.get o):VQ (fun S=>cB C e S al (.call true f l)) s s2 wr:=by
 intro d s' h;simp only [cB]at h ⊢;split at h
 ·split at h
  ·rename_i h1;simp only [aa,ab]at h;obtain⟨rfl,rfl⟩:=h;have k:=hC _ _ { s with ro:=true} { s2 with ro:=true} _ _ rfl rfl hn hl hg h1;exact .inl ⟨rfl,by simp only [k]⟩
  ·cases h
 ·cases h
theorem CZ (h:oper C b o fr s=some (fr',s'))(fK:lZ o=true)(h0:fr.env.cX o.dst=false)(h1:fr'.env.cX o.dst=false)(ml:∀k,tT b hi o fr k->val fr1 s1 k=val fr s k)(na:∀t,fr1.env.kG t=fr.env.kG t)(Xp:Ew C b hi):
  ∃S9 vo s2,((∀k,val fr1 S9 k=val fr1 s1 k)/\(s1=s->S9 =s))/\oper C b o fr1 S9 =some (vo,s2)/\(∀k,kU b o fr s s' k->val vo s2 k=val fr' s' k)/\(∀k, ¬ kU b o fr s s' k->val vo s2 k=val fr1 s1 k):=by
 have tg:∀t∈o.sl,SS (fr1.env.get t) (fr.env.get t):=fun t ht=>F7 (ml (.g t) ht)
 have om:∀t∈o.op.sl,SS (fr1.env.get t) (fr.env.get t):=fun t ht=>tg t (by
  unfold bj.sl; split
  ·exact eE _ ht
  ·exact ht)
 have hw:aI fr1.env o.guard=aI fr.env o.guard:=C3 fun t q hg=>tg t (by unfold bj.sl; rw [hg]; simp);have X4:∀x,tT b hi o fr (.h x)->ka (s1.get x)=ka (s.get x):=fun x hx=>by have:=ml _ hx; simpa only [val,Vl.O.injEq] using this
 have hrc:∀x c,tT b hi o fr (.hc x c)->jq (s1.get x) c=jq (s.get x) c:=fun x c hx=>by have:=ml _ hx; simpa only [val,Vl.D.injEq] using this
 have zF:∀x,(o.op.kind=4/\(x < b\/hi<=x))\/o.op.kind=5\/(x∈(cE b fr.env o).1/\(cE b fr.env o).2.2=[])\/x∈(cE b fr.env o).2.1->s1.get x=s.get x:=fun x hx=>Pq (X4 x (by
  rcases hx with h | h | h | h
  ·exact .inl h
  ·exact .inr (.inl h)
  ·exact .inr (.inr (.inl h.1))
  ·exact .inr (.inr (.inr h)))) (fun c=>hrc x c (by
  rcases hx with h | h | h | h
  ·exact .inl h
  ·exact .inr (.inl h)
  ·exact .inr (.inr (.inl ⟨h.1,.inl h.2⟩))
  ·exact .inr (.inr (.inr h))))
 have Rk:tT b hi o fr .n->s1.n=s.n:=fun hx=>by have:=ml _ hx; simpa only [val,Vl.N.injEq] using this
 have hrD:tT b hi o fr .d->fr1.defers=fr.defers:=fun hx=>by have:=ml _ hx; simpa only [val,Vl.L.injEq] using this
 have lE:∀t,o.op.own=some t->t∈o.op.sl:=fun t ht=>by
  cases hp:o.op <;> simp [hp,eN.own]at ht <;> simp [eN.sl,ht]
 unfold oper at h;split at h
 ·rename_i yv;split at h
  ·
   rename_i f args hp;split at h
   ·rename_i g x y l hf hl;simp only [aa,ab]at h;obtain⟨rfl,rfl⟩:=h;have k5:o.op.kind=5:=by rw [hp]; rfl
    have hf1:f.ev fr1.env=some (.fn g x y):=by rw [fG (e' :=fr.env)]; exact hf; intro t ht; exact om t (by rw [hp]; simp [eN.sl,ht])
    have sv:sK fr1.env args=some l:=by rw [lD (e' :=fr.env)]; exact hl; intro t ht; exact om t (by rw [hp]; simp [eN.sl,ht])
    have jr:=H7 (b:=b) (o:=o) (fr:=fr) (fr1:=fr1) (s:=s) (s1:=s1) (s2:=s1) (s' :=s) (d:= .gJ []) (df:=(.fn g x y,l)::fr.defers) (df1:=(.fn g x y,l)::fr1.defers) na h0 h1 (by rw [hp]; rfl)
     (fun x _=>zF x (.inr (.inl k5))) (fun h=>absurd k5 h) (fun _ x=>zF x (.inr (.inl k5))) (fun _=>Rk (.inr (.inr (.inl k5)))) (fun h=>absurd k5 h) (fun _=>by rw [hrD k5]) (fun h=>absurd k5 h)
    refine⟨s1,_,s1,⟨fun _=>rfl,id⟩, ?_,jr.1,jr.2⟩;unfold oper;rw [hw,yv];simp only [hp,hf1,sv]
   ·cases h
  ·
   rename_i x hp;simp [lZ,hp]at fK
  ·
   rename_i a sz x v hp;split at h
   ·rename_i a' c d hx hv;split at h
    ·rename_i w hb hga hlen;split at h
     ·rename_i w' GW;obtain rfl:=aF hb;simp only [aa,ab]at h;obtain⟨rfl,rfl⟩:=h;have vG:x.zb fr1.env=some (.iI a c):=by rw [lA (e' :=fr.env)]; exact hx; intro t ht; exact om t (by rw [hp]; simp [eN.sl,ht])
      have qw:v.ev fr1.env=some d:=by rw [fG (e' :=fr.env)]; exact hv; intro t ht; exact om t (by rw [hp]; simp [eN.sl,ht])
      have YW:fr1.env.get a=some (.lv w):=by
       rw [← hga]
       exact B5 (ml (.g a) (by
        show a∈o.sl;unfold bj.sl; rw [hp]; split <;> simp [eN.sl])) (ml (.c a) (by simp [tT,hp,eN.own]))
      have hda:o.dst≠some a:=by
       intro e; rw [e]at h0; simp [Env.cX,qT,hga,u9]at h0
      have g0:=tD (o:=o) na h0
      have p0:∀(e:Env),e.cX o.dst=false->Env.cX ((a,D.lv w')::e) o.dst=false:=fun e he=>by
       cases hd:o.dst with
       | none=>rfl
       | some t=>
        rw [hd]at hda he;have:a≠t:=fun e=>hda (by rw [e]);simp only [Env.cX,qT,dB,aJ this]at he ⊢; exact he
      have p1:∀(e:Env),Env.cX (iu e o.dst (.gJ [])) o.dst=false:=fun e=>tE fun _ _=>rfl;refine⟨s1,{ fr1 with env:=iu ((a,.lv w')::fr1.env) o.dst (.gJ [])},s1,⟨fun _=>rfl,id⟩, ?_, ?_, ?_⟩
      ·unfold oper;rw [hw,yv];have kL:Nat.beq a a=true:=az a;simp only [hp,vG,qw,kL,YW,hlen,GW]
      ·intro k hk;cases k with
       | g u=>simp only [kU]at hk; rw [qq (p1 _) hk,qq (p1 _) hk]
       | c u=>
        simp only [kU,hp,eN.vI,aa]at hk;subst hk;rw [oS (p0 _ g0) (p1 _) _ (by intro u hu; cases hu),oS (p0 _ h0) (p1 _) _ (by intro u hu; cases hu)];simp only [val,dB,ep,cont]
       | h x=>
        simp only [kU]at hk;have:=zF x (hk.elim (fun h=> .inr (.inl h.1)) (fun h=> .inr (.inr (.inr h))));simp only [val,this]
       | hc x c=>
        simp only [kU]at hk;have:=zF x (hk.elim (fun h=> .inr (.inl h.1)) (fun h=> .inr (.inr (.inr h))));simp only [val,this]
       | n=>simp only [kU,hp,eN.kind]at hk; cases hk
       | d=>simp only [kU,hp,eN.kind]at hk; cases hk
      ·intro k hk;rw [oS (p0 _ g0) (p1 _) k (by rintro u rfl; exact hk)];cases k with
       | g u=>
        simp only [val,dB];split
        ·rename_i e; subst e; rw [YW]; rfl
        ·rfl
       | c u=>
        simp only [kU,hp,eN.vI,aa]at hk;simp only [val,dB,aJ hk]
       | _=>rfl
     ·cases h
    ·cases h
   ·cases h
  ·
   rename_i tK qW PS;split at h
   ·rename_i d s0 hF;simp only [aa,ab]at h;obtain⟨rfl,rfl⟩:=h;have hW:o.op.vI=none:=by
     cases hp:o.op <;> simp [eN.vI];exact absurd hp (by intro e; exact PS _ _ _ _ e)
    have hF1:∀S,cB C fr1.env S (match o.al with | some r=>some (b+r) | none=>none) o.op=cB C fr.env S (match o.al with | some r=>some (b+r) | none=>none) o.op:=fun S=>
     Ql om na (fun a sz x hp=>B5 (ml (.g a) (by show a∈o.sl; unfold bj.sl; rw [hp]; split <;> simp [eN.sl])) (ml (.c a) (by simp [tT,hp,eN.own])))
    have fW:∀S q,cB C fr.env S (match o.al with | some r=>some (b+r) | none=>none) o.op=some q->oper C b o fr1 S=some ({ fr1 with env:=iu fr1.env o.dst q.1},q.2):=fun S q hq=>by
     rw [← hF1]at hq;exact Oh (hw.trans yv) tK qW PS hq
    have same:∀k,val fr1 { s1 with ro:=s.ro,lk:=s.lk} k=val fr1 s1 k:=fun k=>by cases k <;> rfl
    have swap:o.op.kind=5->∀k,val fr1 s k=val fr1 s1 k:=fun hk k=>by
     cases k with
     | h x=>simp only [val]; rw [zF x (.inr (.inl hk))]
     | hc x c=>simp only [val]; rw [zF x (.inr (.inl hk))]
     | n=>simp only [val]; rw [Rk (.inr (.inr (.inl hk)))]
     | _=>rfl
    have fin:=fun (s2:St)=>H7 (b:=b) (o:=o) (fr:=fr) (fr1:=fr1) (s:=s) (s1:=s1) (s2:=s2) (s' :=s0) (d:=d) (df:=fr.defers) (df1:=fr1.defers) na h0 h1 hW
    have eff:∀wr,(∀x,x∈wr->x∈(cE b fr.env o).2.1)->o.op.kind≠5->VQ (fun S=>cB C fr.env S (match o.al with | some r=>some (b+r) | none=>none) o.op) s { s1 with ro:=s.ro,lk:=s.lk} wr->
      ∃S9 vo s2,((∀k,val fr1 S9 k=val fr1 s1 k)/\(s1=s->S9 =s))/\oper C b o fr1 S9 =some (vo,s2)/\(∀k,kU b o fr s s0 k->val vo s2 k=val { fr with env:=iu fr.env o.dst d} s0 k)/\(∀k, ¬ kU b o fr s s0 k->val vo s2 k=val fr1 s1 k):=by
     intro wr hwr k5 hE;rcases hE d s0 hF with ⟨rfl,e2⟩ | ⟨x,q,hx,rfl,e2⟩
     ·have jr:=fin { s1 with ro:=s0.ro,lk:=s0.lk} (fun x hx=>zF x (hx.elim (fun h=>absurd h k5) (fun h=> .inr (.inr (.inr h))))) (fun _ _ _=>rfl) (fun h=>absurd h k5) (fun h=>absurd h k5) (fun _=>rfl) (fun h=>absurd h k5) (fun _=>rfl);exact⟨_,_,_,⟨same,by rintro rfl; rfl⟩,fW _ _ e2,jr.1,jr.2⟩
     ·have jr:=fin (St.bD { s1 with ro:=s.ro,lk:=s.lk} x q) (fun u hu=>by
        rw [fu,fu];split
        ·rfl
        ·exact zF u (hu.elim (fun h=>absurd h k5) (fun h=> .inr (.inr (.inr h))))) (fun _ u hu=>by
        rw [fu,aJ (by rintro rfl; exact hu (hwr u hx))]; rfl) (fun h=>absurd h k5) (fun h=>absurd h k5) (fun _=>rfl) (fun h=>absurd h k5) (fun _=>rfl)
      exact⟨_,_,_,⟨same,by rintro rfl; rfl⟩,fW _ _ e2,jr.1,jr.2⟩
    have Wy:=Jm (b:=b) yv
    have hwr:∀x,x∈nj fr.env o.op->x∈(cE b fr.env o).2.1:=fun x hx=>by
     rw [Wy]; simp only; split
     ·exact eE _ hx
     ·exact hx
    have hag:fZ fr.env o.op=[]->Dq (bz fr.env o.op++nj fr.env o.op) s { s1 with ro:=s.ro,lk:=s.lk}:=fun Ti x hx=>by
     simp only [bK]at hx;exact zF x (hx.elim (fun h=> .inr (.inr (.inl ⟨by rw [Wy]; exact h,by rw [Wy]; exact Ti⟩))) (fun h=> .inr (.inr (.inr (hwr x h)))))
    have ZP:o.op.kind≠1->fZ fr.env o.op=[]:=fun cC=>by
     cases hp:o.op <;> simp only [fZ];rw [hp]at cC; exact absurd rfl cC
    rcases Gy (p:=o.op) with hk | hk | hk | hk | hk | hk | hk | hk | ⟨a,x,y,z,hk⟩ | ⟨x,hk⟩
    ·exact eff [] (fun x hx=>by cases hx) (by omega) (YL (.inl hk))
    ·exact eff [] (fun x hx=>by cases hx) (by omega) (YL (.inr hk))
    ·by_cases Ti:fZ fr.env o.op=[]
     ·exact eff [] (fun x hx=>by cases hx) (by omega) (abV hk (hag Ti).app.1)
     ·have ⟨sz,x,ob,c,hp,hx⟩:∃sz x ob c,o.op= .load sz x/\x.ev fr.env=some (.ptr ob c):=by
       cases hp:o.op <;> rw [hp]at Ti <;> first
        | exact absurd rfl Ti
        | (simp only [fZ]at Ti
           split at Ti
           ·exact⟨_,_,_,_,rfl,by assumption⟩
           ·exact absurd rfl Ti)
      have mr:ob∈(cE b fr.env o).1:=by rw [Wy]; simp only [hp,bz,hx,bz.cV]; simp
      have hE:=MC (C:=C) (al:=match o.al with | some r=>some (b+r) | none=>none) (wr:=[]) (s:=s) (s2:= { s1 with ro:=s.ro,lk:=s.lk}) (sz:=sz) hx (X4 ob (.inr (.inr (.inl mr)))) (fun k h1 h2=>hrc ob k (.inr (.inr (.inl ⟨mr,.inr ⟨(ob,c,sz.getD 1),by rw [Wy]; simp only [hp,fZ,hx]; simp,rfl,h1,h2⟩⟩))));exact eff [] (fun x hx=>by cases hx) (by omega) (by rw [hp]; exact hE)
    ·exact eff _ hwr (by omega) (abQ hk rfl rfl (hag (ZP (by omega))))
    ·simp only [lZ,DT,hk,aA]at fK;obtain⟨r,Lj⟩:=jo.1 (show o.al.isSome=true by simpa using fK.2);have mr:b+r∈(cE b fr.env o).2.1:=by rw [Wy,Lj]; simp
     simp only [Lj]at eff hF fW;exact eff [b+r] (fun x hx=>by simp only [cG]at hx; rw [hx]; exact mr) (by omega) (acw hk rfl (Rk (.inl hk)) (zF _ (.inr (.inr (.inr mr)))))
    ·obtain⟨f,l,hp⟩:=JA hk;exact eff [] (fun x hx=>by cases hx) (by omega) (by rw [hp]; exact ab6 Xp (Rk (.inr (.inl hk))) rfl rfl (fun x hx=>zF x (.inl ⟨hk,hx⟩)))
    ·have jr:=fin s0 (fun _ _=>rfl) (fun h=>absurd hk h) (fun _ x=>zF x (.inr (.inl hk))) (fun _=>rfl) (fun h=>absurd hk h) (fun _=>hrD hk) (fun _=>rfl);exact⟨s,_,_,⟨swap hk,fun _=>rfl⟩,fW _ _ hF,jr.1,jr.2⟩
    ·simp only [lZ,DT,hk,aA]at fK;obtain⟨r,Lj⟩:=jo.1 (show o.al.isSome=true by simpa using fK.2);have mr:b+r∈(cE b fr.env o).2.1:=by rw [Wy,Lj]; simp
     simp only [Lj]at hF fW;have k5:o.op.kind≠5:=by omega
     have VL:∀x,x∈(b+r)::nj fr.env o.op->x∈(cE b fr.env o).2.1:=fun x hx=>by
      rcases bS.1 hx with rfl | hx
      ·exact mr
      ·exact hwr x hx
     rcases ab2 (C:=C) (e:=fr.env) (s:=s) (s2:= { s1 with ro:=s.ro,lk:=s.lk}) (k:=b+r) hk rfl rfl (Rk (.inr (.inr (.inr hk)))) (hag (ZP (by omega))) (zF _ (.inr (.inr (.inr mr)))) d s0 hF with ⟨rfl,e2⟩ | ⟨x,q,hx,rfl,e2⟩ | ⟨x,q,x',q',hx,yb,rfl,e2⟩
     ·have jr:=fin { s1 with ro:=s0.ro,lk:=s0.lk} (fun x hx=>zF x (hx.elim (fun h=>absurd h k5) (fun h=> .inr (.inr (.inr h))))) (fun _ _ _=>rfl) (fun h=>absurd h k5) (fun h=>absurd h k5) (fun _=>rfl) (fun h=>absurd h k5) (fun _=>rfl);exact⟨_,_,_,⟨same,by rintro rfl; rfl⟩,fW _ _ e2,jr.1,jr.2⟩
     ·have jr:=fin (St.bD { s1 with ro:=s.ro,lk:=s.lk} x q) (fun u hu=>by
        rw [fu,fu];split
        ·rfl
        ·exact zF u (hu.elim (fun h=>absurd h k5) (fun h=> .inr (.inr (.inr h))))) (fun _ u hu=>by
        rw [fu,aJ (by rintro rfl; exact hu (VL u hx))]; rfl) (fun h=>absurd h k5) (fun h=>absurd h k5) (fun _=>rfl) (fun h=>absurd h k5) (fun _=>rfl)
      exact⟨_,_,_,⟨same,by rintro rfl; rfl⟩,fW _ _ e2,jr.1,jr.2⟩
     ·have jr:=fin ((St.bD { s1 with ro:=s.ro,lk:=s.lk} x q).bD x' q') (fun u hu=>by
        rw [fu,fu,fu,fu];split
        ·rfl
        ·split
         ·rfl
         ·exact zF u (hu.elim (fun h=>absurd h k5) (fun h=> .inr (.inr (.inr h))))) (fun _ u hu=>by
        rw [fu,aJ (by rintro rfl; exact hu (VL u yb)),fu,aJ (by rintro rfl; exact hu (VL u hx))]; rfl) (fun h=>absurd h k5) (fun h=>absurd h k5) (fun _=>rfl) (fun h=>absurd h k5) (fun _=>rfl)
      exact⟨_,_,_,⟨same,by rintro rfl; rfl⟩,fW _ _ e2,jr.1,jr.2⟩
    ·exact absurd hk (PS _ _ _ _)
    ·exact absurd hk (qW _)
   ·cases h
 ·rename_i yv;simp only [aa,ab]at h;obtain⟨rfl,rfl⟩:=h;have g0:=tD (o:=o) na h0;have p1:∀(e:Env),Env.cX (iu e o.dst (.gJ [])) o.dst=false:=fun e=>tE fun _ _=>rfl;refine⟨s1,{ fr1 with env:=iu fr1.env o.dst (.gJ [])},s1,⟨fun _=>rfl,id⟩,by unfold oper; rw [hw,yv],fun k hk=> ?_,fun k hk=> ?_⟩
  ·by_cases XZ:∃u,k= .g u
   ·obtain⟨u,rfl⟩:=XZ;simp only [kU]at hk;rw [qq (p1 _) hk,qq (p1 _) hk]
   ·have XZ:∀u,k≠ .g u:=fun u e=>XZ ⟨u,e⟩;rw [oS g0 (p1 _) k (fun u e=>absurd e (XZ u)),oS h0 (p1 _) k (fun u e=>absurd e (XZ u))];exact ml k (HV hk XZ)
  ·rw [oS g0 (p1 _) k (by rintro u rfl; exact hk)]
 ·cases h
theorem Gq (h:oper C b o fr s=some (fr',s'))(fK:lZ o=true)(h0:fr.env.cX o.dst=false)(h1:fr'.env.cX o.dst=false)(Xp:Ew C b hi){k:Key}(hk: ¬ kU b o fr s s' k):val fr' s' k=val fr s k:=by
 obtain⟨S9,vo,s2,⟨_,g1⟩,g2,_,g4⟩:=CZ (fr1:=fr) (s1:=s) h fK h0 h1 (fun _ _=>rfl) (fun _=>rfl) Xp;rw [g1 rfl,h]at g2;simp only [aa,ab]at g2;obtain⟨rfl,rfl⟩:=g2;exact g4 k hk
end
end Go.Ab
namespace Go.Ab
open Go
variable [eW]
theorem yK {y:bj}{ah:List Nat}:∀ {xs:List bj} {i0:Nat} {l:List Nat},Er y ah i0 xs=some l->∀i x,xs[i]? =some x->
  i0+i∈ah\/(mJ x y=true/\(rj x.op y.op=0\/(rj x.op y.op=1/\i0+i∈l)))
 | [],i0,l,h,i,x,hx=>by simp at hx
 | z::r,i0,l,h,i,x,hx=>by
  simp only [Er]at h;split at h
  ·cases h
  ·rename_i l1 h1;cases i with
   | zero=>
    simp only [aQ,aa]at hx;subst hx;split at h
    ·rename_i hm; exact .inl (o8.1 hm)
    ·split at h
     ·cases h
     ·rename_i hs;refine .inr ⟨hs, ?_⟩;split at h
      ·rename_i hk; exact .inl hk
      ·rename_i hk;simp only [aa]at h; subst h;exact .inr ⟨hk,by simp⟩
      ·cases h
   | succ i=>
    simp only [bX]at hx;have hl:∀q,q∈l1->q∈l:=by
     intro q hq;split at h
     ·simp only [aa]at h; subst h; exact hq
     ·split at h
      ·cases h
      ·split at h
       ·simp only [aa]at h; subst h; exact hq
       ·simp only [aa]at h; subst h; exact eE _ hq
       ·cases h
    rcases yK h1 i x hx with g | ⟨g1,g2 | ⟨g2,g3⟩⟩
    ·exact .inl (by rw [show i0+(i+1)=i0+1+i by omega]; exact g)
    ·exact .inr ⟨g1,.inl g2⟩
    ·exact .inr ⟨g1,.inr ⟨g2,by rw [show i0+(i+1)=i0+1+i by omega]; exact hl _ g3⟩⟩
theorem Ay {ahs:List (List Nat)}:∀ {os bef:List bj} {ys:List (bj×List Nat)},Po ahs bef os=some ys->ys.map (·.1)=os/\
  ∀j o l,ys[j]? =some (o,l)->lZ o=true/\Er o (ahs.getD (bef.length+j) []) 0 (bef++os.take j)=some l
 | [],bef,ys,h=>by
  simp only [Po,aa]at h; subst h;exact⟨rfl,fun j o l h=>by simp at h⟩
 | o::r,bef,ys,h=>by
  simp only [Po]at h;split at h
  ·rename_i l x h1 h2 h3;simp only [aa]at h; subst h;obtain⟨g1,g2⟩:=Ay h3;refine⟨by simp [g1],fun j o' l' hj=> ?_⟩;cases j with
   | zero=>
    simp only [aQ,aa,ab]at hj;obtain⟨rfl,rfl⟩:=hj;exact⟨h1,by simpa using h2⟩
   | succ j=>
    simp only [bX]at hj;obtain⟨k1,k2⟩:=g2 j o' l' hj;refine⟨k1, ?_⟩;rw [gC];simpa [iF,Nat.add_comm 1 j] using k2
  ·cases h
theorem sZ {ds:List (List Nat)}{L:Nat->Prop}(Tl:∀j d,ds[j]? =some d->L j->∀i∈d,L i):∀(rest pre acc:List (List Nat)),ds=pre++rest->acc.length=pre.length->
  (∀j d,ds[j]? =some d->(∀i∈d,L i)->∀i∈acc.getD j [],L i)->∀j d,ds[j]? =some d->(∀i∈d,L i)->∀i∈(ve acc rest).getD j [],L i
 | [],pre,acc,_,_,h=>h
 | d0::r,pre,acc,hd,hl,h=>by
  simp only [ve];refine sZ Tl r (pre++ [d0]) _ (by simp [hd]) (by simp [hl]) fun j d hj A1 i hi=> ?_;rcases h9 j acc.length with dQ | heq | vh
  ·rw [dJ,aO dQ,← List.getD_eq_getElem?_getD]at hi;exact h j d hj A1 i hi
  ·subst heq;have:d=d0:=by
    rw [hd,hl]at hj;simpa using hj.symm
   subst this;rw [dJ,aT (an _)]at hi;simp only [eF,aQ,eQ,List.mem_eraseDups,bK,List.mem_flatMap]at hi;rcases hi with hi | ⟨q,hq,hi⟩
   ·exact A1 i hi
   ·have hLq:=A1 q hq;rcases hdq:ds[q]? with _ | dq
    ·have h1:ds.length<=q:=by simpa using hdq
     have:acc.getD q []=[]:=by
      rw [dJ,eJ (by rw [hd]at h1; simp at h1; omega)]; rfl
     rw [this]at hi; cases hi
    ·exact h q dq hdq (Tl q dq hdq hLq) i hi
  ·rw [dJ,eJ (by simp; omega)]at hi;simp at hi
theorem AD:∀ {ds:List (List Nat)} {j0:Nat},Rp j0 ds=true->∀j d,ds[j]? =some d->∀i∈d,i < j0+j
 | [],_,_,j,d,h=>by simp at h
 | d0::r,j0,h,j,d,hj=>by
  simp only [Rp,aA,dh]at h;cases j with
  | zero=>
   simp only [aQ,aa]at hj; subst hj;intro i hi;exact ax (h.1 i hi)
  | succ j=>
   simp only [bX]at hj;intro i hi;have:=AD h.2 j d hj i hi;omega
theorem oz:∀ {a b:List Nat},r9 a b=true->∀x,x∈a->x∈b->False
 | [],_,_,x,h,_=>by cases h
 | y::r,b,h,x,hx,hb=>by
  simp only [r9]at h;split at h
  ·cases h
  ·rename_i hm;rcases bS.1 hx with rfl | hx
   ·rw [o8.2 hb]at hm; cases hm
   ·exact oz h x hx hb
section
variable {C:au}{b hi:Nat}
theorem Jb {e:Env}{p:eN}{x:Nat}(h:x∈bz e p):p.kind=1\/p.kind=2\/p.kind=9:=by
 cases p <;> simp [bz]at h <;> simp [eN.kind]
theorem vO {e:Env}{p:eN}{x:Nat}(h:x∈nj e p):p.kind=2\/p.kind=9:=by
 cases p <;> simp [nj]at h <;> simp [eN.kind]
theorem ru {e:Env}{o:bj}{x:Nat}(h:x∈(cE b e o).1):o.op.kind=1\/o.op.kind=2\/o.op.kind=9:=by
 unfold cE at h;split at h
 ·exact Jb h
 ·cases h
theorem jt {e:Env}{o:bj}{x:Nat}(fK:lZ o=true)(h:x∈(cE b e o).2.1):o.op.kind=2\/o.op.kind=3\/o.op.kind=9:=by
 unfold cE at h;split at h
 ·simp only at h;split at h
  ·rename_i r hr;simp only [lZ,hr,DT,aA,Option.isSome_some]at fK;have:=fK.2;simp at this;rcases this with h | h
   ·exact .inr (.inl h)
   ·exact .inr (.inr h)
  ·rcases vO h with h | h
   ·exact .inl h
   ·exact .inr (.inr h)
 ·cases h
theorem fp3 {e:Env}{o:bj}{x:Nat}(hk:o.op.kind=3)(h:x∈(cE b e o).2.1):∃r,o.al=some r/\x=b+r:=by
 unfold cE at h;split at h
 ·simp only at h;split at h
  ·rename_i r hr;rcases bS.1 h with rfl | h
   ·exact⟨r,hr,rfl⟩
   ·have:=vO h; omega
  ·have:=vO h; omega
 ·cases h
theorem ug {p:eN}{t:Nat}(h:p.own=some t):p.kind=6\/p.kind=7:=by
 cases p <;> simp [eN.own]at h <;> simp [eN.kind]
theorem AI {p:eN}{t:Nat}(h:p.vI=some t):p.kind=7:=by
 cases p <;> simp [eN.vI]at h <;> simp [eN.kind]
theorem mH {d:Option Nat}{l:List Nat}{t:Nat}(hd:d=some t)(h:tw d l=false):t ∉ l:=by
 subst hd;intro ht;simp only [tw,o8.2 ht]at h;cases h
theorem Jq {x y:bj}{fx fy:Fr} {sx sx' sy sy' :St}(hx:lZ x=true)(hy:lZ y=true)(hs:mJ x y=true)(hp:tn x.op.kind y.op.kind=0\/(tn x.op.kind y.op.kind=1/\kX (cE b fx.env x) (cE b fy.env y)=true))(hax:∀r,x.al=some r->b+r < hi)(hay:∀r,y.al=some r->b+r < hi)(hkp:y.op.kind=5->tn x.op.kind y.op.kind=1->∀q∈(cE b fx.env x).1,ka (sy'.get q)=ka (sy.get q)/\∀c,Q0 (cE b fx.env x).2.2 q c->jq (sy'.get q) c=jq (sy.get q) c)(Ro:x.op.kind=5->tn x.op.kind y.op.kind=1->∀q∈(cE b fy.env y).1,sx'.get q=sx.get q)(k:Key):
  ¬(kU b x fx sx sx' k/\tT b hi y fy k)/\ ¬(tT b hi x fx k/\kU b y fy sy sy' k)/\ ¬(kU b x fx sx sx' k/\kU b y fy sy sy' k):=by
 simp only [mJ,aA,fe]at hs;obtain⟨s1,s2,s3⟩:=hs;have Q7:∀(q:Nat) (K:Prop),(x.op.kind=5->tn x.op.kind y.op.kind=1->q∈(cE b fy.env y).1->K->False)->(x.op.kind=5/\K)\/q∈(cE b fx.env x).2.1->(y.op.kind=4/\(q < b\/hi<=q))\/y.op.kind=5\/q∈(cE b fy.env y).1\/q∈(cE b fy.env y).2.1->False:=by
  intro q K hK hq hr;by_cases X7:x.op.kind=5/\y.op.kind=1
  ·rcases hq with hq | hq
   ·rcases hr with h | h | h | h
    ·omega
    ·omega
    ·exact hK X7.1 (by rw [X7.1,X7.2]; decide) h hq.2
    ·have:=jt hy h; omega
   ·have:=jt hx hq; omega
  by_cases RZ:x.op.kind=3/\y.op.kind=4
  ·rcases hq with h | h
   ·omega
   ·obtain⟨r,Ld,xe⟩:=fp3 RZ.1 h;have:=hax r Ld;rcases hr with h | h | h | h
    ·omega
    ·omega
    ·have:=ru h; omega
    ·have:=jt hy h; omega
  have kx:x.op.kind=2\/x.op.kind=3\/x.op.kind=5\/x.op.kind=9:=hq.elim (fun h=>by omega) (fun h=>by have:=jt hx h; omega);have ky:y.op.kind=1\/y.op.kind=2\/y.op.kind=3\/y.op.kind=4\/y.op.kind=5\/y.op.kind=9:=by
   rcases hr with h | h | h | h
   ·omega
   ·omega
   ·have:=ru h; omega
   ·have:=jt hy h; omega
  rcases hp with hp | ⟨hp,ha⟩
  ·clear hr hq X7;rcases kx with kx | kx | kx | kx <;> rcases ky with ky | ky | ky | ky | ky | ky <;> rw [kx,ky]at hp <;> rw [kx,ky]at RZ <;> revert hp RZ <;> decide
  ·have: ¬ x.op.kind=5/\ ¬ y.op.kind=4/\ ¬ y.op.kind=5:=by
    have nope: ¬ (x.op.kind=5/\y.op.kind=1):=X7;clear hr hq RZ X7;rcases kx with kx | kx | kx | kx <;> rcases ky with ky | ky | ky | ky | ky | ky <;> rw [kx,ky]at hp ⊢ <;> rw [kx,ky]at nope <;> revert hp nope <;> decide
   have hq:=hq.resolve_left (fun h=>this.1 h.1);have hr:=(hr.resolve_left (fun h=>this.2.1 h.1)).resolve_left this.2.2;simp only [kX,aA]at ha;rcases hr with h | h
   ·exact oz ha.2.1 q hq h
   ·exact oz ha.1 q hq h
 have Kv:∀(q:Nat) (K:Prop),(y.op.kind=5->tn x.op.kind y.op.kind=1->q∈(cE b fx.env x).1->K->False)->(y.op.kind=5/\K)\/q∈(cE b fy.env y).2.1->(x.op.kind=4/\(q < b\/hi<=q))\/x.op.kind=5\/q∈(cE b fx.env x).1\/q∈(cE b fx.env x).2.1->False:=by
  intro q K hK hq hr;by_cases Ya:x.op.kind=1/\y.op.kind=5
  ·have hnf:q ∉ (cE b fy.env y).2.1:=fun h=>by have:=jt hy h; omega
   rcases hq with hq | hq
   ·rcases hr with h | h | h | h
    ·omega
    ·omega
    ·exact hK Ya.2 (by rw [Ya.1,Ya.2]; decide) h hq.2
    ·have:=jt hx h; omega
   ·exact hnf hq
  by_cases RZ:y.op.kind=3/\x.op.kind=4
  ·rcases hq with h | h
   ·omega
   ·obtain⟨r,Ld,xe⟩:=fp3 RZ.1 h;have:=hay r Ld;rcases hr with h | h | h | h
    ·omega
    ·omega
    ·have:=ru h; omega
    ·have:=jt hx h; omega
  have kx:y.op.kind=2\/y.op.kind=3\/y.op.kind=5\/y.op.kind=9:=hq.elim (fun h=>by omega) (fun h=>by have:=jt hy h; omega);have ky:x.op.kind=1\/x.op.kind=2\/x.op.kind=3\/x.op.kind=4\/x.op.kind=5\/x.op.kind=9:=by
   rcases hr with h | h | h | h
   ·omega
   ·omega
   ·have:=ru h; omega
   ·have:=jt hx h; omega
  rcases hp with hp | ⟨hp,ha⟩
  ·clear hr hq;rcases kx with kx | kx | kx | kx <;> rcases ky with ky | ky | ky | ky | ky | ky <;> rw [kx,ky]at hp <;> rw [kx,ky]at RZ <;> revert hp RZ <;> decide
  ·have: ¬ y.op.kind=5/\ ¬ x.op.kind=4/\ ¬ x.op.kind=5:=by
    have nope: ¬ (x.op.kind=1/\y.op.kind=5):=Ya;clear Ya RZ hr hq;rcases kx with kx | kx | kx | kx <;> rcases ky with ky | ky | ky | ky | ky | ky <;> rw [kx,ky]at hp ⊢ <;> rw [kx,ky]at nope <;> revert hp nope <;> decide
   have hq:=hq.resolve_left (fun h=>this.1 h.1);have hr:=(hr.resolve_left (fun h=>this.2.1 h.1)).resolve_left this.2.2;simp only [kX,aA]at ha;rcases hr with h | h
   ·exact oz ha.2.2 q h hq
   ·exact oz ha.1 q h hq
 have S5:∀kx ky,x.op.kind=kx->y.op.kind=ky->tn kx ky=2->False:=by
  intro kx ky h1 h2 h3;rw [h1,h2,h3]at hp;rcases hp with hp | ⟨hp,_⟩ <;> cases hp
 have c1:∀t,x.op.vI=some t->y.op.own=some t->False:=by
  intro t h1 h2;rcases ug h2 with h2 | h2 <;> exact S5 _ _ (AI h1) h2 (by decide)
 have c2:∀t,x.op.own=some t->y.op.vI=some t->False:=by
  intro t h1 h2;rcases ug h1 with h1 | h1 <;> exact S5 _ _ h1 (AI h2) (by decide)
 cases k with
 | g t=>
  simp only [kU,tT];refine⟨fun ⟨h1,h2⟩=>mH h1 s1 h2,fun ⟨h1,h2⟩=>mH h2 s2 h1,fun ⟨h1,h2⟩=>mH h1 s3 (by simp [h2])⟩
 | c t=>
  refine⟨fun ⟨h1,h2⟩=>c1 t h1 h2,fun ⟨h1,h2⟩=>c2 t h1 h2,fun ⟨h1,h2⟩=>c1 t h1 (HV (b:=b) (hi:=hi) (fr:=fy) (k:= .c t) h2 (by intro u e; cases e))⟩
 | h q=>
  have hw:kU b y fy sy sy' (.h q)->tT b hi y fy (.h q):=fun h=>HV h (by intro u e; cases e);simp only [kU,tT]at hw ⊢;have k2:=Kv q (ka (sy'.get q)≠ka (sy.get q)) (fun h5 h1 hm cC=>cC (hkp h5 h1 q hm).1);have k1:=Q7 q (ka (sx'.get q)≠ka (sx.get q)) (fun h5 h1 hm cC=>cC (by rw [Ro h5 h1 q hm]));exact⟨fun ⟨h1,h2⟩=>k1 h1 h2,fun ⟨h1,h2⟩=>k2 h2 h1,fun ⟨h1,h2⟩=>k1 h1 (hw h2)⟩
 | hc q c=>
  have hw:kU b y fy sy sy' (.hc q c)->tT b hi y fy (.hc q c):=fun h=>HV h (by intro u e; cases e);simp only [kU,tT]at hw ⊢;have k1:=Q7 q (jq (sx'.get q) c≠jq (sx.get q) c) (fun h5 h1 hm cC=>cC (by rw [Ro h5 h1 q hm]));refine⟨fun ⟨h1,h2⟩=>k1 h1 (h2.imp id (Or.imp id (Or.imp pk id))),fun ⟨h1,h2⟩=> ?_,fun ⟨h1,h2⟩=>k1 h1 ((hw h2).imp id (Or.imp id (Or.imp pk id)))⟩;rcases h1 with h | h | ⟨h,hr⟩ | h
  ·exact Kv q (jq (sy'.get q) c≠jq (sy.get q) c) (fun h5 h1 _ _=>by rw [h.1,h5]at h1; revert h1; decide) h2 (.inl h)
  ·exact Kv q (jq (sy'.get q) c≠jq (sy.get q) c) (fun h5 h1 _ _=>by rw [h,h5]at h1; revert h1; decide) h2 (.inr (.inl h))
  ·exact Kv q (jq (sy'.get q) c≠jq (sy.get q) c) (fun h5 h1 hm cC=>cC ((hkp h5 h1 q hm).2 c hr)) h2 (.inr (.inr (.inl h)))
  ·exact Kv q (jq (sy'.get q) c≠jq (sy.get q) c) (fun h5 h1 hm _=>by
    have h7:=jt hx h;have h8:=ru hm;rcases h7 with h7 | h7 | h7 <;> rw [h7,h5]at h1 <;> revert h1 <;> decide) h2 (.inr (.inr (.inr h)))
 | n=>
  simp only [kU,tT];refine⟨fun ⟨h1,h2⟩=> ?_,fun ⟨h1,h2⟩=> ?_,fun ⟨h1,h2⟩=>S5 _ _ h1 h2 (by decide)⟩
  ·rcases h2 with h2 | h2 | h2 | h2 <;> exact S5 _ _ h1 h2 (by decide)
  ·rcases h1 with h1 | h1 | h1 | h1 <;> exact S5 _ _ h1 h2 (by decide)
 | d=>
  simp only [kU,tT];exact⟨fun ⟨h1,h2⟩=>S5 _ _ h1 h2 (by decide),fun ⟨h1,h2⟩=>S5 _ _ h1 h2 (by decide),fun ⟨h1,h2⟩=>S5 _ _ h1 h2 (by decide)⟩
theorem F8 {x y:eN}:rj x y=tn x.kind y.kind\/∃a b,x.own=some a/\y.own=some b/\a≠b:=by
 unfold rj;split
 ·rename_i a b ha hb;cases h:Nat.beq a b with
  | true=>exact .inl rfl
  | false=>exact .inr ⟨a,b,ha,hb,fun e=>by rw [e,az]at h; cases h⟩
 ·exact .inl rfl
theorem vd {p:eN}{t:Nat}(h:p.vI=some t):p.own=some t:=by
 cases p <;> simp [eN.vI]at h <;> simp [eN.own,h]
theorem Qr {x y:bj}{fx fy:Fr} {sx sx' sy sy' :St}(hx:lZ x=true)(hy:lZ y=true)(hs:mJ x y=true)(hp:rj x.op y.op=0\/(rj x.op y.op=1/\kX (cE b fx.env x) (cE b fy.env y)=true))(hax:∀r,x.al=some r->b+r < hi)(hay:∀r,y.al=some r->b+r < hi)(hkp:y.op.kind=5->rj x.op y.op=1->∀q∈(cE b fx.env x).1,ka (sy'.get q)=ka (sy.get q)/\∀c,Q0 (cE b fx.env x).2.2 q c->jq (sy'.get q) c=jq (sy.get q) c)(Ro:x.op.kind=5->rj x.op y.op=1->∀q∈(cE b fy.env y).1,sx'.get q=sx.get q)(k:Key):
  ¬(kU b x fx sx sx' k/\tT b hi y fy k)/\ ¬(tT b hi x fx k/\kU b y fy sy sy' k)/\ ¬(kU b x fx sx sx' k/\kU b y fy sy sy' k):=by
 rcases F8 (x:=x.op) (y:=y.op) with h | ⟨u,v,hu,hv,huv⟩
 ·rw [h]at hp; exact Jq hx hy hs hp hax hay (fun h5 h1=>hkp h5 (h ▸ h1)) (fun h5 h1=>Ro h5 (h ▸ h1)) k
 simp only [mJ,aA,fe]at hs;obtain⟨s1,s2,s3⟩:=hs;have kx:=ug hu;have ky:=ug hv
 have nx:∀(q:Nat) (K:Prop),(x.op.kind=5/\K)\/q∈(cE b fx.env x).2.1->False:=fun q K hq=>by
  rcases hq with h | h
  ·omega
  ·have:=jt hx h; omega
 have ny:∀(q:Nat) (K:Prop),(y.op.kind=5/\K)\/q∈(cE b fy.env y).2.1->False:=fun q K hq=>by
  rcases hq with h | h
  ·omega
  ·have:=jt hy h; omega
 cases k with
 | g t=>
  simp only [kU,tT];refine⟨fun ⟨h1,h2⟩=>mH h1 s1 h2,fun ⟨h1,h2⟩=>mH h2 s2 h1,fun ⟨h1,h2⟩=>mH h1 s3 (by simp [h2])⟩
 | c t=>
  simp only [kU,tT];refine⟨fun ⟨h1,h2⟩=> ?_,fun ⟨h1,h2⟩=> ?_,fun ⟨h1,h2⟩=> ?_⟩
  ·rw [vd h1]at hu; rw [h2]at hv; simp only [aa]at hu hv; omega
  ·rw [h1]at hu; rw [vd h2]at hv; simp only [aa]at hu hv; omega
  ·rw [vd h1]at hu; rw [vd h2]at hv; simp only [aa]at hu hv; omega
 | h q=>exact ⟨fun ⟨h1,_⟩=>nx q _ h1,fun ⟨_,h2⟩=>ny q _ h2,fun ⟨h1,_⟩=>nx q _ h1⟩
 | hc q c=>exact ⟨fun ⟨h1,_⟩=>nx q _ h1,fun ⟨_,h2⟩=>ny q _ h2,fun ⟨h1,_⟩=>nx q _ h1⟩
 | n=>
  simp only [kU];exact⟨fun ⟨h1,_⟩=>by omega,fun ⟨_,h2⟩=>by omega,fun ⟨h1,_⟩=>by omega⟩
 | d=>
  simp only [kU];exact⟨fun ⟨h1,_⟩=>by omega,fun ⟨_,h2⟩=>by omega,fun ⟨h1,_⟩=>by omega⟩
end
end Go.Ab
