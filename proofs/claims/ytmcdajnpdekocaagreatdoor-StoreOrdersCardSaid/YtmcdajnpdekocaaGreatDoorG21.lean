/- Part. -/
import Derived.Test.YtmcdajnpdekocaaGreatDoorG20
set_option linter.unusedSectionVars false
set_option linter.unusedSimpArgs false
set_option linter.unusedVariables false
namespace Go.Ab
open Go
variable [Vals]
inductive Key where
 | g (t:Nat) | c (t:Nat) | h (o:Nat) | hc (o c:Nat) | n | d
inductive Vl where
 | D (d:Option D) | O (o:Option Obj) | N (n:Nat) | L (l:List (D×List D))
def blank:Option D→Option D
 | some (.lv _)=>some (.lv .nilp)
 | r=>r
def cont:Option D→Option D
 | some (.lv x)=>some x
 | _=>none
def zQq (v:D):D:=match v with
 | .agg cs=> .agg (List.replicate cs.length .nilp)
 | _=> .nilp
def skel:Option Obj→Option Obj
 | some (.var t v)=>some (.var t (zQq v))
 | x=>x
def zPt:Option Obj→Nat→Option D
 | some (.var _ v),c=>v.flat[c]?
 | _,_=>none
theorem zVc {a:Option Obj}{t:Nat}{v:D}(h:skel a=some (.var t v)):∃u,a=some (.var t u)∧zQq u=v:=by
 unfold skel at h
 split at h
 ·simp only [Option.some.injEq,Obj.var.injEq]at h
  obtain⟨rfl,h⟩:=h
  exact⟨_,rfl,h⟩
 ·rename_i hn
  subst h
  exact absurd rfl (hn t v)
theorem zRv (u:D):(zQq u).flat.length=u.flat.length:=by
 cases u <;> simp [zQq,D.flat]
theorem yIl {u v:D}(h:zQq u=zQq v):u.flat.length=v.flat.length:=by rw [← zRv u,← zRv v,h]
theorem zXo {u v:D}(h:zQq u=zQq v)(hc:∀c:Nat,u.flat[c]? =v.flat[c]?):u=v:=by
 have hl:u.flat=v.flat:=List.ext_getElem? hc
 cases u <;> cases v <;> simp_all [zQq,D.flat]
theorem get_of {a b:Option Obj}(h:skel a=skel b)(hc:∀c,zPt a c=zPt b c):a=b:=by
 cases b with
 | none=>
  cases a with
  | none=>rfl
  | some x=>cases x <;> simp [skel]at h
 | some y=>
  cases y with
  | var t v=>
   simp only [skel]at h
   obtain⟨u,rfl,hu⟩:=zVc h
   simp only [zPt]at hc
   rw [zXo hu hc]
  | arr z t l k=>cases a with
   | none=>simp [skel]at h
   | some x=>cases x <;> simp_all [skel]
  | map l c=>cases a with
   | none=>simp [skel]at h
   | some x=>cases x <;> simp_all [skel]
  | siter l c=>cases a with
   | none=>simp [skel]at h
   | some x=>cases x <;> simp_all [skel]
  | loop l c=>cases a with
   | none=>simp [skel]at h
   | some x=>cases x <;> simp_all [skel]
  | dead=>cases a with
   | none=>simp [skel]at h
   | some x=>cases x <;> simp_all [skel]
def inRg (rg:List (Nat×Nat×Nat))(x c:Nat):Prop:=rg=[]∨∃r∈rg,r.1=x∧r.2.1≤c∧c < r.2.1+r.2.2
def val (fr:Fr)(s:St):Key→Vl
 | .g t=> .D (blank (fr.env.get t))
 | .c t=> .D (cont (fr.env.get t))
 | .h o=> .O (skel (s.get o))
 | .hc o c=> .D (zPt (s.get o) c)
 | .n=> .N s.n
 | .d=> .L fr.defers
theorem zWz {a b:Option D}(h:blank a=blank b):SS a b:=by
 unfold blank at h
 split at h <;> split at h
 ·exact .inr ⟨_,_,rfl,rfl⟩
 ·subst h; exact .inr ⟨_,_,rfl,rfl⟩
 ·subst h; exact .inr ⟨_,_,rfl,rfl⟩
 ·exact .inl h
theorem zYt {a b:Option D}(h:blank a=blank b)(hc:cont a=cont b):a=b:=by
 rcases zWz h with h | ⟨x,y,rfl,rfl⟩
 ·exact h
 ·simp only [cont,Option.some.injEq]at hc; rw [hc]
def zQz:Option D→Bool
 | some (.lv _)=>true
 | _=>false
theorem zGi (e:Env)(t:Nat):e.isLv t=zQz (e.get t):=by
 unfold Env.isLv zQz; rfl
theorem isLvd_ss {a b:Option D}(h:SS a b):zQz a=zQz b:=by
 rcases h with h | ⟨x,y,rfl,rfl⟩
 ·rw [h]
 ·rfl
theorem blank_of {a:Option D}(h:zQz a=false):blank a=a:=by
 unfold blank; split
 ·cases h
 ·rfl
theorem yBr {a:Option D}(h:zQz a=false):cont a=none:=by
 unfold cont; split
 ·cases h
 ·rfl
section
variable {fr fr' fr1 fr2:Fr}{s s' s1 s2:St}{C:zAa}{b hi:Nat}{o:zPk}
theorem zSx {t:Nat}(hg:val fr s (.g t)=val fr1 s1 (.g t))(hc:val fr s (.c t)=val fr1 s1 (.c t)):fr.env.get t=fr1.env.get t:=by
 simp only [val,Vl.D.injEq]at hg hc
 exact zYt hg hc
theorem val_ss {t:Nat}(hg:val fr s (.g t)=val fr1 s1 (.g t)):SS (fr.env.get t) (fr1.env.get t):=by
 simp only [val,Vl.D.injEq]at hg
 exact zWz hg
theorem Inv.of_val {ρ0:Gh}{w0 w:World}{nt:Nat}{a:Act}(h:∀k,val fr s k=val fr1 s1 k)(hI:Inv ρ0 w0 nt fr s a w):Inv ρ0 w0 nt fr1 s1 a w:=by
 have he:∀t,fr.env.get t=fr1.env.get t:=fun t=>zSx (h (.g t)) (h (.c t))
 have ho:∀o,s.get o=s1.get o:=fun o=>get_of (by have:=h (.h o); simpa only [val,Vl.O.injEq] using this) (fun c=>by have:=h (.hc o c); simpa only [val,Vl.D.injEq] using this)
 have hn:s.n=s1.n:=by have:=h .n; simpa only [val,Vl.N.injEq] using this
 have hd:fr.defers=fr1.defers:=by have:=h .d; simpa only [val,Vl.L.injEq] using this
 obtain⟨ρ,h1,h2,h3⟩:=hI
 refine⟨ρ,h1,⟨⟨fun t d hd=> ?_,fun t t' x x' b hne g1 g2=>h2.env.inj t t' x x' b hne (by rw [he]; exact g1) (by rw [he]; exact g2)⟩,h2.size,hd ▸ h2.defers⟩,⟨fun o x hx=> ?_,fun o x hx=>h3.ok o x (by rw [ho]; exact hx),fun o hx=>h3.no o (by rw [ho]; exact hx),h3.live,h3.size⟩⟩
 ·have:=h2.env.slot t d (by rw [he]; exact hd)
  cases d with
  | lptr k c=>simp only [SlR]at *; exact fun x hx=>this x (by rw [he]; exact hx)
  | _=>exact this
 ·rw [← hn]; exact h3.lt o x (by rw [ho]; exact hx)
def AOp.ownW:AOp→Option Nat
 | .lstore a _ _ _=>some a
 | _=>none
def rdK (b hi:Nat)(o:zPk)(fr:Fr):Key→Prop
 | .g t=>t∈o.sl
 | .c t=>o.op.own=some t
 | .h x=>(o.op.kind=4∧(x < b∨hi≤x))∨o.op.kind=5∨x∈(fpOf b fr.env o).1∨x∈(fpOf b fr.env o).2.1
 | .hc x c=>(o.op.kind=4∧(x < b∨hi≤x))∨o.op.kind=5∨(x∈(fpOf b fr.env o).1∧inRg (fpOf b fr.env o).2.2 x c)∨x∈(fpOf b fr.env o).2.1
 | .n=>o.op.kind=3∨o.op.kind=4∨o.op.kind=5∨o.op.kind=9
 | .d=>o.op.kind=5
def wrK (b:Nat)(o:zPk)(fr:Fr) (s s' :St):Key→Prop
 | .g t=>o.dst=some t
 | .c t=>o.op.ownW=some t
 | .h x=>(o.op.kind=5∧skel (s'.get x)≠skel (s.get x))∨x∈(fpOf b fr.env o).2.1
 | .hc x c=>(o.op.kind=5∧zPt (s'.get x) c≠zPt (s.get x) c)∨x∈(fpOf b fr.env o).2.1
 | .n=>o.op.kind=5
 | .d=>o.op.kind=5
theorem yHp {k:Key}(h:wrK b o fr s s' k)(hg:∀t,k≠ .g t):rdK b hi o fr k:=by
 cases k with
 | g t=>exact absurd rfl (hg t)
 | c t=>
  simp only [wrK,rdK]at *
  cases ho:o.op <;> simp [ho,AOp.ownW,AOp.own]at h ⊢
  exact h
 | h x=>simp only [wrK,rdK]at *; rcases h with h | h; exact .inr (.inl h.1); exact .inr (.inr (.inr h))
 | hc x c=>simp only [wrK,rdK]at *; rcases h with h | h; exact .inr (.inl h.1); exact .inr (.inr (.inr h))
 | n=>simp only [wrK,rdK]at *; exact .inr (.inr (.inl h))
 | d=>exact h
theorem zKd {e:Env}{dst:Option Nat}{d:D}{t:Nat}(h:(putD e dst d).isLvo dst=false)(ht:dst=some t):zQz (some d)=false:=by
 subst ht
 simp only [Env.isLvo,putD,zGi,zAj,if_true]at h
 exact h
theorem zFj {e:Env}{df:List (D×List D)}{dst:Option Nat}{d:D}{u:Nat}(h1:(putD e dst d).isLvo dst=false)(hu:dst=some u):val { env:=putD e dst d,defers:=df} s (.g u)= .D (some d):=by
 subst hu
 have hd:=zKd h1 rfl
 simp only [val,putD,zAj,if_true,blank_of hd]
theorem zEp {e:Env}{df:List (D×List D)}{dst:Option Nat}{d:D}(h0:e.isLvo dst=false)(h1:(putD e dst d).isLvo dst=false)(k:Key)(hk:∀u,k= .g u→dst≠some u):
  val { env:=putD e dst d,defers:=df} s k=val { env:=e,defers:=df} s k:=by
 cases dst with
 | none=>rfl
 | some t=>
  have hd:=zKd h1 rfl
  simp only [Env.isLvo,zGi]at h0
  cases k with
  | g u=>
   have:=hk u rfl
   simp only [ne_eq,Option.some.injEq]at this
   simp only [val,putD,zAj,if_neg this]
  | c u=>
   simp only [val,putD,zAj]
   split
   ·rename_i e; subst e
    rw [yBr hd,yBr h0]
   ·rfl
  | _=>rfl
theorem zIb (hlv:∀t,fr1.env.isLv t=fr.env.isLv t)(h:fr.env.isLvo o.dst=false):fr1.env.isLvo o.dst=false:=by
 cases hd:o.dst with
 | none=>rfl
 | some t=>simp only [hd,Env.isLvo]at h ⊢; rw [hlv]; exact h
theorem zIc {e:Env}{dst:Option Nat}{d:D}(h:∀t,dst=some t→zQz (some d)=false):(putD e dst d).isLvo dst=false:=by
 cases dst with
 | none=>rfl
 | some t=>simp only [Env.isLvo,putD,zGi,zAj,if_true]; exact h t rfl
theorem yBe {d:D}{df df1:List (D×List D)}(hlv:∀t,fr1.env.isLv t=fr.env.isLv t)(h0:fr.env.isLvo o.dst=false)(h1:(putD fr.env o.dst d).isLvo o.dst=false)(hW:o.op.ownW=none)
  (hs:∀x,o.op.kind=5∨x∈(fpOf b fr.env o).2.1→s2.get x=s'.get x) (hs' :o.op.kind≠5→∀x,x ∉ (fpOf b fr.env o).2.1→s2.get x=s1.get x)(hs5:o.op.kind=5→∀x,s1.get x=s.get x)
  (hn:o.op.kind=5→s2.n=s'.n) (hn' :o.op.kind≠5→s2.n=s1.n)(hd:o.op.kind=5→df1=df) (hd' :o.op.kind≠5→df1=fr1.defers):
  (∀k,wrK b o fr s s' k→val { env:=putD fr1.env o.dst d,defers:=df1} s2 k=val { env:=putD fr.env o.dst d,defers:=df} s' k)∧
  (∀k, ¬ wrK b o fr s s' k→val { env:=putD fr1.env o.dst d,defers:=df1} s2 k=val fr1 s1 k):=by
 have g0:=zIb (o:=o) hlv h0
 have g1:(putD fr1.env o.dst d).isLvo o.dst=false:=zIc fun t ht=>zKd h1 ht
 refine⟨fun k hk=> ?_,fun k hk=> ?_⟩
 ·cases k with
  | g u=>simp only [wrK]at hk; rw [zFj g1 hk,zFj h1 hk]
  | c u=>simp only [wrK,hW]at hk; cases hk
  | h x=>simp only [wrK]at hk; simp only [val,hs x (hk.imp And.left id)]
  | hc x c=>simp only [wrK]at hk; simp only [val,hs x (hk.imp And.left id)]
  | n=>simp only [wrK]at hk; simp only [val,hn hk]
  | d=>simp only [wrK]at hk; simp only [val,hd hk]
 ·rw [zEp g0 g1 k (by rintro u rfl; exact hk)]
  cases k with
  | g u=>rfl
  | c u=>rfl
  | h x=>
   simp only [wrK,not_or,not_and,Classical.not_not]at hk
   by_cases h5:o.op.kind=5
   ·simp only [val,hs x (.inl h5),hk.1 h5,hs5 h5 x]
   ·simp only [val,hs' h5 x hk.2]
  | hc x c=>
   simp only [wrK,not_or,not_and,Classical.not_not]at hk
   by_cases h5:o.op.kind=5
   ·simp only [val,hs x (.inl h5),hk.1 h5,hs5 h5 x]
   ·simp only [val,hs' h5 x hk.2]
  | n=>simp only [wrK]at hk; simp only [val,hn' hk]
  | d=>simp only [wrK]at hk; simp only [val,hd' hk]
theorem zTs {g:Option (Nat×Bool)}{e e1:Env}(h:∀t q,g=some (t,q)→SS (e.get t) (e1.get t)):wtD e g=wtD e1 g:=by
 cases g with
 | none=>rfl
 | some p=>
  obtain⟨t,q⟩:=p
  simp only [wtD]
  rcases h t q rfl with h | ⟨x,y,h1,h2⟩
  ·rw [h]
  ·rw [h1,h2]
theorem get_set0 {x:Nat}{q:Obj}(u:Nat):(s.set0 x q).get u=if u=x then some q else s.get u:=T.get_set _ _ _ _
theorem zYg {p:AOp}:p.kind=0∨p.kind=6∨p.kind=1∨p.kind=2∨p.kind=3∨p.kind=4∨p.kind=5∨p.kind=9∨(∃a x y z,p= .lstore a x y z)∨∃x,p= .lbox x:=by
 cases p <;> first
  | (simp [AOp.kind]; done)
  | (rename_i ro _ _; cases ro <;> simp [AOp.kind]; done)
theorem yFz {p:AOp}(h:p.kind=4):∃f l,p= .call true f l:=by
 cases p <;> first
  | (exfalso; revert h; simp [AOp.kind]; done)
  | (rename_i ro _ _; cases ro <;> revert h <;> simp [AOp.kind]; done)
theorem yGi (h:wtD fr.env o.guard=some true):fpOf b fr.env o=(fpRd fr.env o.op,(match o.al with | some r=>(b+r)::fpWr fr.env o.op | none=>fpWr fr.env o.op),fpRg fr.env o.op):=by
 simp only [fpOf,h]
 rfl
theorem oper_gen {q:D×St}(hw:wtD fr.env o.guard=some true)(hnd:∀f l,o.op≠ .defer f l)(hnl:∀x,o.op≠ .lbox x)(hns:∀a z x v,o.op≠ .lstore a z x v)
  (h:opF C fr.env s (match o.al with | some r=>some (b+r) | none=>none) o.op=some q):oper C b o fr s=some ({ fr with env:=putD fr.env o.dst q.1},q.2):=by
 unfold oper
 rw [hw]
 cases hp:o.op <;> first
  | exact absurd hp (hnd _ _)
  | exact absurd hp (hnl _)
  | exact absurd hp (hns _ _ _ _)
  | (rw [hp]at h; simp only; cases hal:o.al <;> simp only [hal]at h <;> simp only [h])
theorem zXt {l m:List D}{c:Nat}{sz:Option Nat}(hl:l.length=m.length)(hc:∀k,c≤k→k < c+(sz.getD 1)→l[k]? =m[k]?):part l c sz=part m c sz:=by
 cases sz with
 | none=>simp only [part]; exact hc c (Nat.le_refl _) (by simp)
 | some n=>
  simp only [part,hl]
  split
  ·have:(l.drop c).take n=(m.drop c).take n:=by
    apply List.ext_getElem?
    intro k
    rw [List.getElem?_take,List.getElem?_take]
    split
    ·rw [List.getElem?_drop,List.getElem?_drop]; exact hc _ (by omega) (by simp only [Option.getD_some]; omega)
    ·rfl
   rw [this]
  ·rfl
theorem eff_load {e:Env}{sz:Option Nat}{x:Opd}{ob c:Nat}{al:Option Nat}{wr:List Nat}(hx:x.ev e=some (.ptr ob c))(hk:skel (s2.get ob)=skel (s.get ob))(hc:∀k,c≤k→k < c+(sz.getD 1)→zPt (s2.get ob) k=zPt (s.get ob) k):
  Eff (fun S=>opF C e S al (.load sz x)) s s2 wr:=by
 have hld:zPr s2 sz (.ptr ob c)=zPr s sz (.ptr ob c):=by
  simp only [zPr]
  cases hs:s.get ob with
  | none=>
   rw [hs]at hk
   have:s2.get ob=none:=by
    cases h2:s2.get ob with
    | none=>rfl
    | some y=>rw [h2]at hk; cases y <;> simp [skel]at hk
   rw [this]
  | some y=>
   rw [hs]at hk hc
   cases y with
   | var t v=>
    simp only [skel]at hk
    obtain⟨u,h2,hu⟩:=zVc hk
    rw [h2]at hc ⊢
    simp only [zPt]at hc
    exact zXt (yIl hu) hc
   | _=>
    cases h2:s2.get ob with
    | none=>rfl
    | some y2=>rw [h2]at hk; cases y2 <;> simp_all [skel]
 intro d s' h
 simp only [opF,hx]at h ⊢
 refine .inl ?_
 rw [hld]
 exact zHs h
theorem eff4 {e:Env}{al:Option Nat}{f:Nat}{l:List Opd}{wr:List Nat}(hC:zZk C b hi)(hn:s2.n=s.n)(hl:s2.lk=s.lk)(hr:s2.ro=s.ro)(hg:∀o,o < b∨hi≤o→s2.get o=s.get o):Eff (fun S=>opF C e S al (.call true f l)) s s2 wr:=by
 intro d s' h
 simp only [opF]at h ⊢
 split at h
 ·split at h
  ·rename_i h1
   simp only [Option.some.injEq,Prod.mk.injEq]at h
   obtain⟨rfl,rfl⟩:=h
   have k:=hC _ _ { s with ro:=true} { s2 with ro:=true} _ _ rfl rfl hn hl hg h1
   exact .inl ⟨rfl,by simp only [k]⟩
  ·cases h
 ·cases h
theorem zVs (h:oper C b o fr s=some (fr',s'))(hok:zQe o=true)(h0:fr.env.isLvo o.dst=false)(h1:fr'.env.isLvo o.dst=false)(hrd:∀k,rdK b hi o fr k→val fr1 s1 k=val fr s k)(hlv:∀t,fr1.env.isLv t=fr.env.isLv t)(hcut:zZk C b hi):
  ∃s1' fr2 s2,((∀k,val fr1 s1' k=val fr1 s1 k)∧(s1=s→s1' =s))∧oper C b o fr1 s1' =some (fr2,s2)∧(∀k,wrK b o fr s s' k→val fr2 s2 k=val fr' s' k)∧(∀k, ¬ wrK b o fr s s' k→val fr2 s2 k=val fr1 s1 k):=by
 have hsl:∀t∈o.sl,SS (fr1.env.get t) (fr.env.get t):=fun t ht=>val_ss (hrd (.g t) ht)
 have hop:∀t∈o.op.sl,SS (fr1.env.get t) (fr.env.get t):=fun t ht=>hsl t (by
  unfold zPk.sl; split
  ·exact List.mem_cons_of_mem _ ht
  ·exact ht)
 have hw:wtD fr1.env o.guard=wtD fr.env o.guard:=zTs fun t q hg=>hsl t (by unfold zPk.sl; rw [hg]; simp)
 have hrs:∀x,rdK b hi o fr (.h x)→skel (s1.get x)=skel (s.get x):=fun x hx=>by have:=hrd _ hx; simpa only [val,Vl.O.injEq] using this
 have hrc:∀x c,rdK b hi o fr (.hc x c)→zPt (s1.get x) c=zPt (s.get x) c:=fun x c hx=>by have:=hrd _ hx; simpa only [val,Vl.D.injEq] using this
 have hrh:∀x,(o.op.kind=4∧(x < b∨hi≤x))∨o.op.kind=5∨(x∈(fpOf b fr.env o).1∧(fpOf b fr.env o).2.2=[])∨x∈(fpOf b fr.env o).2.1→s1.get x=s.get x:=fun x hx=>get_of (hrs x (by
  rcases hx with h | h | h | h
  ·exact .inl h
  ·exact .inr (.inl h)
  ·exact .inr (.inr (.inl h.1))
  ·exact .inr (.inr (.inr h)))) (fun c=>hrc x c (by
  rcases hx with h | h | h | h
  ·exact .inl h
  ·exact .inr (.inl h)
  ·exact .inr (.inr (.inl ⟨h.1,.inl h.2⟩))
  ·exact .inr (.inr (.inr h))))
 have hrn:rdK b hi o fr .n→s1.n=s.n:=fun hx=>by have:=hrd _ hx; simpa only [val,Vl.N.injEq] using this
 have hrD:rdK b hi o fr .d→fr1.defers=fr.defers:=fun hx=>by have:=hrd _ hx; simpa only [val,Vl.L.injEq] using this
 have hown:∀t,o.op.own=some t→t∈o.op.sl:=fun t ht=>by
  cases hp:o.op <;> simp [hp,AOp.own]at ht <;> simp [AOp.sl,ht]
 unfold oper at h
 split at h
 ·rename_i hwt
  split at h
  ·
   rename_i f args hp
   split at h
   ·rename_i g x y l hf hl
    simp only [Option.some.injEq,Prod.mk.injEq]at h
    obtain⟨rfl,rfl⟩:=h
    have k5:o.op.kind=5:=by rw [hp]; rfl
    have hf1:f.ev fr1.env=some (.fn g x y):=by rw [zAs (e' :=fr.env)]; exact hf; intro t ht; exact hop t (by rw [hp]; simp [AOp.sl,ht])
    have hl1:evs fr1.env args=some l:=by rw [zDc (e' :=fr.env)]; exact hl; intro t ht; exact hop t (by rw [hp]; simp [AOp.sl,ht])
    have hfin:=yBe (b:=b) (o:=o) (fr:=fr) (fr1:=fr1) (s:=s) (s1:=s1) (s2:=s1) (s' :=s) (d:= .tup []) (df:=(.fn g x y,l)::fr.defers) (df1:=(.fn g x y,l)::fr1.defers) hlv h0 h1 (by rw [hp]; rfl)
     (fun x _=>hrh x (.inr (.inl k5))) (fun h=>absurd k5 h) (fun _ x=>hrh x (.inr (.inl k5))) (fun _=>hrn (.inr (.inr (.inl k5)))) (fun h=>absurd k5 h) (fun _=>by rw [hrD k5]) (fun h=>absurd k5 h)
    refine⟨s1,_,s1,⟨fun _=>rfl,id⟩, ?_,hfin.1,hfin.2⟩
    unfold oper
    rw [hw,hwt]
    simp only [hp,hf1,hl1]
   ·cases h
  ·
   rename_i x hp
   simp [zQe,hp]at hok
  ·
   rename_i a sz x v hp
   split at h
   ·rename_i a' c d hx hv
    split at h
    ·rename_i w hb hga hlen
     split at h
     ·rename_i w' hov
      obtain rfl:=Nat.eq_of_beq_eq_true hb
      simp only [Option.some.injEq,Prod.mk.injEq]at h
      obtain⟨rfl,rfl⟩:=h
      have hx1:x.evp fr1.env=some (.lptr a c):=by rw [zFo (e' :=fr.env)]; exact hx; intro t ht; exact hop t (by rw [hp]; simp [AOp.sl,ht])
      have hv1:v.ev fr1.env=some d:=by rw [zAs (e' :=fr.env)]; exact hv; intro t ht; exact hop t (by rw [hp]; simp [AOp.sl,ht])
      have hga1:fr1.env.get a=some (.lv w):=by
       rw [← hga]
       exact zSx (hrd (.g a) (by
        show a∈o.sl
        unfold zPk.sl; rw [hp]; split <;> simp [AOp.sl])) (hrd (.c a) (by simp [rdK,hp,AOp.own]))
      have hda:o.dst≠some a:=by
       intro e; rw [e]at h0; simp [Env.isLvo,zGi,hga,zQz]at h0
      have g0:=zIb (o:=o) hlv h0
      have p0:∀(e:Env),e.isLvo o.dst=false→Env.isLvo ((a,D.lv w')::e) o.dst=false:=fun e he=>by
       cases hd:o.dst with
       | none=>rfl
       | some t=>
        rw [hd]at hda he
        have:a≠t:=fun e=>hda (by rw [e])
        simp only [Env.isLvo,zGi,zAj,if_neg this]at he ⊢; exact he
      have p1:∀(e:Env),Env.isLvo (putD e o.dst (.tup [])) o.dst=false:=fun e=>zIc fun _ _=>rfl
      refine⟨s1,{ fr1 with env:=putD ((a,.lv w')::fr1.env) o.dst (.tup [])},s1,⟨fun _=>rfl,id⟩, ?_, ?_, ?_⟩
      ·unfold oper
       rw [hw,hwt]
       have hb1:Nat.beq a a=true:=Nat.beq_refl a
       simp only [hp,hx1,hv1,hb1,hga1,hlen,hov]
      ·intro k hk
       cases k with
       | g u=>simp only [wrK]at hk; rw [zFj (p1 _) hk,zFj (p1 _) hk]
       | c u=>
        simp only [wrK,hp,AOp.ownW,Option.some.injEq]at hk
        subst hk
        rw [zEp (p0 _ g0) (p1 _) _ (by intro u hu; cases hu),zEp (p0 _ h0) (p1 _) _ (by intro u hu; cases hu)]
        simp only [val,zAj,if_true,cont]
       | h x=>
        simp only [wrK]at hk
        have:=hrh x (hk.elim (fun h=> .inr (.inl h.1)) (fun h=> .inr (.inr (.inr h))))
        simp only [val,this]
       | hc x c=>
        simp only [wrK]at hk
        have:=hrh x (hk.elim (fun h=> .inr (.inl h.1)) (fun h=> .inr (.inr (.inr h))))
        simp only [val,this]
       | n=>simp only [wrK,hp,AOp.kind]at hk; cases hk
       | d=>simp only [wrK,hp,AOp.kind]at hk; cases hk
      ·intro k hk
       rw [zEp (p0 _ g0) (p1 _) k (by rintro u rfl; exact hk)]
       cases k with
       | g u=>
        simp only [val,zAj]
        split
        ·rename_i e; subst e; rw [hga1]; rfl
        ·rfl
       | c u=>
        simp only [wrK,hp,AOp.ownW,Option.some.injEq]at hk
        simp only [val,zAj,if_neg hk]
       | _=>rfl
     ·cases h
    ·cases h
   ·cases h
  ·
   rename_i hnd hnl hns
   split at h
   ·rename_i d s0 hF
    simp only [Option.some.injEq,Prod.mk.injEq]at h
    obtain⟨rfl,rfl⟩:=h
    have hW:o.op.ownW=none:=by
     cases hp:o.op <;> simp [AOp.ownW]
     exact absurd hp (by intro e; exact hns _ _ _ _ e)
    have hF1:∀S,opF C fr1.env S (match o.al with | some r=>some (b+r) | none=>none) o.op=opF C fr.env S (match o.al with | some r=>some (b+r) | none=>none) o.op:=fun S=>
     opF_env hop hlv (fun a sz x hp=>zSx (hrd (.g a) (by show a∈o.sl; unfold zPk.sl; rw [hp]; split <;> simp [AOp.sl])) (hrd (.c a) (by simp [rdK,hp,AOp.own])))
    have hrun:∀S q,opF C fr.env S (match o.al with | some r=>some (b+r) | none=>none) o.op=some q→oper C b o fr1 S=some ({ fr1 with env:=putD fr1.env o.dst q.1},q.2):=fun S q hq=>by
     rw [← hF1]at hq
     exact oper_gen (hw.trans hwt) hnd hnl hns hq
    have same:∀k,val fr1 { s1 with ro:=s.ro,lk:=s.lk} k=val fr1 s1 k:=fun k=>by cases k <;> rfl
    have swap:o.op.kind=5→∀k,val fr1 s k=val fr1 s1 k:=fun hk k=>by
     cases k with
     | h x=>simp only [val]; rw [hrh x (.inr (.inl hk))]
     | hc x c=>simp only [val]; rw [hrh x (.inr (.inl hk))]
     | n=>simp only [val]; rw [hrn (.inr (.inr (.inl hk)))]
     | _=>rfl
    have fin:=fun (s2:St)=>yBe (b:=b) (o:=o) (fr:=fr) (fr1:=fr1) (s:=s) (s1:=s1) (s2:=s2) (s' :=s0) (d:=d) (df:=fr.defers) (df1:=fr1.defers) hlv h0 h1 hW
    have eff:∀wr,(∀x,x∈wr→x∈(fpOf b fr.env o).2.1)→o.op.kind≠5→Eff (fun S=>opF C fr.env S (match o.al with | some r=>some (b+r) | none=>none) o.op) s { s1 with ro:=s.ro,lk:=s.lk} wr→
      ∃s1' fr2 s2,((∀k,val fr1 s1' k=val fr1 s1 k)∧(s1=s→s1' =s))∧oper C b o fr1 s1' =some (fr2,s2)∧(∀k,wrK b o fr s s0 k→val fr2 s2 k=val { fr with env:=putD fr.env o.dst d} s0 k)∧(∀k, ¬ wrK b o fr s s0 k→val fr2 s2 k=val fr1 s1 k):=by
     intro wr hwr k5 hE
     rcases hE d s0 hF with ⟨rfl,e2⟩ | ⟨x,q,hx,rfl,e2⟩
     ·have hfin:=fin { s1 with ro:=s0.ro,lk:=s0.lk} (fun x hx=>hrh x (hx.elim (fun h=>absurd h k5) (fun h=> .inr (.inr (.inr h))))) (fun _ _ _=>rfl) (fun h=>absurd h k5) (fun h=>absurd h k5) (fun _=>rfl) (fun h=>absurd h k5) (fun _=>rfl)
      exact⟨_,_,_,⟨same,by rintro rfl; rfl⟩,hrun _ _ e2,hfin.1,hfin.2⟩
     ·have hfin:=fin (St.set0 { s1 with ro:=s.ro,lk:=s.lk} x q) (fun u hu=>by
        rw [get_set0,get_set0]
        split
        ·rfl
        ·exact hrh u (hu.elim (fun h=>absurd h k5) (fun h=> .inr (.inr (.inr h))))) (fun _ u hu=>by
        rw [get_set0,if_neg (by rintro rfl; exact hu (hwr u hx))]; rfl) (fun h=>absurd h k5) (fun h=>absurd h k5) (fun _=>rfl) (fun h=>absurd h k5) (fun _=>rfl)
      exact⟨_,_,_,⟨same,by rintro rfl; rfl⟩,hrun _ _ e2,hfin.1,hfin.2⟩
    have hfp:=yGi (b:=b) hwt
    have hwr:∀x,x∈fpWr fr.env o.op→x∈(fpOf b fr.env o).2.1:=fun x hx=>by
     rw [hfp]; simp only; split
     ·exact List.mem_cons_of_mem _ hx
     ·exact hx
    have hag:fpRg fr.env o.op=[]→AgO (fpRd fr.env o.op++fpWr fr.env o.op) s { s1 with ro:=s.ro,lk:=s.lk}:=fun hrg x hx=>by
     simp only [List.mem_append]at hx
     exact hrh x (hx.elim (fun h=> .inr (.inr (.inl ⟨by rw [hfp]; exact h,by rw [hfp]; exact hrg⟩))) (fun h=> .inr (.inr (.inr (hwr x h)))))
    have hrg0:o.op.kind≠1→fpRg fr.env o.op=[]:=fun hne=>by
     cases hp:o.op <;> simp only [fpRg]
     rw [hp]at hne; exact absurd rfl hne
    rcases zYg (p:=o.op) with hk | hk | hk | hk | hk | hk | hk | hk | ⟨a,x,y,z,hk⟩ | ⟨x,hk⟩
    ·exact eff [] (fun x hx=>by cases hx) (by omega) (eff0 (.inl hk))
    ·exact eff [] (fun x hx=>by cases hx) (by omega) (eff0 (.inr hk))
    ·by_cases hrg:fpRg fr.env o.op=[]
     ·exact eff [] (fun x hx=>by cases hx) (by omega) (eff1 hk (hag hrg).app.1)
     ·have ⟨sz,x,ob,c,hp,hx⟩:∃sz x ob c,o.op= .load sz x∧x.ev fr.env=some (.ptr ob c):=by
       cases hp:o.op <;> rw [hp]at hrg <;> first
        | exact absurd rfl hrg
        | (simp only [fpRg]at hrg
           split at hrg
           ·exact⟨_,_,_,_,rfl,by assumption⟩
           ·exact absurd rfl hrg)
      have hin:ob∈(fpOf b fr.env o).1:=by rw [hfp]; simp only [hp,fpRd,hx,fpRd.objs]; simp
      have hE:=eff_load (C:=C) (al:=match o.al with | some r=>some (b+r) | none=>none) (wr:=[]) (s:=s) (s2:= { s1 with ro:=s.ro,lk:=s.lk}) (sz:=sz) hx (hrs ob (.inr (.inr (.inl hin)))) (fun k h1 h2=>hrc ob k (.inr (.inr (.inl ⟨hin,.inr ⟨(ob,c,sz.getD 1),by rw [hfp]; simp only [hp,fpRg,hx]; simp,rfl,h1,h2⟩⟩))))
      exact eff [] (fun x hx=>by cases hx) (by omega) (by rw [hp]; exact hE)
    ·exact eff _ hwr (by omega) (eff2 hk rfl rfl (hag (hrg0 (by omega))))
    ·simp only [zQe,zZf,hk,Bool.and_eq_true]at hok
     obtain⟨r,hal⟩:=Option.isSome_iff_exists.1 (show o.al.isSome=true by simpa using hok.2)
     have hin:b+r∈(fpOf b fr.env o).2.1:=by rw [hfp,hal]; simp
     simp only [hal]at eff hF hrun
     exact eff [b+r] (fun x hx=>by simp only [List.mem_singleton]at hx; rw [hx]; exact hin) (by omega) (eff3 hk rfl (hrn (.inl hk)) (hrh _ (.inr (.inr (.inr hin)))))
    ·obtain⟨f,l,hp⟩:=yFz hk
     exact eff [] (fun x hx=>by cases hx) (by omega) (by rw [hp]; exact eff4 hcut (hrn (.inr (.inl hk))) rfl rfl (fun x hx=>hrh x (.inl ⟨hk,hx⟩)))
    ·have hfin:=fin s0 (fun _ _=>rfl) (fun h=>absurd hk h) (fun _ x=>hrh x (.inr (.inl hk))) (fun _=>rfl) (fun h=>absurd hk h) (fun _=>hrD hk) (fun _=>rfl)
     exact⟨s,_,_,⟨swap hk,fun _=>rfl⟩,hrun _ _ hF,hfin.1,hfin.2⟩
    ·simp only [zQe,zZf,hk,Bool.and_eq_true]at hok
     obtain⟨r,hal⟩:=Option.isSome_iff_exists.1 (show o.al.isSome=true by simpa using hok.2)
     have hin:b+r∈(fpOf b fr.env o).2.1:=by rw [hfp,hal]; simp
     simp only [hal]at hF hrun
     have k5:o.op.kind≠5:=by omega
     have hwr9:∀x,x∈(b+r)::fpWr fr.env o.op→x∈(fpOf b fr.env o).2.1:=fun x hx=>by
      rcases List.mem_cons.1 hx with rfl | hx
      ·exact hin
      ·exact hwr x hx
     rcases eff9 (C:=C) (e:=fr.env) (s:=s) (s2:= { s1 with ro:=s.ro,lk:=s.lk}) (k:=b+r) hk rfl rfl (hrn (.inr (.inr (.inr hk)))) (hag (hrg0 (by omega))) (hrh _ (.inr (.inr (.inr hin)))) d s0 hF with ⟨rfl,e2⟩ | ⟨x,q,hx,rfl,e2⟩ | ⟨x,q,x',q',hx,hx',rfl,e2⟩
     ·have hfin:=fin { s1 with ro:=s0.ro,lk:=s0.lk} (fun x hx=>hrh x (hx.elim (fun h=>absurd h k5) (fun h=> .inr (.inr (.inr h))))) (fun _ _ _=>rfl) (fun h=>absurd h k5) (fun h=>absurd h k5) (fun _=>rfl) (fun h=>absurd h k5) (fun _=>rfl)
      exact⟨_,_,_,⟨same,by rintro rfl; rfl⟩,hrun _ _ e2,hfin.1,hfin.2⟩
     ·have hfin:=fin (St.set0 { s1 with ro:=s.ro,lk:=s.lk} x q) (fun u hu=>by
        rw [get_set0,get_set0]
        split
        ·rfl
        ·exact hrh u (hu.elim (fun h=>absurd h k5) (fun h=> .inr (.inr (.inr h))))) (fun _ u hu=>by
        rw [get_set0,if_neg (by rintro rfl; exact hu (hwr9 u hx))]; rfl) (fun h=>absurd h k5) (fun h=>absurd h k5) (fun _=>rfl) (fun h=>absurd h k5) (fun _=>rfl)
      exact⟨_,_,_,⟨same,by rintro rfl; rfl⟩,hrun _ _ e2,hfin.1,hfin.2⟩
     ·have hfin:=fin ((St.set0 { s1 with ro:=s.ro,lk:=s.lk} x q).set0 x' q') (fun u hu=>by
        rw [get_set0,get_set0,get_set0,get_set0]
        split
        ·rfl
        ·split
         ·rfl
         ·exact hrh u (hu.elim (fun h=>absurd h k5) (fun h=> .inr (.inr (.inr h))))) (fun _ u hu=>by
        rw [get_set0,if_neg (by rintro rfl; exact hu (hwr9 u hx')),get_set0,if_neg (by rintro rfl; exact hu (hwr9 u hx))]; rfl) (fun h=>absurd h k5) (fun h=>absurd h k5) (fun _=>rfl) (fun h=>absurd h k5) (fun _=>rfl)
      exact⟨_,_,_,⟨same,by rintro rfl; rfl⟩,hrun _ _ e2,hfin.1,hfin.2⟩
    ·exact absurd hk (hns _ _ _ _)
    ·exact absurd hk (hnl _)
   ·cases h
 ·rename_i hwt
  simp only [Option.some.injEq,Prod.mk.injEq]at h
  obtain⟨rfl,rfl⟩:=h
  have g0:=zIb (o:=o) hlv h0
  have p1:∀(e:Env),Env.isLvo (putD e o.dst (.tup [])) o.dst=false:=fun e=>zIc fun _ _=>rfl
  refine⟨s1,{ fr1 with env:=putD fr1.env o.dst (.tup [])},s1,⟨fun _=>rfl,id⟩,by unfold oper; rw [hw,hwt],fun k hk=> ?_,fun k hk=> ?_⟩
  ·by_cases hkg:∃u,k= .g u
   ·obtain⟨u,rfl⟩:=hkg
    simp only [wrK]at hk
    rw [zFj (p1 _) hk,zFj (p1 _) hk]
   ·have hkg:∀u,k≠ .g u:=fun u e=>hkg ⟨u,e⟩
    rw [zEp g0 (p1 _) k (fun u e=>absurd e (hkg u)),zEp h0 (p1 _) k (fun u e=>absurd e (hkg u))]
    exact hrd k (yHp hk hkg)
  ·rw [zEp g0 (p1 _) k (by rintro u rfl; exact hk)]
 ·cases h
theorem zXx (h:oper C b o fr s=some (fr',s'))(hok:zQe o=true)(h0:fr.env.isLvo o.dst=false)(h1:fr'.env.isLvo o.dst=false)(hcut:zZk C b hi){k:Key}(hk: ¬ wrK b o fr s s' k):val fr' s' k=val fr s k:=by
 obtain⟨s1',fr2,s2,⟨_,g1⟩,g2,_,g4⟩:=zVs (fr1:=fr) (s1:=s) h hok h0 h1 (fun _ _=>rfl) (fun _=>rfl) hcut
 rw [g1 rfl,h]at g2
 simp only [Option.some.injEq,Prod.mk.injEq]at g2
 obtain⟨rfl,rfl⟩:=g2
 exact g4 k hk
end
end Go.Ab
