/- Part. -/
import Derived.Test.YtjaldhgmboeffaaGreatDoorG14
set_option linter.unusedSimpArgs false
set_option linter.unusedVariables false
set_option linter.unusedSectionVars false
namespace Go.Ab
open Go
variable [eV]
def SS (a b:Option D):Prop:=a=b\/∃x y,a=some (.lv x)/\b=some (.lv y)
theorem SS.refl (a:Option D):SS a a:= .inl rfl
theorem SS.symm {a b:Option D}(h:SS a b):SS b a:=by
 rcases h with h | ⟨x,y,h1,h2⟩
 ·exact .inl h.symm
 ·exact .inr ⟨y,x,h2,h1⟩
theorem SS.trans {a b c:Option D}(h:SS a b)(k:SS b c):SS a c:=by
 rcases h with rfl | ⟨x,y,rfl,rfl⟩
 ·exact k
 ·rcases k with rfl | ⟨z,u,h1,rfl⟩
  ·exact .inr ⟨x,y,rfl,rfl⟩
  ·exact .inr ⟨x,u,rfl,rfl⟩
section
variable {e e' :Env}
theorem fG {x:bP}(h:∀t∈x.sl,SS (e.get t) (e'.get t)):x.ev e=x.ev e' :=by
 cases x with
 | t n=>
  rcases h n (by simp [bP.sl]) with h | ⟨x,y,h1,h2⟩
  ·simp only [bP.ev,h]
  ·simp only [bP.ev,h1,h2]
 | c d=>rfl
theorem lI {x:bP}(h:∀t∈x.sl,SS (e.get t) (e'.get t)):x.yP e=x.yP e' :=by
 cases x with
 | t n=>
  rcases h n (by simp [bP.sl]) with h | ⟨x,y,h1,h2⟩
  ·simp only [bP.yP,h]
  ·simp only [bP.yP,h1,h2]
 | c d=>rfl
theorem lE:∀ {l:List bP},(∀t∈MZ l,SS (e.get t) (e'.get t))->sg e l=sg e' l
 | [],_=>rfl
 | x::l,h=>by
  simp only [sg];rw [fG (x:=x) (fun t ht=>h t (by simp [MZ]; exact .inl ht)),lE (l:=l) (fun t ht=>h t (by simp [MZ]at ht ⊢; exact .inr ht))]
theorem qd {x:Option bP}(h:∀t∈Xq x,SS (e.get t) (e'.get t)):sJ e x=sJ e' x:=by
 cases x with
 | none=>rfl
 | some x=>simp only [sJ]; rw [fG (x:=x) h]
theorem ug:∀ {l:List (Nat×Nat×bP)},(∀t∈l.flatMap (fun q=>q.2.2.sl),SS (e.get t) (e'.get t))->pD e l=pD e' l
 | [],_=>rfl
 | (a,b,x)::l,h=>by
  simp only [pD];rw [fG (x:=x) (fun t ht=>h t (by simp; exact .inl ht)),ug (l:=l) (fun t ht=>h t (by simp only [jf,bK]; exact .inr ht))]
theorem pT:∀ {l:List (Nat×bP)},(∀t∈l.flatMap (fun q=>q.2.sl),SS (e.get t) (e'.get t))->jv e l=jv e' l
 | [],_=>rfl
 | (a,x)::l,h=>by
  simp only [jv];rw [fG (x:=x) (fun t ht=>h t (by simp; exact .inl ht)),pT (l:=l) (fun t ht=>h t (by simp only [jf,bK]; exact .inr ht))]
def eQ.lvB:eQ->Bool
 | .iv _ | .ki .. | .rK .. =>true
 | _=>false
theorem EV {C:ay}{s:St}{al:Option Nat}{p:eQ}(h:∀t∈p.sl,SS (e.get t) (e'.get t))(hl:p.lvB=true->∀r,e.kC r=e'.kC r)(hc:∀a sz x,p= .sP a sz x->e.get a=e'.get a):cC C e s al p=cC C e' s al p:=by
 cases p <;> simp only [eQ.sl,bK,bR]at h <;> simp only [cC]
 case mv x=>rw [lI h]
 case pick a b c=>rw [fG (x:=a) fun t ht=>h t (by simp [ht]),fG (x:=b) fun t ht=>h t (by simp [ht]),fG (x:=c) fun t ht=>h t (by simp [ht])]
 case pX=>rw [pT h]
 case tq=>rw [pT h]
 case build=>rw [ug h]
 case sP a sz x=>rw [lI (x:=x) fun t ht=>h t (.inr ht),hc a sz x rfl]
 case iv x=>simp only [lI h,hl rfl]
 case ki off x=>simp only [lI h,hl rfl]
 case rK n z x i=>simp only [lI (x:=x) fun t ht=>h t (.inl ht),fG (x:=i) fun t ht=>h t (.inr ht),hl rfl]
 case Kv f a b=>rw [lE (l:=a) fun t ht=>h t (.inl ht),lE (l:=b) fun t ht=>h t (.inr ht)]
 case yw r=>rw [qd h]
 case pj x a b=>rw [fG (x:=x) fun t ht=>h t (by simp [ht]),qd (x:=a) fun t ht=>h t (by simp [ht]),qd (x:=b) fun t ht=>h t (by simp [ht])]
 case HE z x a b c=>rw [fG (x:=x) fun t ht=>h t (by simp [ht]),qd (x:=a) fun t ht=>h t (by simp [ht]),qd (x:=b) fun t ht=>h t (by simp [ht]),qd (x:=c) fun t ht=>h t (by simp [ht])]
 case zC et x y z=>rw [fG (x:=x) fun t ht=>h t (by simp [ht]),fG (x:=y) fun t ht=>h t (by simp [ht]),fG (x:=z) fun t ht=>h t (by simp [ht])]
 case pI x y z=>rw [fG (x:=x) fun t ht=>h t (by simp [ht]),fG (x:=y) fun t ht=>h t (by simp [ht]),fG (x:=z) fun t ht=>h t (by simp [ht])]
 case call ro f l=>rw [lE h]
 case oU f l=>rw [fG (x:=f) fun t ht=>h t (.inl ht),lE (l:=l) fun t ht=>h t (.inr ht)]
 case invoke tb x l=>rw [fG (x:=x) fun t ht=>h t (.inl ht),lE (l:=l) fun t ht=>h t (.inr ht)]
 case ext k l=>rw [lE h]
 case tD mx l=>rw [lE h]
 all_goals first
  | rfl
  | (rw [fG h]; done)
  | (rename_i x y; rw [fG (x:=x) fun t ht=>h t (.inl ht),fG (x:=y) fun t ht=>h t (.inr ht)]; done)
theorem Qo {C:ay}{s:St}{al:Option Nat}{p:eQ}(h:∀t∈p.sl,SS (e.get t) (e'.get t))(hl:∀r,e.kC r=e'.kC r)(hc:∀a sz x,p= .sP a sz x->e.get a=e'.get a):cC C e s al p=cC C e' s al p:=EV h (fun _=>hl) hc
theorem NX {C:ay}{s:St}{al:Option Nat}{p:eQ}{r:D×St}(h:∀t∈p.sl,SS (e.get t) (e'.get t))(hl:∀r,e.kC r=true->e'.kC r=true)(hc:∀a sz x,p= .sP a sz x->e.get a=e'.get a)(hr:cC C e s al p=some r):cC C e' s al p=some r:=by
 cases hp:p.lvB with
 | false=>rw [← EV h (fun h0=>by rw [hp]at h0; cases h0) hc]; exact hr
 | true=>
  cases p <;> simp only [eQ.lvB]at hp <;> first | (cases hp; done) | skip
  all_goals simp only [eQ.sl,bK]at h
  case iv x=>
   simp only [cC]at hr ⊢;rw [← lI h];split at hr <;> first | (cases hr; done) | exact hr | skip
   split at hr
   ·rename_i h1; rw [hl _ h1]; exact hr
   ·cases hr
  case ki off x=>
   simp only [cC]at hr ⊢;rw [← lI h];split at hr <;> first | (cases hr; done) | exact hr | skip
   split at hr
   ·rename_i h1; rw [hl _ h1]; exact hr
   ·cases hr
  case rK n z x i=>
   simp only [cC]at hr ⊢;rw [← lI (x:=x) fun t ht=>h t (.inl ht),← fG (x:=i) fun t ht=>h t (.inr ht)];split at hr <;> first | (cases hr; done) | skip
   ·split at hr
    ·split at hr
     ·rename_i h1 h2; rw [h1,hl _ h2]; exact hr
     ·cases hr
    ·cases hr
   all_goals exact hr
end
end Go.Ab
namespace Go.Ab
open Go
variable [eV]
def Da (l:List Nat)(s s2:St):Prop:=∀o,o∈l->s2.get o=s.get o
section
variable {s s2:St}{C:ay}{e:Env}{al:Option Nat}
theorem sv {x:Option D}{d:D} {s' :St}(h:nj s x=some (d,s')):s' =s/\nj s2 x=some (d,s2):=by
 cases x <;> simp [nj]at h ⊢; exact ⟨h.2.symm,h.1⟩
theorem Fx {sz:Option Nat}{p:D}(h:Da (bC.cW (some p)) s s2):iP s2 sz p=iP s sz p:=by
 cases p <;> simp only [iP]
 ·rename_i o c; rw [h o (by simp [bC.cW])]
 ·rename_i o i c z; rw [h o (by simp [bC.cW])]
theorem oT {p:D}(h:Da (bC.cW (some p)) s s2):items s2 p=items s p:=by
 cases p <;> simp only [items];rename_i o _ _ _; rw [h o (by simp [bC.cW])]
theorem sf {k:Nat}{p:D}(h:Da (bC.cW (some p)) s s2):o8 s2 k p=o8 s k p:=by
 unfold o8;split
 ·rfl
 ·rfl
 ·cases p <;> simp only;rename_i o; rw [h o (by simp [bC.cW])]
theorem ER {sz i:Nat}{p:D}(h:Da (bC.cW (some p)) s s2):ke s2 sz p i=ke s sz p i:=by
 cases p <;> simp only [ke];rename_i o _ _ _; rw [h o (by simp [bC.cW])]
theorem Ly {a b:D}(h:Da (bC.cW (some a)++bC.cW (some b)) s s2):PI s2 a b=PI s a b:=by
 cases a <;> cases b <;> simp only [PI];rename_i o c o' c';rw [h o (by simp [bC.cW]),h o' (by simp [bC.cW])]
theorem sw {o:Nat}{x:Obj} {s' :St}(h:s.set o x=some s')(hr:s2.ro=s.ro)(hl:s2.lk=s.lk):s' =s.bF o x/\s2.set o x=some (s2.bF o x):=by
 unfold St.set at *;rw [hr,hl];split at h
 ·cases h
 ·rename_i h1;split at h
  ·cases h
  ·rename_i h2;simp only [aa]at h;simp [h1,h2,h]
theorem F4 {k:Nat}{x:Obj}{r:Nat×St}(h:s.mk' (some k) x=some r)(hr:s2.ro=s.ro)(hn:s2.n=s.n)(hg:s2.get k=s.get k):r=(k,s.bF k x)/\s2.mk' (some k) x=some (k,s2.bF k x):=by
 unfold St.mk' at *;rw [hr];split at h
 ·cases h
 ·rename_i h1;simp only at h;split at h
  ·rename_i h2;split at h
   ·rename_i h3;simp only [aa]at h;simp [h1,hg,h2,hn,h3,h]
   ·cases h
  ·cases h
theorem Hk {sz:Nat}{p v:D} {s' :St}(h:jN s sz p v=some s')(hr:s2.ro=s.ro)(hl:s2.lk=s.lk)(hg:Da (bC.cW (some p)) s s2):
  ∃o x,o∈bC.cW (some p)/\s' =s.bF o x/\jN s2 sz p v=some (s2.bF o x):=by
 unfold jN at *;split at h
 ·cases h
 ·rename_i hz;cases p <;> (try simp only at h) <;> try (cases h; done)
  ·rename_i o c;have xo:=hg o (by simp [bC.cW]);split at h
   ·rename_i q hq;split at h
    ·rename_i e' he;obtain⟨h1,h2⟩:=sw h hr hl;exact⟨o,_,by simp [bC.cW],h1,by simp [jN,hz,xo,hq,he,h2]⟩
    ·cases h
   ·cases h
  ·rename_i o i c z;have xo:=hg o (by simp [bC.cW]);split at h
   ·rename_i z es st hq;split at h
    ·rename_i hb;split at h
     ·rename_i d0 Fh;split at h
      ·rename_i d1 HP;obtain⟨h1,h2⟩:=sw h hr hl;exact⟨o,_,by simp [bC.cW],h1,by simp [jN,hz,xo,hq,hb,Fh,HP,h2]⟩
      ·cases h
     ·cases h
    ·cases h
   ·cases h
theorem G6 {sz:Nat}{p:D}{l:List D} {s' :St}(h:iM s sz p l=some s')(hr:s2.ro=s.ro)(hl:s2.lk=s.lk)(hg:Da (bC.cW (some p)) s s2):
  (s' =s/\iM s2 sz p l=some s2)\/∃o x,o∈bC.cW (some p)/\s' =s.bF o x/\iM s2 sz p l=some (s2.bF o x):=by
 unfold iM at *;cases p <;> (try simp only at h) <;> try (cases h; done)
 ·rename_i nl z es;cases es <;> (try simp only at h) <;> try (cases h; done)
  cases l <;> (try simp only at h) <;> try (cases h; done)
  simp only [aa]at h; subst h;exact .inl ⟨rfl,rfl⟩
 ·rename_i o off len cp;simp only [hg o (by simp [bC.cW])];split at h
  ·rename_i z es st hq;split at h
   ·rename_i h1 h2 h3;obtain⟨g1,g2⟩:=sw h hr hl;exact .inr ⟨o,_,by simp [bC.cW],g1,by simp [hq,h1,h2,h3,g2]⟩
   ·rename_i h1 h2 h3;split at h
    ·rename_i h4;simp only [aa]at h; subst h;exact .inl ⟨rfl,by simp [hq,h1,h2,h3,h4]⟩
    ·cases h
   ·cases h
  ·cases h
def V0 (F:St->Option (D×St))(s s2:St)(wr:List Nat):Prop:=∀d s',F s=some (d,s')->
 (s' =s/\F s2=some (d,s2))\/∃o x,o∈wr/\s' =s.bF o x/\F s2=some (d,s2.bF o x)
theorem Zn {p:eQ}{wr:List Nat}(hk:p.kind=0\/p.kind=6):V0 (fun s=>cC C e s al p) s s2 wr:=by
 intro d s' h;refine .inl ?_
 cases p <;> first
  | (exfalso; revert hk; simp [eQ.kind]; done)
  | (exfalso; rename_i ro _ _; cases ro <;> revert hk <;> simp [eQ.kind]; done)
  | (simp only [cC]at h ⊢
     repeat' split at h
     all_goals first
      | (cases h; done)
      | exact sv h
      | (have h2:=sv (s2:=s2) h; simp_all; done)
      | (simp only [aa,ae]at h; obtain ⟨rfl,rfl⟩:=h; simp_all; done)
      | trace_state)
theorem Da.app {l m:List Nat}(h:Da (l++m) s s2):Da l s s2/\Da m s s2:=⟨fun o ho=>h o (by simp [ho]),fun o ho=>h o (by simp [ho])⟩
theorem acf {p:eQ}{wr:List Nat}(hk:p.kind=1)(hg:Da (bC e p) s s2):V0 (fun s=>cC C e s al p) s s2 wr:=by
 cases p <;> first
  | (exfalso; revert hk; simp [eQ.kind]; done)
  | (exfalso; rename_i ro _ _; cases ro <;> revert hk <;> simp [eQ.kind]; done)
  | skip
 case load sz x=>
  simp only [bC]at hg;intro d s' h;simp only [cC]at h ⊢;split at h
  ·rename_i p hp;rw [hp]at hg;try simp only [hp,Fx hg]
   exact .inl (sv h)
  ·cases h
 case DA x=>
  simp only [bC]at hg;intro d s' h;simp only [cC]at h ⊢;split at h
  ·rename_i o c hp;rw [hp]at hg;try simp only [hp]
   have ho:=hg o (by simp [bC.cW]);simp only [ho];split at h
   ·rename_i v hv;try simp only [hv]
    split at h
    ·rename_i hb;simp only [aa,ae]at h;obtain⟨rfl,rfl⟩:=h;exact .inl ⟨rfl,by simp only [hb]⟩
    ·cases h
   ·cases h
  ·cases h
 case upto l x=>
  simp only [bC]at hg;intro d s' h;simp only [cC]at h ⊢;split at h
  ·rename_i hp;try simp only [hp]
   simp only [aa,ae]at h;obtain⟨rfl,rfl⟩:=h;exact .inl ⟨rfl,rfl⟩
  ·rename_i o c hp;rw [hp]at hg;try simp only [hp]
   have ho:=hg o (by simp [bC.cW]);simp only [ho];split at h
   ·rename_i t v hv;try simp only [hv]
    split at h
    ·rename_i hb;simp only [aa,ae]at h;obtain⟨rfl,rfl⟩:=h;exact .inl ⟨rfl,by simp only [hb]⟩
    ·cases h
   ·cases h
  ·cases h
 case qy x=>
  simp only [bC]at hg;intro d s' h;simp only [cC]at h ⊢;split at h
  ·rename_i z l hp;try simp only [hp]
   simp only [aa,ae]at h;obtain⟨rfl,rfl⟩:=h;exact .inl ⟨rfl,rfl⟩
  ·rename_i o off len cp hp;rw [hp]at hg;try simp only [hp]
   have ho:=hg o (by simp [bC.cW]);simp only [ho];split at h
   ·rename_i hv;try simp only [hv]
    split at h
    ·rename_i hb;simp only [aa,ae]at h;obtain⟨rfl,rfl⟩:=h;exact .inl ⟨rfl,by simp only [hb]⟩
    ·cases h
   ·cases h
  ·cases h
 case eq et neg oc x y=>
  simp only [bC]at hg;intro d s' h;simp only [cC]at h ⊢;split at h
  ·rename_i a b ha hb;rw [ha,hb]at hg;try simp only [ha,hb]
   split at h
   ·rename_i r hr;simp only [aa,ae]at h;obtain⟨rfl,rfl⟩:=h;exact .inl ⟨rfl,by simp [hr]⟩
   ·rename_i hr;try simp only [hr]
    split at h
    ·try simp only [Ly hg]
     split at h
     ·rename_i r zx;simp only [aa,ae]at h;obtain⟨rfl,rfl⟩:=h;exact .inl ⟨rfl,by simp [zx]⟩
     ·cases h
    ·cases h
  ·cases h
 case jY sz x i=>
  simp only [bC]at hg;intro d s' h;simp only [cC]at h ⊢;split at h
  ·rename_i p i hp hi;rw [hp]at hg;try simp only [hp,hi]
   split at h
   ·rename_i k hk;try simp only [hk,ER hg]
    exact .inl (sv h)
   ·cases h
  ·cases h
 case HE sz x lo hi mx=>
  simp only [bC]at hg;intro d s' h;simp only [cC]at h ⊢;split at h
  ·rename_i p a b c hp ha hb hc;rw [hp]at hg;try simp only [hp,ha,hb,hc]
   split at h
   ·rename_i a' b' c' ha' jl hc';try simp only [ha',jl,hc',oT hg]
    split at h
    ·rename_i z l hi;try simp only [hi]
     split at h
     ·rename_i hz;try simp only [hz]
      exact .inl (sv h)
     ·cases h
    ·cases h
   ·cases h
  ·cases h
 case len k x=>
  simp only [bC]at hg;intro d s' h;simp only [cC]at h ⊢;split at h
  ·rename_i i ex lo hi hp;split at h
   ·simp only [aa,ae]at h;obtain⟨rfl,rfl⟩:=h;exact .inl ⟨rfl,rfl⟩
   ·cases h
  ·rename_i p xY hp;clear xY;rw [hp]at hg;try simp only [sf hg]
   split at h
   ·rename_i r hr;simp only [aa,ae]at h;obtain⟨rfl,rfl⟩:=h;exact .inl ⟨rfl,by simp [hr]⟩
   ·cases h
  ·cases h
 case lP x=>
  simp only [bC]at hg;intro d s' h;simp only [cC]at h ⊢;split at h
  ·rename_i p hp;rw [hp]at hg;try simp only [hp,oT hg]
   split at h
   ·rename_i z l hi;try simp only [hi]
    split at h
    ·rename_i b h1 h2;simp only [aa,ae]at h;obtain⟨rfl,rfl⟩:=h;exact .inl ⟨rfl,by simp only [h1,h2]⟩
    ·cases h
   ·cases h
  ·cases h
 case kB x=>
  simp only [bC]at hg;intro d s' h;simp only [cC]at h ⊢;split at h
  ·rename_i p hp;rw [hp]at hg;try simp only [hp,oT hg]
   split at h
   ·rename_i z l hi;try simp only [hi]
    split at h
    ·rename_i b h1 h2;simp only [aa,ae]at h;obtain⟨rfl,rfl⟩:=h;exact .inl ⟨rfl,by simp only [h1,h2]⟩
    ·cases h
   ·cases h
  ·cases h
 case lookup et z ok m k=>
  simp only [bC]at hg;intro d s' h;simp only [cC]at h ⊢;split at h
  ·rename_i m k hm hk;rw [hm]at hg;try simp only [hm,hk]
   split at h
   ·cases h
   ·rename_i gV;try simp only [gV]
    split at h
    ·simp only [aa,ae]at h;obtain⟨rfl,rfl⟩:=h;exact .inl ⟨rfl,rfl⟩
    ·rename_i o;have ho:=hg o (by simp [bC.cW]);simp only [ho];split at h
     ·rename_i es c u6;try simp only [u6]
      split at h
      ·rename_i q v hf;simp only [aa,ae]at h;obtain⟨rfl,rfl⟩:=h;exact .inl ⟨rfl,by simp only [hf]⟩
      ·rename_i hf;simp only [aa,ae]at h;obtain⟨rfl,rfl⟩:=h;exact .inl ⟨rfl,by simp only [hf]⟩
      ·cases h
     ·cases h
    ·cases h
  ·cases h
theorem mY {o:Nat}{x:Obj}{d0 d:D} {s' :St}{wr:List Nat}(ho:o∈wr)(h:oK d0 (s.set o x)=some (d,s'))(hr:s2.ro=s.ro)(hl:s2.lk=s.lk):
  (s' =s/\oK d0 (s2.set o x)=some (d,s2))\/∃o' x',o' ∈wr/\s' =s.bF o' x' /\oK d0 (s2.set o x)=some (d,s2.bF o' x'):=by
 unfold oK at *;split at h
 ·rename_i s1 h1;obtain⟨g1,g2⟩:=sw (s2:=s2) h1 hr hl;simp only [aa,ae]at h;obtain⟨rfl,rfl⟩:=h;exact .inr ⟨o,x,ho,g1,by simp [g2]⟩
 ·cases h
theorem yb {sz:Nat}{p:D}{l:List D}{d0 d:D} {s' :St}{wr:List Nat}(hw:∀o,o∈bC.cW (some p)->o∈wr)(h:oK d0 (iM s sz p l)=some (d,s'))(hr:s2.ro=s.ro)(hl:s2.lk=s.lk)(hg:Da (bC.cW (some p)) s s2):
  (s' =s/\oK d0 (iM s2 sz p l)=some (d,s2))\/∃o' x',o' ∈wr/\s' =s.bF o' x' /\oK d0 (iM s2 sz p l)=some (d,s2.bF o' x'):=by
 unfold oK at *;split at h
 ·rename_i s1 h1;simp only [aa,ae]at h;obtain⟨rfl,rfl⟩:=h;rcases G6 (s2:=s2) h1 hr hl hg with ⟨g1,g2⟩ | ⟨o,x,g0,g1,g2⟩
  ·exact .inl ⟨g1,by simp [g2]⟩
  ·exact .inr ⟨o,x,hw o g0,g1,by simp [g2]⟩
 ·cases h
theorem abL {p:eQ}(hk:p.kind=2)(hr:s2.ro=s.ro)(hl:s2.lk=s.lk)(hg:Da (bC e p++nC e p) s s2):V0 (fun s=>cC C e s al p) s s2 (nC e p):=by
 cases p <;> first
  | (exfalso; revert hk; simp [eQ.kind]; done)
  | (exfalso; rename_i ro _ _; cases ro <;> revert hk <;> simp [eQ.kind]; done)
  | skip
 case store sz x v=>
  simp only [bC,nC,cB]at hg ⊢;intro d s' h;simp only [cC]at h ⊢;split at h
  ·rename_i p v hp hv;rw [hp]at hg;try simp only [hp,hv]
   unfold oK at *;split at h
   ·rename_i s1 h1;simp only [aa,ae]at h;obtain⟨rfl,rfl⟩:=h;obtain⟨o,x,g0,g1,g2⟩:=Hk (s2:=s2) h1 hr hl hg;exact .inr ⟨o,x,g0,g1,by simp [g2]⟩
   ·cases h
  ·cases h
 case zC et m k v=>
  simp only [bC,nC,cB]at hg ⊢;intro d s' h;simp only [cC]at h ⊢;split at h
  ·rename_i o k v hm hk hv;rw [hm]at hg;try simp only [hm,hk,hv]
   have ho:=hg o (by simp [bC.cW]);split at h
   ·cases h
   ·rename_i gV;try simp only [gV]
    simp only [ho];split at h
    ·rename_i es c u6;try simp only [u6]
     split at h
     ·rename_i i q hf;try simp only [hf]
      split at h
      ·rename_i b k' q' he;try simp only [he]
       split at h
       ·rename_i hs;try simp only [hs]
        exact mY (by simp [bC.cW]) h hr hl
       ·cases h
      ·cases h
     ·rename_i hf;try simp only [hf]
      exact mY (by simp [bC.cW]) h hr hl
     ·cases h
    ·cases h
  ·cases h
 case tf et z m k=>
  simp only [bC,nC,cB]at hg ⊢;intro d s' h;simp only [cC]at h ⊢;split at h
  ·rename_i o k hm hk;rw [hm]at hg;try simp only [hm,hk]
   have ho:=hg o (by simp [bC.cW]);split at h
   ·cases h
   ·rename_i gV;try simp only [gV]
    simp only [ho];split at h
    ·rename_i es c u6;try simp only [u6]
     split at h
     ·rename_i i q hf;try simp only [hf]
      split at h
      ·rename_i b k' q' he;try simp only [he]
       split at h
       ·rename_i hs;try simp only [hs]
        exact mY (by simp [bC.cW]) h hr hl
       ·cases h
      ·cases h
     ·rename_i hf;try simp only [hf]
      exact mY (by simp [bC.cW]) h hr hl
     ·cases h
    ·cases h
  ·cases h
 case pI m b v=>
  simp only [bC,nC,cB]at hg ⊢;intro d s' h;simp only [cC]at h ⊢;split at h
  ·rename_i o ik b v hm hk hv;rw [hm]at hg;try simp only [hm,hk,hv]
   have ho:=hg o (by simp [bC.cW]);simp only [ho];split at h
   ·rename_i es c u6;try simp only [u6]
    split at h
    ·rename_i i hf;try simp only [hf]
     exact mY (by simp [bC.cW]) h hr hl
    ·cases h
   ·cases h
  ·cases h
 case uh x=>
  simp only [bC,nC,cB]at hg ⊢;intro d s' h;simp only [cC]at h ⊢;split at h
  ·rename_i o hm;rw [hm]at hg;try simp only [hm]
   have ho:=hg o (by simp [bC.cW]);simp only [ho];split at h
   ·rename_i l pos u6;try simp only [u6]
    split at h
    ·rename_i hb;try simp only [hb]
     exact mY (by simp [bC.cW]) h hr hl
    ·rename_i hb;simp only [aa,ae]at h;obtain⟨rfl,rfl⟩:=h;exact .inl ⟨rfl,by simp only [hb]⟩
   ·cases h
  ·cases h
 case delete et m k=>
  simp only [bC,nC,cB]at hg ⊢;intro d s' h;simp only [cC]at h ⊢;split at h
  ·rename_i m k hm hk;rw [hm]at hg;try simp only [hm,hk]
   split at h
   ·cases h
   ·rename_i gV;try simp only [gV]
    split at h
    ·simp only [aa,ae]at h;obtain⟨rfl,rfl⟩:=h;exact .inl ⟨rfl,rfl⟩
    ·rename_i o;have ho:=hg o (by simp [bC.cW]);simp only [ho];split at h
     ·rename_i es c u6;try simp only [u6]
      split at h
      ·rename_i q v hf;try simp only [hf]
       exact mY (by simp [bC.cW]) h hr hl
      ·rename_i hf;try simp only [hf]
       exact mY (by simp [bC.cW]) h hr hl
      ·cases h
     ·cases h
    ·cases h
  ·cases h
 case clear sz z x=>
  simp only [bC,nC,cB]at hg ⊢;intro d s' h;simp only [cC]at h ⊢;split at h
  ·rename_i hm;try simp only [hm]
   simp only [aa,ae]at h;obtain⟨rfl,rfl⟩:=h;exact .inl ⟨rfl,rfl⟩
  ·rename_i o hm;rw [hm]at hg;try simp only [hm]
   have ho:=hg o (by simp [bC.cW]);simp only [ho];split at h
   ·rename_i es c u6;try simp only [u6]
    exact mY (by simp [bC.cW]) h hr hl
   ·cases h
  ·rename_i p h1 h2 hm;rw [hm]at hg;simp only [sf hg];split at h
   ·rename_i n hn;try simp only [hn]
    split at h
    ·rename_i hz;try simp only [hz]
     exact yb (fun _ h=>by rw [hm]; exact h) h hr hl hg
    ·cases h
   ·cases h
  ·cases h
 case BG ty x y=>
  simp only [bC,nC,cB]at hg ⊢;intro d s' h;simp only [cC]at h ⊢;split at h
  ·rename_i k n hm hy;try simp only [hm,hy]
   split at h
   ·rename_i hb;simp only [aa,ae]at h;obtain⟨rfl,rfl⟩:=h;exact .inl ⟨rfl,by simp only [hb]⟩
   ·cases h
  ·rename_i o i c en k n hm hy;rw [hm]at hg;try simp only [hm,hy]
   have ho:=hg o (by simp [bC.cW]);simp only [ho];split at h
   ·rename_i z t es st u6;try simp only [u6]
    split at h
    ·rename_i b h1 h2 h3 h4;try simp only [h1,h2,h3,h4]
     exact mY (by simp [bC.cW]) h hr hl
    ·cases h
   ·cases h
  ·cases h
 case copy sz x y=>
  simp only [bC,nC]at hg ⊢;intro d s' h;simp only [cC]at h ⊢;split at h
  ·rename_i a l hm hy;rw [hm]at hg;have h2:=hg.app.2;simp only [sf h2];split at h
   ·rename_i n h1 hn;try simp only [h1,hn]
    exact yb (fun _ h=>by rw [hm]; exact h) h hr hl h2
   ·cases h
  ·rename_i a b ya hm hy;rw [hm,hy]at hg;have h2:=hg.app.2;have h1:=hg.app.1;simp only [sf h2,oT h1];split at h
   ·rename_i z l n hi hn;try simp only [hi,hn]
    split at h
    ·rename_i g1 g2;try simp only [g1,g2]
     exact yb (fun _ h=>by rw [hm]; exact h) h hr hl h2
    ·cases h
   ·cases h
  ·cases h
theorem abV {p:eQ}{k:Nat}(hk:p.kind=3)(hr:s2.ro=s.ro)(hn:s2.n=s.n)(hg:s2.get k=s.get k):V0 (fun s=>cC C e s (some k) p) s s2 [k]:=by
 intro d s' h
 cases p <;> first
  | (exfalso; revert hk; simp [eQ.kind]; done)
  | (exfalso; rename_i ro _ _; cases ro <;> revert hk <;> simp [eQ.kind]; done)
  | (simp only [cC]at h ⊢
     repeat' split at h
     all_goals first
      | (cases h; done)
      | (rename_i h1
         obtain⟨g1,g2⟩:=F4 (s2:=s2) h1 hr hn hg;simp only [ae]at g1;obtain⟨rfl,rfl⟩:=g1;simp only [aa,ae]at h;obtain⟨rfl,rfl⟩:=h;refine .inr ⟨_,_,cH.2 rfl,rfl, ?_⟩;simp_all; done)
      | trace_state)
def Mt (F:St->Option (D×St))(s s2:St)(wr:List Nat):Prop:=∀d s',F s=some (d,s')->
 (s' =s/\F s2=some (d,s2))\/(∃o x,o∈wr/\s' =s.bF o x/\F s2=some (d,s2.bF o x))\/
  ∃o x o' x',o∈wr/\o' ∈wr/\s' =(s.bF o x).bF o' x' /\F s2=some (d,(s2.bF o x).bF o' x')
theorem A4 {s:St}{x:Nat}{q:Obj}(u:Nat):(s.bF x q).get u=if u=x then some q else s.get u:=T.pN _ _ _ _
theorem wG {k sz ty:Nat}{a:D}{l:List D}(hr:s2.ro=s.ro)(hl:s2.lk=s.lk)(hn:s2.n=s.n)(hg:Da (bC.cW (some a)) s s2)(hk:s2.get k=s.get k):
  Mt (fun s=>fH s (some k) sz ty a l) s s2 (k::bC.cW (some a)):=by
 intro d s' h;simp only at h ⊢;unfold fH at h;split at h
 ·split at h
  ·simp only [aa,ae]at h;obtain⟨rfl,rfl⟩:=h;exact .inl ⟨rfl,by simp [fH]⟩
  ·rename_i o _ _ _;have ho:=hg o (by simp [bC.cW]);split at h
   ·rename_i hq;simp only [aa,ae]at h;obtain⟨rfl,rfl⟩:=h;exact .inl ⟨rfl,by simp [fH,ho,hq]⟩
   ·cases h
  ·cases h
 ·rename_i cE;split at h
  ·split at h
   ·rename_i hb;split at h
    ·rename_i k' s1 h1;obtain⟨g1,g2⟩:=F4 (s2:=s2) h1 hr hn hk;simp only [ae]at g1;obtain⟨rfl,rfl⟩:=g1;simp only [aa,ae]at h;obtain⟨rfl,rfl⟩:=h;exact .inr (.inl ⟨k',_,by simp,rfl,by simp [fH,hb,g2]⟩)
    ·cases h
   ·cases h
  ·rename_i o off len cp;have ho:=hg o (by simp [bC.cW]);split at h
   ·rename_i z es st hq;split at h
    ·rename_i h1 h2 h3 h4;split at h
     ·rename_i h5;split at h
      ·rename_i s1 uL;obtain⟨g1,g2⟩:=sw (s2:=s2) uL hr hl;simp only [aa,ae]at h;obtain⟨rfl,rfl⟩:=h;exact .inr (.inl ⟨o,_,by simp [bC.cW],g1,by simp [fH,ho,hq,h1,h2,h3,h4,h5,g2]⟩)
      ·cases h
     ·rename_i h5;split at h
      ·rename_i s1 uL;obtain⟨g1,g2⟩:=sw (s2:=s2) uL hr hl;subst g1;split at h
       ·rename_i k' s3 h6;obtain⟨e1,e2⟩:=F4 (s2:=s2.bF o .dead) h6 hr hn (by rw [A4,A4,hk]);simp only [ae]at e1;obtain⟨rfl,rfl⟩:=e1;simp only [aa,ae]at h;obtain⟨rfl,rfl⟩:=h;exact .inr (.inr ⟨o,_,k',_,by simp [bC.cW],by simp,rfl,by simp [fH,ho,hq,h1,h2,h3,h4,h5,g2,e2]⟩)
       ·cases h
      ·cases h
    ·cases h
   ·cases h
  ·cases h
theorem Mt.wr {F:St->Option (D×St)}{l m:List Nat}(h:Mt F s s2 l)(hm:∀x,x∈l->x∈m):Mt F s s2 m:=by
 intro d s' hF;rcases h d s' hF with h | ⟨o,x,h1,h2⟩ | ⟨o,x,o',x',h1,h2,h3⟩
 ·exact .inl h
 ·exact .inr (.inl ⟨o,x,hm _ h1,h2⟩)
 ·exact .inr (.inr ⟨o,x,o',x',hm _ h1,hm _ h2,h3⟩)
theorem ab4 {p:eQ}{k:Nat}(hk:p.kind=9)(hr:s2.ro=s.ro)(hl:s2.lk=s.lk)(hn:s2.n=s.n)(hg:Da (bC e p++nC e p) s s2)(hgk:s2.get k=s.get k):Mt (fun s=>cC C e s (some k) p) s s2 (k::nC e p):=by
 cases p <;> first
  | (exfalso; revert hk; simp [eQ.kind]; done)
  | (exfalso; rename_i ro _ _; cases ro <;> revert hk <;> simp [eQ.kind]; done)
  | skip
 rename_i sz bytes ty x y;simp only [bC,nC]at hg ⊢;intro d s' h;simp only [cC]at h ⊢;split at h
 ·rename_i a l ha hy;rw [ha]at hg ⊢;try simp only [ha,hy]
  split at h
  ·rename_i h1 h2;try simp only [h1,h2]
   exact wG hr hl hn hg.app.2 hgk d s' h
  ·cases h
 ·rename_i a b xY ha hb;rw [ha,hb]at hg;rw [ha];try simp only [ha,hb]
  simp only [oT hg.app.1];split at h
  ·rename_i z l hi;try simp only [hi]
   split at h
   ·rename_i h1 h2;try simp only [h1,h2]
    split at h
    ·rename_i h3;try simp only [h3]
     exact wG hr hl hn hg.app.2 hgk d s' h
    ·cases h
   ·cases h
  ·cases h
 ·cases h
end
end Go.Ab
