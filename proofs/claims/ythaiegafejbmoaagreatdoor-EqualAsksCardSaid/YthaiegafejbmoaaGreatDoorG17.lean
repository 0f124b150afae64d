/- Part. -/
import Derived.Test.YthaiegafejbmoaaGreatDoorG16
set_option linter.unusedSectionVars false
set_option linter.unusedSimpArgs false
set_option linter.unusedVariables false
namespace Go.Ab
open Go
variable [eh]
def SS (a b:Option D):Prop:=a=b\/∃x y,a=some (.lv x)/\b=some (.lv y)
theorem SS.refl (a:Option D):SS a a:= .inl rfl
theorem SS.symm {a b:Option D}(h:SS a b):SS b a:=by
 rcases h with h | ⟨x,y,h1,h2⟩
 ·exact .inl h.symm
 ·exact .inr ⟨y,x,h2,h1⟩
theorem SS.trans {a b c:Option D}(h:SS a b)(k:SS b c):SS a c:=by
 rcases h with rfl | ⟨x,y,rfl,rfl⟩
 ·exact k
 ·rcases k with rfl | ⟨z,u,h1,rfl⟩
  ·exact .inr ⟨x,y,rfl,rfl⟩
  ·exact .inr ⟨x,u,rfl,rfl⟩
section
variable {e e' :Env}
theorem fi {x:bO}(h:∀t∈x.sl,SS (e.get t) (e'.get t)):x.ev e=x.ev e' :=by
 cases x with
 | t n=>
  rcases h n (by simp [bO.sl]) with h | ⟨x,y,h1,h2⟩
  ·simp only [bO.ev,h]
  ·simp only [bO.ev,h1,h2]
 | c d=>rfl
theorem kK {x:bO}(h:∀t∈x.sl,SS (e.get t) (e'.get t)):x.A9 e=x.A9 e' :=by
 cases x with
 | t n=>
  rcases h n (by simp [bO.sl]) with h | ⟨x,y,h1,h2⟩
  ·simp only [bO.A9,h]
  ·simp only [bO.A9,h1,h2]
 | c d=>rfl
theorem kL:∀ {l:List bO},(∀t∈Pb l,SS (e.get t) (e'.get t))->tF e l=tF e' l
 | [],_=>rfl
 | x::l,h=>by
  simp only [tF];rw [fi (x:=x) (fun t ht=>h t (by simp [Pb]; exact .inl ht)),kL (l:=l) (fun t ht=>h t (by simp [Pb]at ht ⊢; exact .inr ht))]
theorem pV {x:Option bO}(h:∀t∈XT x,SS (e.get t) (e'.get t)):wT e x=wT e' x:=by
 cases x with
 | none=>rfl
 | some x=>simp only [wT]; rw [fi (x:=x) h]
theorem uu:∀ {l:List (Nat×Nat×bO)},(∀t∈l.flatMap (fun q=>q.2.2.sl),SS (e.get t) (e'.get t))->ph e l=ph e' l
 | [],_=>rfl
 | (a,b,x)::l,h=>by
  simp only [ph];rw [fi (x:=x) (fun t ht=>h t (by simp; exact .inl ht)),uu (l:=l) (fun t ht=>h t (by simp only [iR,cN]; exact .inr ht))]
theorem pH:∀ {l:List (Nat×bO)},(∀t∈l.flatMap (fun q=>q.2.sl),SS (e.get t) (e'.get t))->jk e l=jk e' l
 | [],_=>rfl
 | (a,x)::l,h=>by
  simp only [jk];rw [fi (x:=x) (fun t ht=>h t (by simp; exact .inl ht)),pH (l:=l) (fun t ht=>h t (by simp only [iR,cN]; exact .inr ht))]
def eE.lvB:eE->Bool
 | .rU _ | .wU .. | .rM .. =>true
 | _=>false
theorem EI {C:au}{s:St}{al:Option Nat}{p:eE}(h:∀t∈p.sl,SS (e.get t) (e'.get t))(hl:p.lvB=true->∀r,e.ke r=e'.ke r)(hc:∀a sz x,p= .tf a sz x->e.get a=e'.get a):cg C e s al p=cg C e' s al p:=by
 cases p <;> simp only [eE.sl,cN,aN]at h <;> simp only [cg]
 case mv x=>rw [kK h]
 case pick a b c=>rw [fi (x:=a) fun t ht=>h t (by simp [ht]),fi (x:=b) fun t ht=>h t (by simp [ht]),fi (x:=c) fun t ht=>h t (by simp [ht])]
 case pP=>rw [pH h]
 case tw=>rw [pH h]
 case build=>rw [uu h]
 case tf a sz x=>rw [kK (x:=x) fun t ht=>h t (.inr ht),hc a sz x rfl]
 case rU x=>simp only [kK h,hl rfl]
 case wU off x=>simp only [kK h,hl rfl]
 case rM n z x i=>simp only [kK (x:=x) fun t ht=>h t (.inl ht),fi (x:=i) fun t ht=>h t (.inr ht),hl rfl]
 case Kq f a b=>rw [kL (l:=a) fun t ht=>h t (.inl ht),kL (l:=b) fun t ht=>h t (.inr ht)]
 case zr r=>rw [pV h]
 case pa x a b=>rw [fi (x:=x) fun t ht=>h t (by simp [ht]),pV (x:=a) fun t ht=>h t (by simp [ht]),pV (x:=b) fun t ht=>h t (by simp [ht])]
 case KT z x a b c=>rw [fi (x:=x) fun t ht=>h t (by simp [ht]),pV (x:=a) fun t ht=>h t (by simp [ht]),pV (x:=b) fun t ht=>h t (by simp [ht]),pV (x:=c) fun t ht=>h t (by simp [ht])]
 case AF et x y z=>rw [fi (x:=x) fun t ht=>h t (by simp [ht]),fi (x:=y) fun t ht=>h t (by simp [ht]),fi (x:=z) fun t ht=>h t (by simp [ht])]
 case pt x y z=>rw [fi (x:=x) fun t ht=>h t (by simp [ht]),fi (x:=y) fun t ht=>h t (by simp [ht]),fi (x:=z) fun t ht=>h t (by simp [ht])]
 case call ro f l=>rw [kL h]
 case oG f l=>rw [fi (x:=f) fun t ht=>h t (.inl ht),kL (l:=l) fun t ht=>h t (.inr ht)]
 case invoke tb x l=>rw [fi (x:=x) fun t ht=>h t (.inl ht),kL (l:=l) fun t ht=>h t (.inr ht)]
 case ext k l=>rw [kL h]
 case tT mx l=>rw [kL h]
 all_goals first
  | rfl
  | (rw [fi h]; done)
  | (rename_i x y; rw [fi (x:=x) fun t ht=>h t (.inl ht),fi (x:=y) fun t ht=>h t (.inr ht)]; done)
theorem Tt {C:au}{s:St}{al:Option Nat}{p:eE}(h:∀t∈p.sl,SS (e.get t) (e'.get t))(hl:∀r,e.ke r=e'.ke r)(hc:∀a sz x,p= .tf a sz x->e.get a=e'.get a):cg C e s al p=cg C e' s al p:=EI h (fun _=>hl) hc
theorem PX {C:au}{s:St}{al:Option Nat}{p:eE}{r:D×St}(h:∀t∈p.sl,SS (e.get t) (e'.get t))(hl:∀r,e.ke r=true->e'.ke r=true)(hc:∀a sz x,p= .tf a sz x->e.get a=e'.get a)(hr:cg C e s al p=some r):cg C e' s al p=some r:=by
 cases hp:p.lvB with
 | false=>rw [← EI h (fun h0=>by rw [hp]at h0; cases h0) hc]; exact hr
 | true=>
  cases p <;> simp only [eE.lvB]at hp <;> first | (cases hp; done) | skip
  all_goals simp only [eE.sl,cN]at h
  case rU x=>
   simp only [cg]at hr ⊢;rw [← kK h];split at hr <;> first | (cases hr; done) | exact hr | skip
   split at hr
   ·rename_i h1; rw [hl _ h1]; exact hr
   ·cases hr
  case wU off x=>
   simp only [cg]at hr ⊢;rw [← kK h];split at hr <;> first | (cases hr; done) | exact hr | skip
   split at hr
   ·rename_i h1; rw [hl _ h1]; exact hr
   ·cases hr
  case rM n z x i=>
   simp only [cg]at hr ⊢;rw [← kK (x:=x) fun t ht=>h t (.inl ht),← fi (x:=i) fun t ht=>h t (.inr ht)];split at hr <;> first | (cases hr; done) | skip
   ·split at hr
    ·split at hr
     ·rename_i h1 h2; rw [h1,hl _ h2]; exact hr
     ·cases hr
    ·cases hr
   all_goals exact hr
end
end Go.Ab
namespace Go.Ab
open Go
variable [eh]
def Dc (l:List Nat)(s s2:St):Prop:=∀o,o∈l->s2.get o=s.get o
section
variable {s s2:St}{C:au}{e:Env}{al:Option Nat}
theorem sJ {x:Option D}{d:D} {s' :St}(h:pw s x=some (d,s')):s' =s/\pw s2 x=some (d,s2):=by
 cases x <;> simp [pw]at h ⊢; exact ⟨h.2.symm,h.1⟩
theorem GV {sz:Option Nat}{p:D}(h:Dc (bD.cL (some p)) s s2):iJ s2 sz p=iJ s sz p:=by
 cases p <;> simp only [iJ]
 ·rename_i o c; rw [h o (by simp [bD.cL])]
 ·rename_i o i c z; rw [h o (by simp [bD.cL])]
theorem oS {p:D}(h:Dc (bD.cL (some p)) s s2):items s2 p=items s p:=by
 cases p <;> simp only [items];rename_i o _ _ _; rw [h o (by simp [bD.cL])]
theorem sG {k:Nat}{p:D}(h:Dc (bD.cL (some p)) s s2):pJ s2 k p=pJ s k p:=by
 unfold pJ;split
 ·rfl
 ·rfl
 ·cases p <;> simp only;rename_i o; rw [h o (by simp [bD.cL])]
theorem Ek {sz i:Nat}{p:D}(h:Dc (bD.cL (some p)) s s2):mY s2 sz p i=mY s sz p i:=by
 cases p <;> simp only [mY];rename_i o _ _ _; rw [h o (by simp [bD.cL])]
theorem N3 {a b:D}(h:Dc (bD.cL (some a)++bD.cL (some b)) s s2):Q0 s2 a b=Q0 s a b:=by
 cases a <;> cases b <;> simp only [Q0];rename_i o c o' c';rw [h o (by simp [bD.cL]),h o' (by simp [bD.cL])]
theorem sM {o:Nat}{x:Obj} {s' :St}(h:s.set o x=some s')(hr:s2.ro=s.ro)(hl:s2.lk=s.lk):s' =s.bn o x/\s2.set o x=some (s2.bn o x):=by
 unfold St.set at *;rw [hr,hl];split at h
 ·cases h
 ·rename_i h1;split at h
  ·cases h
  ·rename_i h2;simp only [aa]at h;simp [h1,h2,h]
theorem GX {k:Nat}{x:Obj}{r:Nat×St}(h:s.mk' (some k) x=some r)(hr:s2.ro=s.ro)(hn:s2.n=s.n)(hg:s2.get k=s.get k):r=(k,s.bn k x)/\s2.mk' (some k) x=some (k,s2.bn k x):=by
 unfold St.mk' at *;rw [hr];split at h
 ·cases h
 ·rename_i h1;simp only at h;split at h
  ·rename_i h2;split at h
   ·rename_i h3;simp only [aa]at h;simp [h1,hg,h2,hn,h3,h]
   ·cases h
  ·cases h
theorem Hl {sz:Nat}{p v:D} {s' :St}(h:jI s sz p v=some s')(hr:s2.ro=s.ro)(hl:s2.lk=s.lk)(hg:Dc (bD.cL (some p)) s s2):
  ∃o x,o∈bD.cL (some p)/\s' =s.bn o x/\jI s2 sz p v=some (s2.bn o x):=by
 unfold jI at *;split at h
 ·cases h
 ·rename_i hz;cases p <;> (try simp only at h) <;> try (cases h; done)
  ·rename_i o c;have Ay:=hg o (by simp [bD.cL]);split at h
   ·rename_i q hq;split at h
    ·rename_i e' he;obtain⟨h1,h2⟩:=sM h hr hl;exact⟨o,_,by simp [bD.cL],h1,by simp [jI,hz,Ay,hq,he,h2]⟩
    ·cases h
   ·cases h
  ·rename_i o i c z;have Ay:=hg o (by simp [bD.cL]);split at h
   ·rename_i z es st hq;split at h
    ·rename_i hb;split at h
     ·rename_i d0 Ld;split at h
      ·rename_i d1 Oz;obtain⟨h1,h2⟩:=sM h hr hl;exact⟨o,_,by simp [bD.cL],h1,by simp [jI,hz,Ay,hq,hb,Ld,Oz,h2]⟩
      ·cases h
     ·cases h
    ·cases h
   ·cases h
theorem Gu {sz:Nat}{p:D}{l:List D} {s' :St}(h:iA s sz p l=some s')(hr:s2.ro=s.ro)(hl:s2.lk=s.lk)(hg:Dc (bD.cL (some p)) s s2):
  (s' =s/\iA s2 sz p l=some s2)\/∃o x,o∈bD.cL (some p)/\s' =s.bn o x/\iA s2 sz p l=some (s2.bn o x):=by
 unfold iA at *;cases p <;> (try simp only at h) <;> try (cases h; done)
 ·rename_i nl z es;cases es <;> (try simp only at h) <;> try (cases h; done)
  cases l <;> (try simp only at h) <;> try (cases h; done)
  simp only [aa]at h; subst h;exact .inl ⟨rfl,rfl⟩
 ·rename_i o off len cp;simp only [hg o (by simp [bD.cL])];split at h
  ·rename_i z es st hq;split at h
   ·rename_i h1 h2 h3;obtain⟨g1,g2⟩:=sM h hr hl;exact .inr ⟨o,_,by simp [bD.cL],g1,by simp [hq,h1,h2,h3,g2]⟩
   ·rename_i h1 h2 h3;split at h
    ·rename_i h4;simp only [aa]at h; subst h;exact .inl ⟨rfl,by simp [hq,h1,h2,h3,h4]⟩
    ·cases h
   ·cases h
  ·cases h
def Vr (F:St->Option (D×St))(s s2:St)(wr:List Nat):Prop:=∀d s',F s=some (d,s')->
 (s' =s/\F s2=some (d,s2))\/∃o x,o∈wr/\s' =s.bn o x/\F s2=some (d,s2.bn o x)
theorem Zz {p:eE}{wr:List Nat}(hk:p.kind=0\/p.kind=6):Vr (fun s=>cg C e s al p) s s2 wr:=by
 intro d s' h;refine .inl ?_
 cases p <;> first
  | (exfalso; revert hk; simp [eE.kind]; done)
  | (exfalso; rename_i ro _ _; cases ro <;> revert hk <;> simp [eE.kind]; done)
  | (simp only [cg]at h ⊢
     repeat' split at h
     all_goals first
      | (cases h; done)
      | exact sJ h
      | (have h2:=sJ (s2:=s2) h; simp_all; done)
      | (simp only [aa,ab]at h; obtain ⟨rfl,rfl⟩:=h; simp_all; done)
      | trace_state)
theorem Dc.app {l m:List Nat}(h:Dc (l++m) s s2):Dc l s s2/\Dc m s s2:=⟨fun o ho=>h o (by simp [ho]),fun o ho=>h o (by simp [ho])⟩
theorem aa9 {p:eE}{wr:List Nat}(hk:p.kind=1)(hg:Dc (bD e p) s s2):Vr (fun s=>cg C e s al p) s s2 wr:=by
 cases p <;> first
  | (exfalso; revert hk; simp [eE.kind]; done)
  | (exfalso; rename_i ro _ _; cases ro <;> revert hk <;> simp [eE.kind]; done)
  | skip
 case load sz x=>
  simp only [bD]at hg;intro d s' h;simp only [cg]at h ⊢;split at h
  ·rename_i p hp;rw [hp]at hg;try simp only [hp,GV hg]
   exact .inl (sJ h)
  ·cases h
 case Fz x=>
  simp only [bD]at hg;intro d s' h;simp only [cg]at h ⊢;split at h
  ·rename_i o c hp;rw [hp]at hg;try simp only [hp]
   have ho:=hg o (by simp [bD.cL]);simp only [ho];split at h
   ·rename_i v hv;try simp only [hv]
    split at h
    ·rename_i hb;simp only [aa,ab]at h;obtain⟨rfl,rfl⟩:=h;exact .inl ⟨rfl,by simp only [hb]⟩
    ·cases h
   ·cases h
  ·cases h
 case upto l x=>
  simp only [bD]at hg;intro d s' h;simp only [cg]at h ⊢;split at h
  ·rename_i hp;try simp only [hp]
   simp only [aa,ab]at h;obtain⟨rfl,rfl⟩:=h;exact .inl ⟨rfl,rfl⟩
  ·rename_i o c hp;rw [hp]at hg;try simp only [hp]
   have ho:=hg o (by simp [bD.cL]);simp only [ho];split at h
   ·rename_i t v hv;try simp only [hv]
    split at h
    ·rename_i hb;simp only [aa,ab]at h;obtain⟨rfl,rfl⟩:=h;exact .inl ⟨rfl,by simp only [hb]⟩
    ·cases h
   ·cases h
  ·cases h
 case qM x=>
  simp only [bD]at hg;intro d s' h;simp only [cg]at h ⊢;split at h
  ·rename_i z l hp;try simp only [hp]
   simp only [aa,ab]at h;obtain⟨rfl,rfl⟩:=h;exact .inl ⟨rfl,rfl⟩
  ·rename_i o off len cp hp;rw [hp]at hg;try simp only [hp]
   have ho:=hg o (by simp [bD.cL]);simp only [ho];split at h
   ·rename_i hv;try simp only [hv]
    split at h
    ·rename_i hb;simp only [aa,ab]at h;obtain⟨rfl,rfl⟩:=h;exact .inl ⟨rfl,by simp only [hb]⟩
    ·cases h
   ·cases h
  ·cases h
 case eq et neg oc x y=>
  simp only [bD]at hg;intro d s' h;simp only [cg]at h ⊢;split at h
  ·rename_i a b ha hb;rw [ha,hb]at hg;try simp only [ha,hb]
   split at h
   ·rename_i r hr;simp only [aa,ab]at h;obtain⟨rfl,rfl⟩:=h;exact .inl ⟨rfl,by simp [hr]⟩
   ·rename_i hr;try simp only [hr]
    split at h
    ·try simp only [N3 hg]
     split at h
     ·rename_i r FT;simp only [aa,ab]at h;obtain⟨rfl,rfl⟩:=h;exact .inl ⟨rfl,by simp [FT]⟩
     ·cases h
    ·cases h
  ·cases h
 case oP sz x i=>
  simp only [bD]at hg;intro d s' h;simp only [cg]at h ⊢;split at h
  ·rename_i p i hp hi;rw [hp]at hg;try simp only [hp,hi]
   split at h
   ·rename_i k hk;try simp only [hk,Ek hg]
    exact .inl (sJ h)
   ·cases h
  ·cases h
 case KT sz x lo hi mx=>
  simp only [bD]at hg;intro d s' h;simp only [cg]at h ⊢;split at h
  ·rename_i p a b c hp ha hb hc;rw [hp]at hg;try simp only [hp,ha,hb,hc]
   split at h
   ·rename_i a' b' c' ZS iS hc';try simp only [ZS,iS,hc',oS hg]
    split at h
    ·rename_i z l hi;try simp only [hi]
     split at h
     ·rename_i hz;try simp only [hz]
      exact .inl (sJ h)
     ·cases h
    ·cases h
   ·cases h
  ·cases h
 case len k x=>
  simp only [bD]at hg;intro d s' h;simp only [cg]at h ⊢;split at h
  ·rename_i i ex lo hi hp;split at h
   ·simp only [aa,ab]at h;obtain⟨rfl,rfl⟩:=h;exact .inl ⟨rfl,rfl⟩
   ·cases h
  ·rename_i p J2 hp;clear J2;rw [hp]at hg;try simp only [sG hg]
   split at h
   ·rename_i r hr;simp only [aa,ab]at h;obtain⟨rfl,rfl⟩:=h;exact .inl ⟨rfl,by simp [hr]⟩
   ·cases h
  ·cases h
 case kS x=>
  simp only [bD]at hg;intro d s' h;simp only [cg]at h ⊢;split at h
  ·rename_i p hp;rw [hp]at hg;try simp only [hp,oS hg]
   split at h
   ·rename_i z l hi;try simp only [hi]
    split at h
    ·rename_i b h1 h2;simp only [aa,ab]at h;obtain⟨rfl,rfl⟩:=h;exact .inl ⟨rfl,by simp only [h1,h2]⟩
    ·cases h
   ·cases h
  ·cases h
 case kW x=>
  simp only [bD]at hg;intro d s' h;simp only [cg]at h ⊢;split at h
  ·rename_i p hp;rw [hp]at hg;try simp only [hp,oS hg]
   split at h
   ·rename_i z l hi;try simp only [hi]
    split at h
    ·rename_i b h1 h2;simp only [aa,ab]at h;obtain⟨rfl,rfl⟩:=h;exact .inl ⟨rfl,by simp only [h1,h2]⟩
    ·cases h
   ·cases h
  ·cases h
 case lookup et z ok m k=>
  simp only [bD]at hg;intro d s' h;simp only [cg]at h ⊢;split at h
  ·rename_i m k hm hk;rw [hm]at hg;try simp only [hm,hk]
   split at h
   ·cases h
   ·rename_i kM;try simp only [kM]
    split at h
    ·simp only [aa,ab]at h;obtain⟨rfl,rfl⟩:=h;exact .inl ⟨rfl,rfl⟩
    ·rename_i o;have ho:=hg o (by simp [bD.cL]);simp only [ho];split at h
     ·rename_i es c vm;try simp only [vm]
      split at h
      ·rename_i q v hf;simp only [aa,ab]at h;obtain⟨rfl,rfl⟩:=h;exact .inl ⟨rfl,by simp only [hf]⟩
      ·rename_i hf;simp only [aa,ab]at h;obtain⟨rfl,rfl⟩:=h;exact .inl ⟨rfl,by simp only [hf]⟩
      ·cases h
     ·cases h
    ·cases h
  ·cases h
theorem mG {o:Nat}{x:Obj}{d0 d:D} {s' :St}{wr:List Nat}(ho:o∈wr)(h:nY d0 (s.set o x)=some (d,s'))(hr:s2.ro=s.ro)(hl:s2.lk=s.lk):
  (s' =s/\nY d0 (s2.set o x)=some (d,s2))\/∃o' x',o' ∈wr/\s' =s.bn o' x' /\nY d0 (s2.set o x)=some (d,s2.bn o' x'):=by
 unfold nY at *;split at h
 ·rename_i s1 h1;obtain⟨g1,g2⟩:=sM (s2:=s2) h1 hr hl;simp only [aa,ab]at h;obtain⟨rfl,rfl⟩:=h;exact .inr ⟨o,x,ho,g1,by simp [g2]⟩
 ·cases h
theorem zB {sz:Nat}{p:D}{l:List D}{d0 d:D} {s' :St}{wr:List Nat}(hw:∀o,o∈bD.cL (some p)->o∈wr)(h:nY d0 (iA s sz p l)=some (d,s'))(hr:s2.ro=s.ro)(hl:s2.lk=s.lk)(hg:Dc (bD.cL (some p)) s s2):
  (s' =s/\nY d0 (iA s2 sz p l)=some (d,s2))\/∃o' x',o' ∈wr/\s' =s.bn o' x' /\nY d0 (iA s2 sz p l)=some (d,s2.bn o' x'):=by
 unfold nY at *;split at h
 ·rename_i s1 h1;simp only [aa,ab]at h;obtain⟨rfl,rfl⟩:=h;rcases Gu (s2:=s2) h1 hr hl hg with ⟨g1,g2⟩ | ⟨o,x,g0,g1,g2⟩
  ·exact .inl ⟨g1,by simp [g2]⟩
  ·exact .inr ⟨o,x,hw o g0,g1,by simp [g2]⟩
 ·cases h
theorem aba {p:eE}(hk:p.kind=2)(hr:s2.ro=s.ro)(hl:s2.lk=s.lk)(hg:Dc (bD e p++mK e p) s s2):Vr (fun s=>cg C e s al p) s s2 (mK e p):=by
 cases p <;> first
  | (exfalso; revert hk; simp [eE.kind]; done)
  | (exfalso; rename_i ro _ _; cases ro <;> revert hk <;> simp [eE.kind]; done)
  | skip
 case store sz x v=>
  simp only [bD,mK,dF]at hg ⊢;intro d s' h;simp only [cg]at h ⊢;split at h
  ·rename_i p v hp hv;rw [hp]at hg;try simp only [hp,hv]
   unfold nY at *;split at h
   ·rename_i s1 h1;simp only [aa,ab]at h;obtain⟨rfl,rfl⟩:=h;obtain⟨o,x,g0,g1,g2⟩:=Hl (s2:=s2) h1 hr hl hg;exact .inr ⟨o,x,g0,g1,by simp [g2]⟩
   ·cases h
  ·cases h
 case AF et m k v=>
  simp only [bD,mK,dF]at hg ⊢;intro d s' h;simp only [cg]at h ⊢;split at h
  ·rename_i o k v hm hk hv;rw [hm]at hg;try simp only [hm,hk,hv]
   have ho:=hg o (by simp [bD.cL]);split at h
   ·cases h
   ·rename_i kM;try simp only [kM]
    simp only [ho];split at h
    ·rename_i es c vm;try simp only [vm]
     split at h
     ·rename_i i q hf;try simp only [hf]
      split at h
      ·rename_i b k' q' he;try simp only [he]
       split at h
       ·rename_i hs;try simp only [hs]
        exact mG (by simp [bD.cL]) h hr hl
       ·cases h
      ·cases h
     ·rename_i hf;try simp only [hf]
      exact mG (by simp [bD.cL]) h hr hl
     ·cases h
    ·cases h
  ·cases h
 case tS et z m k=>
  simp only [bD,mK,dF]at hg ⊢;intro d s' h;simp only [cg]at h ⊢;split at h
  ·rename_i o k hm hk;rw [hm]at hg;try simp only [hm,hk]
   have ho:=hg o (by simp [bD.cL]);split at h
   ·cases h
   ·rename_i kM;try simp only [kM]
    simp only [ho];split at h
    ·rename_i es c vm;try simp only [vm]
     split at h
     ·rename_i i q hf;try simp only [hf]
      split at h
      ·rename_i b k' q' he;try simp only [he]
       split at h
       ·rename_i hs;try simp only [hs]
        exact mG (by simp [bD.cL]) h hr hl
       ·cases h
      ·cases h
     ·rename_i hf;try simp only [hf]
      exact mG (by simp [bD.cL]) h hr hl
     ·cases h
    ·cases h
  ·cases h
 case pt m b v=>
  simp only [bD,mK,dF]at hg ⊢;intro d s' h;simp only [cg]at h ⊢;split at h
  ·rename_i o ik b v hm hk hv;rw [hm]at hg;try simp only [hm,hk,hv]
   have ho:=hg o (by simp [bD.cL]);simp only [ho];split at h
   ·rename_i es c vm;try simp only [vm]
    split at h
    ·rename_i i hf;try simp only [hf]
     exact mG (by simp [bD.cL]) h hr hl
    ·cases h
   ·cases h
  ·cases h
 case uO x=>
  simp only [bD,mK,dF]at hg ⊢;intro d s' h;simp only [cg]at h ⊢;split at h
  ·rename_i o hm;rw [hm]at hg;try simp only [hm]
   have ho:=hg o (by simp [bD.cL]);simp only [ho];split at h
   ·rename_i l pos vm;try simp only [vm]
    split at h
    ·rename_i hb;try simp only [hb]
     exact mG (by simp [bD.cL]) h hr hl
    ·rename_i hb;simp only [aa,ab]at h;obtain⟨rfl,rfl⟩:=h;exact .inl ⟨rfl,by simp only [hb]⟩
   ·cases h
  ·cases h
 case delete et m k=>
  simp only [bD,mK,dF]at hg ⊢;intro d s' h;simp only [cg]at h ⊢;split at h
  ·rename_i m k hm hk;rw [hm]at hg;try simp only [hm,hk]
   split at h
   ·cases h
   ·rename_i kM;try simp only [kM]
    split at h
    ·simp only [aa,ab]at h;obtain⟨rfl,rfl⟩:=h;exact .inl ⟨rfl,rfl⟩
    ·rename_i o;have ho:=hg o (by simp [bD.cL]);simp only [ho];split at h
     ·rename_i es c vm;try simp only [vm]
      split at h
      ·rename_i q v hf;try simp only [hf]
       exact mG (by simp [bD.cL]) h hr hl
      ·rename_i hf;try simp only [hf]
       exact mG (by simp [bD.cL]) h hr hl
      ·cases h
     ·cases h
    ·cases h
  ·cases h
 case clear sz z x=>
  simp only [bD,mK,dF]at hg ⊢;intro d s' h;simp only [cg]at h ⊢;split at h
  ·rename_i hm;try simp only [hm]
   simp only [aa,ab]at h;obtain⟨rfl,rfl⟩:=h;exact .inl ⟨rfl,rfl⟩
  ·rename_i o hm;rw [hm]at hg;try simp only [hm]
   have ho:=hg o (by simp [bD.cL]);simp only [ho];split at h
   ·rename_i es c vm;try simp only [vm]
    exact mG (by simp [bD.cL]) h hr hl
   ·cases h
  ·rename_i p h1 h2 hm;rw [hm]at hg;simp only [sG hg];split at h
   ·rename_i n hn;try simp only [hn]
    split at h
    ·rename_i hz;try simp only [hz]
     exact zB (fun _ h=>by rw [hm]; exact h) h hr hl hg
    ·cases h
   ·cases h
  ·cases h
 case CW ty x y=>
  simp only [bD,mK,dF]at hg ⊢;intro d s' h;simp only [cg]at h ⊢;split at h
  ·rename_i k n hm hy;try simp only [hm,hy]
   split at h
   ·rename_i hb;simp only [aa,ab]at h;obtain⟨rfl,rfl⟩:=h;exact .inl ⟨rfl,by simp only [hb]⟩
   ·cases h
  ·rename_i o i c en k n hm hy;rw [hm]at hg;try simp only [hm,hy]
   have ho:=hg o (by simp [bD.cL]);simp only [ho];split at h
   ·rename_i z t es st vm;try simp only [vm]
    split at h
    ·rename_i b h1 h2 h3 h4;try simp only [h1,h2,h3,h4]
     exact mG (by simp [bD.cL]) h hr hl
    ·cases h
   ·cases h
  ·cases h
 case copy sz x y=>
  simp only [bD,mK]at hg ⊢;intro d s' h;simp only [cg]at h ⊢;split at h
  ·rename_i a l hm hy;rw [hm]at hg;have h2:=hg.app.2;simp only [sG h2];split at h
   ·rename_i n h1 hn;try simp only [h1,hn]
    exact zB (fun _ h=>by rw [hm]; exact h) h hr hl h2
   ·cases h
  ·rename_i a b yO hm hy;rw [hm,hy]at hg;have h2:=hg.app.2;have h1:=hg.app.1;simp only [sG h2,oS h1];split at h
   ·rename_i z l n hi hn;try simp only [hi,hn]
    split at h
    ·rename_i g1 g2;try simp only [g1,g2]
     exact zB (fun _ h=>by rw [hm]; exact h) h hr hl h2
    ·cases h
   ·cases h
  ·cases h
theorem abb {p:eE}{k:Nat}(hk:p.kind=3)(hr:s2.ro=s.ro)(hn:s2.n=s.n)(hg:s2.get k=s.get k):Vr (fun s=>cg C e s (some k) p) s s2 [k]:=by
 intro d s' h
 cases p <;> first
  | (exfalso; revert hk; simp [eE.kind]; done)
  | (exfalso; rename_i ro _ _; cases ro <;> revert hk <;> simp [eE.kind]; done)
  | (simp only [cg]at h ⊢
     repeat' split at h
     all_goals first
      | (cases h; done)
      | (rename_i h1
         obtain⟨g1,g2⟩:=GX (s2:=s2) h1 hr hn hg;simp only [ab]at g1;obtain⟨rfl,rfl⟩:=g1;simp only [aa,ab]at h;obtain⟨rfl,rfl⟩:=h;refine .inr ⟨_,_,eI.2 rfl,rfl, ?_⟩;simp_all; done)
      | trace_state)
def LA (F:St->Option (D×St))(s s2:St)(wr:List Nat):Prop:=∀d s',F s=some (d,s')->
 (s' =s/\F s2=some (d,s2))\/(∃o x,o∈wr/\s' =s.bn o x/\F s2=some (d,s2.bn o x))\/
  ∃o x o' x',o∈wr/\o' ∈wr/\s' =(s.bn o x).bn o' x' /\F s2=some (d,(s2.bn o x).bn o' x')
theorem Be {s:St}{x:Nat}{q:Obj}(u:Nat):(s.bn x q).get u=if u=x then some q else s.get u:=T.pj _ _ _ _
theorem wF {k sz ty:Nat}{a:D}{l:List D}(hr:s2.ro=s.ro)(hl:s2.lk=s.lk)(hn:s2.n=s.n)(hg:Dc (bD.cL (some a)) s s2)(hk:s2.get k=s.get k):
  LA (fun s=>ff s (some k) sz ty a l) s s2 (k::bD.cL (some a)):=by
 intro d s' h;simp only at h ⊢;unfold ff at h;split at h
 ·split at h
  ·simp only [aa,ab]at h;obtain⟨rfl,rfl⟩:=h;exact .inl ⟨rfl,by simp [ff]⟩
  ·rename_i o _ _ _;have ho:=hg o (by simp [bD.cL]);split at h
   ·rename_i hq;simp only [aa,ab]at h;obtain⟨rfl,rfl⟩:=h;exact .inl ⟨rfl,by simp [ff,ho,hq]⟩
   ·cases h
  ·cases h
 ·rename_i dn;split at h
  ·split at h
   ·rename_i hb;split at h
    ·rename_i k' s1 h1;obtain⟨g1,g2⟩:=GX (s2:=s2) h1 hr hn hk;simp only [ab]at g1;obtain⟨rfl,rfl⟩:=g1;simp only [aa,ab]at h;obtain⟨rfl,rfl⟩:=h;exact .inr (.inl ⟨k',_,by simp,rfl,by simp [ff,hb,g2]⟩)
    ·cases h
   ·cases h
  ·rename_i o off len cp;have ho:=hg o (by simp [bD.cL]);split at h
   ·rename_i z es st hq;split at h
    ·rename_i h1 h2 h3 h4;split at h
     ·rename_i h5;split at h
      ·rename_i s1 qz;obtain⟨g1,g2⟩:=sM (s2:=s2) qz hr hl;simp only [aa,ab]at h;obtain⟨rfl,rfl⟩:=h;exact .inr (.inl ⟨o,_,by simp [bD.cL],g1,by simp [ff,ho,hq,h1,h2,h3,h4,h5,g2]⟩)
      ·cases h
     ·rename_i h5;split at h
      ·rename_i s1 qz;obtain⟨g1,g2⟩:=sM (s2:=s2) qz hr hl;subst g1;split at h
       ·rename_i k' s3 h6;obtain⟨e1,e2⟩:=GX (s2:=s2.bn o .dead) h6 hr hn (by rw [Be,Be,hk]);simp only [ab]at e1;obtain⟨rfl,rfl⟩:=e1;simp only [aa,ab]at h;obtain⟨rfl,rfl⟩:=h;exact .inr (.inr ⟨o,_,k',_,by simp [bD.cL],by simp,rfl,by simp [ff,ho,hq,h1,h2,h3,h4,h5,g2,e2]⟩)
       ·cases h
      ·cases h
    ·cases h
   ·cases h
  ·cases h
theorem LA.wr {F:St->Option (D×St)}{l m:List Nat}(h:LA F s s2 l)(hm:∀x,x∈l->x∈m):LA F s s2 m:=by
 intro d s' hF;rcases h d s' hF with h | ⟨o,x,h1,h2⟩ | ⟨o,x,o',x',h1,h2,h3⟩
 ·exact .inl h
 ·exact .inr (.inl ⟨o,x,hm _ h1,h2⟩)
 ·exact .inr (.inr ⟨o,x,o',x',hm _ h1,hm _ h2,h3⟩)
theorem abd {p:eE}{k:Nat}(hk:p.kind=9)(hr:s2.ro=s.ro)(hl:s2.lk=s.lk)(hn:s2.n=s.n)(hg:Dc (bD e p++mK e p) s s2)(hgk:s2.get k=s.get k):LA (fun s=>cg C e s (some k) p) s s2 (k::mK e p):=by
 cases p <;> first
  | (exfalso; revert hk; simp [eE.kind]; done)
  | (exfalso; rename_i ro _ _; cases ro <;> revert hk <;> simp [eE.kind]; done)
  | skip
 rename_i sz bytes ty x y;simp only [bD,mK]at hg ⊢;intro d s' h;simp only [cg]at h ⊢;split at h
 ·rename_i a l ha hy;rw [ha]at hg ⊢;try simp only [ha,hy]
  split at h
  ·rename_i h1 h2;try simp only [h1,h2]
   exact wF hr hl hn hg.app.2 hgk d s' h
  ·cases h
 ·rename_i a b J2 ha hb;rw [ha,hb]at hg;rw [ha];try simp only [ha,hb]
  simp only [oS hg.app.1];split at h
  ·rename_i z l hi;try simp only [hi]
   split at h
   ·rename_i h1 h2;try simp only [h1,h2]
    split at h
    ·rename_i h3;try simp only [h3]
     exact wF hr hl hn hg.app.2 hgk d s' h
    ·cases h
   ·cases h
  ·cases h
 ·cases h
end
end Go.Ab
