/- Part. -/
import Derived.Test.YtdkejjahldkkoaaGreatDoorG14
set_option linter.unusedSectionVars false
set_option linter.unusedSimpArgs false
set_option linter.unusedVariables false
namespace Go.Ab
open Go
variable [eW]
def Dq (l:List Nat)(s s2:St):Prop:=∀o,o∈l->s2.get o=s.get o
section
variable {s s2:St}{C:au}{e:Env}{al:Option Nat}
theorem sM {x:Option D}{d:D} {s' :St}(h:nk s x=some (d,s')):s' =s/\nk s2 x=some (d,s2):=by
 cases x <;> simp [nk]at h ⊢; exact ⟨h.2.symm,h.1⟩
theorem G5 {sz:Option Nat}{p:D}(h:Dq (bz.cV (some p)) s s2):iR s2 sz p=iR s sz p:=by
 cases p <;> simp only [iR]
 ·rename_i o c; rw [h o (by simp [bz.cV])]
 ·rename_i o i c z; rw [h o (by simp [bz.cV])]
theorem oY {p:D}(h:Dq (bz.cV (some p)) s s2):items s2 p=items s p:=by
 cases p <;> simp only [items];rename_i o _ _ _; rw [h o (by simp [bz.cV])]
theorem sJ {k:Nat}{p:D}(h:Dq (bz.cV (some p)) s s2):o7 s2 k p=o7 s k p:=by
 unfold o7;split
 ·rfl
 ·rfl
 ·cases p <;> simp only;rename_i o; rw [h o (by simp [bz.cV])]
theorem CS {sz i:Nat}{p:D}(h:Dq (bz.cV (some p)) s s2):j8 s2 sz p i=j8 s sz p i:=by
 cases p <;> simp only [j8];rename_i o _ _ _; rw [h o (by simp [bz.cV])]
theorem LU {a b:D}(h:Dq (bz.cV (some a)++bz.cV (some b)) s s2):PR s2 a b=PR s a b:=by
 cases a <;> cases b <;> simp only [PR];rename_i o c o' c';rw [h o (by simp [bz.cV]),h o' (by simp [bz.cV])]
theorem sH {o:Nat}{x:Obj} {s' :St}(h:s.set o x=some s')(hr:s2.ro=s.ro)(hl:s2.lk=s.lk):s' =s.bD o x/\s2.set o x=some (s2.bD o x):=by
 unfold St.set at *;rw [hr,hl];split at h
 ·cases h
 ·rename_i h1;split at h
  ·cases h
  ·rename_i h2;simp only [aa]at h;simp [h1,h2,h]
theorem Gs {k:Nat}{x:Obj}{r:Nat×St}(h:s.mk' (some k) x=some r)(hr:s2.ro=s.ro)(hn:s2.n=s.n)(hg:s2.get k=s.get k):r=(k,s.bD k x)/\s2.mk' (some k) x=some (k,s2.bD k x):=by
 unfold St.mk' at *;rw [hr];split at h
 ·cases h
 ·rename_i h1;simp only at h;split at h
  ·rename_i h2;split at h
   ·rename_i h3;simp only [aa]at h;simp [h1,hg,h2,hn,h3,h]
   ·cases h
  ·cases h
theorem Gw {sz:Nat}{p v:D} {s' :St}(h:jM s sz p v=some s')(hr:s2.ro=s.ro)(hl:s2.lk=s.lk)(hg:Dq (bz.cV (some p)) s s2):
  ∃o x,o∈bz.cV (some p)/\s' =s.bD o x/\jM s2 sz p v=some (s2.bD o x):=by
 unfold jM at *;split at h
 ·cases h
 ·rename_i hz;cases p <;> (try simp only at h) <;> try (cases h; done)
  ·rename_i o c;have xB:=hg o (by simp [bz.cV]);split at h
   ·rename_i q hq;split at h
    ·rename_i e' he;obtain⟨h1,h2⟩:=sH h hr hl;exact⟨o,_,by simp [bz.cV],h1,by simp [jM,hz,xB,hq,he,h2]⟩
    ·cases h
   ·cases h
  ·rename_i o i c z;have xB:=hg o (by simp [bz.cV]);split at h
   ·rename_i z es st hq;split at h
    ·rename_i hb;split at h
     ·rename_i d0 Fz;split at h
      ·rename_i d1 HH;obtain⟨h1,h2⟩:=sH h hr hl;exact⟨o,_,by simp [bz.cV],h1,by simp [jM,hz,xB,hq,hb,Fz,HH,h2]⟩
      ·cases h
     ·cases h
    ·cases h
   ·cases h
theorem FP {sz:Nat}{p:D}{l:List D} {s' :St}(h:iP s sz p l=some s')(hr:s2.ro=s.ro)(hl:s2.lk=s.lk)(hg:Dq (bz.cV (some p)) s s2):
  (s' =s/\iP s2 sz p l=some s2)\/∃o x,o∈bz.cV (some p)/\s' =s.bD o x/\iP s2 sz p l=some (s2.bD o x):=by
 unfold iP at *;cases p <;> (try simp only at h) <;> try (cases h; done)
 ·rename_i nl z es;cases es <;> (try simp only at h) <;> try (cases h; done)
  cases l <;> (try simp only at h) <;> try (cases h; done)
  simp only [aa]at h; subst h;exact .inl ⟨rfl,rfl⟩
 ·rename_i o off len cp;simp only [hg o (by simp [bz.cV])];split at h
  ·rename_i z es st hq;split at h
   ·rename_i h1 h2 h3;obtain⟨g1,g2⟩:=sH h hr hl;exact .inr ⟨o,_,by simp [bz.cV],g1,by simp [hq,h1,h2,h3,g2]⟩
   ·rename_i h1 h2 h3;split at h
    ·rename_i h4;simp only [aa]at h; subst h;exact .inl ⟨rfl,by simp [hq,h1,h2,h3,h4]⟩
    ·cases h
   ·cases h
  ·cases h
def VQ (F:St->Option (D×St))(s s2:St)(wr:List Nat):Prop:=∀d s',F s=some (d,s')->
 (s' =s/\F s2=some (d,s2))\/∃o x,o∈wr/\s' =s.bD o x/\F s2=some (d,s2.bD o x)
theorem YL {p:eN}{wr:List Nat}(hk:p.kind=0\/p.kind=6):VQ (fun s=>cB C e s al p) s s2 wr:=by
 intro d s' h;refine .inl ?_
 cases p <;> first
  | (exfalso; revert hk; simp [eN.kind]; done)
  | (exfalso; rename_i ro _ _; cases ro <;> revert hk <;> simp [eN.kind]; done)
  | (simp only [cB]at h ⊢
     repeat' split at h
     all_goals first
      | (cases h; done)
      | exact sM h
      | (have h2:=sM (s2:=s2) h; simp_all; done)
      | (simp only [aa,ab]at h; obtain ⟨rfl,rfl⟩:=h; simp_all; done)
      | trace_state)
theorem Dq.app {l m:List Nat}(h:Dq (l++m) s s2):Dq l s s2/\Dq m s s2:=⟨fun o ho=>h o (by simp [ho]),fun o ho=>h o (by simp [ho])⟩
theorem abV {p:eN}{wr:List Nat}(hk:p.kind=1)(hg:Dq (bz e p) s s2):VQ (fun s=>cB C e s al p) s s2 wr:=by
 cases p <;> first
  | (exfalso; revert hk; simp [eN.kind]; done)
  | (exfalso; rename_i ro _ _; cases ro <;> revert hk <;> simp [eN.kind]; done)
  | skip
 case load sz x=>
  simp only [bz]at hg;intro d s' h;simp only [cB]at h ⊢;split at h
  ·rename_i p hp;rw [hp]at hg;try simp only [hp,G5 hg]
   exact .inl (sM h)
  ·cases h
 case Dv x=>
  simp only [bz]at hg;intro d s' h;simp only [cB]at h ⊢;split at h
  ·rename_i o c hp;rw [hp]at hg;try simp only [hp]
   have ho:=hg o (by simp [bz.cV]);simp only [ho];split at h
   ·rename_i v hv;try simp only [hv]
    split at h
    ·rename_i hb;simp only [aa,ab]at h;obtain⟨rfl,rfl⟩:=h;exact .inl ⟨rfl,by simp only [hb]⟩
    ·cases h
   ·cases h
  ·cases h
 case upto l x=>
  simp only [bz]at hg;intro d s' h;simp only [cB]at h ⊢;split at h
  ·rename_i hp;try simp only [hp]
   simp only [aa,ab]at h;obtain⟨rfl,rfl⟩:=h;exact .inl ⟨rfl,rfl⟩
  ·rename_i o c hp;rw [hp]at hg;try simp only [hp]
   have ho:=hg o (by simp [bz.cV]);simp only [ho];split at h
   ·rename_i t v hv;try simp only [hv]
    split at h
    ·rename_i hb;simp only [aa,ab]at h;obtain⟨rfl,rfl⟩:=h;exact .inl ⟨rfl,by simp only [hb]⟩
    ·cases h
   ·cases h
  ·cases h
 case qL x=>
  simp only [bz]at hg;intro d s' h;simp only [cB]at h ⊢;split at h
  ·rename_i z l hp;try simp only [hp]
   simp only [aa,ab]at h;obtain⟨rfl,rfl⟩:=h;exact .inl ⟨rfl,rfl⟩
  ·rename_i o off len cp hp;rw [hp]at hg;try simp only [hp]
   have ho:=hg o (by simp [bz.cV]);simp only [ho];split at h
   ·rename_i hv;try simp only [hv]
    split at h
    ·rename_i hb;simp only [aa,ab]at h;obtain⟨rfl,rfl⟩:=h;exact .inl ⟨rfl,by simp only [hb]⟩
    ·cases h
   ·cases h
  ·cases h
 case eq et neg oc x y=>
  simp only [bz]at hg;intro d s' h;simp only [cB]at h ⊢;split at h
  ·rename_i a b ha hb;rw [ha,hb]at hg;try simp only [ha,hb]
   split at h
   ·rename_i r hr;simp only [aa,ab]at h;obtain⟨rfl,rfl⟩:=h;exact .inl ⟨rfl,by simp [hr]⟩
   ·rename_i hr;try simp only [hr]
    split at h
    ·try simp only [LU hg]
     split at h
     ·rename_i r xe;simp only [aa,ab]at h;obtain⟨rfl,rfl⟩:=h;exact .inl ⟨rfl,by simp [xe]⟩
     ·cases h
    ·cases h
  ·cases h
 case nA sz x i=>
  simp only [bz]at hg;intro d s' h;simp only [cB]at h ⊢;split at h
  ·rename_i p i hp hi;rw [hp]at hg;try simp only [hp,hi]
   split at h
   ·rename_i k hk;try simp only [hk,CS hg]
    exact .inl (sM h)
   ·cases h
  ·cases h
 case H8 sz x lo hi mx=>
  simp only [bz]at hg;intro d s' h;simp only [cB]at h ⊢;split at h
  ·rename_i p a b c hp ha hb hc;rw [hp]at hg;try simp only [hp,ha,hb,hc]
   split at h
   ·rename_i a' b' c' ha' jm Zm;try simp only [ha',jm,Zm,oY hg]
    split at h
    ·rename_i z l hi;try simp only [hi]
     split at h
     ·rename_i hz;try simp only [hz]
      exact .inl (sM h)
     ·cases h
    ·cases h
   ·cases h
  ·cases h
 case len k x=>
  simp only [bz]at hg;intro d s' h;simp only [cB]at h ⊢;split at h
  ·rename_i i ex lo hi hp;split at h
   ·simp only [aa,ab]at h;obtain⟨rfl,rfl⟩:=h;exact .inl ⟨rfl,rfl⟩
   ·cases h
  ·rename_i p y8 hp;clear y8;rw [hp]at hg;try simp only [sJ hg]
   split at h
   ·rename_i r hr;simp only [aa,ab]at h;obtain⟨rfl,rfl⟩:=h;exact .inl ⟨rfl,by simp [hr]⟩
   ·cases h
  ·cases h
 case lK x=>
  simp only [bz]at hg;intro d s' h;simp only [cB]at h ⊢;split at h
  ·rename_i p hp;rw [hp]at hg;try simp only [hp,oY hg]
   split at h
   ·rename_i z l hi;try simp only [hi]
    split at h
    ·rename_i b h1 h2;simp only [aa,ab]at h;obtain⟨rfl,rfl⟩:=h;exact .inl ⟨rfl,by simp only [h1,h2]⟩
    ·cases h
   ·cases h
  ·cases h
 case kE x=>
  simp only [bz]at hg;intro d s' h;simp only [cB]at h ⊢;split at h
  ·rename_i p hp;rw [hp]at hg;try simp only [hp,oY hg]
   split at h
   ·rename_i z l hi;try simp only [hi]
    split at h
    ·rename_i b h1 h2;simp only [aa,ab]at h;obtain⟨rfl,rfl⟩:=h;exact .inl ⟨rfl,by simp only [h1,h2]⟩
    ·cases h
   ·cases h
  ·cases h
 case lookup et z ok m k=>
  simp only [bz]at hg;intro d s' h;simp only [cB]at h ⊢;split at h
  ·rename_i m k hm hk;rw [hm]at hg;try simp only [hm,hk]
   split at h
   ·cases h
   ·rename_i gW;try simp only [gW]
    split at h
    ·simp only [aa,ab]at h;obtain⟨rfl,rfl⟩:=h;exact .inl ⟨rfl,rfl⟩
    ·rename_i o;have ho:=hg o (by simp [bz.cV]);simp only [ho];split at h
     ·rename_i es c vj;try simp only [vj]
      split at h
      ·rename_i q v hf;simp only [aa,ab]at h;obtain⟨rfl,rfl⟩:=h;exact .inl ⟨rfl,by simp only [hf]⟩
      ·rename_i hf;simp only [aa,ab]at h;obtain⟨rfl,rfl⟩:=h;exact .inl ⟨rfl,by simp only [hf]⟩
      ·cases h
     ·cases h
    ·cases h
  ·cases h
theorem mU {o:Nat}{x:Obj}{d0 d:D} {s' :St}{wr:List Nat}(ho:o∈wr)(h:oC d0 (s.set o x)=some (d,s'))(hr:s2.ro=s.ro)(hl:s2.lk=s.lk):
  (s' =s/\oC d0 (s2.set o x)=some (d,s2))\/∃o' x',o' ∈wr/\s' =s.bD o' x' /\oC d0 (s2.set o x)=some (d,s2.bD o' x'):=by
 unfold oC at *;split at h
 ·rename_i s1 h1;obtain⟨g1,g2⟩:=sH (s2:=s2) h1 hr hl;simp only [aa,ab]at h;obtain⟨rfl,rfl⟩:=h;exact .inr ⟨o,x,ho,g1,by simp [g2]⟩
 ·cases h
theorem yg {sz:Nat}{p:D}{l:List D}{d0 d:D} {s' :St}{wr:List Nat}(hw:∀o,o∈bz.cV (some p)->o∈wr)(h:oC d0 (iP s sz p l)=some (d,s'))(hr:s2.ro=s.ro)(hl:s2.lk=s.lk)(hg:Dq (bz.cV (some p)) s s2):
  (s' =s/\oC d0 (iP s2 sz p l)=some (d,s2))\/∃o' x',o' ∈wr/\s' =s.bD o' x' /\oC d0 (iP s2 sz p l)=some (d,s2.bD o' x'):=by
 unfold oC at *;split at h
 ·rename_i s1 h1;simp only [aa,ab]at h;obtain⟨rfl,rfl⟩:=h;rcases FP (s2:=s2) h1 hr hl hg with ⟨g1,g2⟩ | ⟨o,x,g0,g1,g2⟩
  ·exact .inl ⟨g1,by simp [g2]⟩
  ·exact .inr ⟨o,x,hw o g0,g1,by simp [g2]⟩
 ·cases h
theorem abQ {p:eN}(hk:p.kind=2)(hr:s2.ro=s.ro)(hl:s2.lk=s.lk)(hg:Dq (bz e p++nj e p) s s2):VQ (fun s=>cB C e s al p) s s2 (nj e p):=by
 cases p <;> first
  | (exfalso; revert hk; simp [eN.kind]; done)
  | (exfalso; rename_i ro _ _; cases ro <;> revert hk <;> simp [eN.kind]; done)
  | skip
 case store sz x v=>
  simp only [bz,nj,cA]at hg ⊢;intro d s' h;simp only [cB]at h ⊢;split at h
  ·rename_i p v hp hv;rw [hp]at hg;try simp only [hp,hv]
   unfold oC at *;split at h
   ·rename_i s1 h1;simp only [aa,ab]at h;obtain⟨rfl,rfl⟩:=h;obtain⟨o,x,g0,g1,g2⟩:=Gw (s2:=s2) h1 hr hl hg;exact .inr ⟨o,x,g0,g1,by simp [g2]⟩
   ·cases h
  ·cases h
 case Ac et m k v=>
  simp only [bz,nj,cA]at hg ⊢;intro d s' h;simp only [cB]at h ⊢;split at h
  ·rename_i o k v hm hk hv;rw [hm]at hg;try simp only [hm,hk,hv]
   have ho:=hg o (by simp [bz.cV]);split at h
   ·cases h
   ·rename_i gW;try simp only [gW]
    simp only [ho];split at h
    ·rename_i es c vj;try simp only [vj]
     split at h
     ·rename_i i q hf;try simp only [hf]
      split at h
      ·rename_i b k' q' he;try simp only [he]
       split at h
       ·rename_i hs;try simp only [hs]
        exact mU (by simp [bz.cV]) h hr hl
       ·cases h
      ·cases h
     ·rename_i hf;try simp only [hf]
      exact mU (by simp [bz.cV]) h hr hl
     ·cases h
    ·cases h
  ·cases h
 case tN et z m k=>
  simp only [bz,nj,cA]at hg ⊢;intro d s' h;simp only [cB]at h ⊢;split at h
  ·rename_i o k hm hk;rw [hm]at hg;try simp only [hm,hk]
   have ho:=hg o (by simp [bz.cV]);split at h
   ·cases h
   ·rename_i gW;try simp only [gW]
    simp only [ho];split at h
    ·rename_i es c vj;try simp only [vj]
     split at h
     ·rename_i i q hf;try simp only [hf]
      split at h
      ·rename_i b k' q' he;try simp only [he]
       split at h
       ·rename_i hs;try simp only [hs]
        exact mU (by simp [bz.cV]) h hr hl
       ·cases h
      ·cases h
     ·rename_i hf;try simp only [hf]
      exact mU (by simp [bz.cV]) h hr hl
     ·cases h
    ·cases h
  ·cases h
 case pE m b v=>
  simp only [bz,nj,cA]at hg ⊢;intro d s' h;simp only [cB]at h ⊢;split at h
  ·rename_i o ik b v hm hk hv;rw [hm]at hg;try simp only [hm,hk,hv]
   have ho:=hg o (by simp [bz.cV]);simp only [ho];split at h
   ·rename_i es c vj;try simp only [vj]
    split at h
    ·rename_i i hf;try simp only [hf]
     exact mU (by simp [bz.cV]) h hr hl
    ·cases h
   ·cases h
  ·cases h
 case uF x=>
  simp only [bz,nj,cA]at hg ⊢;intro d s' h;simp only [cB]at h ⊢;split at h
  ·rename_i o hm;rw [hm]at hg;try simp only [hm]
   have ho:=hg o (by simp [bz.cV]);simp only [ho];split at h
   ·rename_i l pos vj;try simp only [vj]
    split at h
    ·rename_i hb;try simp only [hb]
     exact mU (by simp [bz.cV]) h hr hl
    ·rename_i hb;simp only [aa,ab]at h;obtain⟨rfl,rfl⟩:=h;exact .inl ⟨rfl,by simp only [hb]⟩
   ·cases h
  ·cases h
 case delete et m k=>
  simp only [bz,nj,cA]at hg ⊢;intro d s' h;simp only [cB]at h ⊢;split at h
  ·rename_i m k hm hk;rw [hm]at hg;try simp only [hm,hk]
   split at h
   ·cases h
   ·rename_i gW;try simp only [gW]
    split at h
    ·simp only [aa,ab]at h;obtain⟨rfl,rfl⟩:=h;exact .inl ⟨rfl,rfl⟩
    ·rename_i o;have ho:=hg o (by simp [bz.cV]);simp only [ho];split at h
     ·rename_i es c vj;try simp only [vj]
      split at h
      ·rename_i q v hf;try simp only [hf]
       exact mU (by simp [bz.cV]) h hr hl
      ·rename_i hf;try simp only [hf]
       exact mU (by simp [bz.cV]) h hr hl
      ·cases h
     ·cases h
    ·cases h
  ·cases h
 case clear sz z x=>
  simp only [bz,nj,cA]at hg ⊢;intro d s' h;simp only [cB]at h ⊢;split at h
  ·rename_i hm;try simp only [hm]
   simp only [aa,ab]at h;obtain⟨rfl,rfl⟩:=h;exact .inl ⟨rfl,rfl⟩
  ·rename_i o hm;rw [hm]at hg;try simp only [hm]
   have ho:=hg o (by simp [bz.cV]);simp only [ho];split at h
   ·rename_i es c vj;try simp only [vj]
    exact mU (by simp [bz.cV]) h hr hl
   ·cases h
  ·rename_i p h1 h2 hm;rw [hm]at hg;simp only [sJ hg];split at h
   ·rename_i n hn;try simp only [hn]
    split at h
    ·rename_i hz;try simp only [hz]
     exact yg (fun _ h=>by rw [hm]; exact h) h hr hl hg
    ·cases h
   ·cases h
  ·cases h
 case Cr ty x y=>
  simp only [bz,nj,cA]at hg ⊢;intro d s' h;simp only [cB]at h ⊢;split at h
  ·rename_i k n hm hy;try simp only [hm,hy]
   split at h
   ·rename_i hb;simp only [aa,ab]at h;obtain⟨rfl,rfl⟩:=h;exact .inl ⟨rfl,by simp only [hb]⟩
   ·cases h
  ·rename_i o i c en k n hm hy;rw [hm]at hg;try simp only [hm,hy]
   have ho:=hg o (by simp [bz.cV]);simp only [ho];split at h
   ·rename_i z t es st vj;try simp only [vj]
    split at h
    ·rename_i b h1 h2 h3 h4;try simp only [h1,h2,h3,h4]
     exact mU (by simp [bz.cV]) h hr hl
    ·cases h
   ·cases h
  ·cases h
 case copy sz x y=>
  simp only [bz,nj]at hg ⊢;intro d s' h;simp only [cB]at h ⊢;split at h
  ·rename_i a l hm hy;rw [hm]at hg;have h2:=hg.app.2;simp only [sJ h2];split at h
   ·rename_i n h1 hn;try simp only [h1,hn]
    exact yg (fun _ h=>by rw [hm]; exact h) h hr hl h2
   ·cases h
  ·rename_i a b yq hm hy;rw [hm,hy]at hg;have h2:=hg.app.2;have h1:=hg.app.1;simp only [sJ h2,oY h1];split at h
   ·rename_i z l n hi hn;try simp only [hi,hn]
    split at h
    ·rename_i g1 g2;try simp only [g1,g2]
     exact yg (fun _ h=>by rw [hm]; exact h) h hr hl h2
    ·cases h
   ·cases h
  ·cases h
theorem acw {p:eN}{k:Nat}(hk:p.kind=3)(hr:s2.ro=s.ro)(hn:s2.n=s.n)(hg:s2.get k=s.get k):VQ (fun s=>cB C e s (some k) p) s s2 [k]:=by
 intro d s' h
 cases p <;> first
  | (exfalso; revert hk; simp [eN.kind]; done)
  | (exfalso; rename_i ro _ _; cases ro <;> revert hk <;> simp [eN.kind]; done)
  | (simp only [cB]at h ⊢
     repeat' split at h
     all_goals first
      | (cases h; done)
      | (rename_i h1
         obtain⟨g1,g2⟩:=Gs (s2:=s2) h1 hr hn hg;simp only [ab]at g1;obtain⟨rfl,rfl⟩:=g1;simp only [aa,ab]at h;obtain⟨rfl,rfl⟩:=h;refine .inr ⟨_,_,cG.2 rfl,rfl, ?_⟩;simp_all; done)
      | trace_state)
def NY (F:St->Option (D×St))(s s2:St)(wr:List Nat):Prop:=∀d s',F s=some (d,s')->
 (s' =s/\F s2=some (d,s2))\/(∃o x,o∈wr/\s' =s.bD o x/\F s2=some (d,s2.bD o x))\/
  ∃o x o' x',o∈wr/\o' ∈wr/\s' =(s.bD o x).bD o' x' /\F s2=some (d,(s2.bD o x).bD o' x')
theorem Az {s:St}{x:Nat}{q:Obj}(u:Nat):(s.bD x q).get u=if u=x then some q else s.get u:=T.pI _ _ _ _
theorem wT {k sz ty:Nat}{a:D}{l:List D}(hr:s2.ro=s.ro)(hl:s2.lk=s.lk)(hn:s2.n=s.n)(hg:Dq (bz.cV (some a)) s s2)(hk:s2.get k=s.get k):
  NY (fun s=>fF s (some k) sz ty a l) s s2 (k::bz.cV (some a)):=by
 intro d s' h;simp only at h ⊢;unfold fF at h;split at h
 ·split at h
  ·simp only [aa,ab]at h;obtain⟨rfl,rfl⟩:=h;exact .inl ⟨rfl,by simp [fF]⟩
  ·rename_i o _ _ _;have ho:=hg o (by simp [bz.cV]);split at h
   ·rename_i hq;simp only [aa,ab]at h;obtain⟨rfl,rfl⟩:=h;exact .inl ⟨rfl,by simp [fF,ho,hq]⟩
   ·cases h
  ·cases h
 ·rename_i cC;split at h
  ·split at h
   ·rename_i hb;split at h
    ·rename_i k' s1 h1;obtain⟨g1,g2⟩:=Gs (s2:=s2) h1 hr hn hk;simp only [ab]at g1;obtain⟨rfl,rfl⟩:=g1;simp only [aa,ab]at h;obtain⟨rfl,rfl⟩:=h;exact .inr (.inl ⟨k',_,by simp,rfl,by simp [fF,hb,g2]⟩)
    ·cases h
   ·cases h
  ·rename_i o off len cp;have ho:=hg o (by simp [bz.cV]);split at h
   ·rename_i z es st hq;split at h
    ·rename_i h1 h2 h3 h4;split at h
     ·rename_i h5;split at h
      ·rename_i s1 tZ;obtain⟨g1,g2⟩:=sH (s2:=s2) tZ hr hl;simp only [aa,ab]at h;obtain⟨rfl,rfl⟩:=h;exact .inr (.inl ⟨o,_,by simp [bz.cV],g1,by simp [fF,ho,hq,h1,h2,h3,h4,h5,g2]⟩)
      ·cases h
     ·rename_i h5;split at h
      ·rename_i s1 tZ;obtain⟨g1,g2⟩:=sH (s2:=s2) tZ hr hl;subst g1;split at h
       ·rename_i k' s3 h6;obtain⟨e1,e2⟩:=Gs (s2:=s2.bD o .dead) h6 hr hn (by rw [Az,Az,hk]);simp only [ab]at e1;obtain⟨rfl,rfl⟩:=e1;simp only [aa,ab]at h;obtain⟨rfl,rfl⟩:=h;exact .inr (.inr ⟨o,_,k',_,by simp [bz.cV],by simp,rfl,by simp [fF,ho,hq,h1,h2,h3,h4,h5,g2,e2]⟩)
       ·cases h
      ·cases h
    ·cases h
   ·cases h
  ·cases h
theorem NY.wr {F:St->Option (D×St)}{l m:List Nat}(h:NY F s s2 l)(hm:∀x,x∈l->x∈m):NY F s s2 m:=by
 intro d s' hF;rcases h d s' hF with h | ⟨o,x,h1,h2⟩ | ⟨o,x,o',x',h1,h2,h3⟩
 ·exact .inl h
 ·exact .inr (.inl ⟨o,x,hm _ h1,h2⟩)
 ·exact .inr (.inr ⟨o,x,o',x',hm _ h1,hm _ h2,h3⟩)
theorem ab2 {p:eN}{k:Nat}(hk:p.kind=9)(hr:s2.ro=s.ro)(hl:s2.lk=s.lk)(hn:s2.n=s.n)(hg:Dq (bz e p++nj e p) s s2)(hgk:s2.get k=s.get k):NY (fun s=>cB C e s (some k) p) s s2 (k::nj e p):=by
 cases p <;> first
  | (exfalso; revert hk; simp [eN.kind]; done)
  | (exfalso; rename_i ro _ _; cases ro <;> revert hk <;> simp [eN.kind]; done)
  | skip
 rename_i sz bytes ty x y;simp only [bz,nj]at hg ⊢;intro d s' h;simp only [cB]at h ⊢;split at h
 ·rename_i a l ha hy;rw [ha]at hg ⊢;try simp only [ha,hy]
  split at h
  ·rename_i h1 h2;try simp only [h1,h2]
   exact wT hr hl hn hg.app.2 hgk d s' h
  ·cases h
 ·rename_i a b y8 ha hb;rw [ha,hb]at hg;rw [ha];try simp only [ha,hb]
  simp only [oY hg.app.1];split at h
  ·rename_i z l hi;try simp only [hi]
   split at h
   ·rename_i h1 h2;try simp only [h1,h2]
    split at h
    ·rename_i h3;try simp only [h3]
     exact wT hr hl hn hg.app.2 hgk d s' h
    ·cases h
   ·cases h
  ·cases h
 ·cases h
end
end Go.Ab
