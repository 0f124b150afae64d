/- Part. -/
import Derived.Test.YtmcdajnpdekocaaGreatDoorG19
set_option linter.unusedSectionVars false
set_option linter.unusedSimpArgs false
set_option linter.unusedVariables false
namespace Go.Ab
open Go
variable [Vals]
def AgO (l:List Nat)(s s2:St):Prop:=∀o,o∈l→s2.get o=s.get o
section
variable {s s2:St}{C:zAa}{e:Env}{al:Option Nat}
theorem zHs {x:Option D}{d:D} {s' :St}(h:ofO s x=some (d,s')):s' =s∧ofO s2 x=some (d,s2):=by
 cases x <;> simp [ofO]at h ⊢; exact ⟨h.2.symm,h.1⟩
theorem zYd {sz:Option Nat}{p:D}(h:AgO (fpRd.objs (some p)) s s2):zPr s2 sz p=zPr s sz p:=by
 cases p <;> simp only [zPr]
 ·rename_i o c; rw [h o (by simp [fpRd.objs])]
 ·rename_i o i c z; rw [h o (by simp [fpRd.objs])]
theorem zEi {p:D}(h:AgO (fpRd.objs (some p)) s s2):items s2 p=items s p:=by
 cases p <;> simp only [items]
 rename_i o _ _ _; rw [h o (by simp [fpRd.objs])]
theorem zHi {k:Nat}{p:D}(h:AgO (fpRd.objs (some p)) s s2):lenD s2 k p=lenD s k p:=by
 unfold lenD
 split
 ·rfl
 ·rfl
 ·cases p <;> simp only
  rename_i o; rw [h o (by simp [fpRd.objs])]
theorem zUg {sz i:Nat}{p:D}(h:AgO (fpRd.objs (some p)) s s2):zEz s2 sz p i=zEz s sz p i:=by
 cases p <;> simp only [zEz]
 rename_i o _ _ _; rw [h o (by simp [fpRd.objs])]
theorem eqP_same {a b:D}(h:AgO (fpRd.objs (some a)++fpRd.objs (some b)) s s2):eqP s2 a b=eqP s a b:=by
 cases a <;> cases b <;> simp only [eqP]
 rename_i o c o' c'
 rw [h o (by simp [fpRd.objs]),h o' (by simp [fpRd.objs])]
theorem zHr {o:Nat}{x:Obj} {s' :St}(h:s.set o x=some s')(hr:s2.ro=s.ro)(hl:s2.lk=s.lk):s' =s.set0 o x∧s2.set o x=some (s2.set0 o x):=by
 unfold St.set at *
 rw [hr,hl]
 split at h
 ·cases h
 ·rename_i h1
  split at h
  ·cases h
  ·rename_i h2
   simp only [Option.some.injEq]at h
   simp [h1,h2,h]
theorem zZp {k:Nat}{x:Obj}{r:Nat×St}(h:s.mk' (some k) x=some r)(hr:s2.ro=s.ro)(hn:s2.n=s.n)(hg:s2.get k=s.get k):r=(k,s.set0 k x)∧s2.mk' (some k) x=some (k,s2.set0 k x):=by
 unfold St.mk' at *
 rw [hr]
 split at h
 ·cases h
 ·rename_i h1
  simp only at h
  split at h
  ·rename_i h2
   split at h
   ·rename_i h3
    simp only [Option.some.injEq]at h
    simp [h1,hg,h2,hn,h3,h]
   ·cases h
  ·cases h
theorem zXl {sz:Nat}{p v:D} {s' :St}(h:zCd s sz p v=some s')(hr:s2.ro=s.ro)(hl:s2.lk=s.lk)(hg:AgO (fpRd.objs (some p)) s s2):
  ∃o x,o∈fpRd.objs (some p)∧s' =s.set0 o x∧zCd s2 sz p v=some (s2.set0 o x):=by
 unfold zCd at *
 split at h
 ·cases h
 ·rename_i hz
  cases p <;> (try simp only at h) <;> try (cases h; done)
  ·rename_i o c
   have hgo:=hg o (by simp [fpRd.objs])
   split at h
   ·rename_i q hq
    split at h
    ·rename_i e' he
     obtain⟨h1,h2⟩:=zHr h hr hl
     exact⟨o,_,by simp [fpRd.objs],h1,by simp [zCd,hz,hgo,hq,he,h2]⟩
    ·cases h
   ·cases h
  ·rename_i o i c z
   have hgo:=hg o (by simp [fpRd.objs])
   split at h
   ·rename_i z es st hq
    split at h
    ·rename_i hb
     split at h
     ·rename_i d0 hd0
      split at h
      ·rename_i d1 hd1
       obtain⟨h1,h2⟩:=zHr h hr hl
       exact⟨o,_,by simp [fpRd.objs],h1,by simp [zCd,hz,hgo,hq,hb,hd0,hd1,h2]⟩
      ·cases h
     ·cases h
    ·cases h
   ·cases h
theorem zYk {sz:Nat}{p:D}{l:List D} {s' :St}(h:zBn s sz p l=some s')(hr:s2.ro=s.ro)(hl:s2.lk=s.lk)(hg:AgO (fpRd.objs (some p)) s s2):
  (s' =s∧zBn s2 sz p l=some s2)∨∃o x,o∈fpRd.objs (some p)∧s' =s.set0 o x∧zBn s2 sz p l=some (s2.set0 o x):=by
 unfold zBn at *
 cases p <;> (try simp only at h) <;> try (cases h; done)
 ·rename_i nl z es
  cases es <;> (try simp only at h) <;> try (cases h; done)
  cases l <;> (try simp only at h) <;> try (cases h; done)
  simp only [Option.some.injEq]at h; subst h
  exact .inl ⟨rfl,rfl⟩
 ·rename_i o off len cp
  simp only [hg o (by simp [fpRd.objs])]
  split at h
  ·rename_i z es st hq
   split at h
   ·rename_i h1 h2 h3
    obtain⟨g1,g2⟩:=zHr h hr hl
    exact .inr ⟨o,_,by simp [fpRd.objs],g1,by simp [hq,h1,h2,h3,g2]⟩
   ·rename_i h1 h2 h3
    split at h
    ·rename_i h4
     simp only [Option.some.injEq]at h; subst h
     exact .inl ⟨rfl,by simp [hq,h1,h2,h3,h4]⟩
    ·cases h
   ·cases h
  ·cases h
def Eff (F:St→Option (D×St))(s s2:St)(wr:List Nat):Prop:=∀d s',F s=some (d,s')→
 (s' =s∧F s2=some (d,s2))∨∃o x,o∈wr∧s' =s.set0 o x∧F s2=some (d,s2.set0 o x)
theorem eff0 {p:AOp}{wr:List Nat}(hk:p.kind=0∨p.kind=6):Eff (fun s=>opF C e s al p) s s2 wr:=by
 intro d s' h
 refine .inl ?_
 cases p <;> first
  | (exfalso; revert hk; simp [AOp.kind]; done)
  | (exfalso; rename_i ro _ _; cases ro <;> revert hk <;> simp [AOp.kind]; done)
  | (simp only [opF]at h ⊢
     repeat' split at h
     all_goals first
      | (cases h; done)
      | exact zHs h
      | (have h2:=zHs (s2:=s2) h; simp_all; done)
      | (simp only [Option.some.injEq,Prod.mk.injEq]at h; obtain ⟨rfl,rfl⟩:=h; simp_all; done)
      | trace_state)
theorem AgO.app {l m:List Nat}(h:AgO (l++m) s s2):AgO l s s2∧AgO m s s2:=⟨fun o ho=>h o (by simp [ho]),fun o ho=>h o (by simp [ho])⟩
theorem eff1 {p:AOp}{wr:List Nat}(hk:p.kind=1)(hg:AgO (fpRd e p) s s2):Eff (fun s=>opF C e s al p) s s2 wr:=by
 cases p <;> first
  | (exfalso; revert hk; simp [AOp.kind]; done)
  | (exfalso; rename_i ro _ _; cases ro <;> revert hk <;> simp [AOp.kind]; done)
  | skip
 case load sz x=>
  simp only [fpRd]at hg
  intro d s' h
  simp only [opF]at h ⊢
  split at h
  ·rename_i p hp
   rw [hp]at hg
   try simp only [hp,zYd hg]
   exact .inl (zHs h)
  ·cases h
 case uptr x=>
  simp only [fpRd]at hg
  intro d s' h
  simp only [opF]at h ⊢
  split at h
  ·rename_i o c hp
   rw [hp]at hg
   try simp only [hp]
   have ho:=hg o (by simp [fpRd.objs])
   simp only [ho]
   split at h
   ·rename_i v hv
    try simp only [hv]
    split at h
    ·rename_i hb
     simp only [Option.some.injEq,Prod.mk.injEq]at h
     obtain⟨rfl,rfl⟩:=h
     exact .inl ⟨rfl,by simp only [hb]⟩
    ·cases h
   ·cases h
  ·cases h
 case upto l x=>
  simp only [fpRd]at hg
  intro d s' h
  simp only [opF]at h ⊢
  split at h
  ·rename_i hp
   try simp only [hp]
   simp only [Option.some.injEq,Prod.mk.injEq]at h
   obtain⟨rfl,rfl⟩:=h
   exact .inl ⟨rfl,rfl⟩
  ·rename_i o c hp
   rw [hp]at hg
   try simp only [hp]
   have ho:=hg o (by simp [fpRd.objs])
   simp only [ho]
   split at h
   ·rename_i t v hv
    try simp only [hv]
    split at h
    ·rename_i hb
     simp only [Option.some.injEq,Prod.mk.injEq]at h
     obtain⟨rfl,rfl⟩:=h
     exact .inl ⟨rfl,by simp only [hb]⟩
    ·cases h
   ·cases h
  ·cases h
 case sldata x=>
  simp only [fpRd]at hg
  intro d s' h
  simp only [opF]at h ⊢
  split at h
  ·rename_i z l hp
   try simp only [hp]
   simp only [Option.some.injEq,Prod.mk.injEq]at h
   obtain⟨rfl,rfl⟩:=h
   exact .inl ⟨rfl,rfl⟩
  ·rename_i o off len cp hp
   rw [hp]at hg
   try simp only [hp]
   have ho:=hg o (by simp [fpRd.objs])
   simp only [ho]
   split at h
   ·rename_i hv
    try simp only [hv]
    split at h
    ·rename_i hb
     simp only [Option.some.injEq,Prod.mk.injEq]at h
     obtain⟨rfl,rfl⟩:=h
     exact .inl ⟨rfl,by simp only [hb]⟩
    ·cases h
   ·cases h
  ·cases h
 case eq et neg oc x y=>
  simp only [fpRd]at hg
  intro d s' h
  simp only [opF]at h ⊢
  split at h
  ·rename_i a b ha hb
   rw [ha,hb]at hg
   try simp only [ha,hb]
   split at h
   ·rename_i r hr
    simp only [Option.some.injEq,Prod.mk.injEq]at h
    obtain⟨rfl,rfl⟩:=h
    exact .inl ⟨rfl,by simp [hr]⟩
   ·rename_i hr
    try simp only [hr]
    split at h
    ·try simp only [eqP_same hg]
     split at h
     ·rename_i r hr2
      simp only [Option.some.injEq,Prod.mk.injEq]at h
      obtain⟨rfl,rfl⟩:=h
      exact .inl ⟨rfl,by simp [hr2]⟩
     ·cases h
    ·cases h
  ·cases h
 case iaddr sz x i=>
  simp only [fpRd]at hg
  intro d s' h
  simp only [opF]at h ⊢
  split at h
  ·rename_i p i hp hi
   rw [hp]at hg
   try simp only [hp,hi]
   split at h
   ·rename_i k hk
    try simp only [hk,zUg hg]
    exact .inl (zHs h)
   ·cases h
  ·cases h
 case ssl sz x lo hi mx=>
  simp only [fpRd]at hg
  intro d s' h
  simp only [opF]at h ⊢
  split at h
  ·rename_i p a b c hp ha hb hc
   rw [hp]at hg
   try simp only [hp,ha,hb,hc]
   split at h
   ·rename_i a' b' c' ha' hb' hc'
    try simp only [ha',hb',hc',zEi hg]
    split at h
    ·rename_i z l hi
     try simp only [hi]
     split at h
     ·rename_i hz
      try simp only [hz]
      exact .inl (zHs h)
     ·cases h
    ·cases h
   ·cases h
  ·cases h
 case len k x=>
  simp only [fpRd]at hg
  intro d s' h
  simp only [opF]at h ⊢
  split at h
  ·rename_i i ex lo hi hp
   split at h
   ·simp only [Option.some.injEq,Prod.mk.injEq]at h
    obtain⟨rfl,rfl⟩:=h
    exact .inl ⟨rfl,rfl⟩
   ·cases h
  ·rename_i p hneg hp
   clear hneg
   rw [hp]at hg
   try simp only [zHi hg]
   split at h
   ·rename_i r hr
    simp only [Option.some.injEq,Prod.mk.injEq]at h
    obtain⟨rfl,rfl⟩:=h
    exact .inl ⟨rfl,by simp [hr]⟩
   ·cases h
  ·cases h
 case bytesToStr x=>
  simp only [fpRd]at hg
  intro d s' h
  simp only [opF]at h ⊢
  split at h
  ·rename_i p hp
   rw [hp]at hg
   try simp only [hp,zEi hg]
   split at h
   ·rename_i z l hi
    try simp only [hi]
    split at h
    ·rename_i b h1 h2
     simp only [Option.some.injEq,Prod.mk.injEq]at h
     obtain⟨rfl,rfl⟩:=h
     exact .inl ⟨rfl,by simp only [h1,h2]⟩
    ·cases h
   ·cases h
  ·cases h
 case runesToStr x=>
  simp only [fpRd]at hg
  intro d s' h
  simp only [opF]at h ⊢
  split at h
  ·rename_i p hp
   rw [hp]at hg
   try simp only [hp,zEi hg]
   split at h
   ·rename_i z l hi
    try simp only [hi]
    split at h
    ·rename_i b h1 h2
     simp only [Option.some.injEq,Prod.mk.injEq]at h
     obtain⟨rfl,rfl⟩:=h
     exact .inl ⟨rfl,by simp only [h1,h2]⟩
    ·cases h
   ·cases h
  ·cases h
 case lookup et z ok m k=>
  simp only [fpRd]at hg
  intro d s' h
  simp only [opF]at h ⊢
  split at h
  ·rename_i m k hm hk
   rw [hm]at hg
   try simp only [hm,hk]
   split at h
   ·cases h
   ·rename_i hkd
    try simp only [hkd]
    split at h
    ·simp only [Option.some.injEq,Prod.mk.injEq]at h
     obtain⟨rfl,rfl⟩:=h
     exact .inl ⟨rfl,rfl⟩
    ·rename_i o
     have ho:=hg o (by simp [fpRd.objs])
     simp only [ho]
     split at h
     ·rename_i es c hes
      try simp only [hes]
      split at h
      ·rename_i q v hf
       simp only [Option.some.injEq,Prod.mk.injEq]at h
       obtain⟨rfl,rfl⟩:=h
       exact .inl ⟨rfl,by simp only [hf]⟩
      ·rename_i hf
       simp only [Option.some.injEq,Prod.mk.injEq]at h
       obtain⟨rfl,rfl⟩:=h
       exact .inl ⟨rfl,by simp only [hf]⟩
      ·cases h
     ·cases h
    ·cases h
  ·cases h
theorem zDu {o:Nat}{x:Obj}{d0 d:D} {s' :St}{wr:List Nat}(ho:o∈wr)(h:ofS d0 (s.set o x)=some (d,s'))(hr:s2.ro=s.ro)(hl:s2.lk=s.lk):
  (s' =s∧ofS d0 (s2.set o x)=some (d,s2))∨∃o' x',o' ∈wr∧s' =s.set0 o' x' ∧ofS d0 (s2.set o x)=some (d,s2.set0 o' x'):=by
 unfold ofS at *
 split at h
 ·rename_i s1 h1
  obtain⟨g1,g2⟩:=zHr (s2:=s2) h1 hr hl
  simp only [Option.some.injEq,Prod.mk.injEq]at h
  obtain⟨rfl,rfl⟩:=h
  exact .inr ⟨o,x,ho,g1,by simp [g2]⟩
 ·cases h
theorem zNp {sz:Nat}{p:D}{l:List D}{d0 d:D} {s' :St}{wr:List Nat}(hw:∀o,o∈fpRd.objs (some p)→o∈wr)(h:ofS d0 (zBn s sz p l)=some (d,s'))(hr:s2.ro=s.ro)(hl:s2.lk=s.lk)(hg:AgO (fpRd.objs (some p)) s s2):
  (s' =s∧ofS d0 (zBn s2 sz p l)=some (d,s2))∨∃o' x',o' ∈wr∧s' =s.set0 o' x' ∧ofS d0 (zBn s2 sz p l)=some (d,s2.set0 o' x'):=by
 unfold ofS at *
 split at h
 ·rename_i s1 h1
  simp only [Option.some.injEq,Prod.mk.injEq]at h
  obtain⟨rfl,rfl⟩:=h
  rcases zYk (s2:=s2) h1 hr hl hg with ⟨g1,g2⟩ | ⟨o,x,g0,g1,g2⟩
  ·exact .inl ⟨g1,by simp [g2]⟩
  ·exact .inr ⟨o,x,hw o g0,g1,by simp [g2]⟩
 ·cases h
theorem eff2 {p:AOp}(hk:p.kind=2)(hr:s2.ro=s.ro)(hl:s2.lk=s.lk)(hg:AgO (fpRd e p++fpWr e p) s s2):Eff (fun s=>opF C e s al p) s s2 (fpWr e p):=by
 cases p <;> first
  | (exfalso; revert hk; simp [AOp.kind]; done)
  | (exfalso; rename_i ro _ _; cases ro <;> revert hk <;> simp [AOp.kind]; done)
  | skip
 case store sz x v=>
  simp only [fpRd,fpWr,List.nil_append]at hg ⊢
  intro d s' h
  simp only [opF]at h ⊢
  split at h
  ·rename_i p v hp hv
   rw [hp]at hg
   try simp only [hp,hv]
   unfold ofS at *
   split at h
   ·rename_i s1 h1
    simp only [Option.some.injEq,Prod.mk.injEq]at h
    obtain⟨rfl,rfl⟩:=h
    obtain⟨o,x,g0,g1,g2⟩:=zXl (s2:=s2) h1 hr hl hg
    exact .inr ⟨o,x,g0,g1,by simp [g2]⟩
   ·cases h
  ·cases h
 case mupd et m k v=>
  simp only [fpRd,fpWr,List.nil_append]at hg ⊢
  intro d s' h
  simp only [opF]at h ⊢
  split at h
  ·rename_i o k v hm hk hv
   rw [hm]at hg
   try simp only [hm,hk,hv]
   have ho:=hg o (by simp [fpRd.objs])
   split at h
   ·cases h
   ·rename_i hkd
    try simp only [hkd]
    simp only [ho]
    split at h
    ·rename_i es c hes
     try simp only [hes]
     split at h
     ·rename_i i q hf
      try simp only [hf]
      split at h
      ·rename_i b k' q' he
       try simp only [he]
       split at h
       ·rename_i hs
        try simp only [hs]
        exact zDu (by simp [fpRd.objs]) h hr hl
       ·cases h
      ·cases h
     ·rename_i hf
      try simp only [hf]
      exact zDu (by simp [fpRd.objs]) h hr hl
     ·cases h
    ·cases h
  ·cases h
 case mentry et z m k=>
  simp only [fpRd,fpWr,List.nil_append]at hg ⊢
  intro d s' h
  simp only [opF]at h ⊢
  split at h
  ·rename_i o k hm hk
   rw [hm]at hg
   try simp only [hm,hk]
   have ho:=hg o (by simp [fpRd.objs])
   split at h
   ·cases h
   ·rename_i hkd
    try simp only [hkd]
    simp only [ho]
    split at h
    ·rename_i es c hes
     try simp only [hes]
     split at h
     ·rename_i i q hf
      try simp only [hf]
      split at h
      ·rename_i b k' q' he
       try simp only [he]
       split at h
       ·rename_i hs
        try simp only [hs]
        exact zDu (by simp [fpRd.objs]) h hr hl
       ·cases h
      ·cases h
     ·rename_i hf
      try simp only [hf]
      exact zDu (by simp [fpRd.objs]) h hr hl
     ·cases h
    ·cases h
  ·cases h
 case mestore m b v=>
  simp only [fpRd,fpWr,List.nil_append]at hg ⊢
  intro d s' h
  simp only [opF]at h ⊢
  split at h
  ·rename_i o ik b v hm hk hv
   rw [hm]at hg
   try simp only [hm,hk,hv]
   have ho:=hg o (by simp [fpRd.objs])
   simp only [ho]
   split at h
   ·rename_i es c hes
    try simp only [hes]
    split at h
    ·rename_i i hf
     try simp only [hf]
     exact zDu (by simp [fpRd.objs]) h hr hl
    ·cases h
   ·cases h
  ·cases h
 case nexts x=>
  simp only [fpRd,fpWr,List.nil_append]at hg ⊢
  intro d s' h
  simp only [opF]at h ⊢
  split at h
  ·rename_i o hm
   rw [hm]at hg
   try simp only [hm]
   have ho:=hg o (by simp [fpRd.objs])
   simp only [ho]
   split at h
   ·rename_i l pos hes
    try simp only [hes]
    split at h
    ·rename_i hb
     try simp only [hb]
     exact zDu (by simp [fpRd.objs]) h hr hl
    ·rename_i hb
     simp only [Option.some.injEq,Prod.mk.injEq]at h
     obtain⟨rfl,rfl⟩:=h
     exact .inl ⟨rfl,by simp only [hb]⟩
   ·cases h
  ·cases h
 case delete et m k=>
  simp only [fpRd,fpWr,List.nil_append]at hg ⊢
  intro d s' h
  simp only [opF]at h ⊢
  split at h
  ·rename_i m k hm hk
   rw [hm]at hg
   try simp only [hm,hk]
   split at h
   ·cases h
   ·rename_i hkd
    try simp only [hkd]
    split at h
    ·simp only [Option.some.injEq,Prod.mk.injEq]at h
     obtain⟨rfl,rfl⟩:=h
     exact .inl ⟨rfl,rfl⟩
    ·rename_i o
     have ho:=hg o (by simp [fpRd.objs])
     simp only [ho]
     split at h
     ·rename_i es c hes
      try simp only [hes]
      split at h
      ·rename_i q v hf
       try simp only [hf]
       exact zDu (by simp [fpRd.objs]) h hr hl
      ·rename_i hf
       try simp only [hf]
       exact zDu (by simp [fpRd.objs]) h hr hl
      ·cases h
     ·cases h
    ·cases h
  ·cases h
 case clear sz z x=>
  simp only [fpRd,fpWr,List.nil_append]at hg ⊢
  intro d s' h
  simp only [opF]at h ⊢
  split at h
  ·rename_i hm
   try simp only [hm]
   simp only [Option.some.injEq,Prod.mk.injEq]at h
   obtain⟨rfl,rfl⟩:=h
   exact .inl ⟨rfl,rfl⟩
  ·rename_i o hm
   rw [hm]at hg
   try simp only [hm]
   have ho:=hg o (by simp [fpRd.objs])
   simp only [ho]
   split at h
   ·rename_i es c hes
    try simp only [hes]
    exact zDu (by simp [fpRd.objs]) h hr hl
   ·cases h
  ·rename_i p h1 h2 hm
   rw [hm]at hg
   simp only [zHi hg]
   split at h
   ·rename_i n hn
    try simp only [hn]
    split at h
    ·rename_i hz
     try simp only [hz]
     exact zNp (fun _ h=>by rw [hm]; exact h) h hr hl hg
    ·cases h
   ·cases h
  ·cases h
 case ustr ty x y=>
  simp only [fpRd,fpWr,List.nil_append]at hg ⊢
  intro d s' h
  simp only [opF]at h ⊢
  split at h
  ·rename_i k n hm hy
   try simp only [hm,hy]
   split at h
   ·rename_i hb
    simp only [Option.some.injEq,Prod.mk.injEq]at h
    obtain⟨rfl,rfl⟩:=h
    exact .inl ⟨rfl,by simp only [hb]⟩
   ·cases h
  ·rename_i o i c en k n hm hy
   rw [hm]at hg
   try simp only [hm,hy]
   have ho:=hg o (by simp [fpRd.objs])
   simp only [ho]
   split at h
   ·rename_i z t es st hes
    try simp only [hes]
    split at h
    ·rename_i b h1 h2 h3 h4
     try simp only [h1,h2,h3,h4]
     exact zDu (by simp [fpRd.objs]) h hr hl
    ·cases h
   ·cases h
  ·cases h
 case copy sz x y=>
  simp only [fpRd,fpWr]at hg ⊢
  intro d s' h
  simp only [opF]at h ⊢
  split at h
  ·rename_i a l hm hy
   rw [hm]at hg
   have h2:=hg.app.2
   simp only [zHi h2]
   split at h
   ·rename_i n h1 hn
    try simp only [h1,hn]
    exact zNp (fun _ h=>by rw [hm]; exact h) h hr hl h2
   ·cases h
  ·rename_i a b hb0 hm hy
   rw [hm,hy]at hg
   have h2:=hg.app.2
   have h1:=hg.app.1
   simp only [zHi h2,zEi h1]
   split at h
   ·rename_i z l n hi hn
    try simp only [hi,hn]
    split at h
    ·rename_i g1 g2
     try simp only [g1,g2]
     exact zNp (fun _ h=>by rw [hm]; exact h) h hr hl h2
    ·cases h
   ·cases h
  ·cases h
theorem eff3 {p:AOp}{k:Nat}(hk:p.kind=3)(hr:s2.ro=s.ro)(hn:s2.n=s.n)(hg:s2.get k=s.get k):Eff (fun s=>opF C e s (some k) p) s s2 [k]:=by
 intro d s' h
 cases p <;> first
  | (exfalso; revert hk; simp [AOp.kind]; done)
  | (exfalso; rename_i ro _ _; cases ro <;> revert hk <;> simp [AOp.kind]; done)
  | (simp only [opF]at h ⊢
     repeat' split at h
     all_goals first
      | (cases h; done)
      | (rename_i h1
         obtain⟨g1,g2⟩:=zZp (s2:=s2) h1 hr hn hg
         simp only [Prod.mk.injEq]at g1
         obtain⟨rfl,rfl⟩:=g1
         simp only [Option.some.injEq,Prod.mk.injEq]at h
         obtain⟨rfl,rfl⟩:=h
         refine .inr ⟨_,_,List.mem_singleton.2 rfl,rfl, ?_⟩
         simp_all; done)
      | trace_state)
def Eff9 (F:St→Option (D×St))(s s2:St)(wr:List Nat):Prop:=∀d s',F s=some (d,s')→
 (s' =s∧F s2=some (d,s2))∨(∃o x,o∈wr∧s' =s.set0 o x∧F s2=some (d,s2.set0 o x))∨
  ∃o x o' x',o∈wr∧o' ∈wr∧s' =(s.set0 o x).set0 o' x' ∧F s2=some (d,(s2.set0 o x).set0 o' x')
theorem zRu {s:St}{x:Nat}{q:Obj}(u:Nat):(s.set0 x q).get u=if u=x then some q else s.get u:=T.get_set _ _ _ _
theorem zLl {k sz ty:Nat}{a:D}{l:List D}(hr:s2.ro=s.ro)(hl:s2.lk=s.lk)(hn:s2.n=s.n)(hg:AgO (fpRd.objs (some a)) s s2)(hk:s2.get k=s.get k):
  Eff9 (fun s=>zAn s (some k) sz ty a l) s s2 (k::fpRd.objs (some a)):=by
 intro d s' h
 simp only at h ⊢
 unfold zAn at h
 split at h
 ·split at h
  ·simp only [Option.some.injEq,Prod.mk.injEq]at h
   obtain⟨rfl,rfl⟩:=h
   exact .inl ⟨rfl,by simp [zAn]⟩
  ·rename_i o _ _ _
   have ho:=hg o (by simp [fpRd.objs])
   split at h
   ·rename_i hq
    simp only [Option.some.injEq,Prod.mk.injEq]at h
    obtain⟨rfl,rfl⟩:=h
    exact .inl ⟨rfl,by simp [zAn,ho,hq]⟩
   ·cases h
  ·cases h
 ·rename_i hne
  split at h
  ·split at h
   ·rename_i hb
    split at h
    ·rename_i k' s1 h1
     obtain⟨g1,g2⟩:=zZp (s2:=s2) h1 hr hn hk
     simp only [Prod.mk.injEq]at g1
     obtain⟨rfl,rfl⟩:=g1
     simp only [Option.some.injEq,Prod.mk.injEq]at h
     obtain⟨rfl,rfl⟩:=h
     exact .inr (.inl ⟨k',_,by simp,rfl,by simp [zAn,hb,g2]⟩)
    ·cases h
   ·cases h
  ·rename_i o off len cp
   have ho:=hg o (by simp [fpRd.objs])
   split at h
   ·rename_i z es st hq
    split at h
    ·rename_i h1 h2 h3 h4
     split at h
     ·rename_i h5
      split at h
      ·rename_i s1 hs1
       obtain⟨g1,g2⟩:=zHr (s2:=s2) hs1 hr hl
       simp only [Option.some.injEq,Prod.mk.injEq]at h
       obtain⟨rfl,rfl⟩:=h
       exact .inr (.inl ⟨o,_,by simp [fpRd.objs],g1,by simp [zAn,ho,hq,h1,h2,h3,h4,h5,g2]⟩)
      ·cases h
     ·rename_i h5
      split at h
      ·rename_i s1 hs1
       obtain⟨g1,g2⟩:=zHr (s2:=s2) hs1 hr hl
       subst g1
       split at h
       ·rename_i k' s3 h6
        obtain⟨e1,e2⟩:=zZp (s2:=s2.set0 o .dead) h6 hr hn (by rw [zRu,zRu,hk])
        simp only [Prod.mk.injEq]at e1
        obtain⟨rfl,rfl⟩:=e1
        simp only [Option.some.injEq,Prod.mk.injEq]at h
        obtain⟨rfl,rfl⟩:=h
        exact .inr (.inr ⟨o,_,k',_,by simp [fpRd.objs],by simp,rfl,by simp [zAn,ho,hq,h1,h2,h3,h4,h5,g2,e2]⟩)
       ·cases h
      ·cases h
    ·cases h
   ·cases h
  ·cases h
theorem Eff9.wr {F:St→Option (D×St)}{l m:List Nat}(h:Eff9 F s s2 l)(hm:∀x,x∈l→x∈m):Eff9 F s s2 m:=by
 intro d s' hF
 rcases h d s' hF with h | ⟨o,x,h1,h2⟩ | ⟨o,x,o',x',h1,h2,h3⟩
 ·exact .inl h
 ·exact .inr (.inl ⟨o,x,hm _ h1,h2⟩)
 ·exact .inr (.inr ⟨o,x,o',x',hm _ h1,hm _ h2,h3⟩)
theorem eff9 {p:AOp}{k:Nat}(hk:p.kind=9)(hr:s2.ro=s.ro)(hl:s2.lk=s.lk)(hn:s2.n=s.n)(hg:AgO (fpRd e p++fpWr e p) s s2)(hgk:s2.get k=s.get k):Eff9 (fun s=>opF C e s (some k) p) s s2 (k::fpWr e p):=by
 cases p <;> first
  | (exfalso; revert hk; simp [AOp.kind]; done)
  | (exfalso; rename_i ro _ _; cases ro <;> revert hk <;> simp [AOp.kind]; done)
  | skip
 rename_i sz bytes ty x y
 simp only [fpRd,fpWr]at hg ⊢
 intro d s' h
 simp only [opF]at h ⊢
 split at h
 ·rename_i a l ha hy
  rw [ha]at hg ⊢
  try simp only [ha,hy]
  split at h
  ·rename_i h1 h2
   try simp only [h1,h2]
   exact zLl hr hl hn hg.app.2 hgk d s' h
  ·cases h
 ·rename_i a b hneg ha hb
  rw [ha,hb]at hg
  rw [ha]
  try simp only [ha,hb]
  simp only [zEi hg.app.1]
  split at h
  ·rename_i z l hi
   try simp only [hi]
   split at h
   ·rename_i h1 h2
    try simp only [h1,h2]
    split at h
    ·rename_i h3
     try simp only [h3]
     exact zLl hr hl hn hg.app.2 hgk d s' h
    ·cases h
   ·cases h
  ·cases h
 ·cases h
end
end Go.Ab
