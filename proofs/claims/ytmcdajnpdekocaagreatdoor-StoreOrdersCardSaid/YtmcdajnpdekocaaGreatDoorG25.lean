/- Part. -/
import Derived.Test.YtmcdajnpdekocaaGreatDoorG24
set_option linter.unusedSectionVars false
set_option linter.unusedSimpArgs false
set_option linter.unusedVariables false
namespace Go.Ab
open Go
variable {T:Nat→Option AFn}
noncomputable def limC (H:Nat→zAa):zAa:=fun f l s=>open Classical in if h:∃r m,H m f l s=some r then some h.choose else none
def Chain (H:Nat→zAa):Prop:=∀m m',m≤m' →LeC (H m) (H m')
theorem yFv {H:Nat→zAa}{f:Nat}{l:List D}{s:St}{r:D×St}(h:limC H f l s=some r):∃m,H m f l s=some r:=by
 unfold limC at h
 split at h
 ·rename_i hx
  simp only [Option.some.injEq]at h
  rw [← h]; exact hx.choose_spec
 ·cases h
theorem yBg {H:Nat→zAa}(hc:Chain H)(m:Nat):LeC (H m) (limC H):=by
 intro f l s r h
 unfold limC
 have hx:∃r m,H m f l s=some r:=⟨r,m,h⟩
 rw [dif_pos hx]
 obtain⟨m',h'⟩:=hx.choose_spec
 have h1:=hc m (max m m') (Nat.le_max_left _ _) _ _ _ _ h
 have h2:=hc m' (max m m') (Nat.le_max_right _ _) _ _ _ _ h'
 rw [h1]at h2
 simp only [Option.some.injEq]at h2
 rw [h2]
def SubC (C:zAa)(F:Nat→zAa):Prop:=∀f l s r,C f l s=some r→∃m,F m f l s=some r
def SubL (L:zBl)(F:Nat→zBl):Prop:=∀k a fr s r,L k a fr s=some r→∃m,F m k a fr s=some r
def zUv (F:Nat→zBl):Prop:=∀m m',m≤m' →LeL (F m) (F m')
section
variable {C:zAa}{FC:Nat→zAa}{L:zBl}{FL:Nat→zBl}
theorem opF_cont (h:SubC C FC){e:Env}{s:St}{al:Option Nat}{p:AOp}{r:D×St}(hr:opF C e s al p=some r):∃m,opF (FC m) e s al p=some r:=by
 cases p
 case call ro f args=>
  simp only [opF]at hr ⊢
  split at hr
  ·rename_i l hl
   cases ro with
   | false=>simp only at hr ⊢; exact h _ _ _ _ hr
   | true=>
    simp only at hr ⊢
    split at hr
    ·rename_i d s1 h1
     obtain⟨m,hm⟩:=h _ _ _ _ h1
     exact⟨m,by rw [hm]; exact hr⟩
    ·cases hr
  ·cases hr
 case callv f args=>
  simp only [opF]at hr ⊢
  split at hr
  ·exact h _ _ _ _ hr
  ·exact h _ _ _ _ hr
  ·cases hr
 case invoke tbl x args=>
  simp only [opF]at hr ⊢
  split at hr
  ·rename_i t v l hx hl
   split at hr
   ·rename_i f r0 hf
    split at hr
    ·rename_i u hu
     obtain⟨m,hm⟩:=h _ _ _ _ hr
     exact⟨m,by try simp only [hu]
                exact hm⟩
    ·cases hr
   ·cases hr
  ·cases hr
 all_goals exact ⟨0,hr⟩
theorem zRi (h:SubC C FC){b:Nat}{o:zPk}{fr:Fr}{s:St}{r:Fr×St}(hr:oper C b o fr s=some r):∃m,oper (FC m) b o fr s=some r:=by
 unfold oper at hr ⊢
 split at hr
 ·rename_i hw
  split at hr
  ·exact⟨0,by simpa [hw] using hr⟩
  ·exact⟨0,by simpa [hw] using hr⟩
  ·exact⟨0,by simpa [hw] using hr⟩
  ·rename_i op h1 h2 h3
   split at hr
   ·rename_i d s1 hop
    obtain⟨m,hm⟩:=opF_cont h hop
    exact⟨m,by rw [hm]; exact hr⟩
   ·cases hr
 ·exact⟨0,hr⟩
 ·cases hr
theorem Chain.cut (hc:Chain FC)(b k:Nat):Chain fun m=>cutC b k (FC m):=fun m n hmn=>zKl (hc m n hmn)
theorem SubC.cut (h:SubC C FC)(b k:Nat):SubC (cutC b k C) fun m=>cutC b k (FC m):=by
 cases k with
 | zero=>exact h
 | succ k=>
  intro f l s r hr
  simp only [cutC]at hr ⊢
  split at hr
  ·rename_i hro
   exact h _ _ _ _ hr
  ·rename_i hro
   split at hr
   ·rename_i h1
    obtain⟨m,hm⟩:=h _ _ _ _ h1
    exact⟨m,by rw [hm]; exact hr⟩
   ·cases hr
variable (hc:Chain FC)(hcL:zUv FL)(h:SubC C FC)(hL:SubL L FL)
include hc h
theorem zMi {b:Nat}:∀ {l:List zPk} {fr:Fr} {s:St} {r:Fr×St},opers C b l fr s=some r→∃m,opers (FC m) b l fr s=some r
 | [],_,_,_,hr=>⟨0,hr⟩
 | o::l,fr,s,r,hr=>by
  simp only [opers]at hr ⊢
  split at hr
  ·rename_i h1
   obtain⟨m,hm⟩:=zRi h h1
   obtain⟨m',hm'⟩:=zMi hr
   refine⟨max m m', ?_⟩
   rw [zEb (hc _ _ (Nat.le_max_left m m')) hm]
   exact zFv (hc _ _ (Nat.le_max_right m m')) hm'
  ·cases hr
theorem zLd {b:Nat}:∀ {l:List (zPk×List Nat)} {acc:List Fp} {fr:Fr} {s:St} {r:Fr×St},zBk C b l acc fr s=some r→∃m,zBk (FC m) b l acc fr s=some r
 | [],_,_,_,_,hr=>⟨0,hr⟩
 | (o,q)::l,acc,fr,s,r,hr=>by
  simp only [zBk]at hr ⊢
  split at hr
  ·rename_i h0
   split at hr
   ·rename_i h1
    split at hr
    ·rename_i h2
     obtain⟨m,hm⟩:=zRi h h1
     obtain⟨m',hm'⟩:=zLd hr
     refine⟨max m m', ?_⟩
     rw [zEb (hc _ _ (Nat.le_max_left m m')) hm]
     simp only [h2]
     exact zEu (hc _ _ (Nat.le_max_right m m')) hm'
    ·cases hr
   ·cases hr
  ·cases hr
include hcL hL
theorem zAr:∀ {a:AC} {fr:Fr} {s:St} {r:Ex×Fr×St},zAe C L a fr s=some r→∃m,zAe (FC m) (FL m) a fr s=some r
 | .skip,_,_,_,hr=>⟨0,hr⟩
 | .reg ops,fr,s,r,hr=>by
  simp only [zAe]at hr ⊢
  split at hr
  ·rename_i h1
   obtain⟨m,hm⟩:=zMi hc h h1
   exact⟨m,by rw [hm]; exact hr⟩
  ·cases hr
 | .dreg k ops,fr,s,r,hr=>by
  simp only [zAe]at hr ⊢
  split at hr
  ·cases hr
  ·rename_i h0
   split at hr
   ·rename_i h1
    obtain⟨m,hm⟩:=zLd (FC:=fun m=>cutC s.n k (FC m)) (hc.cut s.n k) (SubC.cut h s.n k) h1
    exact⟨m,by rw [hm]; exact hr⟩
   ·cases hr
 | .seq a b,fr,s,r,hr=>by
  simp only [zAe]at hr ⊢
  split at hr
  ·rename_i h1
   obtain⟨m,hm⟩:=zAr h1
   obtain⟨m',hm'⟩:=zAr hr
   refine⟨max m m', ?_⟩
   rw [exM (hc _ _ (Nat.le_max_left m m')) (hcL _ _ (Nat.le_max_left m m')) hm]
   exact exM (hc _ _ (Nat.le_max_right m m')) (hcL _ _ (Nat.le_max_right m m')) hm'
  ·rename_i hn
   obtain⟨m,hm⟩:=zAr hr
   refine⟨m, ?_⟩
   rw [hm]
   split
   ·rename_i h2
    simp only [Option.some.injEq]at h2; subst h2
    exact absurd hr (hn _ _)
   ·rfl
 | .cond c a b,fr,s,r,hr=>by
  simp only [zAe]at hr ⊢
  split at hr
  ·exact zAr hr
  ·exact zAr hr
  ·cases hr
 | .block id a,fr,s,r,hr=>by
  simp only [zAe]at hr ⊢
  split at hr
  ·rename_i h1
   obtain⟨m,hm⟩:=zAr h1
   exact⟨m,by rw [hm]; exact hr⟩
  ·rename_i hn
   obtain⟨m,hm⟩:=zAr hr
   refine⟨m, ?_⟩
   rw [hm]
   split
   ·rename_i h2
    simp only [Option.some.injEq]at h2; subst h2
    exact absurd hr (hn _ _ _)
   ·rfl
 | .loop keep a,fr,s,r,hr=>by
  simp only [zAe]at hr ⊢
  exact hL _ _ _ _ _ hr
 | .rangef keep g ps x y,fr,s,r,hr=>by
  simp only [zAe]at hr ⊢
  exact hL _ _ _ _ _ hr
 | .exit id,_,_,_,hr=>⟨0,hr⟩
 | .ret,_,_,_,hr=>⟨0,hr⟩
 | .bad,_,_,_,hr=>by simp [zAe]at hr
end
theorem zHz {C:zAa}{FC:Nat→zAa}(hc:Chain FC)(h:SubC C FC):∀ {l:List (D×List D)} {s s' :St},leave C l s=some s' →∃m,leave (FC m) l s=some s'
 | [],_,_,hr=>⟨0,hr⟩
 | (f,l)::q,s,s',hr=>by
  unfold leave at hr
  split at hr
  ·rename_i hh; cases hh
  ·rename_i hh
   simp only [List.cons.injEq,Prod.mk.injEq]at hh
   obtain⟨⟨rfl,rfl⟩,rfl⟩:=hh
   split at hr
   ·rename_i h1
    obtain⟨m,hm⟩:=h _ _ _ _ h1
    obtain⟨m',hm'⟩:=zHz hc h hr
    refine⟨max m m', ?_⟩
    rw [leave,hc _ _ (Nat.le_max_left m m') _ _ _ _ hm]
    exact zDh (hc _ _ (Nat.le_max_right m m')) hm'
   ·cases hr
  ·rename_i hh
   simp only [List.cons.injEq,Prod.mk.injEq]at hh
   obtain⟨⟨rfl,rfl⟩,rfl⟩:=hh
   obtain⟨m',hm'⟩:=zHz hc h hr
   exact⟨m',by rw [leave]; exact hm'⟩
  ·cases hr
theorem zXq {C CD:zAa}{FC FD:Nat→zAa}{L:zBl}{FL:Nat→zBl}(hc:Chain FC)(hd:Chain FD)(hcL:zUv FL)(h:SubC C FC)(hD:SubC CD FD)(hL:SubL L FL){fn:AFn}{args:List D}{s:St}{r:D×St}(hr:zQf C CD L fn args s=some r):∃m,zQf (FC m) (FD m) (FL m) fn args s=some r:=by
 unfold zQf at hr
 split at hr
 ·cases hr
 ·rename_i e fr s1 hne h1
  obtain⟨m,hm⟩:=zAr hc hcL h hL h1
  split at hr
  ·rename_i s2 h2
   obtain⟨m',hm'⟩:=zHz hd hD h2
   refine⟨max m m', ?_⟩
   unfold zQf
   rw [exM (hc _ _ (Nat.le_max_left m m')) (hcL _ _ (Nat.le_max_left m m')) hm]
   have h3:=zDh (hd _ _ (Nat.le_max_right m m')) hm'
   cases e with
   | exit i=>exact absurd rfl (hne i)
   | normal=>simp only [h3]; exact hr
   | ret=>simp only [h3]; exact hr
  ·cases hr
 ·cases hr
theorem zYs {C:zAa}{FC:Nat→zAa}{L:zBl}{FL:Nat→zBl}(hc:Chain FC)(hcL:zUv FL)(h:SubC C FC)(hL:SubL L FL):SubC (zQj T C L) (fun m=>zQj T (FC m) (FL m)):=by
 intro f l s r hr
 unfold zQj at hr ⊢
 split at hr
 ·rename_i fn hf
  unfold zLo at hr ⊢
  split at hr
  ·cases hr
  ·rename_i e fr s1 hne h1
   obtain⟨m,hm⟩:=zAr hc hcL h hL h1
   refine⟨m, ?_⟩
   dsimp only
   rw [hf]; dsimp only
   rw [hm]
   cases e with
   | exit i=>exact absurd rfl (hne i)
   | normal=>exact hr
   | ret=>exact hr
  ·cases hr
 ·cases hr
theorem zXg {k:Nat}{ps:List Nat}{e:Env}{x y:Fr→St→Option (Ex×Fr×St)}{H:zAa}{FX FY:Nat→Fr→St→Option (Ex×Fr×St)}{FH:Nat→zAa}
  (hx:∀fr s r,x fr s=some r→∃m,FX m fr s=some r)(hy:∀fr s r,y fr s=some r→∃m,FY m fr s=some r)(hH:SubC H FH)(cx:∀m m',m≤m' →LeE (FX m) (FX m'))(cy:∀m m',m≤m' →LeE (FY m) (FY m')):
  SubC (zPv k ps e x y H) (fun m=>zPv k ps e (FX m) (FY m) (FH m)):=by
 intro f l s r hr
 unfold zPv at hr
 split at hr
 ·rename_i k' xs
  split at hr
  ·rename_i hk
   split at hr
   ·rename_i e1 h1 h2
    unfold midR at hr
    split at hr
    ·rename_i fr1 s1 h3
     obtain⟨m,hm⟩:=hx _ _ _ h3
     split at hr
     ·rename_i h4
      split at hr
      ·rename_i s2 h5
       unfold endR at hr
       split at hr
       ·rename_i e2 fr2 s3 h6
        obtain⟨m',hm'⟩:=hy _ _ _ h6
        refine⟨max m m', ?_⟩
        simp only [zPv,hk,h1,h2,midR,cx _ _ (Nat.le_max_left m m') _ _ _ hm,h4,h5,endR,cy _ _ (Nat.le_max_right m m') _ _ _ hm']
        exact hr
       ·cases hr
      ·cases hr
     ·cases hr
    ·cases hr
   ·cases hr
  ·rename_i hk
   obtain⟨m,hm⟩:=hH _ _ _ _ hr
   refine⟨m, ?_⟩
   simp only [zPv,hk]; exact hm
 ·rename_i h0
  obtain⟨m,hm⟩:=hH _ _ _ _ hr
  refine⟨m, ?_⟩
  show zPv k ps e (FX m) (FY m) (FH m) _ _ s=some r
  unfold zPv
  split
  ·exact absurd rfl (h0 _ _ rfl)
  ·exact hm
theorem zUm {FH:Nat→zAa}(hc:Chain FH)(n:Nat):Chain (fun m=>zPn T (FH m) n)∧zUv (fun m=>zPq T (FH m) n):=
 ⟨fun m m' h=>(zDj n (hc m m' h)).1,fun m m' h=>(zDj n (hc m m' h)).2⟩
theorem zIg:∀n {H:zAa} {FH:Nat→zAa},Chain FH→SubC H FH→SubC (zPn T H n) (fun m=>zPn T (FH m) n)∧SubL (zPq T H n) (fun m=>zPq T (FH m) n)
 | 0,H,FH,hc,hH=>⟨fun f l s r hr=>by simp [zPn]at hr,fun k a fr s r hr=>by simp [zPq]at hr⟩
 | n+1,H,FH,hc,hH=>by
  obtain⟨i1,i2⟩:=zIg n hc hH
  obtain⟨c1,c2⟩:=zUm (T:=T) hc n
  have cD:Chain (fun m=>zQj T (zPn T (FH m) n) (zPq T (FH m) n)):=fun m m' h=>zIh (c1 m m' h) (c2 m m' h)
  refine⟨fun f l s r hr=> ?_,fun k a fr s r hr=> ?_⟩
  ·rw [zPn]at hr
   split at hr
   ·rename_i hy
    obtain⟨m,hm⟩:=hH _ _ _ _ hr
    exact⟨m,by show zPn T (FH m) (n+1) f l s=_; rw [zPn,hy]; exact hm⟩
   ·rename_i hy
    split at hr
    ·rename_i fn hf
     obtain⟨m,hm⟩:=zXq c1 cD c2 i1 (zYs c1 c2 i1 i2) i2 hr
     exact⟨m,by show zPn T (FH m) (n+1) f l s=_; rw [zPn,hy,hf]; exact hm⟩
    ·rename_i hf
     obtain⟨m,hm⟩:=hH _ _ _ _ hr
     exact⟨m,by show zPn T (FH m) (n+1) f l s=_; rw [zPn,hy,hf]; exact hm⟩
  ·cases hb:a.isRangef with
   | true=>
    cases a <;> first | (cases hb; done) | skip
    rename_i kp g ps x y
    rw [zBs]at hr
    unfold zEy at hr
    split at hr
    ·rename_i gf caps h1 h2
     split at hr
     ·rename_i h3
      unfold zXe at hr
      split at hr
      ·rename_i d s1 h4
       have hsub:SubC (zPv s.n ps (fr.env.keep kp) (zAe (zPn T H n) (zPq T H n) x) (zAe (zPn T H n) (zPq T H n) y) H)
         (fun m=>zPv s.n ps (fr.env.keep kp) (zAe (zPn T (FH m) n) (zPq T (FH m) n) x) (zAe (zPn T (FH m) n) (zPq T (FH m) n) y) (FH m)):=
        zXg (FX:=fun m=>zAe (zPn T (FH m) n) (zPq T (FH m) n) x) (FY:=fun m=>zAe (zPn T (FH m) n) (zPq T (FH m) n) y) (fun _ _ _ h=>zAr c1 c2 i1 i2 h) (fun _ _ _ h=>zAr c1 c2 i1 i2 h) hH (fun m m' h _ _ _ hh=>exM (c1 m m' h) (c2 m m' h) hh) (fun m m' h _ _ _ hh=>exM (c1 m m' h) (c2 m m' h) hh)
       have hch:Chain (fun m=>zPv s.n ps (fr.env.keep kp) (zAe (zPn T (FH m) n) (zPq T (FH m) n) x) (zAe (zPn T (FH m) n) (zPq T (FH m) n) y) (FH m)):=fun m m' h=>
        zFt (fun _ _ _ hh=>exM (c1 m m' h) (c2 m m' h) hh) (fun _ _ _ hh=>exM (c1 m m' h) (c2 m m' h) hh) (hc m m' h)
       obtain⟨m,hm⟩:=(zIg n hch hsub).1 _ _ _ _ h4
       refine⟨m, ?_⟩
       show zPq T (FH m) (n+1) k _ fr s=_
       rw [zBs]
       unfold zEy
       rw [h1,h2]
       simp only [h3]
       unfold zXe
       simp only at hm
       rw [hm]
       exact hr
      ·cases hr
     ·cases hr
    ·cases hr
   | false=>
    rw [zBb _ _ _ _ hb]at hr
    split at hr
    ·rename_i h1
     obtain⟨m,hm⟩:=zAr c1 c2 i1 i2 h1
     obtain⟨m',hm'⟩:=i2 _ _ _ _ _ hr
     refine⟨max m m', ?_⟩
     show zPq T (FH (max m m')) (n+1) k a fr s=_
     rw [zBb _ _ _ _ hb,exM (c1 _ _ (Nat.le_max_left m m')) (c2 _ _ (Nat.le_max_left m m')) hm]
     exact c2 _ _ (Nat.le_max_right m m') _ _ _ _ _ hm'
    ·rename_i hn
     obtain⟨m,hm⟩:=zAr c1 c2 i1 i2 hr
     refine⟨m, ?_⟩
     show zPq T (FH m) (n+1) k a fr s=_
     rw [zBb _ _ _ _ hb,hm]
     split
     ·rename_i h2
      simp only [Option.some.injEq]at h2; subst h2
      exact absurd hr (hn _ _)
     ·rfl
theorem Ev.yield {H:zAa}{y:D}{l:List D}{s:St}{r:D×St}(h:H 0 (.lv y::l) s=some r):Ev T H 0 (.lv y::l) s r:=⟨1,by rw [zPn]; exact h⟩
def zDw (T:Nat→Option AFn)(H:zAa)(k:Nat)(ps:List Nat)(env:Env)(a b:AC)(Y:zAa):Prop:=
 (∀f l s r,yS l=false→H f l s=some r→Y f l s=some r)∧
 ∀(xs:List D) (s:St) (e:Env) (Q:Bool→St→Prop),zGb ps xs env=some e→s.loopAt (k+1) k .ready=true→
  Wp T H a ⟨e,[]⟩ s (fun x f1 s1=>x= .normal∧s1.loopAt (k+1) k .ready=true∧∃s2,s1.set (k+1) (.loop k .busy)=some s2∧
   Wp T H b f1 s2 fun x f2 s3=>f2.defers=[]∧s3.loopAt (k+1) k .busy=true∧∃s4,s3.set (k+1) (.loop k (stOf x))=some s4∧Q (zFn x) s4)→
  ∃c s',Y 0 (.lv (.yl k)::xs) s=some (.bool c,s')∧Q c s'
theorem yEp {H:zAa}{keep:List Nat}{g:Opd}{ps:List Nat}{a b:AC}{fr:Fr}{s:St}{Q:Ex→Fr→St→Prop}{gf:Nat}{caps:List D}(hg:g.ev fr.env=some (.fn (.func gf) [] caps))(hro:s.ro=false)(hp:(fr.env.keep keep).plain=true)
  (h:∀Y,zDw T H s.n ps (fr.env.keep keep) a b Y→∃d s2,Ev T Y gf (.yl s.n::caps) ((s.push0 .dead).push0 (.loop s.n .ready)) (d,s2)∧
   ∃st x s3,s2.get (s.n+1)=some (.loop s.n st)∧exOf st=some x∧s2.set (s.n+1) .dead=some s3∧Q x { fr with defers:=(.nilf,[])::fr.defers} s3):
  Wp T H (.rangef keep g ps a b) fr s Q:=by
 let F:Nat→zAa:=fun m=>zPv s.n ps (fr.env.keep keep) (zAe (zPn T H m) (zPq T H m) a) (zAe (zPn T H m) (zPq T H m) b) H
 have hF:Chain F:=fun m m' h=>zFt (fun _ _ _ hh=>exM (zAx h).1 (zAx h).2 hh) (fun _ _ _ hh=>exM (zAx h).1 (zAx h).2 hh) (fun _ _ _ _ h=>h)
 have hY:zDw T H s.n ps (fr.env.keep keep) a b (limC F):=by
  refine⟨fun f l s1 r hy hr=>yBg hF 0 _ _ _ _ ?_,fun xs s0 e Q1 hb hl hw=> ?_⟩
  ·show zPv _ _ _ _ _ H f l s1=some r
   unfold zPv
   split
   ·cases hy
   ·exact hr
  ·obtain⟨x1,f1,s1,⟨n1,hn1⟩,rfl,h2,s2,h3,x2,f2,s3,⟨n2,hn2⟩,h4,h5,s4,h6,h7⟩:=hw
   refine⟨zFn x2,s4,yBg hF (max n1 n2) _ _ _ _ ?_,h7⟩
   have e1:=exM (zAx (T:=T) (H:=H) (Nat.le_max_left n1 n2)).1 (zAx (Nat.le_max_left n1 n2)).2 hn1
   have e2:=exM (zAx (T:=T) (H:=H) (Nat.le_max_right n1 n2)).1 (zAx (Nat.le_max_right n1 n2)).2 hn2
   show zPv _ _ _ _ _ H 0 (.lv (.yl s.n)::xs) s0=_
   simp only [zPv,Nat.beq_refl,hl,hb,midR,e1,h2,h3,endR,e2,h4,h5,h6,ofS]
 obtain⟨d,s2,⟨n,hn⟩,st,x,s3,h1,h2,h3,h4⟩:=h _ hY
 obtain⟨m,hm⟩:=(zIg n hF (fun _ _ _ _ h=>yFv h)).1 _ _ _ _ hn
 refine⟨x,_,s3,⟨max m n+1, ?_⟩,h4⟩
 have hm2:zPn T (F (max m n)) (max m n) gf (.yl s.n::caps) ((s.push0 .dead).push0 (.loop s.n .ready))=some (d,s2):=
  (zAx (Nat.le_max_right m n)).1 _ _ _ _ ((zDj n (hF _ _ (Nat.le_max_left m n))).1 _ _ _ _ hm)
 rw [zAe,zBs]
 unfold zEy
 rw [hg,hro]
 simp only [hp]
 unfold zXe
 rw [hm2]
 simp only [h1,Nat.beq_refl,h2,h3]
end Go.Ab
namespace Go.Ab
open Go
theorem St.getS (s:St)(o j:Nat)(x:Obj):(s.set0 o x).get j=if j=o then some x else s.get j:=T.get_set _ _ _ _
theorem St.getP (s:St)(j:Nat)(x:Obj):(s.push0 x).get j=if j=s.n then some x else s.get j:=T.get_set _ _ _ _
theorem St.nS0 (s:St)(o:Nat)(x:Obj):(s.set0 o x).n=s.n:=rfl
theorem St.nP0 (s:St)(x:Obj):(s.push0 x).n=s.n+1:=rfl
structure St.Ok (s:St):Prop where
 ro:s.ro=false
 lk:s.lk=[]
 fresh:∀o,s.n≤o→s.get o=none
theorem St.Ok.lt {s:St}(h:s.Ok){o:Nat}{x:Obj}(hx:s.get o=some x):o < s.n:=by
 rcases Nat.lt_or_ge o s.n with h1 | h1
 ·exact h1
 ·rw [h.fresh o h1]at hx; cases hx
theorem St.Ok.set {s:St}(h:s.Ok)(o:Nat)(x:Obj):s.set o x=some (s.set0 o x):=by
 simp only [St.set,h.ro,h.lk,memN]
theorem St.Ok.mkN {s:St}(h:s.Ok)(x:Obj):s.mk' none x=some (s.n,s.push0 x):=by
 simp only [St.mk',h.ro]
theorem St.Ok.set0 {s:St}(h:s.Ok){o:Nat}(x:Obj)(ho:o < s.n):(s.set0 o x).Ok:=by
 refine⟨h.ro,h.lk,fun j hj=> ?_⟩
 rw [St.getS]
 have:j≠o:=by
  have:s.n≤j:=hj
  omega
 rw [if_neg this]
 exact h.fresh j hj
theorem St.Ok.push0 {s:St}(h:s.Ok)(x:Obj):(s.push0 x).Ok:=by
 refine⟨h.ro,h.lk,fun j hj=> ?_⟩
 have hj:s.n+1≤j:=hj
 rw [St.getP,if_neg (by omega)]
 exact h.fresh j (by omega)
structure Beh (W:Nat→Prop)(s s1:St):Prop where
 n:s.n≤s1.n
 ok:s1.Ok
 same:∀o,o < s.n→ ¬ W o→s1.get o=s.get o
def Nil:Nat→Prop:=fun _=>False
theorem Beh.refl {W:Nat→Prop}{s:St}(h:s.Ok):Beh W s s:=⟨Nat.le_refl _,h,fun _ _ _=>rfl⟩
theorem Beh.trans {W:Nat→Prop}{s s1 s2:St}(h:Beh W s s1)(g:Beh W s1 s2):Beh W s s2:=
 ⟨Nat.le_trans h.n g.n,g.ok,fun o ho hw=>(g.same o (Nat.lt_of_lt_of_le ho h.n) hw).trans (h.same o ho hw)⟩
theorem Beh.trans' {W W' :Nat→Prop}{s s1 s2:St}(h:Beh W s s1)(g:Beh W' s1 s2)(hw:∀o,W' o→o < s.n→W o):Beh W s s2:=
 ⟨Nat.le_trans h.n g.n,g.ok,fun o ho hn=>(g.same o (Nat.lt_of_lt_of_le ho h.n) (fun h' =>hn (hw o h' ho))).trans (h.same o ho hn)⟩
theorem Beh.mono {W W' :Nat→Prop}{s s1:St}(h:Beh W s s1)(hw:∀o,W o→W' o):Beh W' s s1:=⟨h.n,h.ok,fun o ho hn=>h.same o ho (fun h' =>hn (hw o h'))⟩
theorem Beh.get {W:Nat→Prop}{s s1:St}(h:Beh W s s1)(hs:s.Ok){o:Nat}{x:Obj}(hx:s.get o=some x)(hw: ¬ W o):s1.get o=some x:=by
 rw [h.same o (hs.lt hx) hw,hx]
theorem Beh.set {W:Nat→Prop}{s s1:St}(h:Beh W s s1){o:Nat}(x:Obj)(ho:o < s1.n)(hw:o < s.n→W o):Beh W s (s1.set0 o x):=by
 refine⟨h.n,h.ok.set0 x ho,fun j hj hn=> ?_⟩
 rw [St.getS]
 have:j≠o:=fun e=>hn (e ▸ hw (e ▸ hj))
 rw [if_neg this,h.same j hj hn]
theorem Beh.push {W:Nat→Prop}{s s1:St}(h:Beh W s s1)(x:Obj):Beh W s (s1.push0 x):=by
 refine⟨Nat.le_succ_of_le h.n,h.ok.push0 x,fun j hj hn=> ?_⟩
 have:=h.n
 rw [St.getP,if_neg (by omega),h.same j hj hn]
def St.up (s:St)(k:Nat):St:= { s with n:=s.n+k}
theorem St.n_up (s:St)(k:Nat):(s.up k).n=s.n+k:=rfl
theorem St.get_up {s:St}{k o:Nat}{y:Option Obj}(h:s.get o=y):(s.up k).get o=y:=h
theorem St.Ok.up {s:St}(h:s.Ok)(k:Nat):(s.up k).Ok:=⟨h.ro,h.lk,fun o ho=>h.fresh o (Nat.le_trans (Nat.le_add_right _ _) ho)⟩
theorem Beh.up {W:Nat→Prop}{s s1:St}(h:Beh W s s1)(k:Nat):Beh W s (s1.up k):=⟨Nat.le_trans h.n (Nat.le_add_right _ _),h.ok.up k,h.same⟩
def fpC (fp:Fp)(s s1:St):Fp:=(fp.1,T.diff s.h s1.h++fp.2.1,fp.2.2)
theorem T.keys_not:∀ {t:T Obj} {k:Nat},t.get k=none→k ∉ T.keys t
 | .nil,k,_=>by simp [T.keys]
 | .node o l r,k,h=>by
  simp only [T.keys,List.mem_append,List.mem_map,not_or,not_exists,not_and]
  refine⟨fun h1=> ?_,fun j hj e=> ?_,fun j hj e=> ?_⟩
  ·cases o with
   | none=>simp at h1
   | some x=>
    simp only [List.mem_singleton]at h1; subst h1
    rw [T.get_node0]at h; cases h
  ·subst e
   rw [T.get_node1 _ _ _ (by omega) (by omega),show (2 * j+1) / 2=j by omega]at h
   exact T.keys_not h hj
  ·subst e
   rw [T.get_node2 _ _ _ (by omega) (by omega),show (2 * j+2) / 2 - 1=j by omega]at h
   exact T.keys_not h hj
theorem T.diff_not:∀ {t u:T Obj} {k:Nat},u.get k=t.get k→k ∉ T.diff t u
 | .nil,u,k,h=>T.keys_not h
 | .node o l r,.nil,k,h=>T.keys_not h.symm
 | .node o l r,.node o' l' r',k,h=>by
  simp only [T.diff,List.mem_append,List.mem_map,not_or,not_exists,not_and]
  refine⟨fun h1=> ?_,fun j hj e=> ?_,fun j hj e=> ?_⟩
  ·have hk:k=0:=by
    cases o <;> cases o' <;> first
     | (simp at h1; done)
     | simpa using h1
     | (simp only at h1; split at h1 <;> simp at h1; exact h1)
   subst hk
   rw [T.get_node0,T.get_node0]at h
   subst h
   cases o' with
   | none=>simp at h1
   | some x=>simp [Obj.beq_rfl]at h1
  ·subst e
   rw [T.get_node1 _ _ _ (by omega) (by omega),T.get_node1 _ _ _ (by omega) (by omega),show (2 * j+1) / 2=j by omega]at h
   exact T.diff_not h hj
  ·subst e
   rw [T.get_node2 _ _ _ (by omega) (by omega),T.get_node2 _ _ _ (by omega) (by omega),show (2 * j+2) / 2 - 1=j by omega]at h
   exact T.diff_not h hj
theorem zWs:∀(a:List Nat),disj a []=true
 | []=>rfl
 | x::r=>by simp only [disj,memN]; exact zWs r
theorem zRm {o:Nat}:∀ {l:List Nat},memN o l=true→o∈l
 | [],h=>by simp [memN]at h
 | x::r,h=>by
  simp only [memN]at h
  split at h
  ·rename_i e; rw [Nat.eq_of_beq_eq_true e]; simp
  ·exact List.mem_cons_of_mem _ (zRm h)
theorem yBp {b:List Nat}:∀ {a:List Nat},(∀x∈a,x ∉ b)→disj a b=true
 | [],_=>rfl
 | x::r,h=>by
  simp only [disj]
  split
  ·rename_i e; exact absurd (zRm e) (h x (by simp))
  ·exact yBp fun y hy=>h y (by simp [hy])
theorem zKo {s s1:St}{rd:List Nat}{rg:List (Nat×Nat×Nat)}(h:∀q∈rd,s1.get q=s.get q):zDb (fpC ([],[],[]) s s1) (rd,[],rg)=true:=by
 simp only [zDb,fpC,List.append_nil,zWs,Bool.true_and,disj,Bool.and_true]
 exact yBp fun x hx hr=>T.diff_not (h x hr) hx
variable {T:Nat→Option AFn}{H:zAa}
def WpD (T:Nat→Option AFn)(H:zAa)(b kk:Nat)(l:List (zPk×List Nat))(acc:List Fp)(fr:Fr)(s:St)(Q:Fr→St→Prop):Prop:=∃n fr' s',zBk (cutC b kk (zPn T H n)) b l acc fr s=some (fr',s')∧Q fr' s'
theorem wpd_nil {b kk:Nat}{acc:List Fp}{fr:Fr}{s:St}{Q:Fr→St→Prop}(h:Q fr s):WpD T H b kk [] acc fr s Q:=⟨0,fr,s,rfl,h⟩
theorem zNi {b kk:Nat}{o:zPk}{q:List Nat}{l:List (zPk×List Nat)}{acc:List Fp}{fr fr1:Fr}{s s1:St}{Q:Fr→St→Prop}(h0:ckA acc (fpOf b fr.env o) q=true)(h1:fr.env.isLvo o.dst=false)
  (h2:oper zAq b o fr s=some (fr1,s1))(h3:fr1.env.isLvo o.dst=false)(h4:Nat.beq o.op.kind 5=false)(h:WpD T H b kk l (acc++ [fpOf b fr.env o]) fr1 s1 Q):WpD T H b kk ((o,q)::l) acc fr s Q:=by
 obtain⟨n,f2,s2,h5,h6⟩:=h
 refine⟨n,f2,s2, ?_,h6⟩
 simp only [zBk,h0,h1,Bool.not_false,Bool.and_self,zEb (C:=zAq) (C' :=cutC b kk (zPn T H n)) (fun f l s r h=>by simp [zAq]at h) h2,h3,lost,h4,Bool.or_self,fpX]
 exact h5
theorem zIu {b kk:Nat}{o:zPk}{q:List Nat}{l:List (zPk×List Nat)}{acc:List Fp}{fr fr1:Fr}{s s1:St}{f:Nat}{x:List D}{r:D×St}{Q:Fr→St→Prop}(h0:ckA acc (fpOf b fr.env o) q=true)(h1:fr.env.isLvo o.dst=false)
  (hq:∃s0,Ev T H f x s0 r∧∀C:zAa,C f x s0=some r→oper (cutC b kk C) b o fr s=some (fr1,s1))(h3:fr1.env.isLvo o.dst=false)(h4:lost acc s s1 o q=false)(h:WpD T H b kk l (acc++ [fpX s s1 b fr.env o]) fr1 s1 Q):WpD T H b kk ((o,q)::l) acc fr s Q:=by
 obtain⟨n,f2,s2,h5,h6⟩:=h
 obtain⟨s0,⟨m,hm⟩,h2⟩:=hq
 refine⟨max m n,f2,s2, ?_,h6⟩
 have e1:=h2 _ ((zAx (T:=T) (H:=H) (Nat.le_max_left m n)).1 _ _ _ _ hm)
 simp only [zBk,h0,h1,Bool.not_false,Bool.and_self,e1,h3,h4,Bool.or_self]
 exact zEu (zKl (zAx (Nat.le_max_right m n)).1) h5
theorem cutC_w {C:zAa}{f:Nat}{l:List D}{s:St}{b k:Nat}{r:Option (D×St)}(hr:s.ro=false)(h:C f l s=r):cutC b k C f l s=r:=by
 cases k with
 | zero=>exact h
 | succ k=>simp only [cutC,hr]; exact h
theorem zUw {k:Nat}{l:List (zPk×List Nat)}{fr:Fr}{s:St}{Q:Ex→Fr→St→Prop}(hro:(s.ro && Nat.blt 0 k)=false)(h:WpD T H s.n k l [] fr { s with n:=s.n+k} (Q .normal)):Wp T H (.dreg k l) fr s Q:=by
 obtain⟨n,f1,s1,h1,h2⟩:=h
 refine⟨_,f1,s1,⟨n, ?_⟩,h2⟩
 simp only [zAe,hro,h1]
end Go.Ab
