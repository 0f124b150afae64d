/- Part. -/
import Derived.Test.YthaiegafejbmoaaGreatDoorG21
set_option linter.unusedSectionVars false
set_option linter.unusedSimpArgs false
set_option linter.unusedVariables false
namespace Go.Ab
open Go
variable {T:Nat->Option dJ}
noncomputable def Pg (H:Nat->au):au:=fun f l s=>open Classical in if h:∃r m,H m f l s=some r then some h.choose else none
def oo (H:Nat->au):Prop:=∀m m',m<=m' ->At (H m) (H m')
theorem Kk {H:Nat->au}{f:Nat}{l:List D}{s:St}{r:D×St}(h:Pg H f l s=some r):∃m,H m f l s=some r:=by
 unfold Pg at h;split at h
 ·rename_i hx;simp only [aa]at h;rw [← h]; exact hx.choose_spec
 ·cases h
theorem Il {H:Nat->au}(hc:oo H)(m:Nat):At (H m) (Pg H):=by
 intro f l s r h;unfold Pg;have hx:∃r m,H m f l s=some r:=⟨r,m,h⟩;rw [dif_pos hx];obtain⟨m',h'⟩:=hx.choose_spec;have h1:=hc m (max m m') (cO _ _) _ _ _ _ h;have h2:=hc m' (max m m') (cU _ _) _ _ _ _ h';rw [h1]at h2;simp only [aa]at h2;rw [h2]
def rq (C:au)(F:Nat->au):Prop:=∀f l s r,C f l s=some r->∃m,F m f l s=some r
def Ru (L:gO)(F:Nat->gO):Prop:=∀k a fr s r,L k a fr s=some r->∃m,F m k a fr s=some r
def B0 (F:Nat->gO):Prop:=∀m m',m<=m' ->Vt (F m) (F m')
section
variable {C:au}{FC:Nat->au}{L:gO}{FL:Nat->gO}
theorem PV (h:rq C FC){e:Env}{s:St}{al:Option Nat}{p:eE}{r:D×St}(hr:cg C e s al p=some r):∃m,cg (FC m) e s al p=some r:=by
 cases p
 case call ro f args=>
  simp only [cg]at hr ⊢;split at hr
  ·rename_i l hl;cases ro with
   | false=>simp only at hr ⊢; exact h _ _ _ _ hr
   | true=>
    simp only at hr ⊢;split at hr
    ·rename_i d s1 h1;obtain⟨m,hm⟩:=h _ _ _ _ h1;exact⟨m,by rw [hm]; exact hr⟩
    ·cases hr
  ·cases hr
 case oG f args=>
  simp only [cg]at hr ⊢;split at hr
  ·exact h _ _ _ _ hr
  ·exact h _ _ _ _ hr
  ·cases hr
 case invoke pC x args=>
  simp only [cg]at hr ⊢;split at hr
  ·rename_i t v l hx hl;split at hr
   ·rename_i f r0 hf;split at hr
    ·rename_i u hu;obtain⟨m,hm⟩:=h _ _ _ _ hr
     exact⟨m,by try simp only [hu]
                exact hm⟩
    ·cases hr
   ·cases hr
  ·cases hr
 all_goals exact ⟨0,hr⟩
theorem BA (h:rq C FC){b:Nat}{o:bz}{fr:Fr}{s:St}{r:Fr×St}(hr:oper C b o fr s=some r):∃m,oper (FC m) b o fr s=some r:=by
 unfold oper at hr ⊢;split at hr
 ·rename_i hw;split at hr
  ·exact⟨0,by simpa [hw] using hr⟩
  ·exact⟨0,by simpa [hw] using hr⟩
  ·exact⟨0,by simpa [hw] using hr⟩
  ·rename_i op h1 h2 h3;split at hr
   ·rename_i d s1 nK;obtain⟨m,hm⟩:=PV h nK;exact⟨m,by rw [hm]; exact hr⟩
   ·cases hr
 ·exact⟨0,hr⟩
 ·cases hr
theorem oo.cut (hc:oo FC)(b k:Nat):oo fun m=>lA b k (FC m):=fun m n YF=>vC (hc m n YF)
theorem rq.cut (h:rq C FC)(b k:Nat):rq (lA b k C) fun m=>lA b k (FC m):=by
 cases k with
 | zero=>exact h
 | succ k=>
  intro f l s r hr;simp only [lA]at hr ⊢;split at hr
  ·rename_i qZ;exact h _ _ _ _ hr
  ·rename_i qZ;split at hr
   ·rename_i h1;obtain⟨m,hm⟩:=h _ _ _ _ h1;exact⟨m,by rw [hm]; exact hr⟩
   ·cases hr
variable (hc:oo FC)(UB:B0 FL)(h:rq C FC)(hL:Ru L FL)
include hc h
theorem zD {b:Nat}:∀ {l:List bz} {fr:Fr} {s:St} {r:Fr×St},opers C b l fr s=some r->∃m,opers (FC m) b l fr s=some r
 | [],_,_,_,hr=>⟨0,hr⟩
 | o::l,fr,s,r,hr=>by
  simp only [opers]at hr ⊢;split at hr
  ·rename_i h1;obtain⟨m,hm⟩:=BA h h1;obtain⟨m',An⟩:=zD hr;refine⟨max m m', ?_⟩;rw [nZ (hc _ _ (cO m m')) hm];exact qE (hc _ _ (cU m m')) An
  ·cases hr
theorem wN {b:Nat}:∀ {l:List (bz×List Nat)} {acc:List Fp} {fr:Fr} {s:St} {r:Fr×St},gZ C b l acc fr s=some r->∃m,gZ (FC m) b l acc fr s=some r
 | [],_,_,_,_,hr=>⟨0,hr⟩
 | (o,q)::l,acc,fr,s,r,hr=>by
  simp only [gZ]at hr ⊢;split at hr
  ·rename_i h0;split at hr
   ·rename_i h1;split at hr
    ·rename_i h2;obtain⟨m,hm⟩:=BA h h1;obtain⟨m',An⟩:=wN hr;refine⟨max m m', ?_⟩;rw [nZ (hc _ _ (cO m m')) hm];simp only [h2];exact pf (hc _ _ (cU m m')) An
    ·cases hr
   ·cases hr
  ·cases hr
include UB hL
theorem gC:∀ {a:AC} {fr:Fr} {s:St} {r:Ex×Fr×St},bN C L a fr s=some r->∃m,bN (FC m) (FL m) a fr s=some r
 | .skip,_,_,_,hr=>⟨0,hr⟩
 | .AL ops,fr,s,r,hr=>by
  simp only [bN]at hr ⊢;split at hr
  ·rename_i h1;obtain⟨m,hm⟩:=zD hc h h1;exact⟨m,by rw [hm]; exact hr⟩
  ·cases hr
 | .yF k ops,fr,s,r,hr=>by
  simp only [bN]at hr ⊢;split at hr
  ·cases hr
  ·rename_i h0;split at hr
   ·rename_i h1;obtain⟨m,hm⟩:=wN (FC:=fun m=>lA s.n k (FC m)) (hc.cut s.n k) (rq.cut h s.n k) h1;exact⟨m,by rw [hm]; exact hr⟩
   ·cases hr
 | .seq a b,fr,s,r,hr=>by
  simp only [bN]at hr ⊢;split at hr
  ·rename_i h1;obtain⟨m,hm⟩:=gC h1;obtain⟨m',An⟩:=gC hr;refine⟨max m m', ?_⟩;rw [cB (hc _ _ (cO m m')) (UB _ _ (cO m m')) hm];exact cB (hc _ _ (cU m m')) (UB _ _ (cU m m')) An
  ·rename_i hn;obtain⟨m,hm⟩:=gC hr;refine⟨m, ?_⟩;rw [hm];split
   ·rename_i h2;simp only [aa]at h2; subst h2;exact absurd hr (hn _ _)
   ·rfl
 | .cond c a b,fr,s,r,hr=>by
  simp only [bN]at hr ⊢;split at hr
  ·exact gC hr
  ·exact gC hr
  ·cases hr
 | .block id a,fr,s,r,hr=>by
  simp only [bN]at hr ⊢;split at hr
  ·rename_i h1;obtain⟨m,hm⟩:=gC h1;exact⟨m,by rw [hm]; exact hr⟩
  ·rename_i hn;obtain⟨m,hm⟩:=gC hr;refine⟨m, ?_⟩;rw [hm];split
   ·rename_i h2;simp only [aa]at h2; subst h2;exact absurd hr (hn _ _ _)
   ·rfl
 | .loop bM a,fr,s,r,hr=>by
  simp only [bN]at hr ⊢;exact hL _ _ _ _ _ hr
 | .iF bM g ps x y,fr,s,r,hr=>by
  simp only [bN]at hr ⊢;exact hL _ _ _ _ _ hr
 | .exit id,_,_,_,hr=>⟨0,hr⟩
 | .ret,_,_,_,hr=>⟨0,hr⟩
 | .bad,_,_,_,hr=>by simp [bN]at hr
end
theorem tP {C:au}{FC:Nat->au}(hc:oo FC)(h:rq C FC):∀ {l:List (D×List D)} {s s' :St},leave C l s=some s' ->∃m,leave (FC m) l s=some s'
 | [],_,_,hr=>⟨0,hr⟩
 | (f,l)::q,s,s',hr=>by
  unfold leave at hr;split at hr
  ·rename_i hh; cases hh
  ·rename_i hh;simp only [eN,ab]at hh;obtain⟨⟨rfl,rfl⟩,rfl⟩:=hh;split at hr
   ·rename_i h1;obtain⟨m,hm⟩:=h _ _ _ _ h1;obtain⟨m',An⟩:=tP hc h hr;refine⟨max m m', ?_⟩;rw [leave,hc _ _ (cO m m') _ _ _ _ hm];exact my (hc _ _ (cU m m')) An
   ·cases hr
  ·rename_i hh;simp only [eN,ab]at hh;obtain⟨⟨rfl,rfl⟩,rfl⟩:=hh;obtain⟨m',An⟩:=tP hc h hr;exact⟨m',by rw [leave]; exact An⟩
  ·cases hr
theorem Hd {C CD:au}{FC FD:Nat->au}{L:gO}{FL:Nat->gO}(hc:oo FC)(hd:oo FD)(UB:B0 FL)(h:rq C FC)(hD:rq CD FD)(hL:Ru L FL){fn:dJ}{args:List D}{s:St}{r:D×St}(hr:nE C CD L fn args s=some r):∃m,nE (FC m) (FD m) (FL m) fn args s=some r:=by
 unfold nE at hr;split at hr
 ·cases hr
 ·rename_i e fr s1 dn h1;obtain⟨m,hm⟩:=gC hc UB h hL h1;split at hr
  ·rename_i s2 h2;obtain⟨m',An⟩:=tP hd hD h2;refine⟨max m m', ?_⟩;unfold nE;rw [cB (hc _ _ (cO m m')) (UB _ _ (cO m m')) hm];have h3:=my (hd _ _ (cU m m')) An;cases e with
   | exit i=>exact absurd rfl (dn i)
   | normal=>simp only [h3]; exact hr
   | ret=>simp only [h3]; exact hr
  ·cases hr
 ·cases hr
theorem Gj {C:au}{FC:Nat->au}{L:gO}{FL:Nat->gO}(hc:oo FC)(UB:B0 FL)(h:rq C FC)(hL:Ru L FL):rq (oE T C L) (fun m=>oE T (FC m) (FL m)):=by
 intro f l s r hr;unfold oE at hr ⊢;split at hr
 ·rename_i fn hf;unfold wu at hr ⊢;split at hr
  ·cases hr
  ·rename_i e fr s1 dn h1;obtain⟨m,hm⟩:=gC hc UB h hL h1;refine⟨m, ?_⟩
   dsimp only
   rw [hf]; dsimp only;rw [hm];cases e with
   | exit i=>exact absurd rfl (dn i)
   | normal=>exact hr
   | ret=>exact hr
  ·cases hr
 ·cases hr
theorem Hz {k:Nat}{ps:List Nat}{e:Env}{x y:Fr->St->Option (Ex×Fr×St)}{H:au}{FX FY:Nat->Fr->St->Option (Ex×Fr×St)}{FH:Nat->au}
  (hx:∀fr s r,x fr s=some r->∃m,FX m fr s=some r)(hy:∀fr s r,y fr s=some r->∃m,FY m fr s=some r)(hH:rq H FH)(cx:∀m m',m<=m' ->LeE (FX m) (FX m'))(cy:∀m m',m<=m' ->LeE (FY m) (FY m')):
  rq (jP k ps e x y H) (fun m=>jP k ps e (FX m) (FY m) (FH m)):=by
 intro f l s r hr;unfold jP at hr;split at hr
 ·rename_i k' xs;split at hr
  ·rename_i hk;split at hr
   ·rename_i e1 h1 h2;unfold CB at hr;split at hr
    ·rename_i fr1 s1 h3;obtain⟨m,hm⟩:=hx _ _ _ h3;split at hr
     ·rename_i h4;split at hr
      ·rename_i s2 h5;unfold JE at hr;split at hr
       ·rename_i e2 vK s3 h6;obtain⟨m',An⟩:=hy _ _ _ h6;refine⟨max m m', ?_⟩;simp only [jP,hk,h1,h2,CB,cx _ _ (cO m m') _ _ _ hm,h4,h5,JE,cy _ _ (cU m m') _ _ _ An];exact hr
       ·cases hr
      ·cases hr
     ·cases hr
    ·cases hr
   ·cases hr
  ·rename_i hk;obtain⟨m,hm⟩:=hH _ _ _ _ hr;refine⟨m, ?_⟩;simp only [jP,hk]; exact hm
 ·rename_i h0;obtain⟨m,hm⟩:=hH _ _ _ _ hr;refine⟨m, ?_⟩;show jP k ps e (FX m) (FY m) (FH m) _ _ s=some r;unfold jP;split
  ·exact absurd rfl (h0 _ _ rfl)
  ·exact hm
theorem DB {FH:Nat->au}(hc:oo FH)(n:Nat):oo (fun m=>cV T (FH m) n)/\B0 (fun m=>eT T (FH m) n):=
 ⟨fun m m' h=>(mn n (hc m m' h)).1,fun m m' h=>(mn n (hc m m' h)).2⟩
theorem tA:∀n {H:au} {FH:Nat->au},oo FH->rq H FH->rq (cV T H n) (fun m=>cV T (FH m) n)/\Ru (eT T H n) (fun m=>eT T (FH m) n)
 | 0,H,FH,hc,hH=>⟨fun f l s r hr=>by simp [cV]at hr,fun k a fr s r hr=>by simp [eT]at hr⟩
 | n+1,H,FH,hc,hH=>by
  obtain⟨i1,i2⟩:=tA n hc hH;obtain⟨c1,c2⟩:=DB (T:=T) hc n;have cD:oo (fun m=>oE T (cV T (FH m) n) (eT T (FH m) n)):=fun m m' h=>tz (c1 m m' h) (c2 m m' h);refine⟨fun f l s r hr=> ?_,fun k a fr s r hr=> ?_⟩
  ·rw [cV]at hr;split at hr
   ·rename_i hy;obtain⟨m,hm⟩:=hH _ _ _ _ hr;exact⟨m,by show cV T (FH m) (n+1) f l s=_; rw [cV,hy]; exact hm⟩
   ·rename_i hy;split at hr
    ·rename_i fn hf;obtain⟨m,hm⟩:=Hd c1 cD c2 i1 (Gj c1 c2 i1 i2) i2 hr;exact⟨m,by show cV T (FH m) (n+1) f l s=_; rw [cV,hy,hf]; exact hm⟩
    ·rename_i hf;obtain⟨m,hm⟩:=hH _ _ _ _ hr;exact⟨m,by show cV T (FH m) (n+1) f l s=_; rw [cV,hy,hf]; exact hm⟩
  ·cases hb:a.iD with
   | true=>
    cases a <;> first | (cases hb; done) | skip
    rename_i kp g ps x y;rw [jy]at hr;unfold nh at hr;split at hr
    ·rename_i gf caps h1 h2;split at hr
     ·rename_i h3;unfold A7 at hr;split at hr
      ·rename_i d s1 h4
       have yY:rq (jP s.n ps (fr.env.bM kp) (bN (cV T H n) (eT T H n) x) (bN (cV T H n) (eT T H n) y) H)
         (fun m=>jP s.n ps (fr.env.bM kp) (bN (cV T (FH m) n) (eT T (FH m) n) x) (bN (cV T (FH m) n) (eT T (FH m) n) y) (FH m)):=
        Hz (FX:=fun m=>bN (cV T (FH m) n) (eT T (FH m) n) x) (FY:=fun m=>bN (cV T (FH m) n) (eT T (FH m) n) y) (fun _ _ _ h=>gC c1 c2 i1 i2 h) (fun _ _ _ h=>gC c1 c2 i1 i2 h) hH (fun m m' h _ _ _ hh=>cB (c1 m m' h) (c2 m m' h) hh) (fun m m' h _ _ _ hh=>cB (c1 m m' h) (c2 m m' h) hh)
       have Z2:oo (fun m=>jP s.n ps (fr.env.bM kp) (bN (cV T (FH m) n) (eT T (FH m) n) x) (bN (cV T (FH m) n) (eT T (FH m) n) y) (FH m)):=fun m m' h=>
        qQ (fun _ _ _ hh=>cB (c1 m m' h) (c2 m m' h) hh) (fun _ _ _ hh=>cB (c1 m m' h) (c2 m m' h) hh) (hc m m' h)
       obtain⟨m,hm⟩:=(tA n Z2 yY).1 _ _ _ _ h4;refine⟨m, ?_⟩;show eT T (FH m) (n+1) k _ fr s=_;rw [jy];unfold nh;rw [h1,h2];simp only [h3];unfold A7;simp only at hm;rw [hm];exact hr
      ·cases hr
     ·cases hr
    ·cases hr
   | false=>
    rw [ib _ _ _ _ hb]at hr;split at hr
    ·rename_i h1;obtain⟨m,hm⟩:=gC c1 c2 i1 i2 h1;obtain⟨m',An⟩:=i2 _ _ _ _ _ hr;refine⟨max m m', ?_⟩;show eT T (FH (max m m')) (n+1) k a fr s=_;rw [ib _ _ _ _ hb,cB (c1 _ _ (cO m m')) (c2 _ _ (cO m m')) hm];exact c2 _ _ (cU m m') _ _ _ _ _ An
    ·rename_i hn;obtain⟨m,hm⟩:=gC c1 c2 i1 i2 hr;refine⟨m, ?_⟩;show eT T (FH m) (n+1) k a fr s=_;rw [ib _ _ _ _ hb,hm];split
     ·rename_i h2;simp only [aa]at h2; subst h2;exact absurd hr (hn _ _)
     ·rfl
theorem Ev.yield {H:au}{y:D}{l:List D}{s:St}{r:D×St}(h:H 0 (.lv y::l) s=some r):Ev T H 0 (.lv y::l) s r:=⟨1,by rw [cV]; exact h⟩
def mF (T:Nat->Option dJ)(H:au)(k:Nat)(ps:List Nat)(env:Env)(a b:AC)(Y:au):Prop:=
 (∀f l s r,yS l=false->H f l s=some r->Y f l s=some r)/\
 ∀(xs:List D) (s:St) (e:Env) (Q:Bool->St->Prop),pF ps xs env=some e->s.nf (k+1) k .ready=true->
  Wp T H a ⟨e,[]⟩ s (fun x f1 s1=>x= .normal/\s1.nf (k+1) k .ready=true/\∃s2,s1.set (k+1) (.loop k .busy)=some s2/\
   Wp T H b f1 s2 fun x f2 s3=>f2.defers=[]/\s3.nf (k+1) k .busy=true/\∃s4,s3.set (k+1) (.loop k (TM x))=some s4/\Q (pX x) s4)->
  ∃c s',Y 0 (.lv (.yl k)::xs) s=some (.bool c,s')/\Q c s'
theorem K4 {H:au}{bM:List Nat}{g:bO}{ps:List Nat}{a b:AC}{fr:Fr}{s:St}{Q:Ex->Fr->St->Prop}{gf:Nat}{caps:List D}(hg:g.ev fr.env=some (.fn (.func gf) [] caps))(qZ:s.ro=false)(hp:(fr.env.bM bM).plain=true)
  (h:∀Y,mF T H s.n ps (fr.env.bM bM) a b Y->∃d s2,Ev T Y gf (.yl s.n::caps) ((s.aZ .dead).aZ (.loop s.n .ready)) (d,s2)/\
   ∃st x s3,s2.get (s.n+1)=some (.loop s.n st)/\Ch st=some x/\s2.set (s.n+1) .dead=some s3/\Q x { fr with defers:=(.lX,[])::fr.defers} s3):
  Wp T H (.iF bM g ps a b) fr s Q:=by
 let F:Nat->au:=fun m=>jP s.n ps (fr.env.bM bM) (bN (cV T H m) (eT T H m) a) (bN (cV T H m) (eT T H m) b) H
 have hF:oo F:=fun m m' h=>qQ (fun _ _ _ hh=>cB (fV h).1 (fV h).2 hh) (fun _ _ _ hh=>cB (fV h).1 (fV h).2 hh) (fun _ _ _ _ h=>h);have hY:mF T H s.n ps (fr.env.bM bM) a b (Pg F):=by
  refine⟨fun f l s1 r hy hr=>Il hF 0 _ _ _ _ ?_,fun xs s0 e Q1 hb hl hw=> ?_⟩
  ·show jP _ _ _ _ _ H f l s1=some r;unfold jP;split
   ·cases hy
   ·exact hr
  ·obtain⟨x1,f1,s1,⟨n1,Li⟩,rfl,h2,s2,h3,x2,f2,s3,⟨n2,xu⟩,h4,h5,s4,h6,h7⟩:=hw;refine⟨pX x2,s4,Il hF (max n1 n2) _ _ _ _ ?_,h7⟩;have e1:=cB (fV (T:=T) (H:=H) (cO n1 n2)).1 (fV (cO n1 n2)).2 Li;have e2:=cB (fV (T:=T) (H:=H) (cU n1 n2)).1 (fV (cU n1 n2)).2 xu;show jP _ _ _ _ _ H 0 (.lv (.yl s.n)::xs) s0=_;simp only [jP,aA,hl,hb,CB,e1,h2,h3,JE,e2,h4,h5,h6,nY]
 obtain⟨d,s2,⟨n,hn⟩,st,x,s3,h1,h2,h3,h4⟩:=h _ hY;obtain⟨m,hm⟩:=(tA n hF (fun _ _ _ _ h=>Kk h)).1 _ _ _ _ hn;refine⟨x,_,s3,⟨max m n+1, ?_⟩,h4⟩
 have hm2:cV T (F (max m n)) (max m n) gf (.yl s.n::caps) ((s.aZ .dead).aZ (.loop s.n .ready))=some (d,s2):=
  (fV (cU m n)).1 _ _ _ _ ((mn n (hF _ _ (cO m n))).1 _ _ _ _ hm)
 rw [bN,jy];unfold nh;rw [hg,qZ];simp only [hp];unfold A7;rw [hm2];simp only [h1,aA,h2,h3]
end Go.Ab
namespace Go.Ab
open Go
theorem St.Si (s:St)(o j:Nat)(x:Obj):(s.bn o x).get j=if j=o then some x else s.get j:=T.pj _ _ _ _
theorem St.Sg (s:St)(j:Nat)(x:Obj):(s.aZ x).get j=if j=s.n then some x else s.get j:=T.pj _ _ _ _
theorem St.ej (s:St)(o:Nat)(x:Obj):(s.bn o x).n=s.n:=rfl
theorem St.ck (s:St)(x:Obj):(s.aZ x).n=s.n+1:=rfl
structure St.Ok (s:St):Prop where
 ro:s.ro=false
 lk:s.lk=[]
 fresh:∀o,s.n<=o->s.get o=none
theorem St.Ok.lt {s:St}(h:s.Ok){o:Nat}{x:Obj}(hx:s.get o=some x):o < s.n:=by
 rcases aP o s.n with h1 | h1
 ·exact h1
 ·rw [h.fresh o h1]at hx; cases hx
theorem St.Ok.set {s:St}(h:s.Ok)(o:Nat)(x:Obj):s.set o x=some (s.bn o x):=by
 simp only [St.set,h.ro,h.lk,pM]
theorem St.Ok.XJ {s:St}(h:s.Ok)(x:Obj):s.mk' none x=some (s.n,s.aZ x):=by
 simp only [St.mk',h.ro]
theorem St.Ok.bn {s:St}(h:s.Ok){o:Nat}(x:Obj)(ho:o < s.n):(s.bn o x).Ok:=by
 refine⟨h.ro,h.lk,fun j hj=> ?_⟩;rw [St.Si];have:j≠o:=by
  have:s.n<=j:=hj;omega
 rw [aI this];exact h.fresh j hj
theorem St.Ok.aZ {s:St}(h:s.Ok)(x:Obj):(s.aZ x).Ok:=by
 refine⟨h.ro,h.lk,fun j hj=> ?_⟩;have hj:s.n+1<=j:=hj;rw [St.Sg,aI (by omega)];exact h.fresh j (by omega)
structure aH (W:Nat->Prop)(s s1:St):Prop where
 n:s.n<=s1.n
 ok:s1.Ok
 same:∀o,o < s.n-> ¬ W o->s1.get o=s.get o
def Nil:Nat->Prop:=fun _=>False
theorem aH.refl {W:Nat->Prop}{s:St}(h:s.Ok):aH W s s:=⟨aq _,h,fun _ _ _=>rfl⟩
theorem aH.trans {W:Nat->Prop}{s s1 s2:St}(h:aH W s s1)(g:aH W s1 s2):aH W s s2:=
 ⟨bW h.n g.n,g.ok,fun o ho hw=>(g.same o (cC ho h.n) hw).trans (h.same o ho hw)⟩
theorem aH.trans' {W W' :Nat->Prop}{s s1 s2:St}(h:aH W s s1)(g:aH W' s1 s2)(hw:∀o,W' o->o < s.n->W o):aH W s s2:=
 ⟨bW h.n g.n,g.ok,fun o ho hn=>(g.same o (cC ho h.n) (fun h' =>hn (hw o h' ho))).trans (h.same o ho hn)⟩
theorem aH.mono {W W' :Nat->Prop}{s s1:St}(h:aH W s s1)(hw:∀o,W o->W' o):aH W' s s1:=⟨h.n,h.ok,fun o ho hn=>h.same o ho (fun h' =>hn (hw o h'))⟩
theorem aH.get {W:Nat->Prop}{s s1:St}(h:aH W s s1)(hs:s.Ok){o:Nat}{x:Obj}(hx:s.get o=some x)(hw: ¬ W o):s1.get o=some x:=by
 rw [h.same o (hs.lt hx) hw,hx]
theorem aH.set {W:Nat->Prop}{s s1:St}(h:aH W s s1){o:Nat}(x:Obj)(ho:o < s1.n)(hw:o < s.n->W o):aH W s (s1.bn o x):=by
 refine⟨h.n,h.ok.bn x ho,fun j hj hn=> ?_⟩;rw [St.Si];have:j≠o:=fun e=>hn (e ▸ hw (e ▸ hj));rw [aI this,h.same j hj hn]
theorem aH.push {W:Nat->Prop}{s s1:St}(h:aH W s s1)(x:Obj):aH W s (s1.aZ x):=by
 refine⟨Nat.le_succ_of_le h.n,h.ok.aZ x,fun j hj hn=> ?_⟩;have:=h.n;rw [St.Sg,aI (by omega),h.same j hj hn]
def St.up (s:St)(k:Nat):St:= { s with n:=s.n+k}
theorem St.iK (s:St)(k:Nat):(s.up k).n=s.n+k:=rfl
theorem St.yN {s:St}{k o:Nat}{y:Option Obj}(h:s.get o=y):(s.up k).get o=y:=h
theorem St.Ok.up {s:St}(h:s.Ok)(k:Nat):(s.up k).Ok:=⟨h.ro,h.lk,fun o ho=>h.fresh o (bW (Nat.le_add_right _ _) ho)⟩
theorem aH.up {W:Nat->Prop}{s s1:St}(h:aH W s s1)(k:Nat):aH W s (s1.up k):=⟨bW h.n (Nat.le_add_right _ _),h.ok.up k,h.same⟩
def ZA (fp:Fp)(s s1:St):Fp:=(fp.1,T.diff s.h s1.h++fp.2.1,fp.2.2)
theorem T.uH:∀ {t:T Obj} {k:Nat},t.get k=none->k ∉ T.keys t
 | .nil,k,_=>by simp [T.keys]
 | .node o l r,k,h=>by
  simp only [T.keys,cN,lI,jr,not_exists,not_and];refine⟨fun h1=> ?_,fun j hj e=> ?_,fun j hj e=> ?_⟩
  ·cases o with
   | none=>simp at h1
   | some x=>
    simp only [eI]at h1; subst h1;rw [T.jm]at h; cases h
  ·subst e;rw [T.iO _ _ _ (by omega) (by omega),show (2 * j+1) / 2=j by omega]at h;exact T.uH h hj
  ·subst e;rw [T.iP _ _ _ (by omega) (by omega),show (2 * j+2) / 2 - 1=j by omega]at h;exact T.uH h hj
theorem T.yu:∀ {t u:T Obj} {k:Nat},u.get k=t.get k->k ∉ T.diff t u
 | .nil,u,k,h=>T.uH h
 | .node o l r,.nil,k,h=>T.uH h.symm
 | .node o l r,.node o' l' r',k,h=>by
  simp only [T.diff,cN,lI,jr,not_exists,not_and];refine⟨fun h1=> ?_,fun j hj e=> ?_,fun j hj e=> ?_⟩
  ·have hk:k=0:=by
    cases o <;> cases o' <;> first
     | (simp at h1; done)
     | simpa using h1
     | (simp only at h1; split at h1 <;> simp at h1; exact h1)
   subst hk;rw [T.jm,T.jm]at h;subst h;cases o' with
   | none=>simp at h1
   | some x=>simp [Obj.a8]at h1
  ·subst e;rw [T.iO _ _ _ (by omega) (by omega),T.iO _ _ _ (by omega) (by omega),show (2 * j+1) / 2=j by omega]at h;exact T.yu h hj
  ·subst e;rw [T.iP _ _ _ (by omega) (by omega),T.iP _ _ _ (by omega) (by omega),show (2 * j+2) / 2 - 1=j by omega]at h;exact T.yu h hj
theorem DF:∀(a:List Nat),ry a []=true
 | []=>rfl
 | x::r=>by simp only [ry,pM]; exact DF r
theorem Bt {o:Nat}:∀ {l:List Nat},pM o l=true->o∈l
 | [],h=>by simp [pM]at h
 | x::r,h=>by
  simp only [pM]at h;split at h
  ·rename_i e; rw [ay e]; simp
  ·exact cW _ (Bt h)
theorem HT {b:List Nat}:∀ {a:List Nat},(∀x∈a,x ∉ b)->ry a b=true
 | [],_=>rfl
 | x::r,h=>by
  simp only [ry];split
  ·rename_i e; exact absurd (Bt e) (h x (by simp))
  ·exact HT fun y hy=>h y (by simp [hy])
theorem vu {s s1:St}{rd:List Nat}{rg:List (Nat×Nat×Nat)}(h:∀q∈rd,s1.get q=s.get q):kF (ZA ([],[],[]) s s1) (rd,[],rg)=true:=by
 simp only [kF,ZA,de,DF,fO,ry,mD];exact HT fun x hx hr=>T.yu (h x hr) hx
variable {T:Nat->Option dJ}{H:au}
def Vz (T:Nat->Option dJ)(H:au)(b kk:Nat)(l:List (bz×List Nat))(acc:List Fp)(fr:Fr)(s:St)(Q:Fr->St->Prop):Prop:=∃n fr' s',gZ (lA b kk (cV T H n)) b l acc fr s=some (fr',s')/\Q fr' s'
theorem Ua {b kk:Nat}{acc:List Fp}{fr:Fr}{s:St}{Q:Fr->St->Prop}(h:Q fr s):Vz T H b kk [] acc fr s Q:=⟨0,fr,s,rfl,h⟩
theorem Aj {b kk:Nat}{o:bz}{q:List Nat}{l:List (bz×List Nat)}{acc:List Fp}{fr fr1:Fr}{s s1:St}{Q:Fr->St->Prop}(h0:eQ acc (cl b fr.env o) q=true)(h1:fr.env.cE o.dst=false)
  (h2:oper fm b o fr s=some (fr1,s1))(h3:fr1.env.cE o.dst=false)(h4:Nat.beq o.op.kind 5=false)(h:Vz T H b kk l (acc++ [cl b fr.env o]) fr1 s1 Q):Vz T H b kk ((o,q)::l) acc fr s Q:=by
 obtain⟨n,f2,s2,h5,h6⟩:=h;refine⟨n,f2,s2, ?_,h6⟩;simp only [gZ,h0,h1,om,dS,nZ (C:=fm) (C' :=lA b kk (cV T H n)) (fun f l s r h=>by simp [fm]at h) h2,h3,lost,h4,Bool.or_self,JM];exact h5
theorem sd {b kk:Nat}{o:bz}{q:List Nat}{l:List (bz×List Nat)}{acc:List Fp}{fr fr1:Fr}{s s1:St}{f:Nat}{x:List D}{r:D×St}{Q:Fr->St->Prop}(h0:eQ acc (cl b fr.env o) q=true)(h1:fr.env.cE o.dst=false)
  (hq:∃s0,Ev T H f x s0 r/\∀C:au,C f x s0=some r->oper (lA b kk C) b o fr s=some (fr1,s1))(h3:fr1.env.cE o.dst=false)(h4:lost acc s s1 o q=false)(h:Vz T H b kk l (acc++ [JM s s1 b fr.env o]) fr1 s1 Q):Vz T H b kk ((o,q)::l) acc fr s Q:=by
 obtain⟨n,f2,s2,h5,h6⟩:=h;obtain⟨s0,⟨m,hm⟩,h2⟩:=hq;refine⟨max m n,f2,s2, ?_,h6⟩;have e1:=h2 _ ((fV (T:=T) (H:=H) (cO m n)).1 _ _ _ _ hm);simp only [gZ,h0,h1,om,dS,e1,h3,h4,Bool.or_self];exact pf (vC (fV (cU m n)).1) h5
theorem Gn {C:au}{f:Nat}{l:List D}{s:St}{b k:Nat}{r:Option (D×St)}(hr:s.ro=false)(h:C f l s=r):lA b k C f l s=r:=by
 cases k with
 | zero=>exact h
 | succ k=>simp only [lA,hr]; exact h
theorem FG {k:Nat}{l:List (bz×List Nat)}{fr:Fr}{s:St}{Q:Ex->Fr->St->Prop}(qZ:(s.ro && Nat.blt 0 k)=false)(h:Vz T H s.n k l [] fr { s with n:=s.n+k} (Q .normal)):Wp T H (.yF k l) fr s Q:=by
 obtain⟨n,f1,s1,h1,h2⟩:=h;refine⟨_,f1,s1,⟨n, ?_⟩,h2⟩;simp only [bN,qZ,h1]
end Go.Ab
