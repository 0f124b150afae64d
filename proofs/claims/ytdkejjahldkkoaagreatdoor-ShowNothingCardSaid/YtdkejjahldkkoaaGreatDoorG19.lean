/- Part. -/
import Derived.Test.YtdkejjahldkkoaaGreatDoorG18
import Derived.OpenShut
import Derived.LaidLaws
set_option linter.unusedSectionVars false
set_option linter.unusedSimpArgs false
set_option linter.unusedVariables false
namespace Go.Ab
open Go
section
variable {H:Type}{enc:TypeId×Value->H}{P:Program}{w:World}{base:Nat}{spare:Nat->Bool}{held:Bool}{fuel t e n:Nat}{cs:List Value}{k:IntKind}{p:List MemPlace}
theorem N3 (ht:P.underlying t=some (.array n e))(he:P.underlying e=some (.int k))(hc:P.cellsOf e=1)(MA:P.cellsOf t=n){Z:List Int}
  (h:DataW.trod enc P w base spare held fuel t cs=some (.agg (Z.map fun z=> .lit (.int k z)),p)):cs=Z.map (Value.int k):=by
 obtain⟨xs,m,rfl,hx,hl,hn,hg⟩:=DataW.trod_array ht h;simp only [ab,DataW.agg.injEq]at hx;have hzx:Z.length=xs.length:=by have:=congrArg List.length hx.1; simpa using this
 refine ki fun i=> ?_;by_cases hi:i < n
 ·have h1:=hg i hi;have yb :xs[i]? =some (xs[i]'(by omega)):=ae (by omega);have MW :Z[i]? =some (Z[i]'(by omega)):=ae (by omega);rw [hc,lU,yb]at h1;obtain⟨v,e1,e2,_⟩:=DataW.trod_int he h1;have e3:=congrArg (fun l=>l[i]?) hx.1;simp only [aE,yb,MW,dn,e2,aa,DataW.lit.injEq,Lit.int.injEq,true_and]at e3;rw [aE,MW,dn,e3];have e4:(cs.drop i)[0]? =some (.int k v):=by
   have:=congrArg (fun l=>l[0]?) e1;simpa using this
  rw [cW]at e4;simpa using e4
 ·rw [eJ (by omega),eJ (by rw [aH]; omega)]
def HT (k:IntKind)(Z:List (Int×Int)):List Value:=Z.flatMap fun z=> [.int k z.1,.int k z.2]
theorem EL:∀(Z:List (Int×Int)) (cs:List Value),cs.length=2 * Z.length->(∀i z,Z[i]? =some z->(cs.drop (i * 2)).take 2=[.int k z.1,.int k z.2])->cs=HT k Z
 | [],cs,hl,_=>by
  have:cs=[]:=ef (by simpa using hl);subst this; rfl
 | z::Z,cs,hl,h=>by
  have h0:=h 0 z rfl;rw [oy,gv]at h0
  have hr:=EL Z (cs.drop 2) (by rw [eB,hl,aU]; omega) fun i z' hz=>by
   have:=h (i+1) z' (by simpa using hz);rw [List.drop_drop,show 2+i * 2=(i+1) * 2 by omega];exact this
  have:cs=cs.take 2++cs.drop 2:=(gK 2 cs).symm;rw [this,h0,hr]; rfl
theorem JF {f0 f1:Field}(ht:P.underlying t=some (.array n e))(he:P.underlying e=some (.struct #[f0,f1]))(o0:f0.offset=0)(o1:f1.offset=1)(c0:P.cellsOf f0.type=1)(c1:P.cellsOf f1.type=1)(k0:P.underlying f0.type=some (.int k))(k1:P.underlying f1.type=some (.int k))(hc:P.cellsOf e=2)(MA:P.cellsOf t=2 * n){Z:List (Int×Int)}
  (h:DataW.trod enc P w base spare held fuel t cs=some (.agg (Z.map fun z=> .agg [.lit (.int k z.1),.lit (.int k z.2)]),p)):cs=HT k Z:=by
 obtain⟨xs,m,rfl,hx,hl,hn,hg⟩:=DataW.trod_array ht h;simp only [ab,DataW.agg.injEq]at hx;have hzx:Z.length=xs.length:=by have:=congrArg List.length hx.1; simpa using this
 refine EL Z cs (by omega) fun i z hz=> ?_;have hi:i < n:=by have:=(af.mp hz).1; omega
 have h1:=hg i hi;have yb :xs[i]? =some (xs[i]'(by omega)):=ae (by omega);rw [hc,yb]at h1;obtain⟨ys,m',rfl,hy,hly,hny,hgy⟩:=DataW.trod_struct he h1;have e3:=congrArg (fun l=>l[i]?) hx.1;simp only [aE,yb,hz,dn,hy,aa,DataW.agg.injEq]at e3;have O2:ys.length=2:=hny
 obtain⟨y0,y1,rfl⟩:∃a b,ys=[a,b]:=by
  match ys,O2 with
  | [a,b],_=>exact ⟨a,b,rfl⟩
 simp only [bG,ed,ey,iv]at e3;have g0:=hgy 0 f0 rfl;have g1:=hgy 1 f1 rfl;rw [o0,c0]at g0;rw [o1,c1]at g1;obtain⟨v0,a1,a2,_⟩:=DataW.trod_int k0 g0;obtain⟨v1,b1,b2,_⟩:=DataW.trod_int k1 g1;rw [a2,b2]at e3;simp only [DataW.lit.injEq,Lit.int.injEq,true_and]at e3;rw [hc]at hly
 obtain⟨u0,u1,hu⟩:∃a b,(cs.drop (i * 2)).take 2=[a,b]:=by
  match (cs.drop (i * 2)).take 2,hly with
  | [a,b],_=>exact ⟨a,b,rfl⟩
 rw [hu]at a1 b1 ⊢;simp only [gv,gC,ph,nX,ey,iv]at a1 b1;rw [a1,b1,e3.1,e3.2]
end
section
variable [eW]
theorem Av {ρ:Gh}{w:World}{k:IntKind}:∀Z:List Int,br ρ w (Z.map (D.int k)) (Z.map (Value.int k))
 | []=>by simp [br]
 | z::Z=>by
  simp only [bG,br];exact⟨_,_,rfl,by simp [aS],Av Z⟩
theorem Ee {w:World}{g:Nat}{k:IntKind}{Z:List Int}{cs:Array Value}{ty:TypeId}{fz:Nat×Nat}(hh:w.heap[g]? =some (.cells cs ty fz))(hc:cs.toList=Z.map (Value.int k))(hz:Z≠ []):aS tH w (.jE (.agg (Z.map (D.int k))) 0) (.pointer (some ⟨g,0,none⟩)):=by
 simp only [aS];have hs:cs.size=Z.length:=by rw [← Array.length_toList,hc,aH]
 have dK:(Z.map (D.int k)).all D.sc=true:=by
  rw [dh]; intro d hd; obtain ⟨z,_,rfl⟩:=jO.1 hd; rfl
 refine⟨g,0,.agg cs,rfl,⟨cs,rfl,by rw [hc]; exact Av Z,dK⟩,fun j hj=> ?_,⟨?_, ?_⟩,rfl⟩
 ·simp only [World.cell?,hh,Value.cells,aM,Option.isSome_none,db,iw]
 ·simp only [Value.cells,hs];exact dV.2 hz
 ·simp only [D.st]; exact dK
theorem Qb {P:Program}{C:au}{G:Gl}{pn:iO}(hC:c9 pn P G C){f:Nat}{l:List D}{w:World}{vs:List Value}(hj:pn.J tH w)(hg:∀g d,G g=some d->aS tH w (.jE d 0) (.pointer (some ⟨g,0,none⟩)))(h:isTrue (C f l st0)=true)(hr:br tH w l vs):
  Calls P f vs.toArray w fun e w' =>e= .returned (.bool true)/\(w'.os=w.os/\w'.tape=w.tape/\w'.output=w.output/\w.heap.size<=w'.heap.size/\∀b,b < w.heap.size->w'.heap[b]? =w.heap[b]?):=by
 unfold isTrue at h;split at h
 ·rename_i s' h1;have BD:bZ tH st0 w:=by
   refine⟨fun o x hx=> ?_,fun o x hx=> ?_,fun o _=>rfl,fun b o hb=>(by cases hb),fun b hb=>rfl⟩
   ·simp [st0,St.get,T.get]at hx
   ·simp [st0,St.get,T.get]at hx
  refine (hC.calls f l st0 _ _ tH w vs h1 BD ⟨hg,hj⟩ hr).mono fun e w' he=> ?_;cases e with
  | returned v=>
   obtain⟨ρ',k1,k2,k3⟩:=he;simp only [aS]at k3;exact⟨by rw [k3],k1.os,k1.tape,k1.output,k1.size,fun b hb=>(k1.kept b hb (fun o h=>by cases h)).1⟩
  | panicked _=>exact he.elim
  | outgrown=>exact he.elim
 ·cases h
end
variable {T:Nat->Option dS}
noncomputable def NL (H:Nat->au):au:=fun f l s=>open Classical in if h:∃r m,H m f l s=some r then some h.choose else none
def o6 (H:Nat->au):Prop:=∀m m',m<=m' ->Ak (H m) (H m')
theorem KI {H:Nat->au}{f:Nat}{l:List D}{s:St}{r:D×St}(h:NL H f l s=some r):∃m,H m f l s=some r:=by
 unfold NL at h;split at h
 ·rename_i hx;simp only [aa]at h;rw [← h]; exact hx.choose_spec
 ·cases h
theorem HF {H:Nat->au}(hc:o6 H)(m:Nat):Ak (H m) (NL H):=by
 intro f l s r h;unfold NL;have hx:∃r m,H m f l s=some r:=⟨r,m,h⟩;rw [dif_pos hx];obtain⟨m',h'⟩:=hx.choose_spec;have h1:=hc m (max m m') (du _ _) _ _ _ _ h;have h2:=hc m' (max m m') (dF _ _) _ _ _ _ h';rw [h1]at h2;simp only [aa]at h2;rw [h2]
def r8 (C:au)(F:Nat->au):Prop:=∀f l s r,C f l s=some r->∃m,F m f l s=some r
def Rz (L:ic)(F:Nat->ic):Prop:=∀k a fr s r,L k a fr s=some r->∃m,F m k a fr s=some r
def BL (F:Nat->ic):Prop:=∀m m',m<=m' ->WO (F m) (F m')
section
variable {C:au}{FC:Nat->au}{L:ic}{FL:Nat->ic}
theorem No (h:r8 C FC){e:Env}{s:St}{al:Option Nat}{p:eN}{r:D×St}(hr:cB C e s al p=some r):∃m,cB (FC m) e s al p=some r:=by
 cases p
 case call ro f args=>
  simp only [cB]at hr ⊢;split at hr
  ·rename_i l hl;cases ro with
   | false=>simp only at hr ⊢; exact h _ _ _ _ hr
   | true=>
    simp only at hr ⊢;split at hr
    ·rename_i d s1 h1;obtain⟨m,hm⟩:=h _ _ _ _ h1;exact⟨m,by rw [hm]; exact hr⟩
    ·cases hr
  ·cases hr
 case pe f args=>
  simp only [cB]at hr ⊢;split at hr
  ·exact h _ _ _ _ hr
  ·exact h _ _ _ _ hr
  ·cases hr
 case invoke tG x args=>
  simp only [cB]at hr ⊢;split at hr
  ·rename_i t v l hx hl;split at hr
   ·rename_i f r0 hf;split at hr
    ·rename_i u hu;obtain⟨m,hm⟩:=h _ _ _ _ hr
     exact⟨m,by try simp only [hu]
                exact hm⟩
    ·cases hr
   ·cases hr
  ·cases hr
 all_goals exact ⟨0,hr⟩
theorem Aw (h:r8 C FC){b:Nat}{o:bj}{fr:Fr}{s:St}{r:Fr×St}(hr:oper C b o fr s=some r):∃m,oper (FC m) b o fr s=some r:=by
 unfold oper at hr ⊢;split at hr
 ·rename_i hw;split at hr
  ·exact⟨0,by simpa [hw] using hr⟩
  ·exact⟨0,by simpa [hw] using hr⟩
  ·exact⟨0,by simpa [hw] using hr⟩
  ·rename_i op h1 h2 h3;split at hr
   ·rename_i d s1 om;obtain⟨m,hm⟩:=No h om;exact⟨m,by rw [hm]; exact hr⟩
   ·cases hr
 ·exact⟨0,hr⟩
 ·cases hr
theorem o6.cut (hc:o6 FC)(b k:Nat):o6 fun m=>lV b k (FC m):=fun m n XQ=>vt (hc m n XQ)
theorem r8.cut (h:r8 C FC)(b k:Nat):r8 (lV b k C) fun m=>lV b k (FC m):=by
 cases k with
 | zero=>exact h
 | succ k=>
  intro f l s r hr;simp only [lV]at hr ⊢;split at hr
  ·rename_i wz;exact h _ _ _ _ hr
  ·rename_i wz;split at hr
   ·rename_i h1;obtain⟨m,hm⟩:=h _ _ _ _ h1;exact⟨m,by rw [hm]; exact hr⟩
   ·cases hr
variable (hc:o6 FC)(Vp:BL FL)(h:r8 C FC)(hL:Rz L FL)
include hc h
theorem yx {b:Nat}:∀ {l:List bj} {fr:Fr} {s:St} {r:Fr×St},opers C b l fr s=some r->∃m,opers (FC m) b l fr s=some r
 | [],_,_,_,hr=>⟨0,hr⟩
 | o::l,fr,s,r,hr=>by
  simp only [opers]at hr ⊢;split at hr
  ·rename_i h1;obtain⟨m,hm⟩:=Aw h h1;obtain⟨m',zE⟩:=yx hr;refine⟨max m m', ?_⟩;rw [oD (hc _ _ (du m m')) hm];exact qV (hc _ _ (dF m m')) zE
  ·cases hr
theorem wQ {b:Nat}:∀ {l:List (bj×List Nat)} {acc:List Fp} {fr:Fr} {s:St} {r:Fr×St},iy C b l acc fr s=some r->∃m,iy (FC m) b l acc fr s=some r
 | [],_,_,_,_,hr=>⟨0,hr⟩
 | (o,q)::l,acc,fr,s,r,hr=>by
  simp only [iy]at hr ⊢;split at hr
  ·rename_i h0;split at hr
   ·rename_i h1;split at hr
    ·rename_i h2;obtain⟨m,hm⟩:=Aw h h1;obtain⟨m',zE⟩:=wQ hr;refine⟨max m m', ?_⟩;rw [oD (hc _ _ (du m m')) hm];simp only [h2];exact pC (hc _ _ (dF m m')) zE
    ·cases hr
   ·cases hr
  ·cases hr
include Vp hL
theorem gO:∀ {a:AC} {fr:Fr} {s:St} {r:Ex×Fr×St},bW C L a fr s=some r->∃m,bW (FC m) (FL m) a fr s=some r
 | .skip,_,_,_,hr=>⟨0,hr⟩
 | .Aa ops,fr,s,r,hr=>by
  simp only [bW]at hr ⊢;split at hr
  ·rename_i h1;obtain⟨m,hm⟩:=yx hc h h1;exact⟨m,by rw [hm]; exact hr⟩
  ·cases hr
 | .yO k ops,fr,s,r,hr=>by
  simp only [bW]at hr ⊢;split at hr
  ·cases hr
  ·rename_i h0;split at hr
   ·rename_i h1;obtain⟨m,hm⟩:=wQ (FC:=fun m=>lV s.n k (FC m)) (hc.cut s.n k) (r8.cut h s.n k) h1;exact⟨m,by rw [hm]; exact hr⟩
   ·cases hr
 | .seq a b,fr,s,r,hr=>by
  simp only [bW]at hr ⊢;split at hr
  ·rename_i h1;obtain⟨m,hm⟩:=gO h1;obtain⟨m',zE⟩:=gO hr;refine⟨max m m', ?_⟩;rw [cS (hc _ _ (du m m')) (Vp _ _ (du m m')) hm];exact cS (hc _ _ (dF m m')) (Vp _ _ (dF m m')) zE
  ·rename_i hn;obtain⟨m,hm⟩:=gO hr;refine⟨m, ?_⟩;rw [hm];split
   ·rename_i h2;simp only [aa]at h2; subst h2;exact absurd hr (hn _ _)
   ·rfl
 | .cond c a b,fr,s,r,hr=>by
  simp only [bW]at hr ⊢;split at hr
  ·exact gO hr
  ·exact gO hr
  ·cases hr
 | .block id a,fr,s,r,hr=>by
  simp only [bW]at hr ⊢;split at hr
  ·rename_i h1;obtain⟨m,hm⟩:=gO h1;exact⟨m,by rw [hm]; exact hr⟩
  ·rename_i hn;obtain⟨m,hm⟩:=gO hr;refine⟨m, ?_⟩;rw [hm];split
   ·rename_i h2;simp only [aa]at h2; subst h2;exact absurd hr (hn _ _ _)
   ·rfl
 | .loop bR a,fr,s,r,hr=>by
  simp only [bW]at hr ⊢;exact hL _ _ _ _ _ hr
 | .iA bR g ps x y,fr,s,r,hr=>by
  simp only [bW]at hr ⊢;exact hL _ _ _ _ _ hr
 | .exit id,_,_,_,hr=>⟨0,hr⟩
 | .ret,_,_,_,hr=>⟨0,hr⟩
 | .bad,_,_,_,hr=>by simp [bW]at hr
end
theorem tA {C:au}{FC:Nat->au}(hc:o6 FC)(h:r8 C FC):∀ {l:List (D×List D)} {s s' :St},leave C l s=some s' ->∃m,leave (FC m) l s=some s'
 | [],_,_,hr=>⟨0,hr⟩
 | (f,l)::q,s,s',hr=>by
  unfold leave at hr;split at hr
  ·rename_i hh; cases hh
  ·rename_i hh;simp only [ey,ab]at hh;obtain⟨⟨rfl,rfl⟩,rfl⟩:=hh;split at hr
   ·rename_i h1;obtain⟨m,hm⟩:=h _ _ _ _ h1;obtain⟨m',zE⟩:=tA hc h hr;refine⟨max m m', ?_⟩;rw [leave,hc _ _ (du m m') _ _ _ _ hm];exact mI (hc _ _ (dF m m')) zE
   ·cases hr
  ·rename_i hh;simp only [ey,ab]at hh;obtain⟨⟨rfl,rfl⟩,rfl⟩:=hh;obtain⟨m',zE⟩:=tA hc h hr;exact⟨m',by rw [leave]; exact zE⟩
  ·cases hr
theorem Gr {C CD:au}{FC FD:Nat->au}{L:ic}{FL:Nat->ic}(hc:o6 FC)(hd:o6 FD)(Vp:BL FL)(h:r8 C FC)(hD:r8 CD FD)(hL:Rz L FL){fn:dS}{args:List D}{s:St}{r:D×St}(hr:nS C CD L fn args s=some r):∃m,nS (FC m) (FD m) (FL m) fn args s=some r:=by
 unfold nS at hr;split at hr
 ·cases hr
 ·rename_i e fr s1 cC h1;obtain⟨m,hm⟩:=gO hc Vp h hL h1;split at hr
  ·rename_i s2 h2;obtain⟨m',zE⟩:=tA hd hD h2;refine⟨max m m', ?_⟩;unfold nS;rw [cS (hc _ _ (du m m')) (Vp _ _ (du m m')) hm];have h3:=mI (hd _ _ (dF m m')) zE;cases e with
   | exit i=>exact absurd rfl (cC i)
   | normal=>simp only [h3]; exact hr
   | ret=>simp only [h3]; exact hr
  ·cases hr
 ·cases hr
theorem Hl {C:au}{FC:Nat->au}{L:ic}{FL:Nat->ic}(hc:o6 FC)(Vp:BL FL)(h:r8 C FC)(hL:Rz L FL):r8 (pa T C L) (fun m=>pa T (FC m) (FL m)):=by
 intro f l s r hr;unfold pa at hr ⊢;split at hr
 ·rename_i fn hf;unfold vU at hr ⊢;split at hr
  ·cases hr
  ·rename_i e fr s1 cC h1;obtain⟨m,hm⟩:=gO hc Vp h hL h1;refine⟨m, ?_⟩
   dsimp only
   rw [hf]; dsimp only;rw [hm];cases e with
   | exit i=>exact absurd rfl (cC i)
   | normal=>exact hr
   | ret=>exact hr
  ·cases hr
 ·cases hr
theorem GI {k:Nat}{ps:List Nat}{e:Env}{x y:Fr->St->Option (Ex×Fr×St)}{H:au}{FX FY:Nat->Fr->St->Option (Ex×Fr×St)}{FH:Nat->au}
  (hx:∀fr s r,x fr s=some r->∃m,FX m fr s=some r)(hy:∀fr s r,y fr s=some r->∃m,FY m fr s=some r)(hH:r8 H FH)(cx:∀m m',m<=m' ->LeE (FX m) (FX m'))(cy:∀m m',m<=m' ->LeE (FY m) (FY m')):
  r8 (jX k ps e x y H) (fun m=>jX k ps e (FX m) (FY m) (FH m)):=by
 intro f l s r hr;unfold jX at hr;split at hr
 ·rename_i k' xs;split at hr
  ·rename_i hk;split at hr
   ·rename_i e1 h1 h2;unfold Cp at hr;split at hr
    ·rename_i fr1 s1 h3;obtain⟨m,hm⟩:=hx _ _ _ h3;split at hr
     ·rename_i h4;split at hr
      ·rename_i s2 h5;unfold Ks at hr;split at hr
       ·rename_i e2 vo s3 h6;obtain⟨m',zE⟩:=hy _ _ _ h6;refine⟨max m m', ?_⟩;simp only [jX,hk,h1,h2,Cp,cx _ _ (du m m') _ _ _ hm,h4,h5,Ks,cy _ _ (dF m m') _ _ _ zE];exact hr
       ·cases hr
      ·cases hr
     ·cases hr
    ·cases hr
   ·cases hr
  ·rename_i hk;obtain⟨m,hm⟩:=hH _ _ _ _ hr;refine⟨m, ?_⟩;simp only [jX,hk]; exact hm
 ·rename_i h0;obtain⟨m,hm⟩:=hH _ _ _ _ hr;refine⟨m, ?_⟩;show jX k ps e (FX m) (FY m) (FH m) _ _ s=some r;unfold jX;split
  ·exact absurd rfl (h0 _ _ rfl)
  ·exact hm
theorem En {FH:Nat->au}(hc:o6 FH)(n:Nat):o6 (fun m=>dH T (FH m) n)/\BL (fun m=>fc T (FH m) n):=
 ⟨fun m m' h=>(mN n (hc m m' h)).1,fun m m' h=>(mN n (hc m m' h)).2⟩
theorem tC:∀n {H:au} {FH:Nat->au},o6 FH->r8 H FH->r8 (dH T H n) (fun m=>dH T (FH m) n)/\Rz (fc T H n) (fun m=>fc T (FH m) n)
 | 0,H,FH,hc,hH=>⟨fun f l s r hr=>by simp [dH]at hr,fun k a fr s r hr=>by simp [fc]at hr⟩
 | n+1,H,FH,hc,hH=>by
  obtain⟨i1,i2⟩:=tC n hc hH;obtain⟨c1,c2⟩:=En (T:=T) hc n;have cD:o6 (fun m=>pa T (dH T (FH m) n) (fc T (FH m) n)):=fun m m' h=>tO (c1 m m' h) (c2 m m' h);refine⟨fun f l s r hr=> ?_,fun k a fr s r hr=> ?_⟩
  ·rw [dH]at hr;split at hr
   ·rename_i hy;obtain⟨m,hm⟩:=hH _ _ _ _ hr;exact⟨m,by show dH T (FH m) (n+1) f l s=_; rw [dH,hy]; exact hm⟩
   ·rename_i hy;split at hr
    ·rename_i fn hf;obtain⟨m,hm⟩:=Gr c1 cD c2 i1 (Hl c1 c2 i1 i2) i2 hr;exact⟨m,by show dH T (FH m) (n+1) f l s=_; rw [dH,hy,hf]; exact hm⟩
    ·rename_i hf;obtain⟨m,hm⟩:=hH _ _ _ _ hr;exact⟨m,by show dH T (FH m) (n+1) f l s=_; rw [dH,hy,hf]; exact hm⟩
  ·cases hb:a.il with
   | true=>
    cases a <;> first | (cases hb; done) | skip
    rename_i kp g ps x y;rw [jH]at hr;unfold nK at hr;split at hr
    ·rename_i gf caps h1 h2;split at hr
     ·rename_i h3;unfold Bx at hr;split at hr
      ·rename_i d s1 h4
       have Qe:r8 (jX s.n ps (fr.env.bR kp) (bW (dH T H n) (fc T H n) x) (bW (dH T H n) (fc T H n) y) H)
         (fun m=>jX s.n ps (fr.env.bR kp) (bW (dH T (FH m) n) (fc T (FH m) n) x) (bW (dH T (FH m) n) (fc T (FH m) n) y) (FH m)):=
        GI (FX:=fun m=>bW (dH T (FH m) n) (fc T (FH m) n) x) (FY:=fun m=>bW (dH T (FH m) n) (fc T (FH m) n) y) (fun _ _ _ h=>gO c1 c2 i1 i2 h) (fun _ _ _ h=>gO c1 c2 i1 i2 h) hH (fun m m' h _ _ _ hh=>cS (c1 m m' h) (c2 m m' h) hh) (fun m m' h _ _ _ hh=>cS (c1 m m' h) (c2 m m' h) hh)
       have Z0:o6 (fun m=>jX s.n ps (fr.env.bR kp) (bW (dH T (FH m) n) (fc T (FH m) n) x) (bW (dH T (FH m) n) (fc T (FH m) n) y) (FH m)):=fun m m' h=>
        qK (fun _ _ _ hh=>cS (c1 m m' h) (c2 m m' h) hh) (fun _ _ _ hh=>cS (c1 m m' h) (c2 m m' h) hh) (hc m m' h)
       obtain⟨m,hm⟩:=(tC n Z0 Qe).1 _ _ _ _ h4;refine⟨m, ?_⟩;show fc T (FH m) (n+1) k _ fr s=_;rw [jH];unfold nK;rw [h1,h2];simp only [h3];unfold Bx;simp only at hm;rw [hm];exact hr
      ·cases hr
     ·cases hr
    ·cases hr
   | false=>
    rw [iC _ _ _ _ hb]at hr;split at hr
    ·rename_i h1;obtain⟨m,hm⟩:=gO c1 c2 i1 i2 h1;obtain⟨m',zE⟩:=i2 _ _ _ _ _ hr;refine⟨max m m', ?_⟩;show fc T (FH (max m m')) (n+1) k a fr s=_;rw [iC _ _ _ _ hb,cS (c1 _ _ (du m m')) (c2 _ _ (du m m')) hm];exact c2 _ _ (dF m m') _ _ _ _ _ zE
    ·rename_i hn;obtain⟨m,hm⟩:=gO c1 c2 i1 i2 hr;refine⟨m, ?_⟩;show fc T (FH m) (n+1) k a fr s=_;rw [iC _ _ _ _ hb,hm];split
     ·rename_i h2;simp only [aa]at h2; subst h2;exact absurd hr (hn _ _)
     ·rfl
theorem Ev.yield {H:au}{y:D}{l:List D}{s:St}{r:D×St}(h:H 0 (.lv y::l) s=some r):Ev T H 0 (.lv y::l) s r:=⟨1,by rw [dH]; exact h⟩
def mW (T:Nat->Option dS)(H:au)(k:Nat)(ps:List Nat)(env:Env)(a b:AC)(Y:au):Prop:=
 (∀f l s r,yS l=false->H f l s=some r->Y f l s=some r)/\
 ∀(xs:List D) (s:St) (e:Env) (Q:Bool->St->Prop),qa ps xs env=some e->s.nL (k+1) k .ready=true->
  Wp T H a ⟨e,[]⟩ s (fun x f1 s1=>x= .normal/\s1.nL (k+1) k .ready=true/\∃s2,s1.set (k+1) (.loop k .busy)=some s2/\
   Wp T H b f1 s2 fun x f2 s3=>f2.defers=[]/\s3.nL (k+1) k .busy=true/\∃s4,s3.set (k+1) (.loop k (R1 x))=some s4/\Q (qj x) s4)->
  ∃c s',Y 0 (.lv (.yl k)::xs) s=some (.bool c,s')/\Q c s'
theorem Ju {H:au}{bR:List Nat}{g:bP}{ps:List Nat}{a b:AC}{fr:Fr}{s:St}{Q:Ex->Fr->St->Prop}{gf:Nat}{caps:List D}(hg:g.ev fr.env=some (.fn (.func gf) [] caps))(wz:s.ro=false)(hp:(fr.env.bR bR).plain=true)
  (h:∀Y,mW T H s.n ps (fr.env.bR bR) a b Y->∃d s2,Ev T Y gf (.yl s.n::caps) ((s.bc .dead).bc (.loop s.n .ready)) (d,s2)/\
   ∃st x s3,s2.get (s.n+1)=some (.loop s.n st)/\CF st=some x/\s2.set (s.n+1) .dead=some s3/\Q x { fr with defers:=(.mf,[])::fr.defers} s3):
  Wp T H (.iA bR g ps a b) fr s Q:=by
 let F:Nat->au:=fun m=>jX s.n ps (fr.env.bR bR) (bW (dH T H m) (fc T H m) a) (bW (dH T H m) (fc T H m) b) H
 have hF:o6 F:=fun m m' h=>qK (fun _ _ _ hh=>cS (gT h).1 (gT h).2 hh) (fun _ _ _ hh=>cS (gT h).1 (gT h).2 hh) (fun _ _ _ _ h=>h);have hY:mW T H s.n ps (fr.env.bR bR) a b (NL F):=by
  refine⟨fun f l s1 r hy hr=>HF hF 0 _ _ _ _ ?_,fun xs s0 e Q1 hb hl hw=> ?_⟩
  ·show jX _ _ _ _ _ H f l s1=some r;unfold jX;split
   ·cases hy
   ·exact hr
  ·obtain⟨x1,f1,s1,⟨n1,zQ⟩,rfl,h2,s2,h3,x2,f2,s3,⟨n2,qX⟩,h4,h5,s4,h6,h7⟩:=hw;refine⟨qj x2,s4,HF hF (max n1 n2) _ _ _ _ ?_,h7⟩;have e1:=cS (gT (T:=T) (H:=H) (du n1 n2)).1 (gT (du n1 n2)).2 zQ;have e2:=cS (gT (T:=T) (H:=H) (dF n1 n2)).1 (gT (dF n1 n2)).2 qX;show jX _ _ _ _ _ H 0 (.lv (.yl s.n)::xs) s0=_;simp only [jX,az,hl,hb,Cp,e1,h2,h3,Ks,e2,h4,h5,h6,oC]
 obtain⟨d,s2,⟨n,hn⟩,st,x,s3,h1,h2,h3,h4⟩:=h _ hY;obtain⟨m,hm⟩:=(tC n hF (fun _ _ _ _ h=>KI h)).1 _ _ _ _ hn;refine⟨x,_,s3,⟨max m n+1, ?_⟩,h4⟩
 have hm2:dH T (F (max m n)) (max m n) gf (.yl s.n::caps) ((s.bc .dead).bc (.loop s.n .ready))=some (d,s2):=
  (gT (dF m n)).1 _ _ _ _ ((mN n (hF _ _ (du m n))).1 _ _ _ _ hm)
 rw [bW,jH];unfold nK;rw [hg,wz];simp only [hp];unfold Bx;rw [hm2];simp only [h1,az,h2,h3]
end Go.Ab
namespace Go.Ab
open Go
theorem St.RH (s:St)(o j:Nat)(x:Obj):(s.bD o x).get j=if j=o then some x else s.get j:=T.pI _ _ _ _
theorem St.P9 (s:St)(j:Nat)(x:Obj):(s.bc x).get j=if j=s.n then some x else s.get j:=T.pI _ _ _ _
theorem St.fE (s:St)(o:Nat)(x:Obj):(s.bD o x).n=s.n:=rfl
theorem St.dN (s:St)(x:Obj):(s.bc x).n=s.n+1:=rfl
structure St.Ok (s:St):Prop where
 ro:s.ro=false
 lk:s.lk=[]
 fresh:∀o,s.n<=o->s.get o=none
theorem St.Ok.lt {s:St}(h:s.Ok){o:Nat}{x:Obj}(hx:s.get o=some x):o < s.n:=by
 rcases aG o s.n with h1 | h1
 ·exact h1
 ·rw [h.fresh o h1]at hx; cases hx
theorem St.Ok.set {s:St}(h:s.Ok)(o:Nat)(x:Obj):s.set o x=some (s.bD o x):=by
 simp only [St.set,h.ro,h.lk,pX]
theorem St.Ok.W1 {s:St}(h:s.Ok)(x:Obj):s.mk' none x=some (s.n,s.bc x):=by
 simp only [St.mk',h.ro]
theorem St.Ok.bD {s:St}(h:s.Ok){o:Nat}(x:Obj)(ho:o < s.n):(s.bD o x).Ok:=by
 refine⟨h.ro,h.lk,fun j hj=> ?_⟩;rw [St.RH];have:j≠o:=by
  have:s.n<=j:=hj;omega
 rw [aJ this];exact h.fresh j hj
theorem St.Ok.bc {s:St}(h:s.Ok)(x:Obj):(s.bc x).Ok:=by
 refine⟨h.ro,h.lk,fun j hj=> ?_⟩;have hj:s.n+1<=j:=hj;rw [St.P9,aJ (by omega)];exact h.fresh j (by omega)
structure aC (W:Nat->Prop)(s s1:St):Prop where
 n:s.n<=s1.n
 ok:s1.Ok
 same:∀o,o < s.n-> ¬ W o->s1.get o=s.get o
def Nil:Nat->Prop:=fun _=>False
theorem aC.refl {W:Nat->Prop}{s:St}(h:s.Ok):aC W s s:=⟨an _,h,fun _ _ _=>rfl⟩
theorem aC.trans {W:Nat->Prop}{s s1 s2:St}(h:aC W s s1)(g:aC W s1 s2):aC W s s2:=
 ⟨cU h.n g.n,g.ok,fun o ho hw=>(g.same o (eX ho h.n) hw).trans (h.same o ho hw)⟩
theorem aC.trans' {W W' :Nat->Prop}{s s1 s2:St}(h:aC W s s1)(g:aC W' s1 s2)(hw:∀o,W' o->o < s.n->W o):aC W s s2:=
 ⟨cU h.n g.n,g.ok,fun o ho hn=>(g.same o (eX ho h.n) (fun h' =>hn (hw o h' ho))).trans (h.same o ho hn)⟩
theorem aC.mono {W W' :Nat->Prop}{s s1:St}(h:aC W s s1)(hw:∀o,W o->W' o):aC W' s s1:=⟨h.n,h.ok,fun o ho hn=>h.same o ho (fun h' =>hn (hw o h'))⟩
theorem aC.get {W:Nat->Prop}{s s1:St}(h:aC W s s1)(hs:s.Ok){o:Nat}{x:Obj}(hx:s.get o=some x)(hw: ¬ W o):s1.get o=some x:=by
 rw [h.same o (hs.lt hx) hw,hx]
theorem aC.set {W:Nat->Prop}{s s1:St}(h:aC W s s1){o:Nat}(x:Obj)(ho:o < s1.n)(hw:o < s.n->W o):aC W s (s1.bD o x):=by
 refine⟨h.n,h.ok.bD x ho,fun j hj hn=> ?_⟩;rw [St.RH];have:j≠o:=fun e=>hn (e ▸ hw (e ▸ hj));rw [aJ this,h.same j hj hn]
theorem aC.push {W:Nat->Prop}{s s1:St}(h:aC W s s1)(x:Obj):aC W s (s1.bc x):=by
 refine⟨Nat.le_succ_of_le h.n,h.ok.bc x,fun j hj hn=> ?_⟩;have:=h.n;rw [St.P9,aJ (by omega),h.same j hj hn]
def St.up (s:St)(k:Nat):St:= { s with n:=s.n+k}
theorem St.jw (s:St)(k:Nat):(s.up k).n=s.n+k:=rfl
theorem St.CA {s:St}{k o:Nat}{y:Option Obj}(h:s.get o=y):(s.up k).get o=y:=h
theorem St.Ok.up {s:St}(h:s.Ok)(k:Nat):(s.up k).Ok:=⟨h.ro,h.lk,fun o ho=>h.fresh o (cU (Nat.le_add_right _ _) ho)⟩
theorem aC.up {W:Nat->Prop}{s s1:St}(h:aC W s s1)(k:Nat):aC W s (s1.up k):=⟨cU h.n (Nat.le_add_right _ _),h.ok.up k,h.same⟩
def fpC (fp:Fp)(s s1:St):Fp:=(fp.1,T.diff s.h s1.h++fp.2.1,fp.2.2)
theorem T.uY:∀ {t:T Obj} {k:Nat},t.get k=none->k ∉ T.keys t
 | .nil,k,_=>by simp [T.keys]
 | .node o l r,k,h=>by
  simp only [T.keys,bK,jO,kH,not_exists,not_and];refine⟨fun h1=> ?_,fun j hj e=> ?_,fun j hj e=> ?_⟩
  ·cases o with
   | none=>simp at h1
   | some x=>
    simp only [cG]at h1; subst h1;rw [T.jB]at h; cases h
  ·subst e;rw [T.jb _ _ _ (by omega) (by omega),show (2 * j+1) / 2=j by omega]at h;exact T.uY h hj
  ·subst e;rw [T.ja _ _ _ (by omega) (by omega),show (2 * j+2) / 2 - 1=j by omega]at h;exact T.uY h hj
theorem T.yk:∀ {t u:T Obj} {k:Nat},u.get k=t.get k->k ∉ T.diff t u
 | .nil,u,k,h=>T.uY h
 | .node o l r,.nil,k,h=>T.uY h.symm
 | .node o l r,.node o' l' r',k,h=>by
  simp only [T.diff,bK,jO,kH,not_exists,not_and];refine⟨fun h1=> ?_,fun j hj e=> ?_,fun j hj e=> ?_⟩
  ·have hk:k=0:=by
    cases o <;> cases o' <;> first
     | (simp at h1; done)
     | simpa using h1
     | (simp only at h1; split at h1 <;> simp at h1; exact h1)
   subst hk;rw [T.jB,T.jB]at h;subst h;cases o' with
   | none=>simp at h1
   | some x=>simp [Obj.aV]at h1
  ·subst e;rw [T.jb _ _ _ (by omega) (by omega),T.jb _ _ _ (by omega) (by omega),show (2 * j+1) / 2=j by omega]at h;exact T.yk h hj
  ·subst e;rw [T.ja _ _ _ (by omega) (by omega),T.ja _ _ _ (by omega) (by omega),show (2 * j+2) / 2 - 1=j by omega]at h;exact T.yk h hj
theorem De:∀(a:List Nat),r9 a []=true
 | []=>rfl
 | x::r=>by simp only [r9,pX]; exact De r
theorem AZ {o:Nat}:∀ {l:List Nat},pX o l=true->o∈l
 | [],h=>by simp [pX]at h
 | x::r,h=>by
  simp only [pX]at h;split at h
  ·rename_i e; rw [aF e]; simp
  ·exact eE _ (AZ h)
theorem Ia {b:List Nat}:∀ {a:List Nat},(∀x∈a,x ∉ b)->r9 a b=true
 | [],_=>rfl
 | x::r,h=>by
  simp only [r9];split
  ·rename_i e; exact absurd (AZ e) (h x (by simp))
  ·exact Ia fun y hy=>h y (by simp [hy])
theorem vz {s s1:St}{rd:List Nat}{rg:List (Nat×Nat×Nat)}(h:∀q∈rd,s1.get q=s.get q):kX (fpC ([],[],[]) s s1) (rd,[],rg)=true:=by
 simp only [kX,fpC,dY,De,fM,r9,lG];exact Ia fun x hx hr=>T.yk (h x hr) hx
variable {T:Nat->Option dS}{H:au}
def VV (T:Nat->Option dS)(H:au)(b kk:Nat)(l:List (bj×List Nat))(acc:List Fp)(fr:Fr)(s:St)(Q:Fr->St->Prop):Prop:=∃n fr' s',iy (lV b kk (dH T H n)) b l acc fr s=some (fr',s')/\Q fr' s'
theorem Sp {b kk:Nat}{acc:List Fp}{fr:Fr}{s:St}{Q:Fr->St->Prop}(h:Q fr s):VV T H b kk [] acc fr s Q:=⟨0,fr,s,rfl,h⟩
theorem y9 {b kk:Nat}{o:bj}{q:List Nat}{l:List (bj×List Nat)}{acc:List Fp}{fr fr1:Fr}{s s1:St}{Q:Fr->St->Prop}(h0:fg acc (cE b fr.env o) q=true)(h1:fr.env.cX o.dst=false)
  (h2:oper fD b o fr s=some (fr1,s1))(h3:fr1.env.cX o.dst=false)(h4:Nat.beq o.op.kind 5=false)(h:VV T H b kk l (acc++ [cE b fr.env o]) fr1 s1 Q):VV T H b kk ((o,q)::l) acc fr s Q:=by
 obtain⟨n,f2,s2,h5,h6⟩:=h;refine⟨n,f2,s2, ?_,h6⟩;simp only [iy,h0,h1,pj,fk,oD (C:=fD) (C' :=lV b kk (dH T H n)) (fun f l s r h=>by simp [fD]at h) h2,h3,lost,h4,Bool.or_self,Jf];exact h5
theorem uf {b kk:Nat}{o:bj}{q:List Nat}{l:List (bj×List Nat)}{acc:List Fp}{fr fr1:Fr}{s s1:St}{f:Nat}{x:List D}{r:D×St}{Q:Fr->St->Prop}(h0:fg acc (cE b fr.env o) q=true)(h1:fr.env.cX o.dst=false)
  (hq:∃s0,Ev T H f x s0 r/\∀C:au,C f x s0=some r->oper (lV b kk C) b o fr s=some (fr1,s1))(h3:fr1.env.cX o.dst=false)(h4:lost acc s s1 o q=false)(h:VV T H b kk l (acc++ [Jf s s1 b fr.env o]) fr1 s1 Q):VV T H b kk ((o,q)::l) acc fr s Q:=by
 obtain⟨n,f2,s2,h5,h6⟩:=h;obtain⟨s0,⟨m,hm⟩,h2⟩:=hq;refine⟨max m n,f2,s2, ?_,h6⟩;have e1:=h2 _ ((gT (T:=T) (H:=H) (du m n)).1 _ _ _ _ hm);simp only [iy,h0,h1,pj,fk,e1,h3,h4,Bool.or_self];exact pC (vt (gT (dF m n)).1) h5
theorem NM {C:au}{f:Nat}{l:List D}{s:St}{b k:Nat}{r:Option (D×St)}(hr:s.ro=false)(h:C f l s=r):lV b k C f l s=r:=by
 cases k with
 | zero=>exact h
 | succ k=>simp only [lV,hr]; exact h
theorem E3 {k:Nat}{l:List (bj×List Nat)}{fr:Fr}{s:St}{Q:Ex->Fr->St->Prop}(wz:(s.ro && Nat.blt 0 k)=false)(h:VV T H s.n k l [] fr { s with n:=s.n+k} (Q .normal)):Wp T H (.yO k l) fr s Q:=by
 obtain⟨n,f1,s1,h1,h2⟩:=h;refine⟨_,f1,s1,⟨n, ?_⟩,h2⟩;simp only [bW,wz,h1]
end Go.Ab
