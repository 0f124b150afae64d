/- Part. -/
import Derived.Test.YtjaldhgmboeffaaGreatDoorG27
set_option linter.unusedSimpArgs false
set_option linter.unusedVariables false
set_option linter.unusedSectionVars false
set_option maxRecDepth 100000
set_option maxHeartbeats 2000000
namespace Go.Proofs.Tab
open Go Go.Ab Go.Ab.Sm
section
variable {T:Nat->Option dU}{H:ay}
theorem Ws.Is {s:St}{o l c i:Nat}{V:List Nat}(h:Ws s (.sl o 0 l c) V)(hi:i < V.length):∃es,s.get o=some (.arr 1 194 es 0)/\es[0+i]? =some (.int .u32 (V[i]:Nat))/\V.length<=es.length:=by
 cases h with
 | sl o cp V R hg hc=>exact ⟨_,hg,by simp [hi,nJ],by simp⟩
theorem pH {V:List Nat}{i:Nat}(hi:i < V.length):(dz V)[i]? =some (.int .u32 (V[i]:Nat)):=by simp [hi]
theorem Ws.HK {s:St}{nl:Bool}{z:Nat}{L:List D}{V:List Nat}(h:Ws s (.vs nl z L) V)(hp:0 < V.length):z=1:=by
 cases h
 ·rfl
 ·simp at hp
def oS (V W:List Nat)(d:D):Prop:=∃c:Int,d= .int .i64 c/\(c= -1\/c=0\/c=1)/\(c=0↔V=W)
theorem kZ {V W:List Nat}{c:Int}(hc:c= -1\/c=1)(h:V≠W):oS V W (.int .i64 c):=⟨c,rfl,by omega,by constructor <;> intro h'; omega; exact absurd h' h⟩
theorem sD {V W:List Nat}{m:Nat}(h1:m < V.length)(h2:m < W.length)(e:V[m]=W[m])(h:V.drop (m+1)=W.drop (m+1)):V.drop m=W.drop m:=by
 rw [fC h1,fC h2,e,h]
noncomputable def og:AC:=match qS.1.body with
 | .seq _ (.seq _ r)=>r
 | _=> .skip
theorem IW {s:St}{V W:List Nat}{E:Env}{Fe:Bool}{z1:Nat}{L1:List D}{Cx:Bool}{z2:Nat}{L2:List D}(hd:Ws s (.vs Fe z1 L1) V)(he:Ws s (.vs Cx z2 L2) W)(hV:V.length<=aL)(hW:W.length<=aL)(hl:V.length=W.length):eH T H og [] ⟨(1,.vs Cx z2 L2)::(0,.vs Fe z1 L1)::E,[]⟩ s (QF qS.1.results fun d s1=>s1=s/\oS V W d):=by
 have lZ:aL=2147483648:=rfl;have ul:=cQ V;have WU:=cQ W;have hn:∀i:Nat,i<=2147483648->IntKind.wrap .i64 ((i:Int) - 1)=(i:Int) - 1:=fun i hi=>wrap_small (by omega) (by omega);have qV:∀i:Nat,i<=2147483648->IntKind.wrap .i64 (((i+1:Nat):Int) - 1 - 1)=(i:Int) - 1:=fun i hi=>by rw [wrap_small (by omega) (by omega)]; omega
 have e1:=hd.qa; subst e1;have WM:=hd.HK;have e2:=he.qa; subst e2;have VR:=he.HK;show eH T H (.seq _ _) [] _ _ _;try refine go ?_
 refine cg (fun m env s' =>s' =s/\m<=V.length/\V.drop m=W.drop m/\∃i:Int,i=(m:Int) - 1/\env=[(0,.vs Fe z1 (dz V)),(1,.vs Cx z2 (dz W)),(5,.int .i64 i)]) V.length rfl ⟨rfl,aq _,by rw [dI (aq _),dI (by omega)],_, ?_,rfl⟩ ?_
 ·first | (rw [ul]; exact hn _ (by omega)) | exact hn _ (by omega)
 rintro m env s' ⟨rfl,hm,FP,i,rfl,rfl⟩;cases m with
 | zero=>
  try refine go ?_
  exact ai ⟨rfl,0,rfl,by omega,by simpa using FP⟩
 | succ m=>
  have hi:((m+1:Nat):Int) - 1=(m:Nat):=by omega
  have hw:=qV m (by omega);rw [hi]at hw ⊢;have h1:m < V.length:=by omega
  have h2:m < W.length:=by omega
  have ea:=pH h1;have WM:=WM (by omega);subst WM;have eb:=pH h2;have VR:=VR (by omega);subst VR;have pO:=sD h1 h2;have qw:V[m]≠W[m]->V≠W:=fun cE e=>cE (by subst e; rfl);generalize V[m]=v at ea pO qw;generalize W[m]=w at eb pO qw;try refine go ?_
  refine cV (fun hc=> ?_) (fun hc=> ?_)
  ·have dM:v < w:=by simp only [aY]at hc; omega
   try refine go ?_
   exact ai ⟨rfl,kZ (c:= -1) (.inl rfl) (qw (by omega))⟩
  ·have dM: ¬ v < w:=by simp only [bQ]at hc; omega
   try refine go ?_
   refine cV (fun uo=> ?_) (fun uo=> ?_)
   ·have u7:w < v:=by simp only [aY]at uo; omega
    try refine go ?_
    exact ai ⟨rfl,kZ (c:=1) (.inr rfl) (qw (by omega))⟩
   ·have u7: ¬ w < v:=by simp only [bQ]at uo; omega
    try refine go ?_
    exact bf m (by omega) rfl ⟨rfl,by omega,pO (by omega) FP,_,hw,rfl⟩
theorem JE {s:St}{V W:List Nat}{E:Env}{Fe:Bool}{z1:Nat}{L1:List D}{Cx:Bool}{z2:Nat}{L2:List D}(hd:Ws s (.vs Fe z1 L1) V)(he:Ws s (.vs Cx z2 L2) W)(hV:V.length<=aL)(hW:W.length<=aL)(hl:V.length≠W.length):eH T H og [] ⟨(1,.vs Cx z2 L2)::(0,.vs Fe z1 L1)::E,[]⟩ s (QF qS.1.results fun d s1=>s1=s/\oS V W d):=by
 have lZ:aL=2147483648:=rfl;have ul:=cQ V;have WU:=cQ W;have hn:∀i:Nat,i<=2147483648->IntKind.wrap .i64 ((i:Int) - 1)=(i:Int) - 1:=fun i hi=>wrap_small (by omega) (by omega);have qV:∀i:Nat,i<=2147483648->IntKind.wrap .i64 (((i+1:Nat):Int) - 1 - 1)=(i:Int) - 1:=fun i hi=>by rw [wrap_small (by omega) (by omega)]; omega
 have cE:V≠W:=fun e=>hl (by rw [e]);have e1:=hd.qa; subst e1;have e2:=he.qa; subst e2;clear hd he hn qV;show eH T H (.seq _ _) [] _ _ _;by_cases dM:V.length < W.length
 ·try refine go ?_
  exact ai ⟨rfl,kZ (c:= -1) (.inl rfl) cE⟩
 ·try refine go ?_
  exact ai ⟨rfl,kZ (c:=1) (.inr rfl) cE⟩
theorem I8 {s:St}{V W:List Nat}{E:Env}{Fe:Bool}{z1:Nat}{L1:List D}{o2 k2 c2:Nat}(hd:Ws s (.vs Fe z1 L1) V)(he:Ws s (.sl o2 0 k2 c2) W)(hV:V.length<=aL)(hW:W.length<=aL)(hl:V.length=W.length):eH T H og [] ⟨(1,.sl o2 0 k2 c2)::(0,.vs Fe z1 L1)::E,[]⟩ s (QF qS.1.results fun d s1=>s1=s/\oS V W d):=by
 have lZ:aL=2147483648:=rfl;have ul:=cQ V;have WU:=cQ W;have hn:∀i:Nat,i<=2147483648->IntKind.wrap .i64 ((i:Int) - 1)=(i:Int) - 1:=fun i hi=>wrap_small (by omega) (by omega);have qV:∀i:Nat,i<=2147483648->IntKind.wrap .i64 (((i+1:Nat):Int) - 1 - 1)=(i:Int) - 1:=fun i hi=>by rw [wrap_small (by omega) (by omega)]; omega
 have e1:=hd.qa; subst e1;have WM:=hd.HK;have e2:=he.pS; subst e2;show eH T H (.seq _ _) [] _ _ _;try refine go ?_
 refine cg (fun m env s' =>s' =s/\m<=V.length/\V.drop m=W.drop m/\∃i:Int,i=(m:Int) - 1/\env=[(0,.vs Fe z1 (dz V)),(1,.sl o2 0 W.length c2),(5,.int .i64 i)]) V.length rfl ⟨rfl,aq _,by rw [dI (aq _),dI (by omega)],_, ?_,rfl⟩ ?_
 ·first | (rw [ul]; exact hn _ (by omega)) | exact hn _ (by omega)
 rintro m env s' ⟨rfl,hm,FP,i,rfl,rfl⟩;cases m with
 | zero=>
  try refine go ?_
  exact ai ⟨rfl,0,rfl,by omega,by simpa using FP⟩
 | succ m=>
  have hi:((m+1:Nat):Int) - 1=(m:Nat):=by omega
  have hw:=qV m (by omega);rw [hi]at hw ⊢;have h1:m < V.length:=by omega
  have h2:m < W.length:=by omega
  have ea:=pH h1;have WM:=WM (by omega);subst WM;obtain⟨es2,gb,eb,lb⟩:=he.Is h2;have pO:=sD h1 h2;have qw:V[m]≠W[m]->V≠W:=fun cE e=>cE (by subst e; rfl);generalize V[m]=v at ea pO qw;generalize W[m]=w at eb pO qw;try refine go ?_
  refine cV (fun hc=> ?_) (fun hc=> ?_)
  ·have dM:v < w:=by simp only [aY]at hc; omega
   try refine go ?_
   exact ai ⟨rfl,kZ (c:= -1) (.inl rfl) (qw (by omega))⟩
  ·have dM: ¬ v < w:=by simp only [bQ]at hc; omega
   try refine go ?_
   refine cV (fun uo=> ?_) (fun uo=> ?_)
   ·have u7:w < v:=by simp only [aY]at uo; omega
    try refine go ?_
    exact ai ⟨rfl,kZ (c:=1) (.inr rfl) (qw (by omega))⟩
   ·have u7: ¬ w < v:=by simp only [bQ]at uo; omega
    try refine go ?_
    exact bf m (by omega) rfl ⟨rfl,by omega,pO (by omega) FP,_,hw,rfl⟩
theorem Ja {s:St}{V W:List Nat}{E:Env}{Fe:Bool}{z1:Nat}{L1:List D}{o2 k2 c2:Nat}(hd:Ws s (.vs Fe z1 L1) V)(he:Ws s (.sl o2 0 k2 c2) W)(hV:V.length<=aL)(hW:W.length<=aL)(hl:V.length≠W.length):eH T H og [] ⟨(1,.sl o2 0 k2 c2)::(0,.vs Fe z1 L1)::E,[]⟩ s (QF qS.1.results fun d s1=>s1=s/\oS V W d):=by
 have lZ:aL=2147483648:=rfl;have ul:=cQ V;have WU:=cQ W;have hn:∀i:Nat,i<=2147483648->IntKind.wrap .i64 ((i:Int) - 1)=(i:Int) - 1:=fun i hi=>wrap_small (by omega) (by omega);have qV:∀i:Nat,i<=2147483648->IntKind.wrap .i64 (((i+1:Nat):Int) - 1 - 1)=(i:Int) - 1:=fun i hi=>by rw [wrap_small (by omega) (by omega)]; omega
 have cE:V≠W:=fun e=>hl (by rw [e]);have e1:=hd.qa; subst e1;have e2:=he.pS; subst e2;clear hd he hn qV;show eH T H (.seq _ _) [] _ _ _;by_cases dM:V.length < W.length
 ·try refine go ?_
  exact ai ⟨rfl,kZ (c:= -1) (.inl rfl) cE⟩
 ·try refine go ?_
  exact ai ⟨rfl,kZ (c:=1) (.inr rfl) cE⟩
theorem Kz {s:St}{V W:List Nat}{E:Env}{o1 k1 c1:Nat}{Cx:Bool}{z2:Nat}{L2:List D}(hd:Ws s (.sl o1 0 k1 c1) V)(he:Ws s (.vs Cx z2 L2) W)(hV:V.length<=aL)(hW:W.length<=aL)(hl:V.length=W.length):eH T H og [] ⟨(1,.vs Cx z2 L2)::(0,.sl o1 0 k1 c1)::E,[]⟩ s (QF qS.1.results fun d s1=>s1=s/\oS V W d):=by
 have lZ:aL=2147483648:=rfl;have ul:=cQ V;have WU:=cQ W;have hn:∀i:Nat,i<=2147483648->IntKind.wrap .i64 ((i:Int) - 1)=(i:Int) - 1:=fun i hi=>wrap_small (by omega) (by omega);have qV:∀i:Nat,i<=2147483648->IntKind.wrap .i64 (((i+1:Nat):Int) - 1 - 1)=(i:Int) - 1:=fun i hi=>by rw [wrap_small (by omega) (by omega)]; omega
 have e1:=hd.pS; subst e1;have e2:=he.qa; subst e2;have VR:=he.HK;show eH T H (.seq _ _) [] _ _ _;try refine go ?_
 refine cg (fun m env s' =>s' =s/\m<=V.length/\V.drop m=W.drop m/\∃i:Int,i=(m:Int) - 1/\env=[(0,.sl o1 0 V.length c1),(1,.vs Cx z2 (dz W)),(5,.int .i64 i)]) V.length rfl ⟨rfl,aq _,by rw [dI (aq _),dI (by omega)],_, ?_,rfl⟩ ?_
 ·first | (rw [ul]; exact hn _ (by omega)) | exact hn _ (by omega)
 rintro m env s' ⟨rfl,hm,FP,i,rfl,rfl⟩;cases m with
 | zero=>
  try refine go ?_
  exact ai ⟨rfl,0,rfl,by omega,by simpa using FP⟩
 | succ m=>
  have hi:((m+1:Nat):Int) - 1=(m:Nat):=by omega
  have hw:=qV m (by omega);rw [hi]at hw ⊢;have h1:m < V.length:=by omega
  have h2:m < W.length:=by omega
  obtain⟨es,ga,ea,la⟩:=hd.Is h1;have eb:=pH h2;have VR:=VR (by omega);subst VR;have pO:=sD h1 h2;have qw:V[m]≠W[m]->V≠W:=fun cE e=>cE (by subst e; rfl);generalize V[m]=v at ea pO qw;generalize W[m]=w at eb pO qw;try refine go ?_
  refine cV (fun hc=> ?_) (fun hc=> ?_)
  ·have dM:v < w:=by simp only [aY]at hc; omega
   try refine go ?_
   exact ai ⟨rfl,kZ (c:= -1) (.inl rfl) (qw (by omega))⟩
  ·have dM: ¬ v < w:=by simp only [bQ]at hc; omega
   try refine go ?_
   refine cV (fun uo=> ?_) (fun uo=> ?_)
   ·have u7:w < v:=by simp only [aY]at uo; omega
    try refine go ?_
    exact ai ⟨rfl,kZ (c:=1) (.inr rfl) (qw (by omega))⟩
   ·have u7: ¬ w < v:=by simp only [bQ]at uo; omega
    try refine go ?_
    exact bf m (by omega) rfl ⟨rfl,by omega,pO (by omega) FP,_,hw,rfl⟩
theorem Kq {s:St}{V W:List Nat}{E:Env}{o1 k1 c1:Nat}{Cx:Bool}{z2:Nat}{L2:List D}(hd:Ws s (.sl o1 0 k1 c1) V)(he:Ws s (.vs Cx z2 L2) W)(hV:V.length<=aL)(hW:W.length<=aL)(hl:V.length≠W.length):eH T H og [] ⟨(1,.vs Cx z2 L2)::(0,.sl o1 0 k1 c1)::E,[]⟩ s (QF qS.1.results fun d s1=>s1=s/\oS V W d):=by
 have lZ:aL=2147483648:=rfl;have ul:=cQ V;have WU:=cQ W;have hn:∀i:Nat,i<=2147483648->IntKind.wrap .i64 ((i:Int) - 1)=(i:Int) - 1:=fun i hi=>wrap_small (by omega) (by omega);have qV:∀i:Nat,i<=2147483648->IntKind.wrap .i64 (((i+1:Nat):Int) - 1 - 1)=(i:Int) - 1:=fun i hi=>by rw [wrap_small (by omega) (by omega)]; omega
 have cE:V≠W:=fun e=>hl (by rw [e]);have e1:=hd.pS; subst e1;have e2:=he.qa; subst e2;clear hd he hn qV;show eH T H (.seq _ _) [] _ _ _;by_cases dM:V.length < W.length
 ·try refine go ?_
  exact ai ⟨rfl,kZ (c:= -1) (.inl rfl) cE⟩
 ·try refine go ?_
  exact ai ⟨rfl,kZ (c:=1) (.inr rfl) cE⟩
theorem Je {s:St}{V W:List Nat}{E:Env}{o1 k1 c1:Nat}{o2 k2 c2:Nat}(hd:Ws s (.sl o1 0 k1 c1) V)(he:Ws s (.sl o2 0 k2 c2) W)(hV:V.length<=aL)(hW:W.length<=aL)(hl:V.length=W.length):eH T H og [] ⟨(1,.sl o2 0 k2 c2)::(0,.sl o1 0 k1 c1)::E,[]⟩ s (QF qS.1.results fun d s1=>s1=s/\oS V W d):=by
 have lZ:aL=2147483648:=rfl;have ul:=cQ V;have WU:=cQ W;have hn:∀i:Nat,i<=2147483648->IntKind.wrap .i64 ((i:Int) - 1)=(i:Int) - 1:=fun i hi=>wrap_small (by omega) (by omega);have qV:∀i:Nat,i<=2147483648->IntKind.wrap .i64 (((i+1:Nat):Int) - 1 - 1)=(i:Int) - 1:=fun i hi=>by rw [wrap_small (by omega) (by omega)]; omega
 have e1:=hd.pS; subst e1;have e2:=he.pS; subst e2;show eH T H (.seq _ _) [] _ _ _;try refine go ?_
 refine cg (fun m env s' =>s' =s/\m<=V.length/\V.drop m=W.drop m/\∃i:Int,i=(m:Int) - 1/\env=[(0,.sl o1 0 V.length c1),(1,.sl o2 0 W.length c2),(5,.int .i64 i)]) V.length rfl ⟨rfl,aq _,by rw [dI (aq _),dI (by omega)],_, ?_,rfl⟩ ?_
 ·first | (rw [ul]; exact hn _ (by omega)) | exact hn _ (by omega)
 rintro m env s' ⟨rfl,hm,FP,i,rfl,rfl⟩;cases m with
 | zero=>
  try refine go ?_
  exact ai ⟨rfl,0,rfl,by omega,by simpa using FP⟩
 | succ m=>
  have hi:((m+1:Nat):Int) - 1=(m:Nat):=by omega
  have hw:=qV m (by omega);rw [hi]at hw ⊢;have h1:m < V.length:=by omega
  have h2:m < W.length:=by omega
  obtain⟨es,ga,ea,la⟩:=hd.Is h1;obtain⟨es2,gb,eb,lb⟩:=he.Is h2;have pO:=sD h1 h2;have qw:V[m]≠W[m]->V≠W:=fun cE e=>cE (by subst e; rfl);generalize V[m]=v at ea pO qw;generalize W[m]=w at eb pO qw;try refine go ?_
  refine cV (fun hc=> ?_) (fun hc=> ?_)
  ·have dM:v < w:=by simp only [aY]at hc; omega
   try refine go ?_
   exact ai ⟨rfl,kZ (c:= -1) (.inl rfl) (qw (by omega))⟩
  ·have dM: ¬ v < w:=by simp only [bQ]at hc; omega
   try refine go ?_
   refine cV (fun uo=> ?_) (fun uo=> ?_)
   ·have u7:w < v:=by simp only [aY]at uo; omega
    try refine go ?_
    exact ai ⟨rfl,kZ (c:=1) (.inr rfl) (qw (by omega))⟩
   ·have u7: ¬ w < v:=by simp only [bQ]at uo; omega
    try refine go ?_
    exact bf m (by omega) rfl ⟨rfl,by omega,pO (by omega) FP,_,hw,rfl⟩
theorem JQ {s:St}{V W:List Nat}{E:Env}{o1 k1 c1:Nat}{o2 k2 c2:Nat}(hd:Ws s (.sl o1 0 k1 c1) V)(he:Ws s (.sl o2 0 k2 c2) W)(hV:V.length<=aL)(hW:W.length<=aL)(hl:V.length≠W.length):eH T H og [] ⟨(1,.sl o2 0 k2 c2)::(0,.sl o1 0 k1 c1)::E,[]⟩ s (QF qS.1.results fun d s1=>s1=s/\oS V W d):=by
 have lZ:aL=2147483648:=rfl;have ul:=cQ V;have WU:=cQ W;have hn:∀i:Nat,i<=2147483648->IntKind.wrap .i64 ((i:Int) - 1)=(i:Int) - 1:=fun i hi=>wrap_small (by omega) (by omega);have qV:∀i:Nat,i<=2147483648->IntKind.wrap .i64 (((i+1:Nat):Int) - 1 - 1)=(i:Int) - 1:=fun i hi=>by rw [wrap_small (by omega) (by omega)]; omega
 have cE:V≠W:=fun e=>hl (by rw [e]);have e1:=hd.pS; subst e1;have e2:=he.pS; subst e2;clear hd he hn qV;show eH T H (.seq _ _) [] _ _ _;by_cases dM:V.length < W.length
 ·try refine go ?_
  exact ai ⟨rfl,kZ (c:= -1) (.inl rfl) cE⟩
 ·try refine go ?_
  exact ai ⟨rfl,kZ (c:=1) (.inr rfl) cE⟩
theorem LG {s:St}{a b:D}{V W:List Nat}{E:Env}(hd:Ws s a V)(he:Ws s b W)(hV:V.length<=aL)(hW:W.length<=aL):eH T H og [] ⟨(1,b)::(0,a)::E,[]⟩ s (QF qS.1.results fun d s1=>s1=s/\oS V W d):=by
 by_cases hl:V.length=W.length
 ·rcases hd.sh with ⟨Fe,z1,L1,rfl⟩ | ⟨o1,k1,c1,rfl⟩ <;> rcases he.sh with ⟨Cx,z2,L2,rfl⟩ | ⟨o2,k2,c2,rfl⟩
  ·exact IW hd he hV hW hl
  ·exact I8 hd he hV hW hl
  ·exact Kz hd he hV hW hl
  ·exact Je hd he hV hW hl
 ·rcases hd.sh with ⟨Fe,z1,L1,rfl⟩ | ⟨o1,k1,c1,rfl⟩ <;> rcases he.sh with ⟨Cx,z2,L2,rfl⟩ | ⟨o2,k2,c2,rfl⟩
  ·exact JE hd he hV hW hl
  ·exact Ja hd he hV hW hl
  ·exact Kq hd he hV hW hl
  ·exact JQ hd he hV hW hl
theorem G3 (hT:TW T)(K9:TV T){s:St}{x y:D}{V W:List Nat}(hx:Ws s x V)(hy:Ws s y W)(hV:V.length<=aL)(hW:W.length<=aL):cu T H 160 [x,y] s fun d s1=>s1=s/\oS (bU V) (bU W) d:=by
 have lZ:aL=2147483648:=rfl;have LA:maxLen=9223372036854775807:=by decide
 have Eb:=pE (H:=H) hT hx (by omega);have qY:=pE (H:=H) hT hy (by omega);have l1:=j6 V;have l2:=j6 W;have key:∀ {x y:D},((∃nl z L,x= .vs nl z L)\/∃o l c,x= .sl o 0 l c)->((∃nl z L,y= .vs nl z L)\/∃o l c,y= .sl o 0 l c)->cu T H 150 [x] s (fun d s1=>s1=s/\Ws s d (bU V))->cu T H 150 [y] s (fun d s1=>s1=s/\Ws s d (bU W))->cu T H 160 [x,y] s fun d s1=>s1=s/\oS (bU V) (bU W) d:=by
  clear Eb qY hx hy;intro x y RO Yd Eb qY;rcases RO with ⟨nl,z,L,rfl⟩ | ⟨o,l,c,rfl⟩ <;> rcases Yd with ⟨nl',z',L',rfl⟩ | ⟨o',l',c',rfl⟩
  all_goals
   refine ax K9.t160 ?_;try refine go ?_
   refine ak Eb ?_;rintro d s1 ⟨rfl,hd⟩;rcases hd.sh with ⟨Fe,z1,L1,rfl⟩ | ⟨o1,k1,c1,rfl⟩
   all_goals
    try refine go ?_
    refine ak qY ?_;rintro d s2 ⟨rfl,he⟩;rcases he.sh with ⟨Cx,z2,L2,rfl⟩ | ⟨o2,k2,c2,rfl⟩
    all_goals
     refine iV ?_;refine iV ?_;refine B2 ?_;refine xF ?_;exact LG hd he (by omega) (by omega)
 exact key hx.sh hy.sh Eb qY
end
section
variable {T:Nat->Option dU}{H:ay}
def ShW (x:D):Prop:=(∃nl z L,x= .vs nl z L)\/∃o l c,x= .sl o 0 l c
theorem qD.sh {s:St}{d:D}{n:Bool×List Nat}(h:qD s d n):∃y,d= .agg [.bool n.1,y]/\ShW y:=by
 obtain⟨y,e,hy⟩:=h;exact⟨y,e,hy.sh⟩
theorem oS.out {V W:List Nat}{d:D}(h:oS V W d):∃c:Int,d= .int .i64 c/\(c= -1\/c=0\/c=1)/\(c=0↔V=W):=h
theorem wE (n:Bool×List Nat):qj n=0\/qj n= -1\/qj n=1:=by
 unfold qj; split
 ·exact .inl rfl
 ·split
  ·exact .inr (.inl rfl)
  ·exact .inr (.inr rfl)
theorem xA (n:Bool×List Nat):qj n=0->bU n.2=[]:=by
 unfold qj;split
 ·exact fun _=>by assumption
 ·split <;> (intro h; omega)
theorem LX {n m:Bool×List Nat}:eh n.1 n.2=eh m.1 m.2↔qj n=qj m/\bU n.2=bU m.2:=by
 obtain⟨a,V⟩:=n;obtain⟨b,W⟩:=m;unfold eh qj;simp only;cases hV:bU V <;> cases hW:bU W <;> cases a <;> cases b <;> simp
theorem FO (hT:TW T)(K9:TV T){s:St}{d e:D}{n m:Bool×List Nat}(hs:s.Ok)(hx:qD s d n)(hy:qD s e m)(hn:n.2.length<=aL)(hm:m.2.length<=aL):
  cu T H 98 [d,e] s fun r s1=>s1=s/\∃c:Int,r= .int .i64 c/\(c=0↔eh n.1 n.2=eh m.1 m.2):=by
 have lZ:aL=2147483648:=rfl;have LA:maxLen=9223372036854775807:=by decide
 have h1:=IF (H:=H) hT K9 hs hx (by omega);have h2:=IF (H:=H) hT K9 hs hy (by omega);obtain⟨x,rfl,yQ⟩:=hx;obtain⟨y,rfl,JD⟩:=hy;have h3:=G3 (H:=H) hT K9 yQ JD hn hm;have q1:=wE n;have q2:=wE m;rw [LX];have z1:=xA n;have z2:=xA m;generalize qj n=a at h1 q1 z1 ⊢;generalize qj m=b at h2 q2 z2 ⊢;have z3:∀ {c:Int},a=b->(c=0↔bU n.2=bU m.2)->(a * c=0↔a=b/\bU n.2=bU m.2):=by
  intro c ZU hc;subst ZU;rw [Int.mul_eq_zero,hc];constructor
  ·rintro (h | h)
   ·exact⟨rfl,by rw [z1 h,z2 h]⟩
   ·exact⟨rfl,h⟩
  ·exact fun h=> .inr h.2
 clear z1 z2
 have key:∀ {x y:D},ShW x->ShW y->cu T H 159 [.agg [.bool n.1,x]] s (fun d s1=>s1=s/\d= .int .i64 a)->cu T H 159 [.agg [.bool m.1,y]] s (fun d s1=>s1=s/\d= .int .i64 b)->cu T H 160 [x,y] s (fun d s1=>s1=s/\oS (bU n.2) (bU m.2) d)->
   cu T H 98 [.agg [.bool n.1,x],.agg [.bool m.1,y]] s fun r s1=>s1=s/\∃c:Int,r= .int .i64 c/\(c=0↔a=b/\bU n.2=bU m.2):=by
  clear h1 h2 h3 yQ JD;intro x y RO Yd h1 h2 h3;rcases RO with ⟨nl,z,L,rfl⟩ | ⟨o,l,c,rfl⟩ <;> rcases Yd with ⟨nl',z',L',rfl⟩ | ⟨o',l',c',rfl⟩
  all_goals
   refine ax K9.t98 ?_;try refine go ?_
   refine aX h1 ?_;rintro d s1 ⟨rfl,rfl⟩;refine⟨rfl,by rfl, ?_⟩;try refine go ?_
   refine aX h2 ?_;rintro d s1 ⟨rfl,rfl⟩;refine⟨rfl,by rfl, ?_⟩;try refine go ?_
   refine cV (fun hc=> ?_) (fun hc=> ?_)
   ·have dM:a < b:=by simpa using hc
    try refine go ?_
    exact ai ⟨rfl, -1,rfl,by omega⟩
   ·have dM: ¬ a < b:=by simpa using hc
    try refine go ?_
    refine cV (fun hc=> ?_) (fun hc=> ?_)
    ·have u7:b < a:=by simpa using hc
     try refine go ?_
     exact ai ⟨rfl,1,rfl,by omega⟩
    ·have u7: ¬ b < a:=by simpa using hc
     have ZU:a=b:=by omega
     try refine go ?_
     refine ak h3 ?_;rintro d s1 ⟨rfl,c,rfl,zk,uo⟩;have hw:IntKind.wrap .i64 (a * c)=a * c:=by
      rcases q1 with rfl | rfl | rfl <;> rcases zk with rfl | rfl | rfl <;> decide
     try refine go ?_
     refine ai ⟨rfl,_,rfl, ?_⟩;rw [hw];exact z3 ZU uo
 exact key yQ.sh JD.sh h1 h2 h3
theorem Po (hT:TW T)(K9:TV T){s:St}{v:Int}(hv:v=0\/v=1\/v= -7):cu T H 51 [.int .i64 v] s fun d s1=>s1=s/\qD s d (if v=0 then (false,[]) else if v=1 then (false,[1]) else (true,[7])):=by
 have key:∀ng:Bool,∀V:List Nat,V.length<=maxLen->cu T H 89 [.bool ng,.vs false 1 (dz V)] s fun d s1=>s1=s/\qD s d (eh ng V):=fun ng V h=>yB hT (.vs false V (fun h=>by cases h)) h;rcases hv with rfl | rfl | rfl
 ·refine ax K9.t51 ?_;try refine go ?_
  refine ak (x:=[.bool false,.vs false 1 (dz [0,0])]) (key false [0,0] (by decide)) ?_;rintro d s1 ⟨rfl,y,rfl,hy⟩;rcases hy.sh with ⟨nl,z,L,rfl⟩ | ⟨o,l,c,rfl⟩
  all_goals
   try refine go ?_
   exact ai ⟨rfl,_,rfl,hy⟩
 ·refine ax K9.t51 ?_;try refine go ?_
  refine ak (x:=[.bool false,.vs false 1 (dz [1,0])]) (key false [1,0] (by decide)) ?_;rintro d s1 ⟨rfl,y,rfl,hy⟩;rcases hy.sh with ⟨nl,z,L,rfl⟩ | ⟨o,l,c,rfl⟩
  all_goals
   try refine go ?_
   exact ai ⟨rfl,_,rfl,hy⟩
 ·refine ax K9.t51 ?_;try refine go ?_
  refine ak (x:=[.bool true,.vs false 1 (dz [7,0])]) (key true [7,0] (by decide)) ?_;rintro d s1 ⟨rfl,y,rfl,hy⟩;rcases hy.sh with ⟨nl,z,L,rfl⟩ | ⟨o,l,c,rfl⟩
  all_goals
   try refine go ?_
   exact ai ⟨rfl,_,rfl,hy⟩
end
section
variable {T:Nat->Option dU}{H Y:ay}
theorem P6 (hW:TW T)(hV:TV T){s:St}{o n cp:Nat}{V:List Nat}(hs:s.Ok)(hx:Ws s (.sl o 0 n cp) V)(hl:V.length<=100000000):
  cu T H 86 [.agg [.bool false,.sl o 0 n cp],.int .i64 2305843009213693951] s fun d s1=>(∃r:Int,d= .gK [.int .i64 r,.int .i64 0])/\aF Nil s s1:=by
 refine ax hV.t86 ?_;try refine go ?_
 have kO:aF Nil s (((s.bz (.var 3 (.int .i64 2305843009213693951))).bz (.var 188 (.int .u64 0))).bF (s.bz (.var 3 (.int .i64 2305843009213693951))).n (.var 188 (.int .u64 0))):=
  aF.set (W:=Nil) (aF.push (aF.push (aF.refl hs) _) _) _ (by simp only [St.dV]; omega) (fun h=>by simp only [St.dV]at h; omega)
 have g3:(((s.bz (.var 3 (.int .i64 2305843009213693951))).bz (.var 188 (.int .u64 0))).bF (s.bz (.var 3 (.int .i64 2305843009213693951))).n (.var 188 (.int .u64 0))).get s.n=some (.var 3 (.int .i64 2305843009213693951)):=St.eS (St.fV St.bu (by simp only [St.dV]; omega)) (by simp only [St.dV]; omega);have g6:(((s.bz (.var 3 (.int .i64 2305843009213693951))).bz (.var 188 (.int .u64 0))).bF (s.bz (.var 3 (.int .i64 2305843009213693951))).n (.var 188 (.int .u64 0))).get (s.bz (.var 3 (.int .i64 2305843009213693951))).n=some (.var 188 (.int .u64 0)):=St.aO;have zA:(s.bz (.var 3 (.int .i64 2305843009213693951))).n=s.n+1:=rfl;generalize uL:((s.bz (.var 3 (.int .i64 2305843009213693951))).bz (.var 188 (.int .u64 0))).bF (s.bz (.var 3 (.int .i64 2305843009213693951))).n (.var 188 (.int .u64 0))=s1 at *;simp only [zA]at *;have ok1:=kO.ok;have vR:=hx.dK hs kO (fun _ _ _ _ h=>h)
 refine ak (pE hW vR (by have:maxLen=9223372036854775807:=by decide
                         omega)) ?_
 rintro d s2 ⟨rfl,hd⟩;rcases hd.sh with ⟨nl,z,L,rfl⟩ | ⟨o2,l2,c2,rfl⟩
 ·try refine go ?_
  refine ak (wC hV ok1) ?_;rintro d s3 ⟨rfl,rfl⟩;have jK:aF (fun _=>False) s2 (s2.bz (.var 44 (.vs nl z L))):=aF.push (aF.refl ok1) _;have H2:=hd.dK ok1 jK (fun _ _ _ _ h=>h);try refine go ?_
  refine uC (b3:=s.n) (b6:=s.n+1) hV jK.ok H2 (cU (j6 V) hl) (jK.get ok1 g3 (fun h=>h)) (jK.get ok1 g6 (fun h=>h)) ⟨by omega,by omega⟩ St.bu rfl rfl ?_;intro s4 r hr g64 b4;try refine go ?_
  exact ai ⟨⟨_,rfl⟩,kO.trans' ((jK.mono (W' :=fun j=>j=s.n+1) fun j hj=>hj.elim).trans b4) (by rintro j rfl hj; omega)⟩
 ·try refine go ?_
  refine ak (rp hV ok1) ?_;rintro d s3 ⟨rfl,rfl⟩;have jK:aF (fun _=>False) s2 (s2.bz (.var 44 (.sl o2 0 l2 c2))):=aF.push (aF.refl ok1) _;have H2:=hd.dK ok1 jK (fun _ _ _ _ h=>h);try refine go ?_
  refine uC (b3:=s.n) (b6:=s.n+1) hV jK.ok H2 (cU (j6 V) hl) (jK.get ok1 g3 (fun h=>h)) (jK.get ok1 g6 (fun h=>h)) ⟨by omega,by omega⟩ St.bu rfl rfl ?_;intro s4 r hr g64 b4;try refine go ?_
  exact ai ⟨⟨_,rfl⟩,kO.trans' ((jK.mono (W' :=fun j=>j=s.n+1) fun j hj=>hj.elim).trans b4) (by rintro j rfl hj; omega)⟩
theorem Q6 (hW:TW T)(hV:TV T){s:St}{Yy:Bool}{z0:Nat}{L0:List D}{V:List Nat}(hs:s.Ok)(hx:Ws s (.vs Yy z0 L0) V)(hl:V.length<=100000000):
  cu T H 86 [.agg [.bool false,.vs Yy z0 L0],.int .i64 2305843009213693951] s fun d s1=>(∃r:Int,d= .gK [.int .i64 r,.int .i64 0])/\aF Nil s s1:=by
 refine ax hV.t86 ?_;try refine go ?_
 have kO:aF Nil s (((s.bz (.var 3 (.int .i64 2305843009213693951))).bz (.var 188 (.int .u64 0))).bF (s.bz (.var 3 (.int .i64 2305843009213693951))).n (.var 188 (.int .u64 0))):=
  aF.set (W:=Nil) (aF.push (aF.push (aF.refl hs) _) _) _ (by simp only [St.dV]; omega) (fun h=>by simp only [St.dV]at h; omega)
 have g3:(((s.bz (.var 3 (.int .i64 2305843009213693951))).bz (.var 188 (.int .u64 0))).bF (s.bz (.var 3 (.int .i64 2305843009213693951))).n (.var 188 (.int .u64 0))).get s.n=some (.var 3 (.int .i64 2305843009213693951)):=St.eS (St.fV St.bu (by simp only [St.dV]; omega)) (by simp only [St.dV]; omega);have g6:(((s.bz (.var 3 (.int .i64 2305843009213693951))).bz (.var 188 (.int .u64 0))).bF (s.bz (.var 3 (.int .i64 2305843009213693951))).n (.var 188 (.int .u64 0))).get (s.bz (.var 3 (.int .i64 2305843009213693951))).n=some (.var 188 (.int .u64 0)):=St.aO;have zA:(s.bz (.var 3 (.int .i64 2305843009213693951))).n=s.n+1:=rfl;generalize uL:((s.bz (.var 3 (.int .i64 2305843009213693951))).bz (.var 188 (.int .u64 0))).bF (s.bz (.var 3 (.int .i64 2305843009213693951))).n (.var 188 (.int .u64 0))=s1 at *;simp only [zA]at *;have ok1:=kO.ok;have vR:=hx.dK hs kO (fun _ _ _ _ h=>h)
 refine ak (pE hW vR (by have:maxLen=9223372036854775807:=by decide
                         omega)) ?_
 rintro d s2 ⟨rfl,hd⟩;rcases hd.sh with ⟨nl,z,L,rfl⟩ | ⟨o2,l2,c2,rfl⟩
 ·try refine go ?_
  refine ak (wC hV ok1) ?_;rintro d s3 ⟨rfl,rfl⟩;have jK:aF (fun _=>False) s2 (s2.bz (.var 44 (.vs nl z L))):=aF.push (aF.refl ok1) _;have H2:=hd.dK ok1 jK (fun _ _ _ _ h=>h);try refine go ?_
  refine uC (b3:=s.n) (b6:=s.n+1) hV jK.ok H2 (cU (j6 V) hl) (jK.get ok1 g3 (fun h=>h)) (jK.get ok1 g6 (fun h=>h)) ⟨by omega,by omega⟩ St.bu rfl rfl ?_;intro s4 r hr g64 b4;try refine go ?_
  exact ai ⟨⟨_,rfl⟩,kO.trans' ((jK.mono (W' :=fun j=>j=s.n+1) fun j hj=>hj.elim).trans b4) (by rintro j rfl hj; omega)⟩
 ·try refine go ?_
  refine ak (rp hV ok1) ?_;rintro d s3 ⟨rfl,rfl⟩;have jK:aF (fun _=>False) s2 (s2.bz (.var 44 (.sl o2 0 l2 c2))):=aF.push (aF.refl ok1) _;have H2:=hd.dK ok1 jK (fun _ _ _ _ h=>h);try refine go ?_
  refine uC (b3:=s.n) (b6:=s.n+1) hV jK.ok H2 (cU (j6 V) hl) (jK.get ok1 g3 (fun h=>h)) (jK.get ok1 g6 (fun h=>h)) ⟨by omega,by omega⟩ St.bu rfl rfl ?_;intro s4 r hr g64 b4;try refine go ?_
  exact ai ⟨⟨_,rfl⟩,kO.trans' ((jK.mono (W' :=fun j=>j=s.n+1) fun j hj=>hj.elim).trans b4) (by rintro j rfl hj; omega)⟩
theorem KQ (hW:TW T)(hV:TV T){s:St}{o n cp:Nat}{V:List Nat}{neg:Bool}(hs:s.Ok)(hx:Ws s (.sl o 0 n cp) V)(hl:V.length<=100000000):
  cu T H 48 [.agg [.bool neg,.sl o 0 n cp]] s fun d s1=>iy d/\aF Nil s s1:=by
 have hr:=P6 (H:=H) hW hV hs hx hl;refine ax hV.t48 ?_;try refine go ?_
 refine ak hr ?_;rintro d s1 ⟨⟨r,rfl⟩,b1⟩;have ok1:=b1.ok;cases neg
 ·try refine go ?_
  refine ak (oC hV ok1) ?_;rintro d s2 ⟨rfl,g2,b2⟩;try refine go ?_
  refine ak (qk hV g2) ?_;rintro d s3 ⟨⟨h,rfl⟩,rfl⟩;try refine go ?_
  exact ai ⟨⟨_,rfl⟩,b1.trans b2⟩
 ·try refine go ?_
  refine ak (oC hV ok1) ?_;rintro d s2 ⟨rfl,g2,b2⟩;try refine go ?_
  refine ak (qk hV g2) ?_;rintro d s3 ⟨⟨h,rfl⟩,rfl⟩;try refine go ?_
  exact ai ⟨⟨_,rfl⟩,b1.trans b2⟩
theorem Jz (hW:TW T)(hV:TV T){s:St}{Yy:Bool}{z0:Nat}{L0:List D}{V:List Nat}{neg:Bool}(hs:s.Ok)(hx:Ws s (.vs Yy z0 L0) V)(hl:V.length<=100000000):
  cu T H 48 [.agg [.bool neg,.vs Yy z0 L0]] s fun d s1=>iy d/\aF Nil s s1:=by
 have hr:=Q6 (H:=H) hW hV hs hx hl;refine ax hV.t48 ?_;try refine go ?_
 refine ak hr ?_;rintro d s1 ⟨⟨r,rfl⟩,b1⟩;have ok1:=b1.ok;cases neg
 ·try refine go ?_
  refine ak (oC hV ok1) ?_;rintro d s2 ⟨rfl,g2,b2⟩;try refine go ?_
  refine ak (qk hV g2) ?_;rintro d s3 ⟨⟨h,rfl⟩,rfl⟩;try refine go ?_
  exact ai ⟨⟨_,rfl⟩,b1.trans b2⟩
 ·try refine go ?_
  refine ak (oC hV ok1) ?_;rintro d s2 ⟨rfl,g2,b2⟩;try refine go ?_
  refine ak (qk hV g2) ?_;rintro d s3 ⟨⟨h,rfl⟩,rfl⟩;try refine go ?_
  exact ai ⟨⟨_,rfl⟩,b1.trans b2⟩
end
structure Bd (s:St)(bx:Nat)(y:D)(m:List UInt8):Prop where
 gb:∃a,(a= .cz\/a= .ptr bx 0)/\s.get bx=some (.var 355 (.agg [a,y]))
 hy:(y= .vs true 0 []/\m=[])\/(m≠ []/\∃o,y= .sl o 0 m.length m.length/\s.get o=some (.arr 1 5 (m.map fun c=> .int .u8 c.toNat) 0))
abbrev R3 (bx:Nat)(y:D):Nat->Prop:=fun j=>j=bx\/∃l c,y= .sl j 0 l c
theorem Bd.dK {W:Nat->Prop}{s s1:St}{bx:Nat}{y:D}{m:List UInt8}(h:Bd s bx y m)(hs:s.Ok)(hb:aF W s s1)(h1: ¬ W bx)(h2:∀o l c,y= .sl o 0 l c-> ¬ W o):Bd s1 bx y m:=by
 obtain⟨⟨a,ha,hg⟩,hy⟩:=h;refine⟨⟨a,ha,hb.get hs hg h1⟩, ?_⟩;rcases hy with hy | ⟨h3,o,h4,h5⟩
 ·exact .inl hy
 ·exact .inr ⟨h3,o,h4,hb.get hs h5 (h2 o _ _ h4)⟩
section
variable {T:Nat->Option dU}{H:ay}{b:Nat}{k:List iT}{l:List bg}{s:St}{Q:QP}{t:Nat}{e:Env}{ds:List (D×List D)}{g:Option (Nat×Bool)}
theorem OA {x:bP}{o c ty:Nat}{v:D}(h:gG T H b l k ⟨(t,.ptr o c)::e,ds⟩ s Q)(hw:aI e g=some true:=by rfl)(hx:x.ev e=some (.ptr o c):=by rfl)(hg:s.get o=some (.var ty v):=by exact gI)(hl:Nat.blt c v.flat.length=true:=by rfl):gG T H b (⟨some t,.DA x,g,none⟩::l) k ⟨e,ds⟩ s Q:=
 du h hw (by simp only [cC,hx,hg,hl])
theorem LK {x:bP}{o c ty:Nat}{v:D}{q:List (Nat×Nat×Nat)}(h:gG T H b l k ⟨(t,.ptr o c)::e,ds⟩ s Q)(hw:aI e g=some true:=by rfl)(hx:x.ev e=some (.ptr o c):=by rfl)(hg:s.get o=some (.var ty v):=by exact gI)(hl:AV ty c v.flat.length q=true:=by rfl):gG T H b (⟨some t,.upto q x,g,none⟩::l) k ⟨e,ds⟩ s Q:=
 du h hw (by simp only [cC,hx,hg,hl])
theorem FR {x y:bP}{o c ty:Nat}{v:D}{neg oc:Bool}(h:gG T H b l k ⟨(t,.bool (true !=neg))::e,ds⟩ s Q)(hw:aI e g=some true:=by rfl)(hx:x.ev e=some (.ptr o c):=by rfl)(hy:y.ev e=some (.ptr o c):=by rfl)(hg:s.get o=some (.var ty v):=by exact gI)(h0:th oc .ptr (.ptr o c) (.ptr o c)=none:=by rfl):gG T H b (⟨some t,.eq .ptr neg oc x y,g,none⟩::l) k ⟨e,ds⟩ s Q:=
 du h hw (by simp only [cC,hx,hy,h0,PI,hg,aA,fm])
theorem ui (hT:TX T){bx:Nat}{a y:D}(hs:s.Ok)(ha:a= .cz\/a= .ptr bx 0)(hg:s.get bx=some (.var 355 (.agg [a,y])))(hy:y.sc=true):
  cu T H 280 [.ptr bx 0] s fun d s1=>s1.get bx=some (.var 355 (.agg [.ptr bx 0,y]))/\aF (fun j=>j=bx) s s1:=by
 have l1:=hs.lt hg;refine ax hT.t280 ?_;rcases ha with rfl | rfl
 ·repeat' first | refine go ?_ | refine OA ?_ | refine LK ?_
  exact iu ⟨gI,bI⟩
 ·try refine go ?_
  refine FR ?_;try refine go ?_
  exact iu ⟨hg,aF.refl hs⟩
theorem sE (m:List UInt8):(m.map fun c=>D.int .u8 c.toNat).length=m.length:=aJ _
theorem Dq (m:List UInt8):eI 1 (m.map fun c=>D.int .u8 c.toNat)=true:=by
 induction m with
 | nil=>rfl
 | cons a r ih=>simp only [bG,eI,ih]; rfl
theorem Pb (hT:TX T){bx po tyo:Nat}{y:D}{m p:List UInt8}(hs:s.Ok)(h:Bd s bx y m)(hp:p≠ [])(hl:m.length+p.length<=4000000)(hpo:s.get po=some (.arr 1 tyo (p.map fun c=> .int .u8 c.toNat) 0))(npo:∀l c,y≠ .sl po 0 l c):
  cu T H 249 [.ptr bx 0,.sl po 0 p.length p.length] s fun _ s1=>∃y',Bd s1 bx y' (m++p)/\aF (R3 bx y) s s1/\∀o l c,y' = .sl o 0 l c->(y= .sl o 0 m.length m.length\/s.n<=o):=by
 obtain⟨⟨a,ha,hg⟩,hy⟩:=h;have l1:=hs.lt hg;have QV:0 < p.length:=dT.2 hp;have nbp:po≠bx:=by rintro rfl; rw [hg]at hpo; cases hpo
 have hit:∀s1:St,s1.get po=some (.arr 1 tyo (p.map fun c=> .int .u8 c.toNat) 0)->items s1 (.sl po 0 p.length p.length)=some (1,p.map fun c=> .int .u8 c.toNat):=fun s1 hq=>by
  have e1:Nat.ble (0+p.length) (p.map fun c=>D.int .u8 c.toNat).length=true:=au (by rw [sE]; omega);have e2:Nat.ble 0 (0+p.length)=true:=au (aS _);simp only [items,hq,e1,e2,gz];rw [eX (by rw [sE]; exact aq _)]
 have cE:(p.map fun c=>D.int .u8 c.toNat)≠ []:=by simpa using hp
 have I3:=sE p;refine ax hT.t249 ?_;rcases hy with ⟨rfl,rfl⟩ | ⟨hm,o,rfl,ho⟩
 ·try refine go ?_
  refine ak (ui hT hs ha hg rfl) ?_;rintro d s1 ⟨q1,q2⟩;have q3:=q2.ok;have l2:=q3.lt q1;have VQ:=q2.get hs hpo nbp;try refine go ?_
  refine EA (hit s1 VQ) rfl cE (Dq p) (by rw [I3]; simp only [aL]; omega) ?_;rw [I3];try refine go ?_
  have q5:=q2.n;refine ai ⟨.sl s1.n 0 p.length p.length,⟨⟨_,.inr rfl,St.aO⟩,.inr ⟨hp,s1.n,rfl,gI⟩⟩, ?_, ?_⟩
  ·refine (q2.mono fun j hj=> .inl hj).trans' (W' :=fun j=>j=bx) ?_ fun j hj _=> .inl hj;exact aF.set (aF.push (aF.refl q3) _) _ (by rw [St.dV]; omega) (fun _=>rfl)
  ·intro o l c e;simp only [D.sl.injEq]at e;exact .inr (by omega)
 ·have vf:=sE m;try refine go ?_
  refine ak (ui hT hs ha hg rfl) ?_;rintro d s1 ⟨q1,q2⟩;have q3:=q2.ok;have l2:=q3.lt q1;have ne:o≠bx:=by rintro rfl; rw [hg]at ho; cases ho
  have q4:=q2.get hs ho ne;have l3:=q3.lt q4;have VQ:=q2.get hs hpo nbp;try refine go ?_
  refine uf (hit s1 VQ) rfl cE (Dq p) (by rw [I3]; simp only [aL]; omega) ?_ (o:=o) (off:=0) (len:=m.length) (cp:=m.length) (es:=m.map fun c=> .int .u8 c.toNat) (he:=by rw [vf]; omega);rw [I3];try refine go ?_
  refine ai ⟨.sl o 0 (m.length+p.length) (m.length+p.length),⟨⟨_,.inr rfl,St.aO⟩,.inr ⟨by simp [hp],o,by rw [aG], ?_⟩⟩, ?_, ?_⟩
  ·rw [jb];exact gI
  ·refine (q2.mono fun j hj=> .inl hj).trans' (W' :=fun j=>j=bx\/j=o) ?_ fun j hj _=>(by rcases hj with rfl | rfl; exact .inl rfl; exact .inr ⟨_,_,rfl⟩);exact aF.set (aF.set (aF.refl q3) _ l3 (fun _=> .inr rfl)) _ (by rw [St.fE]; omega) (fun _=> .inl rfl)
  ·intro o' l c e;simp only [D.sl.injEq]at e;exact .inl (by rw [e.1])
theorem DY {kk:Nat}{l:List (bg×List Nat)}{acc:List Fp}{x:bP}{o off len cp sz ty st:Nat}{es:List D}(h:fU T H b kk l (acc++ [cF b e ⟨some t,.qy x,g,none⟩]) k ⟨(t,.jI o off 0 (off+cp))::e,ds⟩ s Q)(hg:s.get o=some (.arr sz ty es st))(hp:0 < cp)(hw:aI e g=some true:=by rfl)(hx:x.ev e=some (.sl o off len cp):=by rfl)(kz:Env.cY e (some t)=false:=by rfl):fU T H b kk ((⟨some t,.qy x,g,none⟩,[])::l) acc k ⟨e,ds⟩ s Q:=by
 have e1:Nat.blt 0 cp=true:=au hp;exact fj rfl kz (kI rfl) h hw (by simp only [cC,hx,hg,e1]) rfl
theorem KT {kk:Nat}{l:List (bg×List Nat)}{acc:List Fp}{x y:bP}{o en ty st n:Nat}{es:List D}{m:List UInt8}(h:fU T H b kk l (acc++ [cF b e ⟨some t,.BG ty x y,g,none⟩]) k ⟨(t,.str m)::e,ds⟩ (s.bF o .dead) Q)(hs:s.Ok)(hg:s.get o=some (.arr 1 ty es st))(hn:0 < n)(qV:n<=aL)(h1:n<=en)(h2:en<=es.length)(h3:st<=en)(hm:bytesOf ((es.drop 0).take n)=some m)(hw:aI e g=some true:=by rfl)(hx:x.ev e=some (.jI o 0 0 en):=by rfl)(hy:y.ev e=some (.int .i64 (Nat.cast n)):=by rfl)(kz:Env.cY e (some t)=false:=by rfl):fU T H b kk ((⟨some t,.BG ty x y,g,none⟩,[])::l) acc k ⟨e,ds⟩ s Q:=by
 have e1:Nat.ble n aL=true:=au qV;have e2:Nat.ble (0+n) en=true:=au (by omega);have e3:Nat.ble en es.length=true:=au h2;have e4:Nat.ble st en=true:=au h3;have e5:=eJ ((0:Int) < (n:Int));refine fj rfl kz (kI rfl) h hw ?_ rfl;simp only [cC,hx,hy,hg,aA,fm,decide_true,cZ,e1,e2,e3,e4,e5,hm,hs.set,oK]
theorem wH:∀m:List UInt8,bytesOf (m.map fun c=> .int .u8 c.toNat)=some m
 | []=>rfl
 | c::m=>by
  simp only [bG,bytesOf,wH m];simp
theorem Jn (hT:TX T){bx:Nat}{y:D}{m:List UInt8}(hs:s.Ok)(h:Bd s bx y m)(hl:m.length<=4000000):
  cu T H 251 [.ptr bx 0] s fun d s1=>d= .str m/\aF (R3 bx y) s s1:=by
 obtain⟨⟨a,ha,hg⟩,hy⟩:=h;refine ax hT.t251 ?_;rcases hy with ⟨rfl,rfl⟩ | ⟨hm,o,rfl,ho⟩
 ·try refine go ?_
  exact ai ⟨rfl,aF.refl hs⟩
 ·have vf:(m.map fun c=>D.int .u8 c.toNat).length=m.length:=aJ _;have hm0:0 < m.length:=dT.2 hm;have lo:=hs.lt ho;try refine go ?_
  refine DY ?_ ho hm0;try refine go ?_
  refine KT (en:=0+m.length) (n:=m.length) (m:=m) ?_ hs ho hm0 (by simp only [aL]; omega) (by omega) (by omega) (by omega) (by rw [gz,eX (by omega)]; exact wH m);try refine go ?_
  exact ai ⟨rfl,aF.set (aF.refl hs) _ lo (fun _=> .inr ⟨_,_,rfl⟩)⟩
end
end Go.Proofs.Tab
