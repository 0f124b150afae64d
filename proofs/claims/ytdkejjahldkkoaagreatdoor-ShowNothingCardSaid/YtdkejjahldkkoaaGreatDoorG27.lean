/- Part. -/
import Derived.Test.YtdkejjahldkkoaaGreatDoorG26
set_option linter.unusedSectionVars false
set_option maxRecDepth 100000
set_option maxHeartbeats 2000000
set_option linter.unusedSimpArgs false
set_option linter.unusedVariables false
namespace Go.Proofs.Tab
open Go Go.Ab Go.Ab.Sm
section
variable {T:Nat->Option dS}{H:au}
theorem Ws.Im {s:St}{o l c i:Nat}{V:List Nat}(h:Ws s (.sl o 0 l c) V)(hi:i < V.length):∃es,s.get o=some (.arr 1 263 es 0)/\es[0+i]? =some (.int .u32 (V[i]:Nat))/\V.length<=es.length:=by
 cases h with
 | sl o cp V R hg hc=>exact ⟨_,hg,by simp [hi,nG],by simp⟩
theorem pG {V:List Nat}{i:Nat}(hi:i < V.length):(dz V)[i]? =some (.int .u32 (V[i]:Nat)):=by simp [hi]
theorem Ws.HS {s:St}{nl:Bool}{z:Nat}{L:List D}{V:List Nat}(h:Ws s (.vs nl z L) V)(hp:0 < V.length):z=1:=by
 cases h
 ·rfl
 ·simp at hp
def oZ (V W:List Nat)(d:D):Prop:=∃c:Int,d= .int .i64 c/\(c= -1\/c=0\/c=1)/\(c=0↔V=W)
theorem kW {V W:List Nat}{c:Int}(hc:c= -1\/c=1)(h:V≠W):oZ V W (.int .i64 c):=⟨c,rfl,by omega,by constructor <;> intro h'; omega; exact absurd h' h⟩
theorem sE {V W:List Nat}{m:Nat}(h1:m < V.length)(h2:m < W.length)(e:V[m]=W[m])(h:V.drop (m+1)=W.drop (m+1)):V.drop m=W.drop m:=by
 rw [fB h1,fB h2,e,h]
noncomputable def ow:AC:=match ri.1.body with
 | .seq _ (.seq _ r)=>r
 | _=> .skip
theorem Jg {s:St}{V W:List Nat}{E:Env}{Fw:Bool}{z1:Nat}{L1:List D}{CM:Bool}{z2:Nat}{L2:List D}(hd:Ws s (.vs Fw z1 L1) V)(he:Ws s (.vs CM z2 L2) W)(hV:V.length<=aL)(hW:W.length<=aL)(hl:V.length=W.length):eI T H ow [] ⟨(1,.vs CM z2 L2)::(0,.vs Fw z1 L1)::E,[]⟩ s (QF ri.1.results fun d s1=>s1=s/\oZ V W d):=by
 have lW:aL=2147483648:=rfl;have ul:=cN V;have V5:=cN W;have hn:∀i:Nat,i<=2147483648->IntKind.wrap .i64 ((i:Int) - 1)=(i:Int) - 1:=fun i hi=>wrap_small (by omega) (by omega);have qX:∀i:Nat,i<=2147483648->IntKind.wrap .i64 (((i+1:Nat):Int) - 1 - 1)=(i:Int) - 1:=fun i hi=>by rw [wrap_small (by omega) (by omega)]; omega
 have e1:=hd.qb; subst e1;have XC:=hd.HS;have e2:=he.qb; subst e2;have Wt:=he.HS;show eI T H (.seq _ _) [] _ _ _;try refine go ?_
 refine cg (fun m env s' =>s' =s/\m<=V.length/\V.drop m=W.drop m/\∃i:Int,i=(m:Int) - 1/\env=[(0,.vs Fw z1 (dz V)),(1,.vs CM z2 (dz W)),(5,.int .i64 i)]) V.length rfl ⟨rfl,an _,by rw [dI (an _),dI (by omega)],_, ?_,rfl⟩ ?_
 ·first | (rw [ul]; exact hn _ (by omega)) | exact hn _ (by omega)
 rintro m env s' ⟨rfl,hm,Hd,i,rfl,rfl⟩;cases m with
 | zero=>
  try refine go ?_
  exact ai ⟨rfl,0,rfl,by omega,by simpa using Hd⟩
 | succ m=>
  have hi:((m+1:Nat):Int) - 1=(m:Nat):=by omega
  have hw:=qX m (by omega);rw [hi]at hw ⊢;have h1:m < V.length:=by omega
  have h2:m < W.length:=by omega
  have ea:=pG h1;have XC:=XC (by omega);subst XC;have eb:=pG h2;have Wt:=Wt (by omega);subst Wt;have pL:=sE h1 h2;have qO:V[m]≠W[m]->V≠W:=fun cC e=>cC (by subst e; rfl);generalize V[m]=v at ea pL qO;generalize W[m]=w at eb pL qO;try refine go ?_
  refine cY (fun hc=> ?_) (fun hc=> ?_)
  ·have dQ:v < w:=by simp only [aX]at hc; omega
   try refine go ?_
   exact ai ⟨rfl,kW (c:= -1) (.inl rfl) (qO (by omega))⟩
  ·have dQ: ¬ v < w:=by simp only [bF]at hc; omega
   try refine go ?_
   refine cY (fun qd=> ?_) (fun qd=> ?_)
   ·have vh:w < v:=by simp only [aX]at qd; omega
    try refine go ?_
    exact ai ⟨rfl,kW (c:=1) (.inr rfl) (qO (by omega))⟩
   ·have vh: ¬ w < v:=by simp only [bF]at qd; omega
    try refine go ?_
    exact bg m (by omega) rfl ⟨rfl,by omega,pL (by omega) Hd,_,hw,rfl⟩
theorem Jw {s:St}{V W:List Nat}{E:Env}{Fw:Bool}{z1:Nat}{L1:List D}{CM:Bool}{z2:Nat}{L2:List D}(hd:Ws s (.vs Fw z1 L1) V)(he:Ws s (.vs CM z2 L2) W)(hV:V.length<=aL)(hW:W.length<=aL)(hl:V.length≠W.length):eI T H ow [] ⟨(1,.vs CM z2 L2)::(0,.vs Fw z1 L1)::E,[]⟩ s (QF ri.1.results fun d s1=>s1=s/\oZ V W d):=by
 have lW:aL=2147483648:=rfl;have ul:=cN V;have V5:=cN W;have hn:∀i:Nat,i<=2147483648->IntKind.wrap .i64 ((i:Int) - 1)=(i:Int) - 1:=fun i hi=>wrap_small (by omega) (by omega);have qX:∀i:Nat,i<=2147483648->IntKind.wrap .i64 (((i+1:Nat):Int) - 1 - 1)=(i:Int) - 1:=fun i hi=>by rw [wrap_small (by omega) (by omega)]; omega
 have cC:V≠W:=fun e=>hl (by rw [e]);have e1:=hd.qb; subst e1;have e2:=he.qb; subst e2;clear hd he hn qX;show eI T H (.seq _ _) [] _ _ _;by_cases dQ:V.length < W.length
 ·try refine go ?_
  exact ai ⟨rfl,kW (c:= -1) (.inl rfl) cC⟩
 ·try refine go ?_
  exact ai ⟨rfl,kW (c:=1) (.inr rfl) cC⟩
theorem Ka {s:St}{V W:List Nat}{E:Env}{Fw:Bool}{z1:Nat}{L1:List D}{o2 k2 c2:Nat}(hd:Ws s (.vs Fw z1 L1) V)(he:Ws s (.sl o2 0 k2 c2) W)(hV:V.length<=aL)(hW:W.length<=aL)(hl:V.length=W.length):eI T H ow [] ⟨(1,.sl o2 0 k2 c2)::(0,.vs Fw z1 L1)::E,[]⟩ s (QF ri.1.results fun d s1=>s1=s/\oZ V W d):=by
 have lW:aL=2147483648:=rfl;have ul:=cN V;have V5:=cN W;have hn:∀i:Nat,i<=2147483648->IntKind.wrap .i64 ((i:Int) - 1)=(i:Int) - 1:=fun i hi=>wrap_small (by omega) (by omega);have qX:∀i:Nat,i<=2147483648->IntKind.wrap .i64 (((i+1:Nat):Int) - 1 - 1)=(i:Int) - 1:=fun i hi=>by rw [wrap_small (by omega) (by omega)]; omega
 have e1:=hd.qb; subst e1;have XC:=hd.HS;have e2:=he.pY; subst e2;show eI T H (.seq _ _) [] _ _ _;try refine go ?_
 refine cg (fun m env s' =>s' =s/\m<=V.length/\V.drop m=W.drop m/\∃i:Int,i=(m:Int) - 1/\env=[(0,.vs Fw z1 (dz V)),(1,.sl o2 0 W.length c2),(5,.int .i64 i)]) V.length rfl ⟨rfl,an _,by rw [dI (an _),dI (by omega)],_, ?_,rfl⟩ ?_
 ·first | (rw [ul]; exact hn _ (by omega)) | exact hn _ (by omega)
 rintro m env s' ⟨rfl,hm,Hd,i,rfl,rfl⟩;cases m with
 | zero=>
  try refine go ?_
  exact ai ⟨rfl,0,rfl,by omega,by simpa using Hd⟩
 | succ m=>
  have hi:((m+1:Nat):Int) - 1=(m:Nat):=by omega
  have hw:=qX m (by omega);rw [hi]at hw ⊢;have h1:m < V.length:=by omega
  have h2:m < W.length:=by omega
  have ea:=pG h1;have XC:=XC (by omega);subst XC;obtain⟨es2,gb,eb,lb⟩:=he.Im h2;have pL:=sE h1 h2;have qO:V[m]≠W[m]->V≠W:=fun cC e=>cC (by subst e; rfl);generalize V[m]=v at ea pL qO;generalize W[m]=w at eb pL qO;try refine go ?_
  refine cY (fun hc=> ?_) (fun hc=> ?_)
  ·have dQ:v < w:=by simp only [aX]at hc; omega
   try refine go ?_
   exact ai ⟨rfl,kW (c:= -1) (.inl rfl) (qO (by omega))⟩
  ·have dQ: ¬ v < w:=by simp only [bF]at hc; omega
   try refine go ?_
   refine cY (fun qd=> ?_) (fun qd=> ?_)
   ·have vh:w < v:=by simp only [aX]at qd; omega
    try refine go ?_
    exact ai ⟨rfl,kW (c:=1) (.inr rfl) (qO (by omega))⟩
   ·have vh: ¬ w < v:=by simp only [bF]at qd; omega
    try refine go ?_
    exact bg m (by omega) rfl ⟨rfl,by omega,pL (by omega) Hd,_,hw,rfl⟩
theorem KU {s:St}{V W:List Nat}{E:Env}{Fw:Bool}{z1:Nat}{L1:List D}{o2 k2 c2:Nat}(hd:Ws s (.vs Fw z1 L1) V)(he:Ws s (.sl o2 0 k2 c2) W)(hV:V.length<=aL)(hW:W.length<=aL)(hl:V.length≠W.length):eI T H ow [] ⟨(1,.sl o2 0 k2 c2)::(0,.vs Fw z1 L1)::E,[]⟩ s (QF ri.1.results fun d s1=>s1=s/\oZ V W d):=by
 have lW:aL=2147483648:=rfl;have ul:=cN V;have V5:=cN W;have hn:∀i:Nat,i<=2147483648->IntKind.wrap .i64 ((i:Int) - 1)=(i:Int) - 1:=fun i hi=>wrap_small (by omega) (by omega);have qX:∀i:Nat,i<=2147483648->IntKind.wrap .i64 (((i+1:Nat):Int) - 1 - 1)=(i:Int) - 1:=fun i hi=>by rw [wrap_small (by omega) (by omega)]; omega
 have cC:V≠W:=fun e=>hl (by rw [e]);have e1:=hd.qb; subst e1;have e2:=he.pY; subst e2;clear hd he hn qX;show eI T H (.seq _ _) [] _ _ _;by_cases dQ:V.length < W.length
 ·try refine go ?_
  exact ai ⟨rfl,kW (c:= -1) (.inl rfl) cC⟩
 ·try refine go ?_
  exact ai ⟨rfl,kW (c:=1) (.inr rfl) cC⟩
theorem KG {s:St}{V W:List Nat}{E:Env}{o1 k1 c1:Nat}{CM:Bool}{z2:Nat}{L2:List D}(hd:Ws s (.sl o1 0 k1 c1) V)(he:Ws s (.vs CM z2 L2) W)(hV:V.length<=aL)(hW:W.length<=aL)(hl:V.length=W.length):eI T H ow [] ⟨(1,.vs CM z2 L2)::(0,.sl o1 0 k1 c1)::E,[]⟩ s (QF ri.1.results fun d s1=>s1=s/\oZ V W d):=by
 have lW:aL=2147483648:=rfl;have ul:=cN V;have V5:=cN W;have hn:∀i:Nat,i<=2147483648->IntKind.wrap .i64 ((i:Int) - 1)=(i:Int) - 1:=fun i hi=>wrap_small (by omega) (by omega);have qX:∀i:Nat,i<=2147483648->IntKind.wrap .i64 (((i+1:Nat):Int) - 1 - 1)=(i:Int) - 1:=fun i hi=>by rw [wrap_small (by omega) (by omega)]; omega
 have e1:=hd.pY; subst e1;have e2:=he.qb; subst e2;have Wt:=he.HS;show eI T H (.seq _ _) [] _ _ _;try refine go ?_
 refine cg (fun m env s' =>s' =s/\m<=V.length/\V.drop m=W.drop m/\∃i:Int,i=(m:Int) - 1/\env=[(0,.sl o1 0 V.length c1),(1,.vs CM z2 (dz W)),(5,.int .i64 i)]) V.length rfl ⟨rfl,an _,by rw [dI (an _),dI (by omega)],_, ?_,rfl⟩ ?_
 ·first | (rw [ul]; exact hn _ (by omega)) | exact hn _ (by omega)
 rintro m env s' ⟨rfl,hm,Hd,i,rfl,rfl⟩;cases m with
 | zero=>
  try refine go ?_
  exact ai ⟨rfl,0,rfl,by omega,by simpa using Hd⟩
 | succ m=>
  have hi:((m+1:Nat):Int) - 1=(m:Nat):=by omega
  have hw:=qX m (by omega);rw [hi]at hw ⊢;have h1:m < V.length:=by omega
  have h2:m < W.length:=by omega
  obtain⟨es,ga,ea,la⟩:=hd.Im h1;have eb:=pG h2;have Wt:=Wt (by omega);subst Wt;have pL:=sE h1 h2;have qO:V[m]≠W[m]->V≠W:=fun cC e=>cC (by subst e; rfl);generalize V[m]=v at ea pL qO;generalize W[m]=w at eb pL qO;try refine go ?_
  refine cY (fun hc=> ?_) (fun hc=> ?_)
  ·have dQ:v < w:=by simp only [aX]at hc; omega
   try refine go ?_
   exact ai ⟨rfl,kW (c:= -1) (.inl rfl) (qO (by omega))⟩
  ·have dQ: ¬ v < w:=by simp only [bF]at hc; omega
   try refine go ?_
   refine cY (fun qd=> ?_) (fun qd=> ?_)
   ·have vh:w < v:=by simp only [aX]at qd; omega
    try refine go ?_
    exact ai ⟨rfl,kW (c:=1) (.inr rfl) (qO (by omega))⟩
   ·have vh: ¬ w < v:=by simp only [bF]at qd; omega
    try refine go ?_
    exact bg m (by omega) rfl ⟨rfl,by omega,pL (by omega) Hd,_,hw,rfl⟩
theorem Jz {s:St}{V W:List Nat}{E:Env}{o1 k1 c1:Nat}{CM:Bool}{z2:Nat}{L2:List D}(hd:Ws s (.sl o1 0 k1 c1) V)(he:Ws s (.vs CM z2 L2) W)(hV:V.length<=aL)(hW:W.length<=aL)(hl:V.length≠W.length):eI T H ow [] ⟨(1,.vs CM z2 L2)::(0,.sl o1 0 k1 c1)::E,[]⟩ s (QF ri.1.results fun d s1=>s1=s/\oZ V W d):=by
 have lW:aL=2147483648:=rfl;have ul:=cN V;have V5:=cN W;have hn:∀i:Nat,i<=2147483648->IntKind.wrap .i64 ((i:Int) - 1)=(i:Int) - 1:=fun i hi=>wrap_small (by omega) (by omega);have qX:∀i:Nat,i<=2147483648->IntKind.wrap .i64 (((i+1:Nat):Int) - 1 - 1)=(i:Int) - 1:=fun i hi=>by rw [wrap_small (by omega) (by omega)]; omega
 have cC:V≠W:=fun e=>hl (by rw [e]);have e1:=hd.pY; subst e1;have e2:=he.qb; subst e2;clear hd he hn qX;show eI T H (.seq _ _) [] _ _ _;by_cases dQ:V.length < W.length
 ·try refine go ?_
  exact ai ⟨rfl,kW (c:= -1) (.inl rfl) cC⟩
 ·try refine go ?_
  exact ai ⟨rfl,kW (c:=1) (.inr rfl) cC⟩
theorem KW {s:St}{V W:List Nat}{E:Env}{o1 k1 c1:Nat}{o2 k2 c2:Nat}(hd:Ws s (.sl o1 0 k1 c1) V)(he:Ws s (.sl o2 0 k2 c2) W)(hV:V.length<=aL)(hW:W.length<=aL)(hl:V.length=W.length):eI T H ow [] ⟨(1,.sl o2 0 k2 c2)::(0,.sl o1 0 k1 c1)::E,[]⟩ s (QF ri.1.results fun d s1=>s1=s/\oZ V W d):=by
 have lW:aL=2147483648:=rfl;have ul:=cN V;have V5:=cN W;have hn:∀i:Nat,i<=2147483648->IntKind.wrap .i64 ((i:Int) - 1)=(i:Int) - 1:=fun i hi=>wrap_small (by omega) (by omega);have qX:∀i:Nat,i<=2147483648->IntKind.wrap .i64 (((i+1:Nat):Int) - 1 - 1)=(i:Int) - 1:=fun i hi=>by rw [wrap_small (by omega) (by omega)]; omega
 have e1:=hd.pY; subst e1;have e2:=he.pY; subst e2;show eI T H (.seq _ _) [] _ _ _;try refine go ?_
 refine cg (fun m env s' =>s' =s/\m<=V.length/\V.drop m=W.drop m/\∃i:Int,i=(m:Int) - 1/\env=[(0,.sl o1 0 V.length c1),(1,.sl o2 0 W.length c2),(5,.int .i64 i)]) V.length rfl ⟨rfl,an _,by rw [dI (an _),dI (by omega)],_, ?_,rfl⟩ ?_
 ·first | (rw [ul]; exact hn _ (by omega)) | exact hn _ (by omega)
 rintro m env s' ⟨rfl,hm,Hd,i,rfl,rfl⟩;cases m with
 | zero=>
  try refine go ?_
  exact ai ⟨rfl,0,rfl,by omega,by simpa using Hd⟩
 | succ m=>
  have hi:((m+1:Nat):Int) - 1=(m:Nat):=by omega
  have hw:=qX m (by omega);rw [hi]at hw ⊢;have h1:m < V.length:=by omega
  have h2:m < W.length:=by omega
  obtain⟨es,ga,ea,la⟩:=hd.Im h1;obtain⟨es2,gb,eb,lb⟩:=he.Im h2;have pL:=sE h1 h2;have qO:V[m]≠W[m]->V≠W:=fun cC e=>cC (by subst e; rfl);generalize V[m]=v at ea pL qO;generalize W[m]=w at eb pL qO;try refine go ?_
  refine cY (fun hc=> ?_) (fun hc=> ?_)
  ·have dQ:v < w:=by simp only [aX]at hc; omega
   try refine go ?_
   exact ai ⟨rfl,kW (c:= -1) (.inl rfl) (qO (by omega))⟩
  ·have dQ: ¬ v < w:=by simp only [bF]at hc; omega
   try refine go ?_
   refine cY (fun qd=> ?_) (fun qd=> ?_)
   ·have vh:w < v:=by simp only [aX]at qd; omega
    try refine go ?_
    exact ai ⟨rfl,kW (c:=1) (.inr rfl) (qO (by omega))⟩
   ·have vh: ¬ w < v:=by simp only [bF]at qd; omega
    try refine go ?_
    exact bg m (by omega) rfl ⟨rfl,by omega,pL (by omega) Hd,_,hw,rfl⟩
theorem Kz {s:St}{V W:List Nat}{E:Env}{o1 k1 c1:Nat}{o2 k2 c2:Nat}(hd:Ws s (.sl o1 0 k1 c1) V)(he:Ws s (.sl o2 0 k2 c2) W)(hV:V.length<=aL)(hW:W.length<=aL)(hl:V.length≠W.length):eI T H ow [] ⟨(1,.sl o2 0 k2 c2)::(0,.sl o1 0 k1 c1)::E,[]⟩ s (QF ri.1.results fun d s1=>s1=s/\oZ V W d):=by
 have lW:aL=2147483648:=rfl;have ul:=cN V;have V5:=cN W;have hn:∀i:Nat,i<=2147483648->IntKind.wrap .i64 ((i:Int) - 1)=(i:Int) - 1:=fun i hi=>wrap_small (by omega) (by omega);have qX:∀i:Nat,i<=2147483648->IntKind.wrap .i64 (((i+1:Nat):Int) - 1 - 1)=(i:Int) - 1:=fun i hi=>by rw [wrap_small (by omega) (by omega)]; omega
 have cC:V≠W:=fun e=>hl (by rw [e]);have e1:=hd.pY; subst e1;have e2:=he.pY; subst e2;clear hd he hn qX;show eI T H (.seq _ _) [] _ _ _;by_cases dQ:V.length < W.length
 ·try refine go ?_
  exact ai ⟨rfl,kW (c:= -1) (.inl rfl) cC⟩
 ·try refine go ?_
  exact ai ⟨rfl,kW (c:=1) (.inr rfl) cC⟩
theorem LO {s:St}{a b:D}{V W:List Nat}{E:Env}(hd:Ws s a V)(he:Ws s b W)(hV:V.length<=aL)(hW:W.length<=aL):eI T H ow [] ⟨(1,b)::(0,a)::E,[]⟩ s (QF ri.1.results fun d s1=>s1=s/\oZ V W d):=by
 by_cases hl:V.length=W.length
 ·rcases hd.sh with ⟨Fw,z1,L1,rfl⟩ | ⟨o1,k1,c1,rfl⟩ <;> rcases he.sh with ⟨CM,z2,L2,rfl⟩ | ⟨o2,k2,c2,rfl⟩
  ·exact Jg hd he hV hW hl
  ·exact Ka hd he hV hW hl
  ·exact KG hd he hV hW hl
  ·exact KW hd he hV hW hl
 ·rcases hd.sh with ⟨Fw,z1,L1,rfl⟩ | ⟨o1,k1,c1,rfl⟩ <;> rcases he.sh with ⟨CM,z2,L2,rfl⟩ | ⟨o2,k2,c2,rfl⟩
  ·exact Jw hd he hV hW hl
  ·exact KU hd he hV hW hl
  ·exact Jz hd he hV hW hl
  ·exact Kz hd he hV hW hl
theorem FG (hT:TW T)(Lh:TV T){s:St}{x y:D}{V W:List Nat}(hx:Ws s x V)(hy:Ws s y W)(hV:V.length<=aL)(hW:W.length<=aL):cu T H 217 [x,y] s fun d s1=>s1=s/\oZ (bU V) (bU W) d:=by
 have lW:aL=2147483648:=rfl;have OK:maxLen=9223372036854775807:=by decide
 have BZ:=pH (H:=H) hT hx (by omega);have rq:=pH (H:=H) hT hy (by omega);have l1:=jV V;have l2:=jV W;have key:∀ {x y:D},((∃nl z L,x= .vs nl z L)\/∃o l c,x= .sl o 0 l c)->((∃nl z L,y= .vs nl z L)\/∃o l c,y= .sl o 0 l c)->cu T H 151 [x] s (fun d s1=>s1=s/\Ws s d (bU V))->cu T H 151 [y] s (fun d s1=>s1=s/\Ws s d (bU W))->cu T H 217 [x,y] s fun d s1=>s1=s/\oZ (bU V) (bU W) d:=by
  clear BZ rq hx hy;intro x y QN X5 BZ rq;rcases QN with ⟨nl,z,L,rfl⟩ | ⟨o,l,c,rfl⟩ <;> rcases X5 with ⟨nl',z',L',rfl⟩ | ⟨o',l',c',rfl⟩
  all_goals
   refine ay Lh.t217 ?_;try refine go ?_
   refine ak BZ ?_;rintro d s1 ⟨rfl,hd⟩;rcases hd.sh with ⟨Fw,z1,L1,rfl⟩ | ⟨o1,k1,c1,rfl⟩
   all_goals
    try refine go ?_
    refine ak rq ?_;rintro d s2 ⟨rfl,he⟩;rcases he.sh with ⟨CM,z2,L2,rfl⟩ | ⟨o2,k2,c2,rfl⟩
    all_goals
     refine iZ ?_;refine iZ ?_;refine BG ?_;refine yh ?_;exact LO hd he (by omega) (by omega)
 exact key hx.sh hy.sh BZ rq
end
section
variable {T:Nat->Option dS}{H:au}
def ShW (x:D):Prop:=(∃nl z L,x= .vs nl z L)\/∃o l c,x= .sl o 0 l c
theorem qQ.sh {s:St}{d:D}{n:Bool×List Nat}(h:qQ s d n):∃y,d= .agg [.bool n.1,y]/\ShW y:=by
 obtain⟨y,e,hy⟩:=h;exact⟨y,e,hy.sh⟩
theorem oZ.out {V W:List Nat}{d:D}(h:oZ V W d):∃c:Int,d= .int .i64 c/\(c= -1\/c=0\/c=1)/\(c=0↔V=W):=h
theorem wJ (n:Bool×List Nat):qf n=0\/qf n= -1\/qf n=1:=by
 unfold qf; split
 ·exact .inl rfl
 ·split
  ·exact .inr (.inl rfl)
  ·exact .inr (.inr rfl)
theorem zg (n:Bool×List Nat):qf n=0->bU n.2=[]:=by
 unfold qf;split
 ·exact fun _=>by assumption
 ·split <;> (intro h; omega)
theorem NR {n m:Bool×List Nat}:dZ n.1 n.2=dZ m.1 m.2↔qf n=qf m/\bU n.2=bU m.2:=by
 obtain⟨a,V⟩:=n;obtain⟨b,W⟩:=m;unfold dZ qf;simp only;cases hV:bU V <;> cases hW:bU W <;> cases a <;> cases b <;> simp
theorem FJ (hT:TW T)(Lh:TV T){s:St}{d e:D}{n m:Bool×List Nat}(hs:s.Ok)(hx:qQ s d n)(hy:qQ s e m)(hn:n.2.length<=aL)(hm:m.2.length<=aL):
  cu T H 173 [d,e] s fun r s1=>s1=s/\∃c:Int,r= .int .i64 c/\(c=0↔dZ n.1 n.2=dZ m.1 m.2):=by
 have lW:aL=2147483648:=rfl;have OK:maxLen=9223372036854775807:=by decide
 have h1:=II (H:=H) hT Lh hs hx (by omega);have h2:=II (H:=H) hT Lh hs hy (by omega);obtain⟨x,rfl,yb⟩:=hx;obtain⟨y,rfl,JS⟩:=hy;have h3:=FG (H:=H) hT Lh yb JS hn hm;have q1:=wJ n;have q2:=wJ m;rw [NR];have z1:=zg n;have z2:=zg m;generalize qf n=a at h1 q1 z1 ⊢;generalize qf m=b at h2 q2 z2 ⊢;have z3:∀ {c:Int},a=b->(c=0↔bU n.2=bU m.2)->(a * c=0↔a=b/\bU n.2=bU m.2):=by
  intro c hab hc;subst hab;rw [Int.mul_eq_zero,hc];constructor
  ·rintro (h | h)
   ·exact⟨rfl,by rw [z1 h,z2 h]⟩
   ·exact⟨rfl,h⟩
  ·exact fun h=> .inr h.2
 clear z1 z2
 have key:∀ {x y:D},ShW x->ShW y->cu T H 216 [.agg [.bool n.1,x]] s (fun d s1=>s1=s/\d= .int .i64 a)->cu T H 216 [.agg [.bool m.1,y]] s (fun d s1=>s1=s/\d= .int .i64 b)->cu T H 217 [x,y] s (fun d s1=>s1=s/\oZ (bU n.2) (bU m.2) d)->
   cu T H 173 [.agg [.bool n.1,x],.agg [.bool m.1,y]] s fun r s1=>s1=s/\∃c:Int,r= .int .i64 c/\(c=0↔a=b/\bU n.2=bU m.2):=by
  clear h1 h2 h3 yb JS;intro x y QN X5 h1 h2 h3;rcases QN with ⟨nl,z,L,rfl⟩ | ⟨o,l,c,rfl⟩ <;> rcases X5 with ⟨nl',z',L',rfl⟩ | ⟨o',l',c',rfl⟩
  all_goals
   refine ay Lh.t173 ?_;try refine go ?_
   refine bf h1 ?_;rintro d s1 ⟨rfl,rfl⟩;refine⟨rfl,by rfl, ?_⟩;try refine go ?_
   refine bf h2 ?_;rintro d s1 ⟨rfl,rfl⟩;refine⟨rfl,by rfl, ?_⟩;try refine go ?_
   refine cY (fun hc=> ?_) (fun hc=> ?_)
   ·have dQ:a < b:=by simpa using hc
    try refine go ?_
    exact ai ⟨rfl, -1,rfl,by omega⟩
   ·have dQ: ¬ a < b:=by simpa using hc
    try refine go ?_
    refine cY (fun hc=> ?_) (fun hc=> ?_)
    ·have vh:b < a:=by simpa using hc
     try refine go ?_
     exact ai ⟨rfl,1,rfl,by omega⟩
    ·have vh: ¬ b < a:=by simpa using hc
     have hab:a=b:=by omega
     try refine go ?_
     refine ak h3 ?_;rintro d s1 ⟨rfl,c,rfl,zI,qd⟩;have hw:IntKind.wrap .i64 (a * c)=a * c:=by
      rcases q1 with rfl | rfl | rfl <;> rcases zI with rfl | rfl | rfl <;> decide
     try refine go ?_
     refine ai ⟨rfl,_,rfl, ?_⟩;rw [hw];exact z3 hab qd
 exact key yb.sh JS.sh h1 h2 h3
theorem LK (hT:TW T)(Lh:TV T){s:St}{v:Int}(hv:v=0\/v=1\/v= -7):cu T H 162 [.int .i64 v] s fun d s1=>s1=s/\qQ s d (if v=0 then (false,[]) else if v=1 then (false,[1]) else (true,[7])):=by
 have key:∀ng:Bool,∀V:List Nat,V.length<=maxLen->cu T H 123 [.bool ng,.vs false 1 (dz V)] s fun d s1=>s1=s/\qQ s d (dZ ng V):=fun ng V h=>zc hT (.vs false V (fun h=>by cases h)) h;rcases hv with rfl | rfl | rfl
 ·refine ay Lh.t162 ?_;try refine go ?_
  refine ak (x:=[.bool false,.vs false 1 (dz [0,0])]) (key false [0,0] (by decide)) ?_;rintro d s1 ⟨rfl,y,rfl,hy⟩;rcases hy.sh with ⟨nl,z,L,rfl⟩ | ⟨o,l,c,rfl⟩
  all_goals
   try refine go ?_
   exact ai ⟨rfl,_,rfl,hy⟩
 ·refine ay Lh.t162 ?_;try refine go ?_
  refine ak (x:=[.bool false,.vs false 1 (dz [1,0])]) (key false [1,0] (by decide)) ?_;rintro d s1 ⟨rfl,y,rfl,hy⟩;rcases hy.sh with ⟨nl,z,L,rfl⟩ | ⟨o,l,c,rfl⟩
  all_goals
   try refine go ?_
   exact ai ⟨rfl,_,rfl,hy⟩
 ·refine ay Lh.t162 ?_;try refine go ?_
  refine ak (x:=[.bool true,.vs false 1 (dz [7,0])]) (key true [7,0] (by decide)) ?_;rintro d s1 ⟨rfl,y,rfl,hy⟩;rcases hy.sh with ⟨nl,z,L,rfl⟩ | ⟨o,l,c,rfl⟩
  all_goals
   try refine go ?_
   exact ai ⟨rfl,_,rfl,hy⟩
end
section
variable {T:Nat->Option dS}{H Y:au}
noncomputable def IJ (V:List Nat):Int:=IntKind.wrap .i64 (Z7 (bU V))
noncomputable def p8 (n:Bool×List Nat):Int:=DD (IntKind.wrap .u64 (if n.1=true then IntKind.wrap .i64 (0 - IJ n.2) else IJ n.2))
theorem QV (hW:TW T)(hV:TV T){s:St}{o n cp:Nat}{V:List Nat}(hs:s.Ok)(hx:Ws s (.sl o 0 n cp) V)(hl:V.length<=100000000):
  cu T H 205 [.agg [.bool false,.sl o 0 n cp],.int .i64 2305843009213693951] s fun d s1=>d= .gJ [.int .i64 (IJ V),.int .i64 0]/\aC Nil s s1:=by
 refine ay hV.t205 ?_;try refine go ?_
 have kL:aC Nil s (((s.bc (.var 3 (.int .i64 2305843009213693951))).bc (.var 237 (.int .u64 0))).bD (s.bc (.var 3 (.int .i64 2305843009213693951))).n (.var 237 (.int .u64 0))):=
  aC.set (W:=Nil) (aC.push (aC.push (aC.refl hs) _) _) _ (by simp only [St.dN]; omega) (fun h=>by simp only [St.dN]at h; omega)
 have g3:(((s.bc (.var 3 (.int .i64 2305843009213693951))).bc (.var 237 (.int .u64 0))).bD (s.bc (.var 3 (.int .i64 2305843009213693951))).n (.var 237 (.int .u64 0))).get s.n=some (.var 3 (.int .i64 2305843009213693951)):=St.eP (St.fh St.ba (by simp only [St.dN]; omega)) (by simp only [St.dN]; omega);have g6:(((s.bc (.var 3 (.int .i64 2305843009213693951))).bc (.var 237 (.int .u64 0))).bD (s.bc (.var 3 (.int .i64 2305843009213693951))).n (.var 237 (.int .u64 0))).get (s.bc (.var 3 (.int .i64 2305843009213693951))).n=some (.var 237 (.int .u64 0)):=St.aN;have zQ:(s.bc (.var 3 (.int .i64 2305843009213693951))).n=s.n+1:=rfl;generalize tZ:((s.bc (.var 3 (.int .i64 2305843009213693951))).bc (.var 237 (.int .u64 0))).bD (s.bc (.var 3 (.int .i64 2305843009213693951))).n (.var 237 (.int .u64 0))=s1 at *;simp only [zQ]at *;have ok1:=kL.ok;have vG:=hx.dU hs kL (fun _ _ _ _ h=>h)
 refine ak (pH hW vG (by have:maxLen=9223372036854775807:=by decide
                         omega)) ?_
 rintro d s2 ⟨rfl,hd⟩;rcases hd.sh with ⟨nl,z,L,rfl⟩ | ⟨o2,l2,c2,rfl⟩
 ·try refine go ?_
  refine ak (w8 hV ok1) ?_;rintro d s3 ⟨rfl,rfl⟩;have jJ:aC (fun _=>False) s2 (s2.bc (.var 32 (.vs nl z L))):=aC.push (aC.refl ok1) _;have IP:=hd.dU ok1 jJ (fun _ _ _ _ h=>h);try refine go ?_
  refine uE (b3:=s.n) (b6:=s.n+1) hV jJ.ok IP (cU (jV V) hl) (jJ.get ok1 g3 (fun h=>h)) (jJ.get ok1 g6 (fun h=>h)) ⟨by omega,by omega⟩ St.ba rfl rfl ?_;intro s4 hr g64 b4;try refine go ?_
  exact ai ⟨rfl,kL.trans' ((jJ.mono (W' :=fun j=>j=s.n+1) fun j hj=>hj.elim).trans b4) (by rintro j rfl hj; omega)⟩
 ·try refine go ?_
  refine ak (rJ hV ok1) ?_;rintro d s3 ⟨rfl,rfl⟩;have jJ:aC (fun _=>False) s2 (s2.bc (.var 32 (.sl o2 0 l2 c2))):=aC.push (aC.refl ok1) _;have IP:=hd.dU ok1 jJ (fun _ _ _ _ h=>h);try refine go ?_
  refine uE (b3:=s.n) (b6:=s.n+1) hV jJ.ok IP (cU (jV V) hl) (jJ.get ok1 g3 (fun h=>h)) (jJ.get ok1 g6 (fun h=>h)) ⟨by omega,by omega⟩ St.ba rfl rfl ?_;intro s4 hr g64 b4;try refine go ?_
  exact ai ⟨rfl,kL.trans' ((jJ.mono (W' :=fun j=>j=s.n+1) fun j hj=>hj.elim).trans b4) (by rintro j rfl hj; omega)⟩
theorem Qk (hW:TW T)(hV:TV T){s:St}{Yp:Bool}{z0:Nat}{L0:List D}{V:List Nat}(hs:s.Ok)(hx:Ws s (.vs Yp z0 L0) V)(hl:V.length<=100000000):
  cu T H 205 [.agg [.bool false,.vs Yp z0 L0],.int .i64 2305843009213693951] s fun d s1=>d= .gJ [.int .i64 (IJ V),.int .i64 0]/\aC Nil s s1:=by
 refine ay hV.t205 ?_;try refine go ?_
 have kL:aC Nil s (((s.bc (.var 3 (.int .i64 2305843009213693951))).bc (.var 237 (.int .u64 0))).bD (s.bc (.var 3 (.int .i64 2305843009213693951))).n (.var 237 (.int .u64 0))):=
  aC.set (W:=Nil) (aC.push (aC.push (aC.refl hs) _) _) _ (by simp only [St.dN]; omega) (fun h=>by simp only [St.dN]at h; omega)
 have g3:(((s.bc (.var 3 (.int .i64 2305843009213693951))).bc (.var 237 (.int .u64 0))).bD (s.bc (.var 3 (.int .i64 2305843009213693951))).n (.var 237 (.int .u64 0))).get s.n=some (.var 3 (.int .i64 2305843009213693951)):=St.eP (St.fh St.ba (by simp only [St.dN]; omega)) (by simp only [St.dN]; omega);have g6:(((s.bc (.var 3 (.int .i64 2305843009213693951))).bc (.var 237 (.int .u64 0))).bD (s.bc (.var 3 (.int .i64 2305843009213693951))).n (.var 237 (.int .u64 0))).get (s.bc (.var 3 (.int .i64 2305843009213693951))).n=some (.var 237 (.int .u64 0)):=St.aN;have zQ:(s.bc (.var 3 (.int .i64 2305843009213693951))).n=s.n+1:=rfl;generalize tZ:((s.bc (.var 3 (.int .i64 2305843009213693951))).bc (.var 237 (.int .u64 0))).bD (s.bc (.var 3 (.int .i64 2305843009213693951))).n (.var 237 (.int .u64 0))=s1 at *;simp only [zQ]at *;have ok1:=kL.ok;have vG:=hx.dU hs kL (fun _ _ _ _ h=>h)
 refine ak (pH hW vG (by have:maxLen=9223372036854775807:=by decide
                         omega)) ?_
 rintro d s2 ⟨rfl,hd⟩;rcases hd.sh with ⟨nl,z,L,rfl⟩ | ⟨o2,l2,c2,rfl⟩
 ·try refine go ?_
  refine ak (w8 hV ok1) ?_;rintro d s3 ⟨rfl,rfl⟩;have jJ:aC (fun _=>False) s2 (s2.bc (.var 32 (.vs nl z L))):=aC.push (aC.refl ok1) _;have IP:=hd.dU ok1 jJ (fun _ _ _ _ h=>h);try refine go ?_
  refine uE (b3:=s.n) (b6:=s.n+1) hV jJ.ok IP (cU (jV V) hl) (jJ.get ok1 g3 (fun h=>h)) (jJ.get ok1 g6 (fun h=>h)) ⟨by omega,by omega⟩ St.ba rfl rfl ?_;intro s4 hr g64 b4;try refine go ?_
  exact ai ⟨rfl,kL.trans' ((jJ.mono (W' :=fun j=>j=s.n+1) fun j hj=>hj.elim).trans b4) (by rintro j rfl hj; omega)⟩
 ·try refine go ?_
  refine ak (rJ hV ok1) ?_;rintro d s3 ⟨rfl,rfl⟩;have jJ:aC (fun _=>False) s2 (s2.bc (.var 32 (.sl o2 0 l2 c2))):=aC.push (aC.refl ok1) _;have IP:=hd.dU ok1 jJ (fun _ _ _ _ h=>h);try refine go ?_
  refine uE (b3:=s.n) (b6:=s.n+1) hV jJ.ok IP (cU (jV V) hl) (jJ.get ok1 g3 (fun h=>h)) (jJ.get ok1 g6 (fun h=>h)) ⟨by omega,by omega⟩ St.ba rfl rfl ?_;intro s4 hr g64 b4;try refine go ?_
  exact ai ⟨rfl,kL.trans' ((jJ.mono (W' :=fun j=>j=s.n+1) fun j hj=>hj.elim).trans b4) (by rintro j rfl hj; omega)⟩
theorem JZ (hW:TW T)(hV:TV T){s:St}{o n cp:Nat}{V:List Nat}{neg:Bool}(hs:s.Ok)(hx:Ws s (.sl o 0 n cp) V)(hl:V.length<=100000000):
  cu T H 161 [.agg [.bool neg,.sl o 0 n cp]] s fun d s1=>d= .int .i64 (p8 (neg,V))/\aC Nil s s1:=by
 have hr:=QV (H:=H) hW hV hs hx hl;refine ay hV.t161 ?_;try refine go ?_
 refine ak hr ?_;rintro d s1 ⟨rfl,b1⟩;have ok1:=b1.ok;cases neg
 ·try refine go ?_
  refine ak (oE hV ok1) ?_;rintro d s2 ⟨rfl,g2,b2⟩;try refine go ?_
  refine ak (qp hV g2) ?_;rintro d s3 ⟨rfl,rfl⟩;try refine go ?_
  exact ai ⟨rfl,b1.trans b2⟩
 ·try refine go ?_
  refine ak (oE hV ok1) ?_;rintro d s2 ⟨rfl,g2,b2⟩;try refine go ?_
  refine ak (qp hV g2) ?_;rintro d s3 ⟨rfl,rfl⟩;try refine go ?_
  exact ai ⟨rfl,b1.trans b2⟩
theorem KR (hW:TW T)(hV:TV T){s:St}{Yp:Bool}{z0:Nat}{L0:List D}{V:List Nat}{neg:Bool}(hs:s.Ok)(hx:Ws s (.vs Yp z0 L0) V)(hl:V.length<=100000000):
  cu T H 161 [.agg [.bool neg,.vs Yp z0 L0]] s fun d s1=>d= .int .i64 (p8 (neg,V))/\aC Nil s s1:=by
 have hr:=Qk (H:=H) hW hV hs hx hl;refine ay hV.t161 ?_;try refine go ?_
 refine ak hr ?_;rintro d s1 ⟨rfl,b1⟩;have ok1:=b1.ok;cases neg
 ·try refine go ?_
  refine ak (oE hV ok1) ?_;rintro d s2 ⟨rfl,g2,b2⟩;try refine go ?_
  refine ak (qp hV g2) ?_;rintro d s3 ⟨rfl,rfl⟩;try refine go ?_
  exact ai ⟨rfl,b1.trans b2⟩
 ·try refine go ?_
  refine ak (oE hV ok1) ?_;rintro d s2 ⟨rfl,g2,b2⟩;try refine go ?_
  refine ak (qp hV g2) ?_;rintro d s3 ⟨rfl,rfl⟩;try refine go ?_
  exact ai ⟨rfl,b1.trans b2⟩
end
structure Bd (s:St)(bx:Nat)(y:D)(m:List UInt8):Prop where
 gb:∃a,(a= .cT\/a= .ptr bx 0)/\s.get bx=some (.var 54 (.agg [a,y]))
 hy:(y= .vs true 0 []/\m=[])\/(m≠ []/\∃o,y= .sl o 0 m.length m.length/\s.get o=some (.arr 1 5 (m.map fun c=> .int .u8 c.toNat) 0))
abbrev Rx (bx:Nat)(y:D):Nat->Prop:=fun j=>j=bx\/∃l c,y= .sl j 0 l c
theorem Bd.dU {W:Nat->Prop}{s s1:St}{bx:Nat}{y:D}{m:List UInt8}(h:Bd s bx y m)(hs:s.Ok)(hb:aC W s s1)(h1: ¬ W bx)(h2:∀o l c,y= .sl o 0 l c-> ¬ W o):Bd s1 bx y m:=by
 obtain⟨⟨a,ha,hg⟩,hy⟩:=h;refine⟨⟨a,ha,hb.get hs hg h1⟩, ?_⟩;rcases hy with hy | ⟨h3,o,h4,h5⟩
 ·exact .inl hy
 ·exact .inr ⟨h3,o,h4,hb.get hs h5 (h2 o _ _ h4)⟩
section
variable {T:Nat->Option dS}{H:au}{b:Nat}{k:List je}{l:List bj}{s:St}{Q:QP}{t:Nat}{e:Env}{ds:List (D×List D)}{g:Option (Nat×Bool)}
theorem M6 {x:bP}{o c ty:Nat}{v:D}(h:gN T H b l k ⟨(t,.ptr o c)::e,ds⟩ s Q)(hw:aI e g=some true:=by rfl)(hx:x.ev e=some (.ptr o c):=by rfl)(hg:s.get o=some (.var ty v):=by exact gI)(hl:Nat.blt c v.flat.length=true:=by rfl):gN T H b (⟨some t,.Dv x,g,none⟩::l) k ⟨e,ds⟩ s Q:=
 dC h hw (by simp only [cB,hx,hg,hl])
theorem Pp {x:bP}{o c ty:Nat}{v:D}{q:List (Nat×Nat×Nat)}(h:gN T H b l k ⟨(t,.ptr o c)::e,ds⟩ s Q)(hw:aI e g=some true:=by rfl)(hx:x.ev e=some (.ptr o c):=by rfl)(hg:s.get o=some (.var ty v):=by exact gI)(hl:At ty c v.flat.length q=true:=by rfl):gN T H b (⟨some t,.upto q x,g,none⟩::l) k ⟨e,ds⟩ s Q:=
 dC h hw (by simp only [cB,hx,hg,hl])
theorem Hw {x y:bP}{o c ty:Nat}{v:D}{neg oc:Bool}(h:gN T H b l k ⟨(t,.bool (true !=neg))::e,ds⟩ s Q)(hw:aI e g=some true:=by rfl)(hx:x.ev e=some (.ptr o c):=by rfl)(hy:y.ev e=some (.ptr o c):=by rfl)(hg:s.get o=some (.var ty v):=by exact gI)(h0:tq oc .ptr (.ptr o c) (.ptr o c)=none:=by rfl):gN T H b (⟨some t,.eq .ptr neg oc x y,g,none⟩::l) k ⟨e,ds⟩ s Q:=
 dC h hw (by simp only [cB,hx,hy,h0,PR,hg,az,fk])
theorem uU (hT:TX T){bx:Nat}{a y:D}(hs:s.Ok)(ha:a= .cT\/a= .ptr bx 0)(hg:s.get bx=some (.var 54 (.agg [a,y])))(hy:y.sc=true):
  cu T H 27 [.ptr bx 0] s fun d s1=>s1.get bx=some (.var 54 (.agg [.ptr bx 0,y]))/\aC (fun j=>j=bx) s s1:=by
 have l1:=hs.lt hg;refine ay hT.t27 ?_;rcases ha with rfl | rfl
 ·repeat' first | refine go ?_ | refine M6 ?_ | refine Pp ?_
  exact gU ⟨gI,bI⟩
 ·try refine go ?_
  refine Hw ?_;try refine go ?_
  exact gU ⟨hg,aC.refl hs⟩
theorem sD (m:List UInt8):(m.map fun c=>D.int .u8 c.toNat).length=m.length:=aH _
theorem DI (m:List UInt8):eG 1 (m.map fun c=>D.int .u8 c.toNat)=true:=by
 induction m with
 | nil=>rfl
 | cons a r ih=>simp only [bG,eG,ih]; rfl
theorem Pn (hT:TX T){bx po tyo:Nat}{y:D}{m p:List UInt8}(hs:s.Ok)(h:Bd s bx y m)(hp:p≠ [])(hl:m.length+p.length<=4000000)(hpo:s.get po=some (.arr 1 tyo (p.map fun c=> .int .u8 c.toNat) 0))(npo:∀l c,y≠ .sl po 0 l c):
  cu T H 155 [.ptr bx 0,.sl po 0 p.length p.length] s fun _ s1=>∃y',Bd s1 bx y' (m++p)/\aC (Rx bx y) s s1/\∀o l c,y' = .sl o 0 l c->(y= .sl o 0 m.length m.length\/s.n<=o):=by
 obtain⟨⟨a,ha,hg⟩,hy⟩:=h;have l1:=hs.lt hg;have Q7:0 < p.length:=dV.2 hp;have nbp:po≠bx:=by rintro rfl; rw [hg]at hpo; cases hpo
 have hit:∀s1:St,s1.get po=some (.arr 1 tyo (p.map fun c=> .int .u8 c.toNat) 0)->items s1 (.sl po 0 p.length p.length)=some (1,p.map fun c=> .int .u8 c.toNat):=fun s1 hq=>by
  have e1:Nat.ble (0+p.length) (p.map fun c=>D.int .u8 c.toNat).length=true:=aq (by rw [sD]; omega);have e2:Nat.ble 0 (0+p.length)=true:=aq (aR _);simp only [items,hq,e1,e2,gv];rw [eY (by rw [sD]; exact an _)]
 have cC:(p.map fun c=>D.int .u8 c.toNat)≠ []:=by simpa using hp
 have KN:=sD p;refine ay hT.t155 ?_;rcases hy with ⟨rfl,rfl⟩ | ⟨hm,o,rfl,ho⟩
 ·try refine go ?_
  refine ak (uU hT hs ha hg rfl) ?_;rintro d s1 ⟨q1,q2⟩;have q3:=q2.ok;have l2:=q3.lt q1;have We:=q2.get hs hpo nbp;try refine go ?_
  refine DX (hit s1 We) rfl cC (DI p) (by rw [KN]; simp only [aL]; omega) ?_;rw [KN];try refine go ?_
  have q5:=q2.n;refine ai ⟨.sl s1.n 0 p.length p.length,⟨⟨_,.inr rfl,St.aN⟩,.inr ⟨hp,s1.n,rfl,gI⟩⟩, ?_, ?_⟩
  ·refine (q2.mono fun j hj=> .inl hj).trans' (W' :=fun j=>j=bx) ?_ fun j hj _=> .inl hj;exact aC.set (aC.push (aC.refl q3) _) _ (by rw [St.dN]; omega) (fun _=>rfl)
  ·intro o l c e;simp only [D.sl.injEq]at e;exact .inr (by omega)
 ·have vL:=sD m;try refine go ?_
  refine ak (uU hT hs ha hg rfl) ?_;rintro d s1 ⟨q1,q2⟩;have q3:=q2.ok;have l2:=q3.lt q1;have ne:o≠bx:=by rintro rfl; rw [hg]at ho; cases ho
  have q4:=q2.get hs ho ne;have l3:=q3.lt q4;have We:=q2.get hs hpo nbp;try refine go ?_
  refine tY (hit s1 We) rfl cC (DI p) (by rw [KN]; simp only [aL]; omega) ?_ (o:=o) (off:=0) (len:=m.length) (cp:=m.length) (es:=m.map fun c=> .int .u8 c.toNat) (he:=by rw [vL]; omega);rw [KN];try refine go ?_
  refine ai ⟨.sl o 0 (m.length+p.length) (m.length+p.length),⟨⟨_,.inr rfl,St.aN⟩,.inr ⟨by simp [hp],o,by rw [aB], ?_⟩⟩, ?_, ?_⟩
  ·rw [jc];exact gI
  ·refine (q2.mono fun j hj=> .inl hj).trans' (W' :=fun j=>j=bx\/j=o) ?_ fun j hj _=>(by rcases hj with rfl | rfl; exact .inl rfl; exact .inr ⟨_,_,rfl⟩);exact aC.set (aC.set (aC.refl q3) _ l3 (fun _=> .inr rfl)) _ (by rw [St.fE]; omega) (fun _=> .inl rfl)
  ·intro o' l c e;simp only [D.sl.injEq]at e;exact .inl (by rw [e.1])
theorem Ff {kk:Nat}{l:List (bj×List Nat)}{acc:List Fp}{x:bP}{o off len cp sz ty st:Nat}{es:List D}(h:fT T H b kk l (acc++ [cE b e ⟨some t,.qL x,g,none⟩]) k ⟨(t,.jK o off 0 (off+cp))::e,ds⟩ s Q)(hg:s.get o=some (.arr sz ty es st))(hp:0 < cp)(hw:aI e g=some true:=by rfl)(hx:x.ev e=some (.sl o off len cp):=by rfl)(kq:Env.cX e (some t)=false:=by rfl):fT T H b kk ((⟨some t,.qL x,g,none⟩,[])::l) acc k ⟨e,ds⟩ s Q:=by
 have e1:Nat.blt 0 cp=true:=aq hp;exact fi rfl kq (kF rfl) h hw (by simp only [cB,hx,hg,e1]) rfl
theorem JP {kk:Nat}{l:List (bj×List Nat)}{acc:List Fp}{x y:bP}{o en ty st n:Nat}{es:List D}{m:List UInt8}(h:fT T H b kk l (acc++ [cE b e ⟨some t,.Cr ty x y,g,none⟩]) k ⟨(t,.str m)::e,ds⟩ (s.bD o .dead) Q)(hs:s.Ok)(hg:s.get o=some (.arr 1 ty es st))(hn:0 < n)(qX:n<=aL)(h1:n<=en)(h2:en<=es.length)(h3:st<=en)(hm:bytesOf ((es.drop 0).take n)=some m)(hw:aI e g=some true:=by rfl)(hx:x.ev e=some (.jK o 0 0 en):=by rfl)(hy:y.ev e=some (.int .i64 (Nat.cast n)):=by rfl)(kq:Env.cX e (some t)=false:=by rfl):fT T H b kk ((⟨some t,.Cr ty x y,g,none⟩,[])::l) acc k ⟨e,ds⟩ s Q:=by
 have e1:Nat.ble n aL=true:=aq qX;have e2:Nat.ble (0+n) en=true:=aq (by omega);have e3:Nat.ble en es.length=true:=aq h2;have e4:Nat.ble st en=true:=aq h3;have e5:=eR ((0:Int) < (n:Int));refine fi rfl kq (kF rfl) h hw ?_ rfl;simp only [cB,hx,hy,hg,az,fk,decide_true,cQ,e1,e2,e3,e4,e5,hm,hs.set,oC]
theorem w6:∀m:List UInt8,bytesOf (m.map fun c=> .int .u8 c.toNat)=some m
 | []=>rfl
 | c::m=>by
  simp only [bG,bytesOf,w6 m];simp
theorem Bc (hT:TX T){bx:Nat}{y:D}{m:List UInt8}(hs:s.Ok)(h:Bd s bx y m)(hl:m.length<=4000000):
  cu T H 16 [.ptr bx 0] s fun d s1=>d= .str m/\aC (Rx bx y) s s1:=by
 obtain⟨⟨a,ha,hg⟩,hy⟩:=h;refine ay hT.t16 ?_;rcases hy with ⟨rfl,rfl⟩ | ⟨hm,o,rfl,ho⟩
 ·try refine go ?_
  exact ai ⟨rfl,aC.refl hs⟩
 ·have vL:(m.map fun c=>D.int .u8 c.toNat).length=m.length:=aH _;have hm0:0 < m.length:=dV.2 hm;have lo:=hs.lt ho;try refine go ?_
  refine Ff ?_ ho hm0;try refine go ?_
  refine JP (en:=0+m.length) (n:=m.length) (m:=m) ?_ hs ho hm0 (by simp only [aL]; omega) (by omega) (by omega) (by omega) (by rw [gv,eY (by omega)]; exact w6 m);try refine go ?_
  exact ai ⟨rfl,aC.set (aC.refl hs) _ lo (fun _=> .inr ⟨_,_,rfl⟩)⟩
end
end Go.Proofs.Tab
