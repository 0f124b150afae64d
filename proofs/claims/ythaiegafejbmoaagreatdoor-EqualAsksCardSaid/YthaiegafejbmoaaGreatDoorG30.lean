/- Part. -/
import Derived.Test.YthaiegafejbmoaaGreatDoorG29
set_option linter.unusedSectionVars false
set_option maxRecDepth 100000
set_option maxHeartbeats 2000000
set_option linter.unusedSimpArgs false
set_option linter.unusedVariables false
namespace Go.Proofs.Tab
open Go Go.Ab Go.Ab.Sm
section
variable {T:Nat->Option dJ}{H:au}
theorem Ws.sh {s:St}{x:D}{V:List Nat}(h:Ws s x V):(∃nl z L,x= .vs nl z L)\/∃o l c,x= .sl o 0 l c:=by
 rcases h with ⟨nl,V,hn⟩ | _ | ⟨o,cp,V,R,hg,hc⟩
 ·exact .inl ⟨_,_,_,rfl⟩
 ·exact .inl ⟨_,_,_,rfl⟩
 ·exact .inr ⟨_,_,_,rfl⟩
theorem Jy (hT:TW T){s:St}{x:D}{ng:Bool}{V:List Nat}(hs:s.Ok)(hx:Ws s x V)(hV:V.length<=aM):bY T H 127 [.agg [.bool ng,x]] s fun d s1=>xB s1 d (db ng V)/\aH Nil s s1:=by
 have pW:aM=2147483648:=rfl;have OL:maxLen=9223372036854775807:=by decide
 have GK:=pD (H:=H) hT hx (by omega);have hle:=jx V;have iC:=hx.sh;have key:∀ {x:D},((∃nl z L,x= .vs nl z L)\/∃o l c,x= .sl o 0 l c)->bY T H 150 [x] s (fun d s1=>s1=s/\Ws s d (bV V))->bY T H 127 [.agg [.bool ng,x]] s fun d s1=>xB s1 d (db ng V)/\aH Nil s s1:=by
  clear GK iC hx;intro x iC GK;rcases iC with ⟨nl,z,L,rfl⟩ | ⟨o,l,c,rfl⟩
  all_goals
   refine aD hT.t127 ?_;try refine go ?_
   refine aV GK ?_;rintro d s1 ⟨rfl,hd⟩;have iC:=hd.sh;have Oy:=DD (H:=H) hT hs hd (by omega);clear GK;rcases iC with ⟨nl',z',L',rfl⟩ | ⟨o',l',c',rfl⟩
   all_goals
    refine⟨rfl,by rfl, ?_⟩;try refine go ?_
    refine aV Oy ?_;rintro d2 s2 ⟨h2,b2⟩;have abM:=h2.sh;have ok2:=b2.ok;have hwf:=Ah (H:=H) (ng:=ng) hT h2 (by omega);rw [Gw]at hwf;clear Oy;rcases abM with ⟨Da,z2,L2,rfl⟩ | ⟨o2,l2,c2,rfl⟩
    all_goals
     refine⟨rfl,by rfl, ?_⟩;try refine go ?_
     refine aV hwf ?_;rintro d3 s3 ⟨rfl,y,rfl,h3⟩;have abN:=h3.sh;rcases abN with ⟨nl3,z3,L3,rfl⟩ | ⟨o3,l3,c3,rfl⟩
     all_goals
      refine⟨rfl,by rfl, ?_⟩
      repeat' first | refine go ?_ | refine fW ?_
      exact ai ⟨⟨_,rfl,h3⟩,b2⟩
 exact key iC GK
theorem Bw (hT:TW T){s:St}{d:D}{n:Bool×List Nat}(hs:s.Ok)(hx:xB s d n)(hV:n.2.length<=aM):bY T H 87 [d] s fun d s1=>xB s1 d (db (!(db n.1 n.2).1) (db n.1 n.2).2)/\aH Nil s s1:=by
 have pW:aM=2147483648:=rfl;have OL:maxLen=9223372036854775807:=by decide
 obtain⟨ng,V⟩:=n;obtain⟨x,rfl,hx⟩:=hx;have hle:=rE ng V;simp only at hx hV ⊢;have W7:=Jy (H:=H) (ng:=ng) hT hs hx hV;have iC:=hx.sh;have key:∀ {x:D},((∃nl z L,x= .vs nl z L)\/∃o l c,x= .sl o 0 l c)->bY T H 127 [.agg [.bool ng,x]] s (fun d s1=>xB s1 d (db ng V)/\aH Nil s s1)->bY T H 87 [.agg [.bool ng,x]] s fun d s1=>xB s1 d (db (!(db ng V).1) (db ng V).2)/\aH Nil s s1:=by
  clear W7 iC hx;intro x iC W7;rcases iC with ⟨nl,z,L,rfl⟩ | ⟨o,l,c,rfl⟩
  all_goals
   refine aD hT.t87 ?_;try refine go ?_
   refine af W7 ?_;rintro d s1 ⟨⟨y,rfl,hd⟩,b1⟩;have hwf:=Ah (H:=H) (ng:= !(db ng V).1) hT hd (by omega);rcases hd.sh with ⟨nl',z',L',rfl⟩ | ⟨o',l',c',rfl⟩
   all_goals
    try refine go ?_
    refine af hwf ?_;rintro d3 s3 ⟨rfl,y,rfl,h3⟩;rcases h3.sh with ⟨nl3,z3,L3,rfl⟩ | ⟨o3,l3,c3,rfl⟩
    all_goals
     try refine go ?_
     exact ai ⟨⟨_,rfl,h3⟩,b1⟩
 exact key iC W7
theorem Fe (hT:TW T){s:St}{d:D}{n:Bool×List Nat}(hs:s.Ok)(hx:xB s d n)(hV:n.2.length<=aM):bY T H 50 [d] s fun d s1=>xB s1 d (db n.1 n.2)/\aH Nil s s1:=by
 have hng:=Bw (H:=H) hT hs hx hV;have hle:=rE n.1 n.2;have acw:=rE (!(db n.1 n.2).1) (db n.1 n.2).2;obtain⟨x,rfl,hx⟩:=hx;have key:∀ {x:D},((∃nl z L,x= .vs nl z L)\/∃o l c,x= .sl o 0 l c)->bY T H 87 [.agg [.bool n.1,x]] s (fun d s1=>xB s1 d (db (!(db n.1 n.2).1) (db n.1 n.2).2)/\aH Nil s s1)->bY T H 50 [.agg [.bool n.1,x]] s fun d s1=>xB s1 d (db n.1 n.2)/\aH Nil s s1:=by
  clear hng hx;intro x iC hng;rcases iC with ⟨nl,z,L,rfl⟩ | ⟨o,l,c,rfl⟩
  all_goals
   refine aD hT.t50 ?_;try refine go ?_
   refine af hng ?_;rintro d s1 ⟨h1,b1⟩;have xu:=Bw (H:=H) hT b1.ok h1 (by omega);obtain⟨y,rfl,h1⟩:=h1;rw [Gv,JK]at xu;rcases h1.sh with ⟨nl',z',L',rfl⟩ | ⟨o',l',c',rfl⟩
   all_goals
    try refine go ?_
    refine af xu ?_;rintro d3 s3 ⟨⟨y,rfl,h3⟩,b3⟩;have b4:=b1.trans b3;rcases h3.sh with ⟨nl3,z3,L3,rfl⟩ | ⟨o3,l3,c3,rfl⟩
    all_goals
     try refine go ?_
     exact ai ⟨⟨_,rfl,h3⟩,b4⟩
 exact key hx.sh hng
end
def qg (n:Bool×List Nat):Int:=if bV n.2=[] then 0 else if n.1 then -1 else 1
section
variable {T:Nat->Option dJ}{H:au}
theorem Ws.pK {s:St}{o l c:Nat}{V:List Nat}(h:Ws s (.sl o 0 l c) V):l=V.length:=by cases h; rfl
theorem Ws.pL {s:St}{nl:Bool}{z:Nat}{L:List D}{V:List Nat}(h:Ws s (.vs nl z L) V):L=eJ V:=by cases h <;> rfl
theorem I0 (hT:TW T)(Lc:TV T){s:St}{d:D}{n:Bool×List Nat}(hs:s.Ok)(hx:xB s d n)(hV:n.2.length<=maxLen):bY T H 132 [d] s fun d s1=>s1=s/\d= .int .i64 (qg n):=by
 obtain⟨ng,V⟩:=n;obtain⟨x,rfl,hx⟩:=hx;simp only at hx hV ⊢;have GK:=pD (H:=H) hT hx hV;unfold qg;simp only;have key:∀ {x:D},((∃nl z L,x= .vs nl z L)\/∃o l c,x= .sl o 0 l c)->bY T H 150 [x] s (fun d s1=>s1=s/\Ws s d (bV V))->bY T H 132 [.agg [.bool ng,x]] s fun d s1=>s1=s/\d= .int .i64 (if bV V=[] then 0 else if ng=true then -1 else 1):=by
  clear GK hx;intro x iC GK;rcases iC with ⟨nl,z,L,rfl⟩ | ⟨o,l,c,rfl⟩
  all_goals
   refine aD Lc.t132 ?_;try refine go ?_
   refine af GK ?_;rintro d s1 ⟨rfl,hd⟩;generalize bV V=W at hd ⊢;have hwl:(eJ W).length=W.length:=dD W;rcases hd.sh with ⟨nl',z',L',rfl⟩ | ⟨o',l',c',rfl⟩
   ·have:=hd.pL;subst this;cases W with
    | nil=>
     try refine go ?_
     exact ai ⟨rfl,rfl⟩
    | cons v W=>
     rw [aT]at hwl;cases ng
     ·try refine go ?_
      exact ai ⟨rfl,rfl⟩
     ·try refine go ?_
      exact ai ⟨rfl,rfl⟩
   ·have:=hd.pK;subst this;cases W with
    | nil=>
     try refine go ?_
     exact ai ⟨rfl,rfl⟩
    | cons v W=>
     have hq:(v::W).length=W.length+1:=rfl;cases ng
     ·try refine go ?_
      exact ai ⟨rfl,rfl⟩
     ·try refine go ?_
      exact ai ⟨rfl,rfl⟩
 exact key hx.sh GK
end
section
variable {T:Nat->Option dJ}{H:au}
theorem Ws.HG {s:St}{o l c i:Nat}{V:List Nat}(h:Ws s (.sl o 0 l c) V)(hi:i < V.length):∃es,s.get o=some (.arr 1 26 es 0)/\es[0+i]? =some (.int .u32 (V[i]:Nat))/\V.length<=es.length:=by
 cases h with
 | sl o cp V R hg hc=>exact ⟨_,hg,by simp [hi,mI],by simp⟩
theorem xX {V:List Nat}{i:Nat}(hi:i < V.length):(eJ V)[i]? =some (.int .u32 (V[i]:Nat)):=by simp [hi]
theorem Ws.I3 {s:St}{nl:Bool}{z:Nat}{L:List D}{V:List Nat}(h:Ws s (.vs nl z L) V)(hp:0 < V.length):z=1:=by
 cases h
 ·rfl
 ·simp at hp
def oq (V W:List Nat)(d:D):Prop:=∃c:Int,d= .int .i64 c/\(c= -1\/c=0\/c=1)/\(c=0↔V=W)
theorem kG {V W:List Nat}{c:Int}(hc:c= -1\/c=1)(h:V≠W):oq V W (.int .i64 c):=⟨c,rfl,by omega,by constructor <;> intro h'; omega; exact absurd h' h⟩
theorem sA {V W:List Nat}{m:Nat}(h1:m < V.length)(h2:m < W.length)(e:V[m]=W[m])(h:V.drop (m+1)=W.drop (m+1)):V.drop m=W.drop m:=by
 rw [fg h1,fg h2,e,h]
noncomputable def nG:AC:=match pS.1.body with
 | .seq _ (.seq _ r)=>r
 | _=> .skip
theorem Jt {s:St}{V W:List Nat}{E:Env}{FV:Bool}{z1:Nat}{L1:List D}{Da:Bool}{z2:Nat}{L2:List D}(hd:Ws s (.vs FV z1 L1) V)(he:Ws s (.vs Da z2 L2) W)(hV:V.length<=aM)(hW:W.length<=aM)(hl:V.length=W.length):dR T H nG [] ⟨(1,.vs Da z2 L2)::(0,.vs FV z1 L1)::E,[]⟩ s (QF pS.1.results fun d s1=>s1=s/\oq V W d):=by
 have pW:aM=2147483648:=rfl;have ul:=dD V;have Yg:=dD W;have hn:∀i:Nat,i<=2147483648->IntKind.wrap .i64 ((i:Int) - 1)=(i:Int) - 1:=fun i hi=>wrap_small (by omega) (by omega);have xu:∀i:Nat,i<=2147483648->IntKind.wrap .i64 (((i+1:Nat):Int) - 1 - 1)=(i:Int) - 1:=fun i hi=>by rw [wrap_small (by omega) (by omega)]; omega
 have e1:=hd.pL; subst e1;have WL:=hd.I3;have e2:=he.pL; subst e2;have WN:=he.I3;show dR T H (.seq _ _) [] _ _ _;try refine go ?_
 refine fY (fun m env s' =>s' =s/\m<=V.length/\V.drop m=W.drop m/\∃i:Int,i=(m:Int) - 1/\env=[(0,.vs FV z1 (eJ V)),(1,.vs Da z2 (eJ W)),(5,.int .i64 i)]) V.length rfl ⟨rfl,aq _,by rw [dH (aq _),dH (by omega)],_, ?_,rfl⟩ ?_
 ·first | (rw [ul]; exact hn _ (by omega)) | exact hn _ (by omega)
 rintro m env s' ⟨rfl,hm,GF,i,rfl,rfl⟩;cases m with
 | zero=>
  try refine go ?_
  exact ai ⟨rfl,0,rfl,by omega,by simpa using GF⟩
 | succ m=>
  have hi:((m+1:Nat):Int) - 1=(m:Nat):=by omega
  have hw:=xu m (by omega);rw [hi]at hw ⊢;have h1:m < V.length:=by omega
  have h2:m < W.length:=by omega
  have ea:=xX h1;have WL:=WL (by omega);subst WL;have eb:=xX h2;have WN:=WN (by omega);subst WN;have pk:=sA h1 h2;have qy:V[m]≠W[m]->V≠W:=fun dn e=>dn (by subst e; rfl);generalize V[m]=v at ea pk qy;generalize W[m]=w at eb pk qy;try refine go ?_
  refine eF (fun hc=> ?_) (fun hc=> ?_)
  ·have eW:v < w:=by simp only [bf]at hc; omega
   try refine go ?_
   exact ai ⟨rfl,kG (c:= -1) (.inl rfl) (qy (by omega))⟩
  ·have eW: ¬ v < w:=by simp only [bF]at hc; omega
   try refine go ?_
   refine eF (fun oN=> ?_) (fun oN=> ?_)
   ·have H7:w < v:=by simp only [bf]at oN; omega
    try refine go ?_
    exact ai ⟨rfl,kG (c:=1) (.inr rfl) (qy (by omega))⟩
   ·have H7: ¬ w < v:=by simp only [bF]at oN; omega
    try refine go ?_
    exact ec m (by omega) rfl ⟨rfl,by omega,pk (by omega) GF,_,hw,rfl⟩
theorem Jx {s:St}{V W:List Nat}{E:Env}{FV:Bool}{z1:Nat}{L1:List D}{Da:Bool}{z2:Nat}{L2:List D}(hd:Ws s (.vs FV z1 L1) V)(he:Ws s (.vs Da z2 L2) W)(hV:V.length<=aM)(hW:W.length<=aM)(hl:V.length≠W.length):dR T H nG [] ⟨(1,.vs Da z2 L2)::(0,.vs FV z1 L1)::E,[]⟩ s (QF pS.1.results fun d s1=>s1=s/\oq V W d):=by
 have pW:aM=2147483648:=rfl;have ul:=dD V;have Yg:=dD W;have hn:∀i:Nat,i<=2147483648->IntKind.wrap .i64 ((i:Int) - 1)=(i:Int) - 1:=fun i hi=>wrap_small (by omega) (by omega);have xu:∀i:Nat,i<=2147483648->IntKind.wrap .i64 (((i+1:Nat):Int) - 1 - 1)=(i:Int) - 1:=fun i hi=>by rw [wrap_small (by omega) (by omega)]; omega
 have dn:V≠W:=fun e=>hl (by rw [e]);have e1:=hd.pL; subst e1;have e2:=he.pL; subst e2;clear hd he hn xu;show dR T H (.seq _ _) [] _ _ _;by_cases eW:V.length < W.length
 ·try refine go ?_
  exact ai ⟨rfl,kG (c:= -1) (.inl rfl) dn⟩
 ·try refine go ?_
  exact ai ⟨rfl,kG (c:=1) (.inr rfl) dn⟩
theorem Js {s:St}{V W:List Nat}{E:Env}{FV:Bool}{z1:Nat}{L1:List D}{o2 k2 c2:Nat}(hd:Ws s (.vs FV z1 L1) V)(he:Ws s (.sl o2 0 k2 c2) W)(hV:V.length<=aM)(hW:W.length<=aM)(hl:V.length=W.length):dR T H nG [] ⟨(1,.sl o2 0 k2 c2)::(0,.vs FV z1 L1)::E,[]⟩ s (QF pS.1.results fun d s1=>s1=s/\oq V W d):=by
 have pW:aM=2147483648:=rfl;have ul:=dD V;have Yg:=dD W;have hn:∀i:Nat,i<=2147483648->IntKind.wrap .i64 ((i:Int) - 1)=(i:Int) - 1:=fun i hi=>wrap_small (by omega) (by omega);have xu:∀i:Nat,i<=2147483648->IntKind.wrap .i64 (((i+1:Nat):Int) - 1 - 1)=(i:Int) - 1:=fun i hi=>by rw [wrap_small (by omega) (by omega)]; omega
 have e1:=hd.pL; subst e1;have WL:=hd.I3;have e2:=he.pK; subst e2;show dR T H (.seq _ _) [] _ _ _;try refine go ?_
 refine fY (fun m env s' =>s' =s/\m<=V.length/\V.drop m=W.drop m/\∃i:Int,i=(m:Int) - 1/\env=[(0,.vs FV z1 (eJ V)),(1,.sl o2 0 W.length c2),(5,.int .i64 i)]) V.length rfl ⟨rfl,aq _,by rw [dH (aq _),dH (by omega)],_, ?_,rfl⟩ ?_
 ·first | (rw [ul]; exact hn _ (by omega)) | exact hn _ (by omega)
 rintro m env s' ⟨rfl,hm,GF,i,rfl,rfl⟩;cases m with
 | zero=>
  try refine go ?_
  exact ai ⟨rfl,0,rfl,by omega,by simpa using GF⟩
 | succ m=>
  have hi:((m+1:Nat):Int) - 1=(m:Nat):=by omega
  have hw:=xu m (by omega);rw [hi]at hw ⊢;have h1:m < V.length:=by omega
  have h2:m < W.length:=by omega
  have ea:=xX h1;have WL:=WL (by omega);subst WL;obtain⟨es2,gb,eb,lb⟩:=he.HG h2;have pk:=sA h1 h2;have qy:V[m]≠W[m]->V≠W:=fun dn e=>dn (by subst e; rfl);generalize V[m]=v at ea pk qy;generalize W[m]=w at eb pk qy;try refine go ?_
  refine eF (fun hc=> ?_) (fun hc=> ?_)
  ·have eW:v < w:=by simp only [bf]at hc; omega
   try refine go ?_
   exact ai ⟨rfl,kG (c:= -1) (.inl rfl) (qy (by omega))⟩
  ·have eW: ¬ v < w:=by simp only [bF]at hc; omega
   try refine go ?_
   refine eF (fun oN=> ?_) (fun oN=> ?_)
   ·have H7:w < v:=by simp only [bf]at oN; omega
    try refine go ?_
    exact ai ⟨rfl,kG (c:=1) (.inr rfl) (qy (by omega))⟩
   ·have H7: ¬ w < v:=by simp only [bF]at oN; omega
    try refine go ?_
    exact ec m (by omega) rfl ⟨rfl,by omega,pk (by omega) GF,_,hw,rfl⟩
theorem Jw {s:St}{V W:List Nat}{E:Env}{FV:Bool}{z1:Nat}{L1:List D}{o2 k2 c2:Nat}(hd:Ws s (.vs FV z1 L1) V)(he:Ws s (.sl o2 0 k2 c2) W)(hV:V.length<=aM)(hW:W.length<=aM)(hl:V.length≠W.length):dR T H nG [] ⟨(1,.sl o2 0 k2 c2)::(0,.vs FV z1 L1)::E,[]⟩ s (QF pS.1.results fun d s1=>s1=s/\oq V W d):=by
 have pW:aM=2147483648:=rfl;have ul:=dD V;have Yg:=dD W;have hn:∀i:Nat,i<=2147483648->IntKind.wrap .i64 ((i:Int) - 1)=(i:Int) - 1:=fun i hi=>wrap_small (by omega) (by omega);have xu:∀i:Nat,i<=2147483648->IntKind.wrap .i64 (((i+1:Nat):Int) - 1 - 1)=(i:Int) - 1:=fun i hi=>by rw [wrap_small (by omega) (by omega)]; omega
 have dn:V≠W:=fun e=>hl (by rw [e]);have e1:=hd.pL; subst e1;have e2:=he.pK; subst e2;clear hd he hn xu;show dR T H (.seq _ _) [] _ _ _;by_cases eW:V.length < W.length
 ·try refine go ?_
  exact ai ⟨rfl,kG (c:= -1) (.inl rfl) dn⟩
 ·try refine go ?_
  exact ai ⟨rfl,kG (c:=1) (.inr rfl) dn⟩
theorem Jr {s:St}{V W:List Nat}{E:Env}{o1 k1 c1:Nat}{Da:Bool}{z2:Nat}{L2:List D}(hd:Ws s (.sl o1 0 k1 c1) V)(he:Ws s (.vs Da z2 L2) W)(hV:V.length<=aM)(hW:W.length<=aM)(hl:V.length=W.length):dR T H nG [] ⟨(1,.vs Da z2 L2)::(0,.sl o1 0 k1 c1)::E,[]⟩ s (QF pS.1.results fun d s1=>s1=s/\oq V W d):=by
 have pW:aM=2147483648:=rfl;have ul:=dD V;have Yg:=dD W;have hn:∀i:Nat,i<=2147483648->IntKind.wrap .i64 ((i:Int) - 1)=(i:Int) - 1:=fun i hi=>wrap_small (by omega) (by omega);have xu:∀i:Nat,i<=2147483648->IntKind.wrap .i64 (((i+1:Nat):Int) - 1 - 1)=(i:Int) - 1:=fun i hi=>by rw [wrap_small (by omega) (by omega)]; omega
 have e1:=hd.pK; subst e1;have e2:=he.pL; subst e2;have WN:=he.I3;show dR T H (.seq _ _) [] _ _ _;try refine go ?_
 refine fY (fun m env s' =>s' =s/\m<=V.length/\V.drop m=W.drop m/\∃i:Int,i=(m:Int) - 1/\env=[(0,.sl o1 0 V.length c1),(1,.vs Da z2 (eJ W)),(5,.int .i64 i)]) V.length rfl ⟨rfl,aq _,by rw [dH (aq _),dH (by omega)],_, ?_,rfl⟩ ?_
 ·first | (rw [ul]; exact hn _ (by omega)) | exact hn _ (by omega)
 rintro m env s' ⟨rfl,hm,GF,i,rfl,rfl⟩;cases m with
 | zero=>
  try refine go ?_
  exact ai ⟨rfl,0,rfl,by omega,by simpa using GF⟩
 | succ m=>
  have hi:((m+1:Nat):Int) - 1=(m:Nat):=by omega
  have hw:=xu m (by omega);rw [hi]at hw ⊢;have h1:m < V.length:=by omega
  have h2:m < W.length:=by omega
  obtain⟨es,ga,ea,la⟩:=hd.HG h1;have eb:=xX h2;have WN:=WN (by omega);subst WN;have pk:=sA h1 h2;have qy:V[m]≠W[m]->V≠W:=fun dn e=>dn (by subst e; rfl);generalize V[m]=v at ea pk qy;generalize W[m]=w at eb pk qy;try refine go ?_
  refine eF (fun hc=> ?_) (fun hc=> ?_)
  ·have eW:v < w:=by simp only [bf]at hc; omega
   try refine go ?_
   exact ai ⟨rfl,kG (c:= -1) (.inl rfl) (qy (by omega))⟩
  ·have eW: ¬ v < w:=by simp only [bF]at hc; omega
   try refine go ?_
   refine eF (fun oN=> ?_) (fun oN=> ?_)
   ·have H7:w < v:=by simp only [bf]at oN; omega
    try refine go ?_
    exact ai ⟨rfl,kG (c:=1) (.inr rfl) (qy (by omega))⟩
   ·have H7: ¬ w < v:=by simp only [bF]at oN; omega
    try refine go ?_
    exact ec m (by omega) rfl ⟨rfl,by omega,pk (by omega) GF,_,hw,rfl⟩
theorem Jv {s:St}{V W:List Nat}{E:Env}{o1 k1 c1:Nat}{Da:Bool}{z2:Nat}{L2:List D}(hd:Ws s (.sl o1 0 k1 c1) V)(he:Ws s (.vs Da z2 L2) W)(hV:V.length<=aM)(hW:W.length<=aM)(hl:V.length≠W.length):dR T H nG [] ⟨(1,.vs Da z2 L2)::(0,.sl o1 0 k1 c1)::E,[]⟩ s (QF pS.1.results fun d s1=>s1=s/\oq V W d):=by
 have pW:aM=2147483648:=rfl;have ul:=dD V;have Yg:=dD W;have hn:∀i:Nat,i<=2147483648->IntKind.wrap .i64 ((i:Int) - 1)=(i:Int) - 1:=fun i hi=>wrap_small (by omega) (by omega);have xu:∀i:Nat,i<=2147483648->IntKind.wrap .i64 (((i+1:Nat):Int) - 1 - 1)=(i:Int) - 1:=fun i hi=>by rw [wrap_small (by omega) (by omega)]; omega
 have dn:V≠W:=fun e=>hl (by rw [e]);have e1:=hd.pK; subst e1;have e2:=he.pL; subst e2;clear hd he hn xu;show dR T H (.seq _ _) [] _ _ _;by_cases eW:V.length < W.length
 ·try refine go ?_
  exact ai ⟨rfl,kG (c:= -1) (.inl rfl) dn⟩
 ·try refine go ?_
  exact ai ⟨rfl,kG (c:=1) (.inr rfl) dn⟩
theorem Jq {s:St}{V W:List Nat}{E:Env}{o1 k1 c1:Nat}{o2 k2 c2:Nat}(hd:Ws s (.sl o1 0 k1 c1) V)(he:Ws s (.sl o2 0 k2 c2) W)(hV:V.length<=aM)(hW:W.length<=aM)(hl:V.length=W.length):dR T H nG [] ⟨(1,.sl o2 0 k2 c2)::(0,.sl o1 0 k1 c1)::E,[]⟩ s (QF pS.1.results fun d s1=>s1=s/\oq V W d):=by
 have pW:aM=2147483648:=rfl;have ul:=dD V;have Yg:=dD W;have hn:∀i:Nat,i<=2147483648->IntKind.wrap .i64 ((i:Int) - 1)=(i:Int) - 1:=fun i hi=>wrap_small (by omega) (by omega);have xu:∀i:Nat,i<=2147483648->IntKind.wrap .i64 (((i+1:Nat):Int) - 1 - 1)=(i:Int) - 1:=fun i hi=>by rw [wrap_small (by omega) (by omega)]; omega
 have e1:=hd.pK; subst e1;have e2:=he.pK; subst e2;show dR T H (.seq _ _) [] _ _ _;try refine go ?_
 refine fY (fun m env s' =>s' =s/\m<=V.length/\V.drop m=W.drop m/\∃i:Int,i=(m:Int) - 1/\env=[(0,.sl o1 0 V.length c1),(1,.sl o2 0 W.length c2),(5,.int .i64 i)]) V.length rfl ⟨rfl,aq _,by rw [dH (aq _),dH (by omega)],_, ?_,rfl⟩ ?_
 ·first | (rw [ul]; exact hn _ (by omega)) | exact hn _ (by omega)
 rintro m env s' ⟨rfl,hm,GF,i,rfl,rfl⟩;cases m with
 | zero=>
  try refine go ?_
  exact ai ⟨rfl,0,rfl,by omega,by simpa using GF⟩
 | succ m=>
  have hi:((m+1:Nat):Int) - 1=(m:Nat):=by omega
  have hw:=xu m (by omega);rw [hi]at hw ⊢;have h1:m < V.length:=by omega
  have h2:m < W.length:=by omega
  obtain⟨es,ga,ea,la⟩:=hd.HG h1;obtain⟨es2,gb,eb,lb⟩:=he.HG h2;have pk:=sA h1 h2;have qy:V[m]≠W[m]->V≠W:=fun dn e=>dn (by subst e; rfl);generalize V[m]=v at ea pk qy;generalize W[m]=w at eb pk qy;try refine go ?_
  refine eF (fun hc=> ?_) (fun hc=> ?_)
  ·have eW:v < w:=by simp only [bf]at hc; omega
   try refine go ?_
   exact ai ⟨rfl,kG (c:= -1) (.inl rfl) (qy (by omega))⟩
  ·have eW: ¬ v < w:=by simp only [bF]at hc; omega
   try refine go ?_
   refine eF (fun oN=> ?_) (fun oN=> ?_)
   ·have H7:w < v:=by simp only [bf]at oN; omega
    try refine go ?_
    exact ai ⟨rfl,kG (c:=1) (.inr rfl) (qy (by omega))⟩
   ·have H7: ¬ w < v:=by simp only [bF]at oN; omega
    try refine go ?_
    exact ec m (by omega) rfl ⟨rfl,by omega,pk (by omega) GF,_,hw,rfl⟩
theorem Ju {s:St}{V W:List Nat}{E:Env}{o1 k1 c1:Nat}{o2 k2 c2:Nat}(hd:Ws s (.sl o1 0 k1 c1) V)(he:Ws s (.sl o2 0 k2 c2) W)(hV:V.length<=aM)(hW:W.length<=aM)(hl:V.length≠W.length):dR T H nG [] ⟨(1,.sl o2 0 k2 c2)::(0,.sl o1 0 k1 c1)::E,[]⟩ s (QF pS.1.results fun d s1=>s1=s/\oq V W d):=by
 have pW:aM=2147483648:=rfl;have ul:=dD V;have Yg:=dD W;have hn:∀i:Nat,i<=2147483648->IntKind.wrap .i64 ((i:Int) - 1)=(i:Int) - 1:=fun i hi=>wrap_small (by omega) (by omega);have xu:∀i:Nat,i<=2147483648->IntKind.wrap .i64 (((i+1:Nat):Int) - 1 - 1)=(i:Int) - 1:=fun i hi=>by rw [wrap_small (by omega) (by omega)]; omega
 have dn:V≠W:=fun e=>hl (by rw [e]);have e1:=hd.pK; subst e1;have e2:=he.pK; subst e2;clear hd he hn xu;show dR T H (.seq _ _) [] _ _ _;by_cases eW:V.length < W.length
 ·try refine go ?_
  exact ai ⟨rfl,kG (c:= -1) (.inl rfl) dn⟩
 ·try refine go ?_
  exact ai ⟨rfl,kG (c:=1) (.inr rfl) dn⟩
theorem NI {s:St}{a b:D}{V W:List Nat}{E:Env}(hd:Ws s a V)(he:Ws s b W)(hV:V.length<=aM)(hW:W.length<=aM):dR T H nG [] ⟨(1,b)::(0,a)::E,[]⟩ s (QF pS.1.results fun d s1=>s1=s/\oq V W d):=by
 by_cases hl:V.length=W.length
 ·rcases hd.sh with ⟨FV,z1,L1,rfl⟩ | ⟨o1,k1,c1,rfl⟩ <;> rcases he.sh with ⟨Da,z2,L2,rfl⟩ | ⟨o2,k2,c2,rfl⟩
  ·exact Jt hd he hV hW hl
  ·exact Js hd he hV hW hl
  ·exact Jr hd he hV hW hl
  ·exact Jq hd he hV hW hl
 ·rcases hd.sh with ⟨FV,z1,L1,rfl⟩ | ⟨o1,k1,c1,rfl⟩ <;> rcases he.sh with ⟨Da,z2,L2,rfl⟩ | ⟨o2,k2,c2,rfl⟩
  ·exact Jx hd he hV hW hl
  ·exact Jw hd he hV hW hl
  ·exact Jv hd he hV hW hl
  ·exact Ju hd he hV hW hl
theorem Gm (hT:TW T)(Lc:TV T){s:St}{x y:D}{V W:List Nat}(hx:Ws s x V)(hy:Ws s y W)(hV:V.length<=aM)(hW:W.length<=aM):bY T H 133 [x,y] s fun d s1=>s1=s/\oq (bV V) (bV W) d:=by
 have pW:aM=2147483648:=rfl;have OL:maxLen=9223372036854775807:=by decide
 have Ie:=pD (H:=H) hT hx (by omega);have Rk:=pD (H:=H) hT hy (by omega);have l1:=jx V;have l2:=jx W;have key:∀ {x y:D},((∃nl z L,x= .vs nl z L)\/∃o l c,x= .sl o 0 l c)->((∃nl z L,y= .vs nl z L)\/∃o l c,y= .sl o 0 l c)->bY T H 150 [x] s (fun d s1=>s1=s/\Ws s d (bV V))->bY T H 150 [y] s (fun d s1=>s1=s/\Ws s d (bV W))->bY T H 133 [x,y] s fun d s1=>s1=s/\oq (bV V) (bV W) d:=by
  clear Ie Rk hx hy;intro x y SG Rh Ie Rk;rcases SG with ⟨nl,z,L,rfl⟩ | ⟨o,l,c,rfl⟩ <;> rcases Rh with ⟨nl',z',L',rfl⟩ | ⟨o',l',c',rfl⟩
  all_goals
   refine aD Lc.t133 ?_;try refine go ?_
   refine af Ie ?_;rintro d s1 ⟨rfl,hd⟩;rcases hd.sh with ⟨FV,z1,L1,rfl⟩ | ⟨o1,k1,c1,rfl⟩
   all_goals
    try refine go ?_
    refine af Rk ?_;rintro d s2 ⟨rfl,he⟩;rcases he.sh with ⟨Da,z2,L2,rfl⟩ | ⟨o2,k2,c2,rfl⟩
    all_goals
     refine lR ?_;refine lR ?_;refine CG ?_;refine zT ?_;exact NI hd he (by omega) (by omega)
 exact key hx.sh hy.sh Ie Rk
end
section
variable {T:Nat->Option dJ}{H:au}
def ShW (x:D):Prop:=(∃nl z L,x= .vs nl z L)\/∃o l c,x= .sl o 0 l c
theorem xB.sh {s:St}{d:D}{n:Bool×List Nat}(h:xB s d n):∃y,d= .agg [.bool n.1,y]/\ShW y:=by
 obtain⟨y,e,hy⟩:=h;exact⟨y,e,hy.sh⟩
theorem oq.out {V W:List Nat}{d:D}(h:oq V W d):∃c:Int,d= .int .i64 c/\(c= -1\/c=0\/c=1)/\(c=0↔V=W):=h
theorem xf (n:Bool×List Nat):qg n=0\/qg n= -1\/qg n=1:=by
 unfold qg; split
 ·exact .inl rfl
 ·split
  ·exact .inr (.inl rfl)
  ·exact .inr (.inr rfl)
theorem zY (n:Bool×List Nat):qg n=0->bV n.2=[]:=by
 unfold qg;split
 ·exact fun _=>by assumption
 ·split <;> (intro h; omega)
theorem Ob {n m:Bool×List Nat}:db n.1 n.2=db m.1 m.2↔qg n=qg m/\bV n.2=bV m.2:=by
 obtain⟨a,V⟩:=n;obtain⟨b,W⟩:=m;unfold db qg;simp only;cases hV:bV V <;> cases hW:bV W <;> cases a <;> cases b <;> simp
theorem FW (hT:TW T)(Lc:TV T){s:St}{d e:D}{n m:Bool×List Nat}(hs:s.Ok)(hx:xB s d n)(hy:xB s e m)(hn:n.2.length<=aM)(hm:m.2.length<=aM):
  bY T H 95 [d,e] s fun r s1=>s1=s/\∃c:Int,r= .int .i64 c/\(c=0↔db n.1 n.2=db m.1 m.2):=by
 have pW:aM=2147483648:=rfl;have OL:maxLen=9223372036854775807:=by decide
 have h1:=I0 (H:=H) hT Lc hs hx (by omega);have h2:=I0 (H:=H) hT Lc hs hy (by omega);obtain⟨x,rfl,Bj⟩:=hx;obtain⟨y,rfl,Rn⟩:=hy;have h3:=Gm (H:=H) hT Lc Bj Rn hn hm;have q1:=xf n;have q2:=xf m;rw [Ob];have z1:=zY n;have z2:=zY m;generalize qg n=a at h1 q1 z1 ⊢;generalize qg m=b at h2 q2 z2 ⊢;have z3:∀ {c:Int},a=b->(c=0↔bV n.2=bV m.2)->(a * c=0↔a=b/\bV n.2=bV m.2):=by
  intro c ZT hc;subst ZT;rw [Int.mul_eq_zero,hc];constructor
  ·rintro (h | h)
   ·exact⟨rfl,by rw [z1 h,z2 h]⟩
   ·exact⟨rfl,h⟩
  ·exact fun h=> .inr h.2
 clear z1 z2
 have key:∀ {x y:D},ShW x->ShW y->bY T H 132 [.agg [.bool n.1,x]] s (fun d s1=>s1=s/\d= .int .i64 a)->bY T H 132 [.agg [.bool m.1,y]] s (fun d s1=>s1=s/\d= .int .i64 b)->bY T H 133 [x,y] s (fun d s1=>s1=s/\oq (bV n.2) (bV m.2) d)->
   bY T H 95 [.agg [.bool n.1,x],.agg [.bool m.1,y]] s fun r s1=>s1=s/\∃c:Int,r= .int .i64 c/\(c=0↔a=b/\bV n.2=bV m.2):=by
  clear h1 h2 h3 Bj Rn;intro x y SG Rh h1 h2 h3;rcases SG with ⟨nl,z,L,rfl⟩ | ⟨o,l,c,rfl⟩ <;> rcases Rh with ⟨nl',z',L',rfl⟩ | ⟨o',l',c',rfl⟩
  all_goals
   refine aD Lc.t95 ?_;try refine go ?_
   refine aV h1 ?_;rintro d s1 ⟨rfl,rfl⟩;refine⟨rfl,by rfl, ?_⟩;try refine go ?_
   refine aV h2 ?_;rintro d s1 ⟨rfl,rfl⟩;refine⟨rfl,by rfl, ?_⟩;try refine go ?_
   refine eF (fun hc=> ?_) (fun hc=> ?_)
   ·have eW:a < b:=by simpa using hc
    try refine go ?_
    exact ai ⟨rfl, -1,rfl,by omega⟩
   ·have eW: ¬ a < b:=by simpa using hc
    try refine go ?_
    refine eF (fun hc=> ?_) (fun hc=> ?_)
    ·have H7:b < a:=by simpa using hc
     try refine go ?_
     exact ai ⟨rfl,1,rfl,by omega⟩
    ·have H7: ¬ b < a:=by simpa using hc
     have ZT:a=b:=by omega
     try refine go ?_
     refine af h3 ?_;rintro d s1 ⟨rfl,c,rfl,xr,oN⟩;have hw:IntKind.wrap .i64 (a * c)=a * c:=by
      rcases q1 with rfl | rfl | rfl <;> rcases xr with rfl | rfl | rfl <;> decide
     try refine go ?_
     refine ai ⟨rfl,_,rfl, ?_⟩;rw [hw];exact z3 ZT oN
 exact key Bj.sh Rn.sh h1 h2 h3
theorem LF (hT:TW T)(Lc:TV T){s:St}{v:Int}(hv:v=0\/v=1\/v= -7):bY T H 71 [.int .i64 v] s fun d s1=>s1=s/\xB s d (if v=0 then (false,[]) else if v=1 then (false,[1]) else (true,[7])):=by
 have key:∀ng:Bool,∀V:List Nat,V.length<=maxLen->bY T H 108 [.bool ng,.vs false 1 (eJ V)] s fun d s1=>s1=s/\xB s d (db ng V):=fun ng V h=>Ah hT (.vs false V (fun h=>by cases h)) h;rcases hv with rfl | rfl | rfl
 ·refine aD Lc.t71 ?_;try refine go ?_
  refine af (x:=[.bool false,.vs false 1 (eJ [0,0])]) (key false [0,0] (by decide)) ?_;rintro d s1 ⟨rfl,y,rfl,hy⟩;rcases hy.sh with ⟨nl,z,L,rfl⟩ | ⟨o,l,c,rfl⟩
  all_goals
   try refine go ?_
   exact ai ⟨rfl,_,rfl,hy⟩
 ·refine aD Lc.t71 ?_;try refine go ?_
  refine af (x:=[.bool false,.vs false 1 (eJ [1,0])]) (key false [1,0] (by decide)) ?_;rintro d s1 ⟨rfl,y,rfl,hy⟩;rcases hy.sh with ⟨nl,z,L,rfl⟩ | ⟨o,l,c,rfl⟩
  all_goals
   try refine go ?_
   exact ai ⟨rfl,_,rfl,hy⟩
 ·refine aD Lc.t71 ?_;try refine go ?_
  refine af (x:=[.bool true,.vs false 1 (eJ [7,0])]) (key true [7,0] (by decide)) ?_;rintro d s1 ⟨rfl,y,rfl,hy⟩;rcases hy.sh with ⟨nl,z,L,rfl⟩ | ⟨o,l,c,rfl⟩
  all_goals
   try refine go ?_
   exact ai ⟨rfl,_,rfl,hy⟩
end
section
variable {T:Nat->Option dJ}{H Y:au}
noncomputable def uW (V:List Nat):Int:=IntKind.wrap .i64 (aaM (bV V))
noncomputable def fq (n:Bool×List Nat):Int:=Eb (IntKind.wrap .u64 (if n.1=true then IntKind.wrap .i64 (0 - uW n.2) else uW n.2))
theorem Rs (hW:TW T)(hV:TV T){s:St}{o n cp:Nat}{V:List Nat}(hs:s.Ok)(hx:Ws s (.sl o 0 n cp) V)(hl:V.length<=100000000):
  bY T H 105 [.agg [.bool false,.sl o 0 n cp],.int .i64 2305843009213693951] s fun d s1=>d= .gW [.int .i64 (uW V),.int .i64 0]/\aH Nil s s1:=by
 refine aD hV.t105 ?_;try refine go ?_
 have kv:aH Nil s (((s.aZ (.var 3 (.int .i64 2305843009213693951))).aZ (.var 23 (.int .u64 0))).bn (s.aZ (.var 3 (.int .i64 2305843009213693951))).n (.var 23 (.int .u64 0))):=
  aH.set (W:=Nil) (aH.push (aH.push (aH.refl hs) _) _) _ (by simp only [St.ck]; omega) (fun h=>by simp only [St.ck]at h; omega)
 have g3:(((s.aZ (.var 3 (.int .i64 2305843009213693951))).aZ (.var 23 (.int .u64 0))).bn (s.aZ (.var 3 (.int .i64 2305843009213693951))).n (.var 23 (.int .u64 0))).get s.n=some (.var 3 (.int .i64 2305843009213693951)):=St.cu (St.dN St.bq (by simp only [St.ck]; omega)) (by simp only [St.ck]; omega);have g6:(((s.aZ (.var 3 (.int .i64 2305843009213693951))).aZ (.var 23 (.int .u64 0))).bn (s.aZ (.var 3 (.int .i64 2305843009213693951))).n (.var 23 (.int .u64 0))).get (s.aZ (.var 3 (.int .i64 2305843009213693951))).n=some (.var 23 (.int .u64 0)):=St.aG;have Li:(s.aZ (.var 3 (.int .i64 2305843009213693951))).n=s.n+1:=rfl;generalize qz:((s.aZ (.var 3 (.int .i64 2305843009213693951))).aZ (.var 23 (.int .u64 0))).bn (s.aZ (.var 3 (.int .i64 2305843009213693951))).n (.var 23 (.int .u64 0))=s1 at *;simp only [Li]at *;have ok1:=kv.ok;have vS:=hx.dT hs kv (fun _ _ _ _ h=>h)
 refine af (pD hW vS (by have:maxLen=9223372036854775807:=by decide
                         omega)) ?_
 rintro d s2 ⟨rfl,hd⟩;rcases hd.sh with ⟨nl,z,L,rfl⟩ | ⟨o2,l2,c2,rfl⟩
 ·try refine go ?_
  refine af (wH hV ok1) ?_;rintro d s3 ⟨rfl,rfl⟩;have jb:aH (fun _=>False) s2 (s2.aZ (.var 28 (.vs nl z L))):=aH.push (aH.refl ok1) _;have W9:=hd.dT ok1 jb (fun _ _ _ _ h=>h);try refine go ?_
  refine uX (b3:=s.n) (b6:=s.n+1) hV jb.ok W9 (bW (jx V) hl) (jb.get ok1 g3 (fun h=>h)) (jb.get ok1 g6 (fun h=>h)) ⟨by omega,by omega⟩ St.bq rfl rfl ?_;intro s4 hr g64 b4;try refine go ?_
  exact ai ⟨rfl,kv.trans' ((jb.mono (W' :=fun j=>j=s.n+1) fun j hj=>hj.elim).trans b4) (by rintro j rfl hj; omega)⟩
 ·try refine go ?_
  refine af (ru hV ok1) ?_;rintro d s3 ⟨rfl,rfl⟩;have jb:aH (fun _=>False) s2 (s2.aZ (.var 28 (.sl o2 0 l2 c2))):=aH.push (aH.refl ok1) _;have W9:=hd.dT ok1 jb (fun _ _ _ _ h=>h);try refine go ?_
  refine uX (b3:=s.n) (b6:=s.n+1) hV jb.ok W9 (bW (jx V) hl) (jb.get ok1 g3 (fun h=>h)) (jb.get ok1 g6 (fun h=>h)) ⟨by omega,by omega⟩ St.bq rfl rfl ?_;intro s4 hr g64 b4;try refine go ?_
  exact ai ⟨rfl,kv.trans' ((jb.mono (W' :=fun j=>j=s.n+1) fun j hj=>hj.elim).trans b4) (by rintro j rfl hj; omega)⟩
theorem Rt (hW:TW T)(hV:TV T){s:St}{nl0:Bool}{z0:Nat}{L0:List D}{V:List Nat}(hs:s.Ok)(hx:Ws s (.vs nl0 z0 L0) V)(hl:V.length<=100000000):
  bY T H 105 [.agg [.bool false,.vs nl0 z0 L0],.int .i64 2305843009213693951] s fun d s1=>d= .gW [.int .i64 (uW V),.int .i64 0]/\aH Nil s s1:=by
 refine aD hV.t105 ?_;try refine go ?_
 have kv:aH Nil s (((s.aZ (.var 3 (.int .i64 2305843009213693951))).aZ (.var 23 (.int .u64 0))).bn (s.aZ (.var 3 (.int .i64 2305843009213693951))).n (.var 23 (.int .u64 0))):=
  aH.set (W:=Nil) (aH.push (aH.push (aH.refl hs) _) _) _ (by simp only [St.ck]; omega) (fun h=>by simp only [St.ck]at h; omega)
 have g3:(((s.aZ (.var 3 (.int .i64 2305843009213693951))).aZ (.var 23 (.int .u64 0))).bn (s.aZ (.var 3 (.int .i64 2305843009213693951))).n (.var 23 (.int .u64 0))).get s.n=some (.var 3 (.int .i64 2305843009213693951)):=St.cu (St.dN St.bq (by simp only [St.ck]; omega)) (by simp only [St.ck]; omega);have g6:(((s.aZ (.var 3 (.int .i64 2305843009213693951))).aZ (.var 23 (.int .u64 0))).bn (s.aZ (.var 3 (.int .i64 2305843009213693951))).n (.var 23 (.int .u64 0))).get (s.aZ (.var 3 (.int .i64 2305843009213693951))).n=some (.var 23 (.int .u64 0)):=St.aG;have Li:(s.aZ (.var 3 (.int .i64 2305843009213693951))).n=s.n+1:=rfl;generalize qz:((s.aZ (.var 3 (.int .i64 2305843009213693951))).aZ (.var 23 (.int .u64 0))).bn (s.aZ (.var 3 (.int .i64 2305843009213693951))).n (.var 23 (.int .u64 0))=s1 at *;simp only [Li]at *;have ok1:=kv.ok;have vS:=hx.dT hs kv (fun _ _ _ _ h=>h)
 refine af (pD hW vS (by have:maxLen=9223372036854775807:=by decide
                         omega)) ?_
 rintro d s2 ⟨rfl,hd⟩;rcases hd.sh with ⟨nl,z,L,rfl⟩ | ⟨o2,l2,c2,rfl⟩
 ·try refine go ?_
  refine af (wH hV ok1) ?_;rintro d s3 ⟨rfl,rfl⟩;have jb:aH (fun _=>False) s2 (s2.aZ (.var 28 (.vs nl z L))):=aH.push (aH.refl ok1) _;have W9:=hd.dT ok1 jb (fun _ _ _ _ h=>h);try refine go ?_
  refine uX (b3:=s.n) (b6:=s.n+1) hV jb.ok W9 (bW (jx V) hl) (jb.get ok1 g3 (fun h=>h)) (jb.get ok1 g6 (fun h=>h)) ⟨by omega,by omega⟩ St.bq rfl rfl ?_;intro s4 hr g64 b4;try refine go ?_
  exact ai ⟨rfl,kv.trans' ((jb.mono (W' :=fun j=>j=s.n+1) fun j hj=>hj.elim).trans b4) (by rintro j rfl hj; omega)⟩
 ·try refine go ?_
  refine af (ru hV ok1) ?_;rintro d s3 ⟨rfl,rfl⟩;have jb:aH (fun _=>False) s2 (s2.aZ (.var 28 (.sl o2 0 l2 c2))):=aH.push (aH.refl ok1) _;have W9:=hd.dT ok1 jb (fun _ _ _ _ h=>h);try refine go ?_
  refine uX (b3:=s.n) (b6:=s.n+1) hV jb.ok W9 (bW (jx V) hl) (jb.get ok1 g3 (fun h=>h)) (jb.get ok1 g6 (fun h=>h)) ⟨by omega,by omega⟩ St.bq rfl rfl ?_;intro s4 hr g64 b4;try refine go ?_
  exact ai ⟨rfl,kv.trans' ((jb.mono (W' :=fun j=>j=s.n+1) fun j hj=>hj.elim).trans b4) (by rintro j rfl hj; omega)⟩
theorem JA (hW:TW T)(hV:TV T){s:St}{o n cp:Nat}{V:List Nat}{neg:Bool}(hs:s.Ok)(hx:Ws s (.sl o 0 n cp) V)(hl:V.length<=100000000):
  bY T H 68 [.agg [.bool neg,.sl o 0 n cp]] s fun d s1=>d= .int .i64 (fq (neg,V))/\aH Nil s s1:=by
 have hr:=Rs (H:=H) hW hV hs hx hl;refine aD hV.t68 ?_;try refine go ?_
 refine af hr ?_;rintro d s1 ⟨rfl,b1⟩;have ok1:=b1.ok;cases neg
 ·try refine go ?_
  refine af (od hV ok1) ?_;rintro d s2 ⟨rfl,g2,b2⟩;try refine go ?_
  refine af (pU hV g2) ?_;rintro d s3 ⟨rfl,rfl⟩;try refine go ?_
  exact ai ⟨rfl,b1.trans b2⟩
 ·try refine go ?_
  refine af (od hV ok1) ?_;rintro d s2 ⟨rfl,g2,b2⟩;try refine go ?_
  refine af (pU hV g2) ?_;rintro d s3 ⟨rfl,rfl⟩;try refine go ?_
  exact ai ⟨rfl,b1.trans b2⟩
theorem JB (hW:TW T)(hV:TV T){s:St}{nl0:Bool}{z0:Nat}{L0:List D}{V:List Nat}{neg:Bool}(hs:s.Ok)(hx:Ws s (.vs nl0 z0 L0) V)(hl:V.length<=100000000):
  bY T H 68 [.agg [.bool neg,.vs nl0 z0 L0]] s fun d s1=>d= .int .i64 (fq (neg,V))/\aH Nil s s1:=by
 have hr:=Rt (H:=H) hW hV hs hx hl;refine aD hV.t68 ?_;try refine go ?_
 refine af hr ?_;rintro d s1 ⟨rfl,b1⟩;have ok1:=b1.ok;cases neg
 ·try refine go ?_
  refine af (od hV ok1) ?_;rintro d s2 ⟨rfl,g2,b2⟩;try refine go ?_
  refine af (pU hV g2) ?_;rintro d s3 ⟨rfl,rfl⟩;try refine go ?_
  exact ai ⟨rfl,b1.trans b2⟩
 ·try refine go ?_
  refine af (od hV ok1) ?_;rintro d s2 ⟨rfl,g2,b2⟩;try refine go ?_
  refine af (pU hV g2) ?_;rintro d s3 ⟨rfl,rfl⟩;try refine go ?_
  exact ai ⟨rfl,b1.trans b2⟩
end
end Go.Proofs.Tab
