/- Part. -/
import Derived.Test.YthaiegafejbmoaaGreatDoorG44
import Derived.Test.YthaiegafejbmoaaGreatDoorG45
set_option linter.unusedSectionVars false
set_option maxRecDepth 1000000
set_option linter.unusedSimpArgs false
set_option linter.unusedVariables false
namespace Go.Proofs.Tab
open Go Go.Ab Go.Ab.Sm
theorem Gc {C:au}{f:Nat}(h:Ab.isTrue (C f [] kX)=true)(s:St):alone C f [] s=some (.bool true,s):=by
 unfold alone;split
 ·generalize C f [] kX=r at h;unfold Ab.isTrue at h;split at h
  ·rfl
  ·cases h
 ·rename_i h1; cases h1
theorem Ji:Ab.isTrue (cV Qz fm 200 4 [] kX)=true:=by kernel_rfl
noncomputable def aw:au:=alone (cV Qz fm 200)
theorem Dl (s:St):aw 4 [] s=some (.bool true,s):=Gc Ji s
theorem aai (s:St):hk aw 4 [] s=some (.bool true,s):=by rw [aaj rfl rfl]; exact Dl s
noncomputable def HO:au:=Uv 5 (Kl wA (hk aw)) (hk aw)
theorem YR (s:St):HO 4 [] s=some (.bool true,s):=by unfold HO; rw [vL rfl]; exact aai s
theorem DX {T:Nat->Option dJ}{H:au}{f:Nat}{x:List D}{s s1:St}{d:D}{R:D->St->Prop}(h:H f x s=some (d,s1))(ht:T f=none)(hr:R d s1):bY T H f x s R:=by
 refine⟨d,s1,⟨1, ?_⟩,hr⟩;unfold cV;rw [ht];split <;> exact h
theorem TO:u9 4=none:=rfl
theorem TR:u9 5=none:=rfl
theorem TZ:wA 83=none:=rfl
theorem TY:wA 125=none:=rfl
theorem Jh (s:St):bY u9 HO 4 [] s fun d s1=>d= .bool true/\s1=s:=DX (YR s) TO ⟨rfl,rfl⟩
theorem ab4:TU wA (hk aw):=aah TZ TY
theorem vW {g:Bool}{a b:Nat}{L:List D}:∀k,Bo (List.replicate k (rI g a b)++L)=Bo L
 | 0=>rfl
 | k+1=>by
  rw [je,gz];exact vW k
theorem Of {s:St}{lo sz ty st n:Nat}{L:List D}(hs:s.ro=false)(hg:s.get lo=some (.arr sz ty L st))(hn:L.length=n)(dn:L≠ [])(hk:Bo L=none):K7 [.sl lo 0 n n] s=some ([.vs false sz (L.map (K8 0 []))],s.bn lo .dead):=by
 subst hn;cases L with
 | nil=>exact absurd rfl dn
 | cons e es=>
  unfold K7;rw [hs];simp only [hg,aA,dS,cond,hk]
theorem Oe {s:St} {lo sz ty st n ko ty' st' :Nat}{L K:List D}(hs:s.ro=false)(hg:s.get lo=some (.arr sz ty L st))(hn:L.length=n)(dn:L≠ [])(hk:Bo L=some ko)(C8:s.get ko=some (.arr 1 ty' K st'))(pQ:K≠ [])(Xm:ko≠lo):K7 [.sl lo 0 n n] s=some ([.vs false sz (L.map (K8 ko K))],(s.bn ko .dead).bn lo .dead):=by
 subst hn;have hb:Nat.beq ko lo=false:=by
  cases h:Nat.beq ko lo
  ·rfl
  ·exact absurd (ay h) Xm
 cases L with
 | nil=>exact absurd rfl dn
 | cons e es=>
  cases K with
  | nil=>exact absurd rfl pQ
  | cons k ks=>
   unfold K7;rw [hs];simp only [hg,aA,dS,cond,hk,C8,hb]
theorem Ip {n:Nat}{g:Bool}{a b ko:Nat}{K:List D}{kx:D}(h:K8 ko K (rD kx)=(tD n).d):(List.replicate (n+1) (rI g a b)++ [rD kx,rB,rN,rZ g a b]).map (K8 ko K)=(o5 n g [a,b]).map Tm.d:=by
 rw [o5,eX,eX,kR,kR];simp only [bT,eH,h];rfl
theorem S2:F5 u9 HO:=by
 intro s n g a b lo st kx hs hn ha hb hg WZ;have qZ:=hs.ro;have llo:=hs.lt hg;have qx:(List.replicate (n+1) (rI g a b)++ [rD kx,rB,rN,rZ g a b]).length=n+1+4:=by simp
 have dn:List.replicate (n+1) (rI g a b)++ [rD kx,rB,rN,rZ g a b]≠ []:=by simp
 have yT:∃s',K7 [.sl lo 0 (n+1+4) (n+1+4)] s=some ([.vs false 8 ((o5 n g [a,b]).map Tm.d)],s')/\s'.Ok:=by
  rcases WZ.inv with ⟨rfl,hz⟩ | ⟨ko,xh,rfl,gk,yX,FP⟩
  ·have Ih:=congrArg List.length hz;rw [fH,nX,b9]at Ih;obtain rfl:n=0:=by omega
   refine⟨_, ?_,hs.bn .dead llo⟩;rw [Of qZ hg qx dn (by rw [vW]; rfl),Ip (n:=0) rfl]
  ·have Xm:ko≠lo:=bj gk hg (by simp [tag]);have lko:=hs.lt gk;refine⟨_, ?_,(hs.bn .dead lko).bn .dead llo⟩;rw [Oe qZ hg qx dn (by rw [vW]; rfl) gk FP Xm,Ip (n:=n) ?_];have h1:Nat.beq n 0=false:=by
    cases h:Nat.beq n 0
    ·rfl
    ·have:=ay h;subst this;exact absurd rfl FP
   show D.agg [.int .i64 7,.bool false,.bool false,.vs true 1 [],.str [],kz ko (ints (jq n)) (.sl ko 0 (ints (jq n)).length (ints (jq n)).length),.bool false,.bool false]=D.agg [.int .i64 7,.bool false,.bool false,.vs true 1 [],.str [],.vs (Nat.beq n 0) 1 (ints (jq n)),.bool false,.bool false];rw [h1];simp only [kz,aA,dS,cond]
 obtain⟨s',hf,gy⟩:=yT
 obtain⟨d,s1,⟨N,hN⟩,hp⟩:=Ph (H:=hk aw) (g:=g) (m:=[a,b]) ab1 ab2 ab3 ab0 ab6 ab5 ab7 ab4 gy hn (by simp) (by
  intro w hw;simp only [aN,bA,cJ]at hw;rcases hw with rfl | rfl <;> assumption)
 refine DX ?_ TR hp;unfold HO;rw [WR hf];exact Im hN
end Go.Proofs.Tab
