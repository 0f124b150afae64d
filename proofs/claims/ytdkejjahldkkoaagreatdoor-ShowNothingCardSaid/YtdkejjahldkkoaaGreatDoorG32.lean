/- Part. -/
import Derived.Test.YtdkejjahldkkoaaGreatDoorG31
set_option linter.unusedSectionVars false
set_option maxRecDepth 100000
set_option maxHeartbeats 4000000
set_option linter.unusedSimpArgs false
set_option linter.unusedVariables false
namespace Go.Proofs.Tab
open Go Go.Ab Go.Ab.Sm
def uZ (tms:List Tm)(t:Tm):Prop:=
 if t.kd=5\/t.kd=6\/t.kd=8\/t.kd=9 then True else if t.kd=7 then t.kids.length % 2=0 else if t.kd=15\/t.kd=16\/t.kd=17 then ∃k u,t.kids=[k]/\tms[k.toNat]? =some u/\u.kd=7 else t.kids=[]
def rF (tms:List Tm)(i:Nat)(t:Tm)(k:Int):Prop:=0<=k/\k < (if t.kd=6 then tms.length else i:Nat)
def mP (tms:List Tm)(i:Nat)(t:Tm):Prop:=(∀k∈t.kids,rF tms i t k)/\(∀k∈eU t,∃u,tms[k.toNat]? =some u/\IsKey u)/\uZ tms t
noncomputable def gk:AC:=match mF.1.body with
 | .seq _ (.seq _ (.seq _ (.seq _ (.seq _ (.seq _ c)))))=>c
 | _=> .skip
section
variable {T:Nat->Option dS}{H:au}{s:St}{so bo i:Nat}{tms:List Tm}{t:Tm}{x:D}{K:List je}{Q:QP}
theorem abD (hb:s.get bo=some (.var 97 (.agg [.ptr so 0,.vs false 8 (tms.map Tm.d),x]))){b ng n1 n2 gY sm:Bool}{mag:List Nat}{tx:List UInt8}{z1 z2 z3:D}{R:D->St->Prop}{kids:List Int}(h:R (.bool false) s):eI T H gk [] ⟨(46,.bool false)::(0,.ptr bo 0)::(4,.bool false)::(5,.lv (Tm.d ⟨5,b,ng,n1,mag,tx,n2,kids,gY,sm⟩))::[(43,z1),(44,z2),(45,z3)],[]⟩ s (QF mF.1.results R):=by
 show eI T H (.seq _ _) _ _ s _;try refine go ?_
 exact ai h
theorem ab3 (hb:s.get bo=some (.var 97 (.agg [.ptr so 0,.vs false 8 (tms.map Tm.d),x]))){b ng n1 n2 gY sm:Bool}{mag:List Nat}{tx:List UInt8}{z1 z2 z3:D}{R:D->St->Prop}{kids:List Int}(h:R (.bool false) s):eI T H gk [] ⟨(46,.bool false)::(0,.ptr bo 0)::(4,.bool false)::(5,.lv (Tm.d ⟨6,b,ng,n1,mag,tx,n2,kids,gY,sm⟩))::[(43,z1),(44,z2),(45,z3)],[]⟩ s (QF mF.1.results R):=by
 show eI T H (.seq _ _) _ _ s _;try refine go ?_
 exact ai h
theorem abE (hb:s.get bo=some (.var 97 (.agg [.ptr so 0,.vs false 8 (tms.map Tm.d),x]))){b ng n1 n2 gY sm:Bool}{mag:List Nat}{tx:List UInt8}{z1 z2 z3:D}{R:D->St->Prop}{kids:List Int}(h:R (.bool false) s):eI T H gk [] ⟨(46,.bool false)::(0,.ptr bo 0)::(4,.bool false)::(5,.lv (Tm.d ⟨8,b,ng,n1,mag,tx,n2,kids,gY,sm⟩))::[(43,z1),(44,z2),(45,z3)],[]⟩ s (QF mF.1.results R):=by
 show eI T H (.seq _ _) _ _ s _;try refine go ?_
 exact ai h
theorem acr (hb:s.get bo=some (.var 97 (.agg [.ptr so 0,.vs false 8 (tms.map Tm.d),x]))){b ng n1 n2 gY sm:Bool}{mag:List Nat}{tx:List UInt8}{z1 z2 z3:D}{R:D->St->Prop}{kids:List Int}(h:R (.bool false) s):eI T H gk [] ⟨(46,.bool false)::(0,.ptr bo 0)::(4,.bool false)::(5,.lv (Tm.d ⟨9,b,ng,n1,mag,tx,n2,kids,gY,sm⟩))::[(43,z1),(44,z2),(45,z3)],[]⟩ s (QF mF.1.results R):=by
 show eI T H (.seq _ _) _ _ s _;try refine go ?_
 exact ai h
theorem YE (hb:s.get bo=some (.var 97 (.agg [.ptr so 0,.vs false 8 (tms.map Tm.d),x]))){b ng n1 n2 gY sm:Bool}{mag:List Nat}{tx:List UInt8}{z1 z2 z3:D}{R:D->St->Prop}{kids:List Int}(hm:kids.length % 2=0)(h:R (.bool false) s):eI T H gk [] ⟨(46,.bool false)::(0,.ptr bo 0)::(4,.bool false)::(5,.lv (Tm.d ⟨7,b,ng,n1,mag,tx,n2,kids,gY,sm⟩))::[(43,z1),(44,z2),(45,z3)],[]⟩ s (QF mF.1.results R):=by
 have jg:=fw kids;have e1:Int.tmod (((ints kids).length:Nat):Int) 2=((0:Nat):Int):=by rw [jg,bY (by omega)]; omega
 show eI T H (.seq _ _) _ _ s _;try refine go ?_
 simp only [e1];try refine go ?_
 exact ai h
theorem Y4 (hb:s.get bo=some (.var 97 (.agg [.ptr so 0,.vs false 8 (tms.map Tm.d),x]))){b ng n1 n2 gY sm:Bool}{mag:List Nat}{tx:List UInt8}{z1 z2 z3:D}{R:D->St->Prop}{kids:List Int}(hm:kids.length % 2=1)(h:R (.bool true) s):eI T H gk [] ⟨(46,.bool false)::(0,.ptr bo 0)::(4,.bool false)::(5,.lv (Tm.d ⟨7,b,ng,n1,mag,tx,n2,kids,gY,sm⟩))::[(43,z1),(44,z2),(45,z3)],[]⟩ s (QF mF.1.results R):=by
 have jg:=fw kids;have e1:Int.tmod (((ints kids).length:Nat):Int) 2=((1:Nat):Int):=by rw [jg,bY (by omega)]; omega
 show eI T H (.seq _ _) _ _ s _;try refine go ?_
 simp only [e1];try refine go ?_
 exact ai h
theorem WQ (hb:s.get bo=some (.var 97 (.agg [.ptr so 0,.vs false 8 (tms.map Tm.d),x]))){b ng n1 n2 gY sm:Bool}{mag:List Nat}{tx:List UInt8}{z1 z2 z3:D}{R:D->St->Prop}(h:R (.bool true) s):eI T H gk [] ⟨(46,.bool false)::(0,.ptr bo 0)::(4,.bool false)::(5,.lv (Tm.d ⟨15,b,ng,n1,mag,tx,n2,[],gY,sm⟩))::[(43,z1),(44,z2),(45,z3)],[]⟩ s (QF mF.1.results R):=by
 have cC:(((ints ([]:List Int)).length:Int) !=1)=true:=by simp [ints]
 show eI T H (.seq _ _) _ _ s _;try refine go ?_
 exact ai h
theorem XD (hb:s.get bo=some (.var 97 (.agg [.ptr so 0,.vs false 8 (tms.map Tm.d),x]))){b ng n1 n2 gY sm:Bool}{mag:List Nat}{tx:List UInt8}{z1 z2 z3:D}{R:D->St->Prop}{k k2:Int}{r:List Int}(h:R (.bool true) s):eI T H gk [] ⟨(46,.bool false)::(0,.ptr bo 0)::(4,.bool false)::(5,.lv (Tm.d ⟨15,b,ng,n1,mag,tx,n2,(k::k2::r),gY,sm⟩))::[(43,z1),(44,z2),(45,z3)],[]⟩ s (QF mF.1.results R):=by
 have jg:=fw (k::k2::r);have cC:(((ints (k::k2::r)).length:Int) !=1)=true:=by rw [jg]; simp only [aU,bne_iff_ne,ne_eq]; omega
 show eI T H (.seq _ _) _ _ s _;try refine go ?_
 simp only [cC];try refine go ?_
 exact ai h
theorem QI (hb:s.get bo=some (.var 97 (.agg [.ptr so 0,.vs false 8 (tms.map Tm.d),x]))){b ng n1 n2 gY sm:Bool}{mag:List Nat}{tx:List UInt8}{z1 z2 z3:D}{R:D->St->Prop}{q:Nat}{u:Tm}(hu:tms[q]? =some u)(wF:u.kd=7)(h:R (.bool false) s):eI T H gk [] ⟨(46,.bool false)::(0,.ptr bo 0)::(4,.bool false)::(5,.lv (Tm.d ⟨15,b,ng,n1,mag,tx,n2,[(q:Int)],gY,sm⟩))::[(43,z1),(44,z2),(45,z3)],[]⟩ s (QF mF.1.results R):=by
 have ha:=ee hu;have Co:(ints [(q:Int)])[0]? =some (.int .i64 (q:Nat)):=rfl;obtain⟨ukd,ub,ung,LJ,umag,utx,Mz,ukids,uhs,usm⟩:=u;simp only at wF;subst wF;show eI T H (.seq _ _) _ _ s _;try refine go ?_
 exact ai h
theorem P1 (hb:s.get bo=some (.var 97 (.agg [.ptr so 0,.vs false 8 (tms.map Tm.d),x]))){b ng n1 n2 gY sm:Bool}{mag:List Nat}{tx:List UInt8}{z1 z2 z3:D}{R:D->St->Prop}{q:Nat}{u:Tm}(hu:tms[q]? =some u)(wF:u.kd≠7)(h:R (.bool true) s):eI T H gk [] ⟨(46,.bool false)::(0,.ptr bo 0)::(4,.bool false)::(5,.lv (Tm.d ⟨15,b,ng,n1,mag,tx,n2,[(q:Int)],gY,sm⟩))::[(43,z1),(44,z2),(45,z3)],[]⟩ s (QF mF.1.results R):=by
 have ha:=ee hu;have Co:(ints [(q:Int)])[0]? =some (.int .i64 (q:Nat)):=rfl;obtain⟨ukd,ub,ung,LJ,umag,utx,Mz,ukids,uhs,usm⟩:=u;simp only at wF;have MK:(ukd !=7)=true:=by simpa using wF
 show eI T H (.seq _ _) _ _ s _;try refine go ?_
 try simp only [MK]
 try refine go ?_
 exact ai h
theorem Wb (hb:s.get bo=some (.var 97 (.agg [.ptr so 0,.vs false 8 (tms.map Tm.d),x]))){b ng n1 n2 gY sm:Bool}{mag:List Nat}{tx:List UInt8}{z1 z2 z3:D}{R:D->St->Prop}(h:R (.bool true) s):eI T H gk [] ⟨(46,.bool false)::(0,.ptr bo 0)::(4,.bool false)::(5,.lv (Tm.d ⟨16,b,ng,n1,mag,tx,n2,[],gY,sm⟩))::[(43,z1),(44,z2),(45,z3)],[]⟩ s (QF mF.1.results R):=by
 have cC:(((ints ([]:List Int)).length:Int) !=1)=true:=by simp [ints]
 show eI T H (.seq _ _) _ _ s _;try refine go ?_
 exact ai h
theorem WR (hb:s.get bo=some (.var 97 (.agg [.ptr so 0,.vs false 8 (tms.map Tm.d),x]))){b ng n1 n2 gY sm:Bool}{mag:List Nat}{tx:List UInt8}{z1 z2 z3:D}{R:D->St->Prop}{k k2:Int}{r:List Int}(h:R (.bool true) s):eI T H gk [] ⟨(46,.bool false)::(0,.ptr bo 0)::(4,.bool false)::(5,.lv (Tm.d ⟨16,b,ng,n1,mag,tx,n2,(k::k2::r),gY,sm⟩))::[(43,z1),(44,z2),(45,z3)],[]⟩ s (QF mF.1.results R):=by
 have jg:=fw (k::k2::r);have cC:(((ints (k::k2::r)).length:Int) !=1)=true:=by rw [jg]; simp only [aU,bne_iff_ne,ne_eq]; omega
 show eI T H (.seq _ _) _ _ s _;try refine go ?_
 simp only [cC];try refine go ?_
 exact ai h
theorem Qs (hb:s.get bo=some (.var 97 (.agg [.ptr so 0,.vs false 8 (tms.map Tm.d),x]))){b ng n1 n2 gY sm:Bool}{mag:List Nat}{tx:List UInt8}{z1 z2 z3:D}{R:D->St->Prop}{q:Nat}{u:Tm}(hu:tms[q]? =some u)(wF:u.kd=7)(h:R (.bool false) s):eI T H gk [] ⟨(46,.bool false)::(0,.ptr bo 0)::(4,.bool false)::(5,.lv (Tm.d ⟨16,b,ng,n1,mag,tx,n2,[(q:Int)],gY,sm⟩))::[(43,z1),(44,z2),(45,z3)],[]⟩ s (QF mF.1.results R):=by
 have ha:=ee hu;have Co:(ints [(q:Int)])[0]? =some (.int .i64 (q:Nat)):=rfl;obtain⟨ukd,ub,ung,LJ,umag,utx,Mz,ukids,uhs,usm⟩:=u;simp only at wF;subst wF;show eI T H (.seq _ _) _ _ s _;try refine go ?_
 exact ai h
theorem QA (hb:s.get bo=some (.var 97 (.agg [.ptr so 0,.vs false 8 (tms.map Tm.d),x]))){b ng n1 n2 gY sm:Bool}{mag:List Nat}{tx:List UInt8}{z1 z2 z3:D}{R:D->St->Prop}{q:Nat}{u:Tm}(hu:tms[q]? =some u)(wF:u.kd≠7)(h:R (.bool true) s):eI T H gk [] ⟨(46,.bool false)::(0,.ptr bo 0)::(4,.bool false)::(5,.lv (Tm.d ⟨16,b,ng,n1,mag,tx,n2,[(q:Int)],gY,sm⟩))::[(43,z1),(44,z2),(45,z3)],[]⟩ s (QF mF.1.results R):=by
 have ha:=ee hu;have Co:(ints [(q:Int)])[0]? =some (.int .i64 (q:Nat)):=rfl;obtain⟨ukd,ub,ung,LJ,umag,utx,Mz,ukids,uhs,usm⟩:=u;simp only at wF;have MK:(ukd !=7)=true:=by simpa using wF
 show eI T H (.seq _ _) _ _ s _;try refine go ?_
 try simp only [MK]
 try refine go ?_
 exact ai h
theorem WU (hb:s.get bo=some (.var 97 (.agg [.ptr so 0,.vs false 8 (tms.map Tm.d),x]))){b ng n1 n2 gY sm:Bool}{mag:List Nat}{tx:List UInt8}{z1 z2 z3:D}{R:D->St->Prop}(h:R (.bool true) s):eI T H gk [] ⟨(46,.bool false)::(0,.ptr bo 0)::(4,.bool false)::(5,.lv (Tm.d ⟨17,b,ng,n1,mag,tx,n2,[],gY,sm⟩))::[(43,z1),(44,z2),(45,z3)],[]⟩ s (QF mF.1.results R):=by
 have cC:(((ints ([]:List Int)).length:Int) !=1)=true:=by simp [ints]
 show eI T H (.seq _ _) _ _ s _;try refine go ?_
 exact ai h
theorem WA (hb:s.get bo=some (.var 97 (.agg [.ptr so 0,.vs false 8 (tms.map Tm.d),x]))){b ng n1 n2 gY sm:Bool}{mag:List Nat}{tx:List UInt8}{z1 z2 z3:D}{R:D->St->Prop}{k k2:Int}{r:List Int}(h:R (.bool true) s):eI T H gk [] ⟨(46,.bool false)::(0,.ptr bo 0)::(4,.bool false)::(5,.lv (Tm.d ⟨17,b,ng,n1,mag,tx,n2,(k::k2::r),gY,sm⟩))::[(43,z1),(44,z2),(45,z3)],[]⟩ s (QF mF.1.results R):=by
 have jg:=fw (k::k2::r);have cC:(((ints (k::k2::r)).length:Int) !=1)=true:=by rw [jg]; simp only [aU,bne_iff_ne,ne_eq]; omega
 show eI T H (.seq _ _) _ _ s _;try refine go ?_
 simp only [cC];try refine go ?_
 exact ai h
theorem R6 (hb:s.get bo=some (.var 97 (.agg [.ptr so 0,.vs false 8 (tms.map Tm.d),x]))){b ng n1 n2 gY sm:Bool}{mag:List Nat}{tx:List UInt8}{z1 z2 z3:D}{R:D->St->Prop}{q:Nat}{u:Tm}(hu:tms[q]? =some u)(wF:u.kd=7)(h:R (.bool false) s):eI T H gk [] ⟨(46,.bool false)::(0,.ptr bo 0)::(4,.bool false)::(5,.lv (Tm.d ⟨17,b,ng,n1,mag,tx,n2,[(q:Int)],gY,sm⟩))::[(43,z1),(44,z2),(45,z3)],[]⟩ s (QF mF.1.results R):=by
 have ha:=ee hu;have Co:(ints [(q:Int)])[0]? =some (.int .i64 (q:Nat)):=rfl;obtain⟨ukd,ub,ung,LJ,umag,utx,Mz,ukids,uhs,usm⟩:=u;simp only at wF;subst wF;show eI T H (.seq _ _) _ _ s _;try refine go ?_
 exact ai h
theorem Qh (hb:s.get bo=some (.var 97 (.agg [.ptr so 0,.vs false 8 (tms.map Tm.d),x]))){b ng n1 n2 gY sm:Bool}{mag:List Nat}{tx:List UInt8}{z1 z2 z3:D}{R:D->St->Prop}{q:Nat}{u:Tm}(hu:tms[q]? =some u)(wF:u.kd≠7)(h:R (.bool true) s):eI T H gk [] ⟨(46,.bool false)::(0,.ptr bo 0)::(4,.bool false)::(5,.lv (Tm.d ⟨17,b,ng,n1,mag,tx,n2,[(q:Int)],gY,sm⟩))::[(43,z1),(44,z2),(45,z3)],[]⟩ s (QF mF.1.results R):=by
 have ha:=ee hu;have Co:(ints [(q:Int)])[0]? =some (.int .i64 (q:Nat)):=rfl;obtain⟨ukd,ub,ung,LJ,umag,utx,Mz,ukids,uhs,usm⟩:=u;simp only at wF;have MK:(ukd !=7)=true:=by simpa using wF
 show eI T H (.seq _ _) _ _ s _;try refine go ?_
 try simp only [MK]
 try refine go ?_
 exact ai h
theorem abR (hb:s.get bo=some (.var 97 (.agg [.ptr so 0,.vs false 8 (tms.map Tm.d),x]))){b ng n1 n2 gY sm:Bool}{mag:List Nat}{tx:List UInt8}{z1 z2 z3:D}{R:D->St->Prop}{kd:Int}(hk:kd≠5/\kd≠6/\kd≠8/\kd≠9/\kd≠7/\kd≠15/\kd≠16/\kd≠17)(h:R (.bool false) s):eI T H gk [] ⟨(46,.bool false)::(0,.ptr bo 0)::(4,.bool false)::(5,.lv (Tm.d ⟨kd,b,ng,n1,mag,tx,n2,[],gY,sm⟩))::[(43,z1),(44,z2),(45,z3)],[]⟩ s (QF mF.1.results R):=by
 obtain⟨k1,k2,k3,k4,k5,k6,k7,k8⟩:=hk;show eI T H (.seq _ _) _ _ s _;try refine go ?_
 exact ai h
theorem abI (hb:s.get bo=some (.var 97 (.agg [.ptr so 0,.vs false 8 (tms.map Tm.d),x]))){b ng n1 n2 gY sm:Bool}{mag:List Nat}{tx:List UInt8}{z1 z2 z3:D}{R:D->St->Prop}{kd:Int}{k:Int}{r:List Int}(hk:kd≠5/\kd≠6/\kd≠8/\kd≠9/\kd≠7/\kd≠15/\kd≠16/\kd≠17)(h:R (.bool true) s):eI T H gk [] ⟨(46,.bool false)::(0,.ptr bo 0)::(4,.bool false)::(5,.lv (Tm.d ⟨kd,b,ng,n1,mag,tx,n2,(k::r),gY,sm⟩))::[(43,z1),(44,z2),(45,z3)],[]⟩ s (QF mF.1.results R):=by
 obtain⟨k1,k2,k3,k4,k5,k6,k7,k8⟩:=hk;have jg:=fw (k::r);have dQ:(0:Int) < ((ints (k::r)).length:Nat):=by rw [jg,aU]; omega
 show eI T H (.seq _ _) _ _ s _;try refine go ?_
 exact ai h
theorem MF (hb:s.get bo=some (.var 97 (.agg [.ptr so 0,.vs false 8 (tms.map Tm.d),x])))(hi:i<=tms.length)(mr:∀k∈t.kids,rF tms i t k){z1 z2 z3:D}{R:D->St->Prop}
  (h:∀b,(b=false↔uZ tms t)->R (.bool b) s):eI T H gk [] ⟨(46,.bool false)::(0,.ptr bo 0)::(4,.bool false)::(5,.lv t.d)::[(43,z1),(44,z2),(45,z3)],[]⟩ s (QF mF.1.results R):=by
 unfold uZ at h;unfold rF at mr;obtain⟨kd,b,ng,n1,mag,tx,n2,kids,gY,sm⟩:=t;simp only at h mr;by_cases h1:kd=5
 ·subst h1; exact abD hb (h false (by simp))
 by_cases h2:kd=6
 ·subst h2; exact ab3 hb (h false (by simp))
 by_cases h3:kd=8
 ·subst h3; exact abE hb (h false (by simp))
 by_cases h4:kd=9
 ·subst h4; exact acr hb (h false (by simp))
 by_cases h5:kd=7
 ·subst h5;rcases iU kids.length with hm | hm
  ·exact YE hb hm (h false (by simp [hm]))
  ·exact Y4 hb hm (h true (by simp [hm]))
 by_cases h6:kd=15\/kd=16\/kd=17
 ·have h7: ¬ (kd=5\/kd=6\/kd=8\/kd=9):=by omega
  rw [aJ h7,aJ h5,bJ h6]at h;cases kids with
  | nil=>
   have h' :=h true (by simp);rcases h6 with rfl | rfl | rfl
   ·exact WQ hb h'
   ·exact Wb hb h'
   ·exact WU hb h'
  | cons k r=>
   cases r with
   | cons k2 r=>
    have h' :=h true (by simp);rcases h6 with rfl | rfl | rfl
    ·exact XD hb h'
    ·exact WR hb h'
    ·exact WA hb h'
   | nil=>
    obtain⟨k0,k1⟩:=mr k (by simp);rw [aJ h2]at k1;obtain⟨q,rfl⟩:∃q:Nat,k=q:=⟨k.toNat,by omega⟩;have hq:q < tms.length:=by omega
    have hu:tms[q]? =some tms[q]:=ae hq;generalize tms[q]=u at hu;by_cases wF:u.kd=7
    ·have h' :=h false (by simp [hu,wF]);rcases h6 with rfl | rfl | rfl
     ·exact QI hb hu wF h'
     ·exact Qs hb hu wF h'
     ·exact R6 hb hu wF h'
    ·have h' :=h true (by simp [hu,wF]);rcases h6 with rfl | rfl | rfl
     ·exact P1 hb hu wF h'
     ·exact QA hb hu wF h'
     ·exact Qh hb hu wF h'
 ·have hk:kd≠5/\kd≠6/\kd≠8/\kd≠9/\kd≠7/\kd≠15/\kd≠16/\kd≠17:=by omega
  cases kids with
  | nil=>exact abR hb hk (h false (by simp [h1,h2,h3,h4,h5,h6]))
  | cons k r=>exact abI hb hk (h true (by simp [h1,h2,h3,h4,h5,h6]))
end
noncomputable def Rl:AC:=match mF.1.body with
 | .seq _ (.seq _ (.seq _ (.seq _ (.seq _ c))))=>c
 | _=> .skip
noncomputable def Ym:AC:=match Rl with
 | .seq a _=>a
 | _=> .skip
noncomputable def Np (n:Nat):AC:=match n,mF.1.body with
 | 1,.seq a _=>a
 | 2,.seq _ (.seq a _)=>a
 | 3,.seq _ (.seq _ (.seq a _))=>a
 | 4,.seq _ (.seq _ (.seq _ (.seq a _)))=>a
 | 5,.seq _ (.seq _ (.seq _ (.seq _ (.seq a _))))=>a
 | _,_=> .skip
section
variable {T:Nat->Option dS}{H:au}{s:St}{so bo i:Nat}{tms:List Tm}{t:Tm}{x:D}
theorem Zy (hS:TS T)(hs:s.Ok)(hb:s.get bo=some (.var 97 (.agg [.ptr so 0,.vs false 8 (tms.map Tm.d),x])))(ho:t.Ok)(hi:i<=tms.length)(mr:∀k∈t.kids,rF tms i t k){z1 z2 z3 z4:D}{R:D->St->Prop}
  (h:∀b s1,(b=false↔mP tms i t)->aC Nil s s1->R (.bool b) s1):eI T H Rl [] ⟨(31,.bool false)::(0,.ptr bo 0)::(4,.bool false)::(5,.lv t.d)::[(6,z1),(28,z2),(29,z3),(30,z4)],[]⟩ s (QF mF.1.results R):=by
 have Xd:=Ce (H:=H) (t:=t) hS hs ho;have j6:=ho.kids;have DA:=qA t;have jg:=fw (eU t);have lb:=hs.lt hb;have zu:(tms.map Tm.d).length=tms.length:=aH _
 have aak:∀k∈eU t,∃q:Nat,k=q/\q < tms.length:=fun k hk=>by
  obtain⟨h1,h2⟩:=mr k (zj hk);refine⟨k.toNat,by omega, ?_⟩;split at h2 <;> omega
 have bt:=fun (s1:St) (z1 z2 z3:D) hb gZ=>MF (T:=T) (H:=H) (s:=s1) (so:=so) (bo:=bo) (x:=x) (z1:=z1) (z2:=z2) (z3:=z3) (R:=R) hb hi mr gZ;obtain⟨kd,b,ng,n1,mag,tx,n2,kids,gY,sm⟩:=t;obtain⟨tl,OM⟩:∃tl,tl=gk:=⟨_,rfl⟩;rw [← OM]at bt;show eI T H (.seq Ym gk) _ _ s _;rw [← OM];refine run_seq ?_;show eI T H (.seq _ _) _ _ s _;try refine go ?_
 refine ak Xd ?_;rintro xk s1 ⟨q1,q2,q3⟩;have ok1:=q3.ok;have Gt:=q3.get hs hb (fun h=>h);have tail:=fun (z1 z2 z3:D) (BP:∀k∈eU ⟨kd,b,ng,n1,mag,tx,n2,kids,gY,sm⟩,∃u,tms[k.toNat]? =some u/\IsKey u)=>bt s1 z1 z2 z3 Gt (fun b jm =>h b s1 (jm.trans ⟨fun gZ=>⟨mr,BP,gZ⟩,fun hk=>hk.2.2⟩) q3)
 have bad:∀(k:Int) (u:Tm),k∈eU ⟨kd,b,ng,n1,mag,tx,n2,kids,gY,sm⟩->tms[k.toNat]? =some u-> ¬ IsKey u->R (.bool true) s1:=fun k u hk hu hn=>h true s1 (by
  simp only [Bool.true_eq_false,false_iff];rintro⟨_,h2,_⟩;obtain⟨u',h3,h4⟩:=h2 k hk;rw [hu]at h3; simp only [aa]at h3; subst h3;exact hn h4) q3
 generalize hK:eU ⟨kd,b,ng,n1,mag,tx,n2,kids,gY,sm⟩=K at *;rcases q1 with ⟨nl,K,FE⟩ | _ | ⟨ko,K,rP⟩
 ·try refine go ?_
  refine eT K.length (fun j=> [(0,.ptr bo 0),(4,.bool false),(5,.lv (Tm.d ⟨kd,b,ng,n1,mag,tx,n2,kids,gY,sm⟩)),(43,.vs nl 1 (ints K)),(44,.int .i64 ((ints K).length:Nat)),(45,.int .i64 (j:Nat))]) (fun j s' =>s' =s1/\∀m,m < j->∀k,K[m]? =some k->∃u,tms[k.toNat]? =some u/\IsKey u) ⟨rfl,fun m hm=>by omega⟩ ?_;rintro j s3 hj ⟨rfl,hI⟩;rcases aG j K.length with mO | qc
  ·have hk:K[j]? =some K[j]:=ae mO;obtain⟨q,PB,Ar⟩:=aak K[j] (bH mO);have rY:=bH mO;rw [PB]at hk rY;have Co:(ints K)[j]? =some (.int .i64 (q:Nat)):=ints_at hk;have hu:tms[q]? =some tms[q]:=ae Ar;have ha:=ee hu;generalize tms[q]=u at hu ha;have XO:=Dl (H:=H) (s:=s3) (t:=u) hS;try refine go ?_
   refine ak XO ?_;rintro d s4 ⟨⟨bb,rfl,lS⟩,rfl⟩;cases bb with
   | true=>
    try refine go ?_
    refine dO mO ⟨rfl,fun m hm k xi => ?_⟩;rcases aG m j with h1 | h1
    ·exact hI m h1 k xi
    ·obtain rfl:m=j:=by omega
     rw [hk]at xi; simp only [aa]at xi; subst xi;exact⟨u,by rw [cQ]; exact hu,lS.mp rfl⟩
   | false=>
    try refine go ?_
    exact ai (bad q u rY (by rw [cQ]; exact hu) (fun hh=>by have:=lS.mpr hh; cases this))
  ·try refine go ?_
   exact tail _ _ _ fun k hk=>by
    obtain⟨m,hm⟩:=cH hk;have:=(af.mp hm).1;exact hI m (by omega) k hm
 ·try refine go ?_
  refine lQ ?_;try refine go ?_
  exact tail _ _ _ fun k hk=>by cases hk
 ·have acR:s1.get ko=some (.arr 1 3 (ints K) 0):=rP;try refine go ?_
  refine eT K.length (fun j=> [(0,.ptr bo 0),(4,.bool false),(5,.lv (Tm.d ⟨kd,b,ng,n1,mag,tx,n2,kids,gY,sm⟩)),(43,.sl ko 0 K.length K.length),(44,.int .i64 (K.length:Nat)),(45,.int .i64 (j:Nat))]) (fun j s' =>s' =s1/\∀m,m < j->∀k,K[m]? =some k->∃u,tms[k.toNat]? =some u/\IsKey u) ⟨rfl,fun m hm=>by omega⟩ ?_;rintro j s3 hj ⟨rfl,hI⟩;rcases aG j K.length with mO | qc
  ·have hk:K[j]? =some K[j]:=ae mO;obtain⟨q,PB,Ar⟩:=aak K[j] (bH mO);have rY:=bH mO;rw [PB]at hk rY;have Co:(ints K)[0+j]? =some (.int .i64 (q:Nat)):=by rw [aM]; exact ints_at hk
   have hu:tms[q]? =some tms[q]:=ae Ar;have ha:=ee hu;generalize tms[q]=u at hu ha;have XO:=Dl (H:=H) (s:=s3) (t:=u) hS;try refine go ?_
   refine ak XO ?_;rintro d s4 ⟨⟨bb,rfl,lS⟩,rfl⟩;cases bb with
   | true=>
    try refine go ?_
    refine dO mO ⟨rfl,fun m hm k xi => ?_⟩;rcases aG m j with h1 | h1
    ·exact hI m h1 k xi
    ·obtain rfl:m=j:=by omega
     rw [hk]at xi; simp only [aa]at xi; subst xi;exact⟨u,by rw [cQ]; exact hu,lS.mp rfl⟩
   | false=>
    try refine go ?_
    exact ai (bad q u rY (by rw [cQ]; exact hu) (fun hh=>by have:=lS.mpr hh; cases this))
  ·try refine go ?_
   exact tail _ _ _ fun k hk=>by
    obtain⟨m,hm⟩:=cH hk;have:=(af.mp hm).1;exact hI m (by omega) k hm
theorem FM (hS:TS T)(hs:s.Ok)(hb:s.get bo=some (.var 97 (.agg [.ptr so 0,.vs false 8 (tms.map Tm.d),x])))(hti:tms[i]? =some t)(ho:t.Ok)(hN:tms.length<=100000):
  cu T H 30 [.ptr bo 0,.int .i64 (i:Nat)] s fun d s1=>(∃b,d= .bool b/\(b=false↔mP tms i t))/\aC Nil s s1:=by
 have ha:=ee hti;have hi:i < tms.length:=(af.mp hti).1;have zu:(tms.map Tm.d).length=tms.length:=aH _;have j6:=ho.kids;obtain⟨tl,OM⟩:∃tl,tl=Rl:=⟨_,rfl⟩;have hB:=fun (z1 z2 z3 z4:D) (mr:∀k∈t.kids,rF tms i t k)=>Zy (T:=T) (H:=H) (z1:=z1) (z2:=z2) (z3:=z3) (z4:=z4) (R:=fun d s1=>(∃b,d= .bool b/\(b=false↔mP tms i t))/\aC Nil s s1) hS hs hb ho (by omega) mr (fun b s1 h1 h2=>⟨⟨b,rfl,h1⟩,h2⟩);rw [← OM]at hB
 have bad:∀k:Int,k∈t.kids-> ¬ rF tms i t k->(∃b,D.bool true= .bool b/\(b=false↔mP tms i t))/\aC Nil s s:=fun k hk hn=>⟨⟨true,rfl,by
  simp only [Bool.true_eq_false,false_iff];exact fun h=>hn (h.1 k hk)⟩,aC.refl hs⟩
 unfold rF at hB bad;obtain⟨kd,b,ng,n1,mag,tx,n2,kids,gY,sm⟩:=t;have jg:=fw kids;simp only at hB bad j6;refine ay hS.t30 ?_;show eI T H (.seq (Np 1) (.seq (Np 2) (.seq (Np 3) (.seq (Np 4) (.seq (Np 5) Rl))))) _ _ s _;rw [← OM];by_cases h6:kd=6
 ·subst h6;simp only [ep]at hB bad;try refine go ?_
  refine eT kids.length (fun j=> [(0,.ptr bo 0),(4,.bool false),(5,.lv (Tm.d ⟨6,b,ng,n1,mag,tx,n2,kids,gY,sm⟩)),(6,.int .i64 ((tms.map Tm.d).length:Nat)),(28,.vs n2 1 (ints kids)),(29,.int .i64 ((ints kids).length:Nat)),(30,.int .i64 (j:Nat))]) (fun j s' =>s' =s/\∀m,m < j->∀k,kids[m]? =some k->0<=k/\k < (tms.length:Nat)) ⟨rfl,fun m hm=>by omega⟩ ?_;rintro j s3 hj ⟨rfl,hI⟩;rcases aG j kids.length with mO | qc
  ·have hk:kids[j]? =some kids[j]:=ae mO;have rY:=bH mO;generalize kids[j]=k at hk rY;have Co:(ints kids)[j]? =some (.int .i64 k):=ints_at hk;by_cases h0:k < 0
   ·try refine go ?_
    exact ai (bad k rY (by omega))
   ·by_cases h1:(tms.length:Int)<=k
    ·try refine go ?_
     exact ai (bad k rY (by omega))
    ·try refine go ?_
     refine dO mO ⟨rfl,fun m hm k' xi => ?_⟩;rcases aG m j with h2 | h2
     ·exact hI m h2 k' xi
     ·obtain rfl:m=j:=by omega
      rw [hk]at xi; simp only [aa]at xi; subst xi;omega
  ·try refine go ?_
   exact hB _ _ _ _ fun k hk=>by
    obtain⟨m,hm⟩:=cH hk;have:=(af.mp hm).1;exact hI m (by omega) k hm
 ·simp only [aJ h6]at hB bad;try refine go ?_
  refine eT kids.length (fun j=> [(0,.ptr bo 0),(4,.bool false),(5,.lv (Tm.d ⟨kd,b,ng,n1,mag,tx,n2,kids,gY,sm⟩)),(6,.int .i64 (i:Nat)),(28,.vs n2 1 (ints kids)),(29,.int .i64 ((ints kids).length:Nat)),(30,.int .i64 (j:Nat))]) (fun j s' =>s' =s/\∀m,m < j->∀k,kids[m]? =some k->0<=k/\k < (i:Nat)) ⟨rfl,fun m hm=>by omega⟩ ?_;rintro j s3 hj ⟨rfl,hI⟩;rcases aG j kids.length with mO | qc
  ·have hk:kids[j]? =some kids[j]:=ae mO;have rY:=bH mO;generalize kids[j]=k at hk rY;have Co:(ints kids)[j]? =some (.int .i64 k):=ints_at hk;by_cases h0:k < 0
   ·try refine go ?_
    exact ai (bad k rY (by omega))
   ·by_cases h1:(i:Int)<=k
    ·try refine go ?_
     exact ai (bad k rY (by omega))
    ·try refine go ?_
     refine dO mO ⟨rfl,fun m hm k' xi => ?_⟩;rcases aG m j with h2 | h2
     ·exact hI m h2 k' xi
     ·obtain rfl:m=j:=by omega
      rw [hk]at xi; simp only [aa]at xi; subst xi;omega
  ·try refine go ?_
   exact hB _ _ _ _ fun k hk=>by
    obtain⟨m,hm⟩:=cH hk;have:=(af.mp hm).1;exact hI m (by omega) k hm
end
theorem qS (s:ByteArray)(i:Nat):1<=(Utf8.decode s i).2:=by
 unfold Utf8.decode;simp only
 repeat' split
 all_goals simp
def runesFrom (l:List UInt8)(pos:Nat):Nat:=if h:pos < l.length then runesFrom l (pos+(Utf8.decode ⟨l.toArray⟩ pos).2)+1 else 0
 termination_by l.length - pos
 decreasing_by have:=qS ⟨l.toArray⟩ pos; omega
theorem uP {l:List UInt8}{pos:Nat}(h:pos < l.length):runesFrom l pos=runesFrom l (pos+(Utf8.decode ⟨l.toArray⟩ pos).2)+1:=by rw [runesFrom,dif_pos h]
theorem qx {l:List UInt8}{pos:Nat}(h: ¬ pos < l.length):runesFrom l pos=0:=by rw [runesFrom,dif_neg h]
theorem oa (l:List UInt8):∀(m pos:Nat),l.length - pos<=m->runesFrom l pos<=l.length - pos
 | 0,pos,h=>by rw [qx (by omega)]; omega
 | m+1,pos,h=>by
  by_cases hp:pos < l.length
  ·have:=qS ⟨l.toArray⟩ pos;rw [uP hp];have:=oa l m (pos+(Utf8.decode ⟨l.toArray⟩ pos).2) (by omega);omega
  ·rw [qx hp]; omega
theorem D3 {s:St}{e:Env}{x:bP}{l:List UInt8}(hs:s.Ok)(hx:x.ev e=some (.str l)):cB fD e s none (.range x)=some (.ptr s.n 0,s.bc (.lz l 0)):=by
 simp only [cB,hx,hs.W1]
theorem B6 {s:St}{e:Env}{x:bP}{o pos:Nat}{l:List UInt8}(hs:s.Ok)(hx:x.ev e=some (.ptr o 0))(hg:s.get o=some (.lz l pos))(h:pos < l.length):cB fD e s none (.uF x)=some (.gJ [.bool true,Fy pos,.int .i32 (Utf8.decode ⟨l.toArray⟩ pos).1],s.bD o (.lz l (pos+(Utf8.decode ⟨l.toArray⟩ pos).2))):=by
 have hb:Nat.blt pos l.length=true:=aq h;simp only [cB,hx,hg,hb,hs.set,oC]
theorem BQ {s:St}{e:Env}{x:bP}{o pos:Nat}{l:List UInt8}(hx:x.ev e=some (.ptr o 0))(hg:s.get o=some (.lz l pos))(h: ¬ pos < l.length):cB fD e s none (.uF x)=some (.gJ [.bool false],s):=by
 have hb:Nat.blt pos l.length=false:=by
  cases hc:Nat.blt pos l.length with
  | false=>rfl
  | true=>exact absurd (ax hc) h
 simp only [cB,hx,hg,hb]
section
variable {T:Nat->Option dS}{H:au}{s:St}
def Vu (s:St)(l:List UInt8)(m:Nat)(env:Env) (s' :St):Prop:=aC Nil s s' /\∃pos c,l.length - pos<=m/\s'.get s.n=some (.lz l pos)/\c+runesFrom l pos=runesFrom l 0/\c<=l.length/\env=[(3,.int .i64 ((c:Nat):Int)),(5,.ptr s.n 0)]
theorem VY (hS:TS T)(hs:s.Ok){l:List UInt8}(hl:l.length<=1000000000):cu T H 73 [.str l] s fun d s1=>d= .int .i64 (runesFrom l 0:Nat)/\aC Nil s s1:=by
 have h0:=oa l l.length 0 (by omega);refine ay hS.t73 ?_;try refine go ?_
 refine iZ ?_ rfl (D3 hs rfl);try refine go ?_
 refine cg (Vu s l) l.length rfl ⟨aC.push (aC.refl hs) _,0,0,by omega,St.ba,by omega,by omega,rfl⟩ ?_;rintro m env s1 ⟨b1,pos,c,hm,hg,hc,zf,rfl⟩;have ok1:=b1.ok;have ln:=ok1.lt hg;by_cases hp:pos < l.length
 ·have hd:=qS ⟨l.toArray⟩ pos;have hr:=uP hp;have hle:=oa l l.length pos (by omega);try refine go ?_
  refine iZ ?_ rfl (B6 ok1 rfl hg hp);try refine go ?_
  exact bg (m - 1) (by omega) rfl ⟨aC.set b1 _ ln (fun h=>by omega),_,c+1,by omega,St.aN,by omega,by omega,rfl⟩
 ·have hr:=qx hp;try refine go ?_
  refine iZ ?_ rfl (BQ rfl hg hp);try refine go ?_
  exact ai ⟨by rw [show runesFrom l 0=c by omega],b1⟩
end
theorem O1 (ng:Bool){V:List Nat}(hl:V.length<=100000)(hw:∀v∈V,v < 4294967296):(uG ng V).length<=4000000:=by
 unfold uG;split
 ·simp
 ·have key:∀L:List Nat,(L.flatMap o5).length=9 * L.length:=by
   intro L;induction L with
   | nil=>rfl
   | cons a r ih=>rw [ji,aB,ih,aU]; simp only [o5,aH,aU,bL]; omega
  have h1:=(mh (l:=jv (eH (gG V))) (· ==48)).length_le;have h2:(jv (eH (gG V))).length=9 * (eH (gG V)).length:=by rw [jv,key,ix]
  have h3:=vu hw;rw [aB];split <;> simp only [aU,bL] <;> omega
def Ba (t:Tm)(k:Nat):List UInt8:=if t.kd=1 then [110,111,110,101] else if t.kd=2 then (if t.b then [105,49] else [105,48]) else if t.kd=3 then [105]++uG t.ng t.mag else if t.kd=4 then [115]++t.tx else [111]++Lib.itoa (k:Nat)
section
variable {T:Nat->Option dS}{H:au}{s:St}{so bo k:Nat}{x:D}{tms:List Tm}{t:Tm}
theorem Il (hS:TS T)(hW:TW T)(hV:TV T)(hX:TX T)(hU:TU T H)(hs:s.Ok)(hb:lT s bo so tms x)(hk:tms[k]? =some t)(ho:t.Ok)(hwd:∀v∈t.mag,v < 4294967296)(zL:k < 1000):
  cu T H 74 [.ptr bo 0,.int .i64 (k:Nat)] s fun d s1=>d= .str (Ba t k)/\aC Nil s s1:=by
 have hg:=hb.go;have ha:=ee hk;have q1:=ho.n1; have q2:=ho.mag; have q3:=ho.tx;obtain⟨kd,b,ng,n1,mag,tx,n2,kids,gY,sm⟩:=t;simp only at q1 q2 q3 hwd;have hit:=hU.i s k (by omega);have zu:=O1 ng (cU q2 (by decide)) hwd;have tg:=Sj (n:=k) (by omega);unfold Ba;simp only;refine ay hS.t74 ?_;by_cases h1:kd=1
 ·subst h1;simp only [bJ];try refine go ?_
  exact ai ⟨rfl,aC.refl hs⟩
 rw [aJ h1];by_cases h2:kd=2
 ·subst h2;simp only [bJ];cases b
  ·try refine go ?_
   exact ai ⟨rfl,aC.refl hs⟩
  ·try refine go ?_
   exact ai ⟨rfl,aC.refl hs⟩
 rw [aJ h2];by_cases h3:kd=3
 ·subst h3;simp only [bJ];try refine go ?_
  refine ak (Mn hW hV hX hs (.vs n1 mag q1) (cU q2 (by decide)) hwd) ?_;rintro d s2 ⟨rfl,z1⟩;try refine go ?_
  refine xn (m:=[105]) (c:=uG ng mag) ?_ (by rw [aW]; omega);try refine go ?_
  exact ai ⟨rfl,z1⟩
 rw [aJ h3];by_cases h4:kd=4
 ·subst h4;simp only [bJ];try refine go ?_
  refine xn (m:=[115]) (c:=tx) ?_ (by rw [aW]; omega);try refine go ?_
  exact ai ⟨rfl,aC.refl hs⟩
 ·rw [aJ h4];try refine go ?_
  refine ak hit ?_;rintro d s2 ⟨rfl,rfl⟩;try refine go ?_
  refine xn (m:=[111]) (c:=Lib.itoa (k:Nat)) ?_ (by rw [aW]; omega);try refine go ?_
  exact ai ⟨rfl,aC.refl hs⟩
end
abbrev SM:=List (Nat×List UInt8×Int)
def AN (L:SM):List (Nat×D×D):=L.map fun x=>(x.1,D.str x.2.1,D.int .i64 x.2.2)
def zG (L:SM):List (List UInt8):=L.map fun x=>x.2.1
theorem Su (L:SM):(AN L).length=L.length:=aH _
theorem EP (L:SM)(l:List UInt8):∀i,(findKey .str (.str l) (AN L) i=some none/\l ∉ zG L)\/∃j v c,findKey .str (.str l) (AN L) i=some (some (i+j,.int .i64 v))/\L[j]? =some (c,l,v):=by
 induction L with
 | nil=>exact fun i=> .inl ⟨rfl,by simp [zG]⟩
 | cons x r ih=>
  intro i;obtain⟨c,l',v⟩:=x;have ih:=ih (i+1);by_cases he:l=l'
  ·subst he;refine .inr ⟨0,v,c, ?_,rfl⟩;simp [AN,findKey,tq,X6]
  ·have hf:findKey .str (.str l) (AN ((c,l',v)::r)) i=findKey .str (.str l) (AN r) (i+1):=by
    have:(l==l')=false:=by simpa using he
    simp [AN,findKey,tq,X6,this]
   rw [hf];rcases ih with ⟨h1,h0⟩ | ⟨j,v2,c2,h1,h2⟩
   ·exact .inl ⟨h1,by simpa [zG,he] using h0⟩
   ·exact .inr ⟨j+1,v2,c2,by rw [h1,show i+1+j=i+(j+1) by omega],by simpa using h2⟩
theorem Sa {L:SM}{l:List UInt8}{v v0:Int}{c:Nat}:∀ {i:Nat},L[i]? =some (c,l,v0)->∃L' :SM,Ab.setAt (AN L) i (fun x=>(x.1,.str l,.int .i64 v))=AN L' /\zG L' =zG L:=by
 induction L with
 | nil=>intro i h; simp at h
 | cons x r ih=>
  intro i h;cases i with
  | zero=>
   simp only [aQ,aa]at h; subst h;exact⟨(c,l,v)::r,rfl,rfl⟩
  | succ i=>
   obtain⟨L',h1,h2⟩:=ih (i:=i) (by simpa using h);exact⟨x::L',by simp only [AN,bG,Ab.setAt]at h1 ⊢; rw [h1],by simp only [zG,bG]at h2 ⊢; rw [h2]⟩
theorem yW {α:Type} [DecidableEq α]:∀(A B:List α),A.Nodup->(∀a∈A,a∈B)->A.length<=B.length
 | [],B,_,_=>aR _
 | a::A,B,h,hs=>by
  rw [fm]at h;have h1:=yW A (B.erase a) h.2 (fun b hb=>(List.mem_erase_of_ne (fun e=>h.1 (by subst e; exact hb))).2 (hs b (by simp [hb])));have h2:=List.length_erase_of_mem (hs a (by simp));have h3:=List.length_pos_of_mem (hs a (by simp));rw [aU]; omega
section
variable {T:Nat->Option dS}{H:au}{b:Nat}{k:List je}{l:List bj}{s:St}{Q:QP}{t:Nat}{e:Env}{ds:List (D×List D)}{g:Option (Nat×Bool)}
theorem HL {m y:bP}{tx:List UInt8}{o c:Nat}{L:SM}(hg:s.get o=some (.map (AN L) c))(h:∀v:Int,gN T H b l k ⟨(t,.int .i64 v)::e,ds⟩ s Q)(hw:aI e g=some true:=by rfl)(hx:m.ev e=some (.mp o):=by rfl)(hy:y.ev e=some (.str tx):=by rfl):gN T H b (⟨some t,.lookup .str (.int .i64 0) false m y,g,none⟩::l) k ⟨e,ds⟩ s Q:=by
 rcases EP L tx 0 with ⟨h1,_⟩ | ⟨j,v,c',h1,h2⟩
 ·exact dC (h 0) hw (by simp only [cB,hx,hy,hg,h1,oN,Fl])
 ·exact dC (h v) hw (by simp only [cB,hx,hy,hg,h1,oN,Fl])
theorem Ib {m y z:bP}{tx:List UInt8}{o c:Nat}{v:Int}{L:SM}(hs:s.Ok)(hg:s.get o=some (.map (AN L) c))(h:∀(L' :SM) c',(zG L' =zG L\/tx ∉ zG L/\zG L' =zG L++ [tx])->gN T H b l k ⟨e,ds⟩ (s.bD o (.map (AN L') c')) Q)(hw:aI e g=some true:=by rfl)(hx:m.ev e=some (.mp o):=by rfl)(hy:y.ev e=some (.str tx):=by rfl)(hz:z.ev e=some (.int .i64 v):=by rfl):gN T H b (⟨none,.Ac .str m y z,g,none⟩::l) k ⟨e,ds⟩ s Q:=by
 rcases EP L tx 0 with ⟨h1,h0⟩ | ⟨j,v',c',h1,h2⟩
 ·have e1:AN L++ [(c,D.str tx,D.int .i64 v)]=AN (L++ [(c,tx,v)]):=by simp [AN]
  exact dC (d:= .gJ []) (h (L++ [(c,tx,v)]) (c+1) (.inr ⟨h0,by simp [zG]⟩)) hw (by simp only [cB,hx,hy,hz,hg,h1,oN,hs.set,oC,e1])
 ·rw [aM]at h1;obtain⟨L',e1,e2⟩:=Sa (v:=v) h2;have h3:(AN L)[j]? =some (c',.str tx,.int .i64 v'):=by simp only [AN,aE,h2,dn]
  exact dC (d:= .gJ []) (h L' c (.inl e2)) hw (by simp only [cB,hx,hy,hz,hg,h1,h3,oN,EB,beq_self_eq_true,hs.set,oC,e1])
def mn (t:Tm):Bool:=decide (t.kd=3) && decide (256 < (bU t.mag).length)
theorem wy (ng:Bool)(V:List Nat):(dZ ng V).2=bU V:=by
 unfold dZ;split <;> rename_i h <;> simp [h]
variable {so bo i:Nat}{x:D}{tms:List Tm}{tm:Tm}
theorem RI (hS:TS T)(hs:s.Ok)(hb:lT s bo so tms x)(hk:tms[i]? =some tm)(ho:tm.Ok)(h1:tm.kd=4):cu T H 32 [.ptr bo 0,.int .i64 (i:Nat)] s fun d s1=>d= .bool (mn tm)/\aC Nil s s1:=by
 have hg:=hb.go;have ha:=ee hk;have q3:=ho.tx;obtain⟨kd,b,ng,n1,mag,tx,n2,kids,gY,sm⟩:=tm;simp only at q3 h1; subst h1;have hL:=VY (H:=H) hS hs (l:=tx) (by omega);have vk:=oa tx tx.length 0 (by omega);have hd:=cM (((runesFrom tx 0:Nat):Int) > 65536);refine ay hS.t32 ?_;try refine go ?_
 refine ak hL ?_;rintro d s2 ⟨rfl,z1⟩;try refine go ?_
 exact ai ⟨rfl,z1⟩
theorem Sg (hS:TS T)(hW:TW T)(hs:s.Ok)(hb:lT s bo so tms x)(hk:tms[i]? =some tm)(ho:tm.Ok)(h1:tm.kd=3):cu T H 32 [.ptr bo 0,.int .i64 (i:Nat)] s fun d s1=>d= .bool (mn tm)/\aC Nil s s1:=by
 have hg:=hb.go;have ha:=ee hk;have q1:=ho.n1; have q2:=ho.mag;obtain⟨kd,b,ng,n1,mag,tx,n2,kids,gY,sm⟩:=tm;simp only at q1 q2 h1; subst h1;have hL:=EG (H:=H) (n:=(ng,mag)) hW hs ⟨_,rfl,.vs n1 mag q1⟩ (by simp only [aL]; omega);refine ay hS.t32 ?_;try refine go ?_
 refine ak hL ?_;rintro d s2 ⟨⟨y,rfl,hy⟩,z1⟩;have vL:=ab8 hy;have pZ:=wy ng mag;have O4:∀m:Nat,m=(bU mag).length->D.bool (decide ((m:Int) > 256))= .bool (mn ⟨3,b,ng,n1,mag,tx,n2,kids,gY,sm⟩):=by
  rintro m rfl;simp only [mn,decide_true,fM,D.bool.injEq,decide_eq_decide];omega
 rcases hy.shape with ⟨o,n,cp,rfl⟩ | ⟨nl,z,L,rfl⟩
 ·have e1:=O4 n (by rw [← pZ]; exact hy.pY);try refine go ?_
  exact ai ⟨e1,z1⟩
 ·have e1:=O4 L.length (by rw [← pZ,hy.qb,cN]);try refine go ?_
  exact ai ⟨e1,z1⟩
theorem HE (hS:TS T)(hs:s.Ok)(hb:lT s bo so tms x)(hk:tms[i]? =some tm)(ho:tm.Ok)(h1:tm.kd=5\/tm.kd=6):cu T H 32 [.ptr bo 0,.int .i64 (i:Nat)] s fun d s1=>d= .bool (mn tm)/\aC Nil s s1:=by
 have hg:=hb.go;have ha:=ee hk;have j6:=ho.kids;obtain⟨kd,b,ng,n1,mag,tx,n2,kids,gY,sm⟩:=tm;simp only at h1 j6;have jg:(ints kids).length=kids.length:=aH _;have hd:=cM (((ints kids).length:Int) > 65536);refine ay hS.t32 ?_;rcases h1 with rfl | rfl
 ·try refine go ?_
  exact ai ⟨rfl,aC.refl hs⟩
 ·try refine go ?_
  exact ai ⟨rfl,aC.refl hs⟩
theorem L4 {o la ta pl mp P Sh n lv tk:Nat}{Ds:List D}(hS:TS T)(hW:TW T)(hV:TV T)(hX:TX T)(hU:TU T H)(hs:s.Ok)(dT:bE s so o la ta pl mp P Sh Ds n lv tk)(hb:lT s bo so tms x)(hk:tms[i]? =some tm)(ho:tm.Ok)(dK:∀v∈eU tm,∃k:Nat,v=(k:Int)/\k < 1000/\∃t',tms[k]? =some t' /\t'.Ok/\∀w∈t'.mag,w < 4294967296)(TC:tms.length<=P)(h1:tm.kd≠3/\tm.kd≠4/\tm.kd≠5/\tm.kd≠6):cu T H 32 [.ptr bo 0,.int .i64 (i:Nat)] s fun d s1=>d= .bool (mn tm)/\aC Nil s s1:=by
 have hg:=hb.go;have ha:=ee hk;obtain⟨h3,h4,h5,h6⟩:=h1;have hK:=fun (s2:St) (h:s2.Ok)=>Ce (H:=H) hS h ho;have j6:=qA tm;have DA:=ho.kids;generalize rP:eU tm=L at dK hK j6;obtain⟨kd,b,ng,n1,mag,tx,n2,kids,gY,sm⟩:=tm;simp only at h3 h4 h5 h6 DA j6;refine ay hS.t32 ?_;try refine go ?_
 refine ak (hK _ (oI)) ?_;rintro d s2 ⟨z1,z2,z3⟩;have b2:aC Nil s s2:=(aC.push (aC.refl hs) _).trans z3;have ok0:(s.bc (.map [] 0)).Ok:=oI;have gm:s2.get s.n=some (.map [] 0):=z3.get ok0 St.ba (fun h=>h);have lb:=hs.lt hg;have SG :s.n+1<=s2.n:=by have:=z3.n; rwa [St.dN]at this
 have hlen:L.length<=100000:=by omega
 have ok2:=b2.ok;have gb2:=b2.get hs hg (fun h=>h);have X0:=b2.get hs dT.go (fun h=>h);have ls:=hs.lt dT.go;have fin:∀ {s3:St},aC (fun j=>j=s.n) s2 s3->aC Nil s s3:=fun h=>b2.trans' h (fun j hj h2=>by subst hj; exact absurd h2 (gR _));let K:SM->Prop:=fun M=>(zG M).Nodup/\∀x∈zG M,x∈(List.range tms.length).filterMap fun k=>(tms[k]?).map fun u=>Ba u k
 have hKl:∀M,K M->decide (((AN M).length:Int) > (P:Nat))=false:=fun M hM=>by
  have q1:=yW _ _ hM.1 hM.2;have q2:=List.length_filterMap_le (fun k=>(tms[k]?).map fun u=>Ba u k) (List.range tms.length);rw [pR]at q2;rw [zG,aH]at q1;exact bk (by rw [Su]; omega)
 have hKs:∀ {M M' :SM} {k:Nat} {u:Tm},K M->tms[k]? =some u->(zG M' =zG M\/Ba u k ∉ zG M/\zG M' =zG M++ [Ba u k])->K M' :=by
  rintro M M' k u ⟨q1,q2⟩ hu (q3 | ⟨q3,q4⟩)
  ·exact⟨q3 ▸ q1,q3 ▸ q2⟩
  ·refine⟨?_, ?_⟩
   ·rw [q4,List.nodup_append];exact⟨q1,by simp,fun a ha b hb=>by rw [cG]at hb; subst hb; exact fun e=>q3 (e ▸ ha)⟩
   ·intro x hx;rw [q4,bK,cG]at hx;rcases hx with hx | rfl
    ·exact q2 x hx
    ·rw [jP];exact⟨k,by rw [mg]; exact (af.mp hu).1,by rw [hu]; rfl⟩
 have yq:D.bool false= .bool (mn ⟨kd,b,ng,n1,mag,tx,n2,kids,gY,sm⟩):=by simp [mn,h3]
 let J:Nat->St->Prop:=fun j s' =>(∃M c,s'.get s.n=some (.map (AN M) c)/\K M)/\aC (fun j=>j=s.n) s2 s'
 have K0:K []:=⟨by simp [zG],by simp [zG]⟩;have J0:J 0 s2:=⟨⟨[],0,gm,K0⟩,aC.refl ok2⟩;rcases z1 with ⟨nl,L,hn⟩ | _ | ⟨o',L,h7⟩
 ·have jg:(ints L).length=L.length:=aH _;try refine go ?_
  rw [jg];refine eT L.length (fun j=> [(0,.ptr bo 0),(6,.mp s.n),(41,.vs nl 1 (ints L)),(42,.int .i64 (L.length:Nat)),(43,.int .i64 (j:Nat))]) J J0 ?_;rintro j s' hj ⟨⟨M,c,q1,q2⟩,q3⟩;have q4:=q3.ok;have q5:=q3.get ok2 gb2 (by omega);have q6:=q3.get ok2 X0 (by omega);rcases aG j L.length with h8 | h8
  ·obtain⟨k',vm,zL,t',tW,sO,Jj⟩:=dK _ (bH h8);have he:=ints_at (L:=L) (j:=j) (ae h8);rw [vm]at he;try refine go ?_
   refine ak (Il hS hW hV hX hU q4 ⟨q5⟩ tW sO Jj zL) ?_;rintro d s3 ⟨rfl,y1⟩;have ok3:=y1.ok;have K9:=y1.get q4 q1 (fun h=>h);try refine go ?_
   refine HL K9 fun v=> ?_;try refine go ?_
   refine Ib ok3 K9 fun M' c' zE => ?_;try refine go ?_
   refine dO h8 ⟨⟨M',c',St.aN,hKs q2 tW zE⟩,(q3.trans (y1.mono fun _ h=>h.elim)).trans (aC.set (aC.refl ok3) _ (ok3.lt K9) (fun _=>rfl))⟩
  ·have:j=L.length:=by omega
   subst this;have hd:=hKl M q2;try refine go ?_
   try simp only [hd]
   exact ai ⟨yq,fin q3⟩
 ·try refine go ?_
  refine lQ ?_;have hd:decide ((([]:List (Nat×D×D)).length:Int) > (P:Nat))=false:=hKl [] K0;try refine go ?_
  try simp only [hd]
  exact ai ⟨yq,b2⟩
 ·have ho2:o' ≠s.n:=by have:=z2 _ _ _ _ rfl; rw [St.dN]at this; omega
  try refine go ?_
  refine eT L.length (fun j=> [(0,.ptr bo 0),(6,.mp s.n),(41,.sl o' 0 L.length L.length),(42,.int .i64 (L.length:Nat)),(43,.int .i64 (j:Nat))]) J J0 ?_;rintro j s' hj ⟨⟨M,c,q1,q2⟩,q3⟩;have q4:=q3.ok;have q5:=q3.get ok2 gb2 (by omega);have q6:=q3.get ok2 X0 (by omega);have q7:=q3.get ok2 h7 ho2;have jg:(ints L).length=L.length:=aH _;rcases aG j L.length with h8 | h8
  ·obtain⟨k',vm,zL,t',tW,sO,Jj⟩:=dK _ (bH h8);have he:=ints_at (L:=L) (j:=j) (ae h8);rw [vm,← Nat.zero_add j]at he;try refine go ?_
   refine ak (Il hS hW hV hX hU q4 ⟨q5⟩ tW sO Jj zL) ?_;rintro d s3 ⟨rfl,y1⟩;have ok3:=y1.ok;have K9:=y1.get q4 q1 (fun h=>h);try refine go ?_
   refine HL K9 fun v=> ?_;try refine go ?_
   refine Ib ok3 K9 fun M' c' zE => ?_;try refine go ?_
   refine dO h8 ⟨⟨M',c',St.aN,hKs q2 tW zE⟩,(q3.trans (y1.mono fun _ h=>h.elim)).trans (aC.set (aC.refl ok3) _ (ok3.lt K9) (fun _=>rfl))⟩
  ·have:j=L.length:=by omega
   subst this;have hd:=hKl M q2;try refine go ?_
   try simp only [hd]
   exact ai ⟨yq,fin q3⟩
theorem K3 {o la ta pl mp P Sh n lv tk:Nat}{Ds:List D}(hS:TS T)(hW:TW T)(hV:TV T)(hX:TX T)(hU:TU T H)(hs:s.Ok)(dT:bE s so o la ta pl mp P Sh Ds n lv tk)(hb:lT s bo so tms x)(hk:tms[i]? =some tm)(ho:tm.Ok)(dK:∀v∈eU tm,∃k:Nat,v=(k:Int)/\k < 1000/\∃t',tms[k]? =some t' /\t'.Ok/\∀w∈t'.mag,w < 4294967296)(TC:tms.length<=P):cu T H 32 [.ptr bo 0,.int .i64 (i:Nat)] s fun d s1=>d= .bool (mn tm)/\aC Nil s s1:=by
 by_cases h3:tm.kd=3
 ·exact Sg hS hW hs hb hk ho h3
 by_cases h4:tm.kd=4
 ·exact RI hS hs hb hk ho h4
 by_cases h5:tm.kd=5
 ·exact HE hS hs hb hk ho (.inl h5)
 by_cases h6:tm.kd=6
 ·exact HE hS hs hb hk ho (.inr h6)
 exact L4 hS hW hV hX hU hs dT hb hk ho dK TC ⟨h3,h4,h5,h6⟩
end
end Go.Proofs.Tab
