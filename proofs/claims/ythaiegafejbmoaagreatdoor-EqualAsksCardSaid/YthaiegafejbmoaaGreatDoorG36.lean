/- Part. -/
import Derived.Test.YthaiegafejbmoaaGreatDoorG35
import Derived.Test.YthaiegafejbmoaaGreatDoorG31
set_option linter.unusedSectionVars false
set_option maxRecDepth 100000
set_option maxHeartbeats 4000000
set_option linter.unusedSimpArgs false
set_option linter.unusedVariables false
namespace Go.Proofs.Tab
open Go Go.Ab Go.Ab.Sm
def ud (tms:List Tm)(t:Tm):Prop:=
 if t.kd=5\/t.kd=6\/t.kd=8\/t.kd=9 then True else if t.kd=7 then t.kids.length % 2=0 else if t.kd=15\/t.kd=16\/t.kd=17 then ∃k u,t.kids=[k]/\tms[k.toNat]? =some u/\u.kd=7 else t.kids=[]
def tu (tms:List Tm)(i:Nat)(t:Tm)(k:Int):Prop:=0<=k/\k < (if t.kd=6 then tms.length else i:Nat)
def ox (tms:List Tm)(i:Nat)(t:Tm):Prop:=(∀k∈t.kids,tu tms i t k)/\(∀k∈er t,∃u,tms[k.toNat]? =some u/\IsKey u)/\ud tms t
noncomputable def fU:AC:=match lV.1.body with
 | .seq _ (.seq _ (.seq _ (.seq _ (.seq _ (.seq _ c)))))=>c
 | _=> .skip
section
variable {T:Nat->Option dJ}{H:au}{s:St}{so bo i:Nat}{tms:List Tm}{t:Tm}{x:D}{K:List iI}{Q:QP}
theorem aa5 (hb:s.get bo=some (.var 105 (.agg [.ptr so 0,.vs false 8 (tms.map Tm.d),x]))){b ng n1 n2 gy sm:Bool}{ft:List Nat}{tx:List UInt8}{z1 z2 z3:D}{R:D->St->Prop}{kids:List Int}(h:R (.bool false) s):dR T H fU [] ⟨(46,.bool false)::(0,.ptr bo 0)::(4,.bool false)::(5,.lv (Tm.d ⟨5,b,ng,n1,ft,tx,n2,kids,gy,sm⟩))::[(43,z1),(44,z2),(45,z3)],[]⟩ s (QF lV.1.results R):=by
 show dR T H (.seq _ _) _ _ s _;try refine go ?_
 exact ai h
theorem aa6 (hb:s.get bo=some (.var 105 (.agg [.ptr so 0,.vs false 8 (tms.map Tm.d),x]))){b ng n1 n2 gy sm:Bool}{ft:List Nat}{tx:List UInt8}{z1 z2 z3:D}{R:D->St->Prop}{kids:List Int}(h:R (.bool false) s):dR T H fU [] ⟨(46,.bool false)::(0,.ptr bo 0)::(4,.bool false)::(5,.lv (Tm.d ⟨6,b,ng,n1,ft,tx,n2,kids,gy,sm⟩))::[(43,z1),(44,z2),(45,z3)],[]⟩ s (QF lV.1.results R):=by
 show dR T H (.seq _ _) _ _ s _;try refine go ?_
 exact ai h
theorem aa7 (hb:s.get bo=some (.var 105 (.agg [.ptr so 0,.vs false 8 (tms.map Tm.d),x]))){b ng n1 n2 gy sm:Bool}{ft:List Nat}{tx:List UInt8}{z1 z2 z3:D}{R:D->St->Prop}{kids:List Int}(h:R (.bool false) s):dR T H fU [] ⟨(46,.bool false)::(0,.ptr bo 0)::(4,.bool false)::(5,.lv (Tm.d ⟨8,b,ng,n1,ft,tx,n2,kids,gy,sm⟩))::[(43,z1),(44,z2),(45,z3)],[]⟩ s (QF lV.1.results R):=by
 show dR T H (.seq _ _) _ _ s _;try refine go ?_
 exact ai h
theorem aa8 (hb:s.get bo=some (.var 105 (.agg [.ptr so 0,.vs false 8 (tms.map Tm.d),x]))){b ng n1 n2 gy sm:Bool}{ft:List Nat}{tx:List UInt8}{z1 z2 z3:D}{R:D->St->Prop}{kids:List Int}(h:R (.bool false) s):dR T H fU [] ⟨(46,.bool false)::(0,.ptr bo 0)::(4,.bool false)::(5,.lv (Tm.d ⟨9,b,ng,n1,ft,tx,n2,kids,gy,sm⟩))::[(43,z1),(44,z2),(45,z3)],[]⟩ s (QF lV.1.results R):=by
 show dR T H (.seq _ _) _ _ s _;try refine go ?_
 exact ai h
theorem Y1 (hb:s.get bo=some (.var 105 (.agg [.ptr so 0,.vs false 8 (tms.map Tm.d),x]))){b ng n1 n2 gy sm:Bool}{ft:List Nat}{tx:List UInt8}{z1 z2 z3:D}{R:D->St->Prop}{kids:List Int}(hm:kids.length % 2=0)(h:R (.bool false) s):dR T H fU [] ⟨(46,.bool false)::(0,.ptr bo 0)::(4,.bool false)::(5,.lv (Tm.d ⟨7,b,ng,n1,ft,tx,n2,kids,gy,sm⟩))::[(43,z1),(44,z2),(45,z3)],[]⟩ s (QF lV.1.results R):=by
 have s9:=fH kids;have e1:Int.tmod (((ints kids).length:Nat):Int) 2=((0:Nat):Int):=by rw [s9,eU (by omega)]; omega
 show dR T H (.seq _ _) _ _ s _;try refine go ?_
 simp only [e1];try refine go ?_
 exact ai h
theorem Y2 (hb:s.get bo=some (.var 105 (.agg [.ptr so 0,.vs false 8 (tms.map Tm.d),x]))){b ng n1 n2 gy sm:Bool}{ft:List Nat}{tx:List UInt8}{z1 z2 z3:D}{R:D->St->Prop}{kids:List Int}(hm:kids.length % 2=1)(h:R (.bool true) s):dR T H fU [] ⟨(46,.bool false)::(0,.ptr bo 0)::(4,.bool false)::(5,.lv (Tm.d ⟨7,b,ng,n1,ft,tx,n2,kids,gy,sm⟩))::[(43,z1),(44,z2),(45,z3)],[]⟩ s (QF lV.1.results R):=by
 have s9:=fH kids;have e1:Int.tmod (((ints kids).length:Nat):Int) 2=((1:Nat):Int):=by rw [s9,eU (by omega)]; omega
 show dR T H (.seq _ _) _ _ s _;try refine go ?_
 simp only [e1];try refine go ?_
 exact ai h
theorem VF (hb:s.get bo=some (.var 105 (.agg [.ptr so 0,.vs false 8 (tms.map Tm.d),x]))){b ng n1 n2 gy sm:Bool}{ft:List Nat}{tx:List UInt8}{z1 z2 z3:D}{R:D->St->Prop}(h:R (.bool true) s):dR T H fU [] ⟨(46,.bool false)::(0,.ptr bo 0)::(4,.bool false)::(5,.lv (Tm.d ⟨15,b,ng,n1,ft,tx,n2,[],gy,sm⟩))::[(43,z1),(44,z2),(45,z3)],[]⟩ s (QF lV.1.results R):=by
 have dn:(((ints ([]:List Int)).length:Int) !=1)=true:=by simp [ints]
 show dR T H (.seq _ _) _ _ s _;try refine go ?_
 exact ai h
theorem VG (hb:s.get bo=some (.var 105 (.agg [.ptr so 0,.vs false 8 (tms.map Tm.d),x]))){b ng n1 n2 gy sm:Bool}{ft:List Nat}{tx:List UInt8}{z1 z2 z3:D}{R:D->St->Prop}{k k2:Int}{r:List Int}(h:R (.bool true) s):dR T H fU [] ⟨(46,.bool false)::(0,.ptr bo 0)::(4,.bool false)::(5,.lv (Tm.d ⟨15,b,ng,n1,ft,tx,n2,(k::k2::r),gy,sm⟩))::[(43,z1),(44,z2),(45,z3)],[]⟩ s (QF lV.1.results R):=by
 have s9:=fH (k::k2::r);have dn:(((ints (k::k2::r)).length:Int) !=1)=true:=by rw [s9]; simp only [aT,bne_iff_ne,ne_eq]; omega
 show dR T H (.seq _ _) _ _ s _;try refine go ?_
 simp only [dn];try refine go ?_
 exact ai h
theorem RI (hb:s.get bo=some (.var 105 (.agg [.ptr so 0,.vs false 8 (tms.map Tm.d),x]))){b ng n1 n2 gy sm:Bool}{ft:List Nat}{tx:List UInt8}{z1 z2 z3:D}{R:D->St->Prop}{q:Nat}{u:Tm}(hu:tms[q]? =some u)(w6:u.kd=7)(h:R (.bool false) s):dR T H fU [] ⟨(46,.bool false)::(0,.ptr bo 0)::(4,.bool false)::(5,.lv (Tm.d ⟨15,b,ng,n1,ft,tx,n2,[(q:Int)],gy,sm⟩))::[(43,z1),(44,z2),(45,z3)],[]⟩ s (QF lV.1.results R):=by
 have ha:=kD hu;have wZ:(ints [(q:Int)])[0]? =some (.int .i64 (q:Nat)):=rfl;obtain⟨ukd,ub,ung,un1,umag,utx,un2,ukids,uhs,usm⟩:=u;simp only at w6;subst w6;show dR T H (.seq _ _) _ _ s _;try refine go ?_
 exact ai h
theorem RJ (hb:s.get bo=some (.var 105 (.agg [.ptr so 0,.vs false 8 (tms.map Tm.d),x]))){b ng n1 n2 gy sm:Bool}{ft:List Nat}{tx:List UInt8}{z1 z2 z3:D}{R:D->St->Prop}{q:Nat}{u:Tm}(hu:tms[q]? =some u)(w6:u.kd≠7)(h:R (.bool true) s):dR T H fU [] ⟨(46,.bool false)::(0,.ptr bo 0)::(4,.bool false)::(5,.lv (Tm.d ⟨15,b,ng,n1,ft,tx,n2,[(q:Int)],gy,sm⟩))::[(43,z1),(44,z2),(45,z3)],[]⟩ s (QF lV.1.results R):=by
 have ha:=kD hu;have wZ:(ints [(q:Int)])[0]? =some (.int .i64 (q:Nat)):=rfl;obtain⟨ukd,ub,ung,un1,umag,utx,un2,ukids,uhs,usm⟩:=u;simp only at w6;have ON:(ukd !=7)=true:=by simpa using w6
 show dR T H (.seq _ _) _ _ s _;try refine go ?_
 try simp only [ON]
 try refine go ?_
 exact ai h
theorem VH (hb:s.get bo=some (.var 105 (.agg [.ptr so 0,.vs false 8 (tms.map Tm.d),x]))){b ng n1 n2 gy sm:Bool}{ft:List Nat}{tx:List UInt8}{z1 z2 z3:D}{R:D->St->Prop}(h:R (.bool true) s):dR T H fU [] ⟨(46,.bool false)::(0,.ptr bo 0)::(4,.bool false)::(5,.lv (Tm.d ⟨16,b,ng,n1,ft,tx,n2,[],gy,sm⟩))::[(43,z1),(44,z2),(45,z3)],[]⟩ s (QF lV.1.results R):=by
 have dn:(((ints ([]:List Int)).length:Int) !=1)=true:=by simp [ints]
 show dR T H (.seq _ _) _ _ s _;try refine go ?_
 exact ai h
theorem VI (hb:s.get bo=some (.var 105 (.agg [.ptr so 0,.vs false 8 (tms.map Tm.d),x]))){b ng n1 n2 gy sm:Bool}{ft:List Nat}{tx:List UInt8}{z1 z2 z3:D}{R:D->St->Prop}{k k2:Int}{r:List Int}(h:R (.bool true) s):dR T H fU [] ⟨(46,.bool false)::(0,.ptr bo 0)::(4,.bool false)::(5,.lv (Tm.d ⟨16,b,ng,n1,ft,tx,n2,(k::k2::r),gy,sm⟩))::[(43,z1),(44,z2),(45,z3)],[]⟩ s (QF lV.1.results R):=by
 have s9:=fH (k::k2::r);have dn:(((ints (k::k2::r)).length:Int) !=1)=true:=by rw [s9]; simp only [aT,bne_iff_ne,ne_eq]; omega
 show dR T H (.seq _ _) _ _ s _;try refine go ?_
 simp only [dn];try refine go ?_
 exact ai h
theorem RL (hb:s.get bo=some (.var 105 (.agg [.ptr so 0,.vs false 8 (tms.map Tm.d),x]))){b ng n1 n2 gy sm:Bool}{ft:List Nat}{tx:List UInt8}{z1 z2 z3:D}{R:D->St->Prop}{q:Nat}{u:Tm}(hu:tms[q]? =some u)(w6:u.kd=7)(h:R (.bool false) s):dR T H fU [] ⟨(46,.bool false)::(0,.ptr bo 0)::(4,.bool false)::(5,.lv (Tm.d ⟨16,b,ng,n1,ft,tx,n2,[(q:Int)],gy,sm⟩))::[(43,z1),(44,z2),(45,z3)],[]⟩ s (QF lV.1.results R):=by
 have ha:=kD hu;have wZ:(ints [(q:Int)])[0]? =some (.int .i64 (q:Nat)):=rfl;obtain⟨ukd,ub,ung,un1,umag,utx,un2,ukids,uhs,usm⟩:=u;simp only at w6;subst w6;show dR T H (.seq _ _) _ _ s _;try refine go ?_
 exact ai h
theorem RM (hb:s.get bo=some (.var 105 (.agg [.ptr so 0,.vs false 8 (tms.map Tm.d),x]))){b ng n1 n2 gy sm:Bool}{ft:List Nat}{tx:List UInt8}{z1 z2 z3:D}{R:D->St->Prop}{q:Nat}{u:Tm}(hu:tms[q]? =some u)(w6:u.kd≠7)(h:R (.bool true) s):dR T H fU [] ⟨(46,.bool false)::(0,.ptr bo 0)::(4,.bool false)::(5,.lv (Tm.d ⟨16,b,ng,n1,ft,tx,n2,[(q:Int)],gy,sm⟩))::[(43,z1),(44,z2),(45,z3)],[]⟩ s (QF lV.1.results R):=by
 have ha:=kD hu;have wZ:(ints [(q:Int)])[0]? =some (.int .i64 (q:Nat)):=rfl;obtain⟨ukd,ub,ung,un1,umag,utx,un2,ukids,uhs,usm⟩:=u;simp only at w6;have ON:(ukd !=7)=true:=by simpa using w6
 show dR T H (.seq _ _) _ _ s _;try refine go ?_
 try simp only [ON]
 try refine go ?_
 exact ai h
theorem VJ (hb:s.get bo=some (.var 105 (.agg [.ptr so 0,.vs false 8 (tms.map Tm.d),x]))){b ng n1 n2 gy sm:Bool}{ft:List Nat}{tx:List UInt8}{z1 z2 z3:D}{R:D->St->Prop}(h:R (.bool true) s):dR T H fU [] ⟨(46,.bool false)::(0,.ptr bo 0)::(4,.bool false)::(5,.lv (Tm.d ⟨17,b,ng,n1,ft,tx,n2,[],gy,sm⟩))::[(43,z1),(44,z2),(45,z3)],[]⟩ s (QF lV.1.results R):=by
 have dn:(((ints ([]:List Int)).length:Int) !=1)=true:=by simp [ints]
 show dR T H (.seq _ _) _ _ s _;try refine go ?_
 exact ai h
theorem VK (hb:s.get bo=some (.var 105 (.agg [.ptr so 0,.vs false 8 (tms.map Tm.d),x]))){b ng n1 n2 gy sm:Bool}{ft:List Nat}{tx:List UInt8}{z1 z2 z3:D}{R:D->St->Prop}{k k2:Int}{r:List Int}(h:R (.bool true) s):dR T H fU [] ⟨(46,.bool false)::(0,.ptr bo 0)::(4,.bool false)::(5,.lv (Tm.d ⟨17,b,ng,n1,ft,tx,n2,(k::k2::r),gy,sm⟩))::[(43,z1),(44,z2),(45,z3)],[]⟩ s (QF lV.1.results R):=by
 have s9:=fH (k::k2::r);have dn:(((ints (k::k2::r)).length:Int) !=1)=true:=by rw [s9]; simp only [aT,bne_iff_ne,ne_eq]; omega
 show dR T H (.seq _ _) _ _ s _;try refine go ?_
 simp only [dn];try refine go ?_
 exact ai h
theorem RN (hb:s.get bo=some (.var 105 (.agg [.ptr so 0,.vs false 8 (tms.map Tm.d),x]))){b ng n1 n2 gy sm:Bool}{ft:List Nat}{tx:List UInt8}{z1 z2 z3:D}{R:D->St->Prop}{q:Nat}{u:Tm}(hu:tms[q]? =some u)(w6:u.kd=7)(h:R (.bool false) s):dR T H fU [] ⟨(46,.bool false)::(0,.ptr bo 0)::(4,.bool false)::(5,.lv (Tm.d ⟨17,b,ng,n1,ft,tx,n2,[(q:Int)],gy,sm⟩))::[(43,z1),(44,z2),(45,z3)],[]⟩ s (QF lV.1.results R):=by
 have ha:=kD hu;have wZ:(ints [(q:Int)])[0]? =some (.int .i64 (q:Nat)):=rfl;obtain⟨ukd,ub,ung,un1,umag,utx,un2,ukids,uhs,usm⟩:=u;simp only at w6;subst w6;show dR T H (.seq _ _) _ _ s _;try refine go ?_
 exact ai h
theorem RO (hb:s.get bo=some (.var 105 (.agg [.ptr so 0,.vs false 8 (tms.map Tm.d),x]))){b ng n1 n2 gy sm:Bool}{ft:List Nat}{tx:List UInt8}{z1 z2 z3:D}{R:D->St->Prop}{q:Nat}{u:Tm}(hu:tms[q]? =some u)(w6:u.kd≠7)(h:R (.bool true) s):dR T H fU [] ⟨(46,.bool false)::(0,.ptr bo 0)::(4,.bool false)::(5,.lv (Tm.d ⟨17,b,ng,n1,ft,tx,n2,[(q:Int)],gy,sm⟩))::[(43,z1),(44,z2),(45,z3)],[]⟩ s (QF lV.1.results R):=by
 have ha:=kD hu;have wZ:(ints [(q:Int)])[0]? =some (.int .i64 (q:Nat)):=rfl;obtain⟨ukd,ub,ung,un1,umag,utx,un2,ukids,uhs,usm⟩:=u;simp only at w6;have ON:(ukd !=7)=true:=by simpa using w6
 show dR T H (.seq _ _) _ _ s _;try refine go ?_
 try simp only [ON]
 try refine go ?_
 exact ai h
theorem aa3 (hb:s.get bo=some (.var 105 (.agg [.ptr so 0,.vs false 8 (tms.map Tm.d),x]))){b ng n1 n2 gy sm:Bool}{ft:List Nat}{tx:List UInt8}{z1 z2 z3:D}{R:D->St->Prop}{kd:Int}(hk:kd≠5/\kd≠6/\kd≠8/\kd≠9/\kd≠7/\kd≠15/\kd≠16/\kd≠17)(h:R (.bool false) s):dR T H fU [] ⟨(46,.bool false)::(0,.ptr bo 0)::(4,.bool false)::(5,.lv (Tm.d ⟨kd,b,ng,n1,ft,tx,n2,[],gy,sm⟩))::[(43,z1),(44,z2),(45,z3)],[]⟩ s (QF lV.1.results R):=by
 obtain⟨k1,k2,k3,k4,k5,k6,k7,k8⟩:=hk;show dR T H (.seq _ _) _ _ s _;try refine go ?_
 exact ai h
theorem aa4 (hb:s.get bo=some (.var 105 (.agg [.ptr so 0,.vs false 8 (tms.map Tm.d),x]))){b ng n1 n2 gy sm:Bool}{ft:List Nat}{tx:List UInt8}{z1 z2 z3:D}{R:D->St->Prop}{kd:Int}{k:Int}{r:List Int}(hk:kd≠5/\kd≠6/\kd≠8/\kd≠9/\kd≠7/\kd≠15/\kd≠16/\kd≠17)(h:R (.bool true) s):dR T H fU [] ⟨(46,.bool false)::(0,.ptr bo 0)::(4,.bool false)::(5,.lv (Tm.d ⟨kd,b,ng,n1,ft,tx,n2,(k::r),gy,sm⟩))::[(43,z1),(44,z2),(45,z3)],[]⟩ s (QF lV.1.results R):=by
 obtain⟨k1,k2,k3,k4,k5,k6,k7,k8⟩:=hk;have s9:=fH (k::r);have eW:(0:Int) < ((ints (k::r)).length:Nat):=by rw [s9,aT]; omega
 show dR T H (.seq _ _) _ _ s _;try refine go ?_
 exact ai h
theorem Ma (hb:s.get bo=some (.var 105 (.agg [.ptr so 0,.vs false 8 (tms.map Tm.d),x])))(hi:i<=tms.length)(qY:∀k∈t.kids,tu tms i t k){z1 z2 z3:D}{R:D->St->Prop}
  (h:∀b,(b=false↔ud tms t)->R (.bool b) s):dR T H fU [] ⟨(46,.bool false)::(0,.ptr bo 0)::(4,.bool false)::(5,.lv t.d)::[(43,z1),(44,z2),(45,z3)],[]⟩ s (QF lV.1.results R):=by
 unfold ud at h;unfold tu at qY;obtain⟨kd,b,ng,n1,ft,tx,n2,kids,gy,sm⟩:=t;simp only at h qY;by_cases h1:kd=5
 ·subst h1; exact aa5 hb (h false (by simp))
 by_cases h2:kd=6
 ·subst h2; exact aa6 hb (h false (by simp))
 by_cases h3:kd=8
 ·subst h3; exact aa7 hb (h false (by simp))
 by_cases h4:kd=9
 ·subst h4; exact aa8 hb (h false (by simp))
 by_cases h5:kd=7
 ·subst h5;rcases Nat.mod_two_eq_zero_or_one kids.length with hm | hm
  ·exact Y1 hb hm (h false (by simp [hm]))
  ·exact Y2 hb hm (h true (by simp [hm]))
 by_cases h6:kd=15\/kd=16\/kd=17
 ·have h7: ¬ (kd=5\/kd=6\/kd=8\/kd=9):=by omega
  rw [aI h7,aI h5,bQ h6]at h;cases kids with
  | nil=>
   have h' :=h true (by simp);rcases h6 with rfl | rfl | rfl
   ·exact VF hb h'
   ·exact VH hb h'
   ·exact VJ hb h'
  | cons k r=>
   cases r with
   | cons k2 r=>
    have h' :=h true (by simp);rcases h6 with rfl | rfl | rfl
    ·exact VG hb h'
    ·exact VI hb h'
    ·exact VK hb h'
   | nil=>
    obtain⟨k0,k1⟩:=qY k (by simp);rw [aI h2]at k1;obtain⟨q,rfl⟩:∃q:Nat,k=q:=⟨k.toNat,by omega⟩;have hq:q < tms.length:=by omega
    have hu:tms[q]? =some tms[q]:=ak hq;generalize tms[q]=u at hu;by_cases w6:u.kd=7
    ·have h' :=h false (by simp [hu,w6]);rcases h6 with rfl | rfl | rfl
     ·exact RI hb hu w6 h'
     ·exact RL hb hu w6 h'
     ·exact RN hb hu w6 h'
    ·have h' :=h true (by simp [hu,w6]);rcases h6 with rfl | rfl | rfl
     ·exact RJ hb hu w6 h'
     ·exact RM hb hu w6 h'
     ·exact RO hb hu w6 h'
 ·have hk:kd≠5/\kd≠6/\kd≠8/\kd≠9/\kd≠7/\kd≠15/\kd≠16/\kd≠17:=by omega
  cases kids with
  | nil=>exact aa3 hb hk (h false (by simp [h1,h2,h3,h4,h5,h6]))
  | cons k r=>exact aa4 hb hk (h true (by simp [h1,h2,h3,h4,h5,h6]))
end
noncomputable def RD:AC:=match lV.1.body with
 | .seq _ (.seq _ (.seq _ (.seq _ (.seq _ c))))=>c
 | _=> .skip
noncomputable def YX:AC:=match RD with
 | .seq a _=>a
 | _=> .skip
noncomputable def L9 (n:Nat):AC:=match n,lV.1.body with
 | 1,.seq a _=>a
 | 2,.seq _ (.seq a _)=>a
 | 3,.seq _ (.seq _ (.seq a _))=>a
 | 4,.seq _ (.seq _ (.seq _ (.seq a _)))=>a
 | 5,.seq _ (.seq _ (.seq _ (.seq _ (.seq a _))))=>a
 | _,_=> .skip
section
variable {T:Nat->Option dJ}{H:au}{s:St}{so bo i:Nat}{tms:List Tm}{t:Tm}{x:D}
theorem YY (hS:TS T)(hs:s.Ok)(hb:s.get bo=some (.var 105 (.agg [.ptr so 0,.vs false 8 (tms.map Tm.d),x])))(ho:t.Ok)(hi:i<=tms.length)(qY:∀k∈t.kids,tu tms i t k){z1 z2 z3 z4:D}{R:D->St->Prop}
  (h:∀b s1,(b=false↔ox tms i t)->aH Nil s s1->R (.bool b) s1):dR T H RD [] ⟨(31,.bool false)::(0,.ptr bo 0)::(4,.bool false)::(5,.lv t.d)::[(6,z1),(28,z2),(29,z3),(30,z4)],[]⟩ s (QF lV.1.results R):=by
 have hke:=Cs (H:=H) (t:=t) hS hs ho;have sD:=ho.kids;have Xl:=qB t;have s9:=fH (er t);have lb:=hs.lt hb;have xO:(tms.map Tm.d).length=tms.length:=aY _
 have aax:∀k∈er t,∃q:Nat,k=q/\q < tms.length:=fun k hk=>by
  obtain⟨h1,h2⟩:=qY k (ze hk);refine⟨k.toNat,by omega, ?_⟩;split at h2 <;> omega
 have bt:=fun (s1:St) (z1 z2 z3:D) hb iC=>Ma (T:=T) (H:=H) (s:=s1) (so:=so) (bo:=bo) (x:=x) (z1:=z1) (z2:=z2) (z3:=z3) (R:=R) hb hi qY iC;obtain⟨kd,b,ng,n1,ft,tx,n2,kids,gy,sm⟩:=t;obtain⟨tl,OY⟩:∃tl,tl=fU:=⟨_,rfl⟩;rw [← OY]at bt;show dR T H (.seq YX fU) _ _ s _;rw [← OY];refine run_seq ?_;show dR T H (.seq _ _) _ _ s _;try refine go ?_
 refine af hke ?_;rintro xk s1 ⟨q1,q2,q3⟩;have ok1:=q3.ok;have Gx:=q3.get hs hb (fun h=>h);have tail:=fun (z1 z2 z3:D) (yT:∀k∈er ⟨kd,b,ng,n1,ft,tx,n2,kids,gy,sm⟩,∃u,tms[k.toNat]? =some u/\IsKey u)=>bt s1 z1 z2 z3 Gx (fun b iS =>h b s1 (iS.trans ⟨fun iC=>⟨qY,yT,iC⟩,fun hk=>hk.2.2⟩) q3)
 have bad:∀(k:Int) (u:Tm),k∈er ⟨kd,b,ng,n1,ft,tx,n2,kids,gy,sm⟩->tms[k.toNat]? =some u-> ¬ IsKey u->R (.bool true) s1:=fun k u hk hu hn=>h true s1 (by
  simp only [Bool.true_eq_false,false_iff];rintro⟨_,h2,_⟩;obtain⟨u',h3,h4⟩:=h2 k hk;rw [hu]at h3; simp only [aa]at h3; subst h3;exact hn h4) q3
 generalize hK:er ⟨kd,b,ng,n1,ft,tx,n2,kids,gy,sm⟩=K at *;rcases q1 with ⟨nl,K,Bi⟩ | _ | ⟨ko,K,GH⟩
 ·try refine go ?_
  refine fw K.length (fun j=> [(0,.ptr bo 0),(4,.bool false),(5,.lv (Tm.d ⟨kd,b,ng,n1,ft,tx,n2,kids,gy,sm⟩)),(43,.vs nl 1 (ints K)),(44,.int .i64 ((ints K).length:Nat)),(45,.int .i64 (j:Nat))]) (fun j s' =>s' =s1/\∀m,m < j->∀k,K[m]? =some k->∃u,tms[k.toNat]? =some u/\IsKey u) ⟨rfl,fun m hm=>by omega⟩ ?_;rintro j s3 hj ⟨rfl,hI⟩;rcases aP j K.length with mw | vO
  ·have hk:K[j]? =some K[j]:=ak mw;obtain⟨q,Re,J3⟩:=aax K[j] (cA mw);have rK:=cA mw;rw [Re]at hk rK;have wZ:(ints K)[j]? =some (.int .i64 (q:Nat)):=ints_at hk;have hu:tms[q]? =some tms[q]:=ak J3;have ha:=kD hu;generalize tms[q]=u at hu ha;have JZ:=Eo (H:=H) (s:=s3) (t:=u) hS;try refine go ?_
   refine af JZ ?_;rintro d s4 ⟨⟨bb,rfl,lh⟩,rfl⟩;cases bb with
   | true=>
    try refine go ?_
    refine dI mw ⟨rfl,fun m hm k Az => ?_⟩;rcases aP m j with h1 | h1
    ·exact hI m h1 k Az
    ·obtain rfl:m=j:=by omega
     rw [hk]at Az; simp only [aa]at Az; subst Az;exact⟨u,by rw [aQ]; exact hu,lh.mp rfl⟩
   | false=>
    try refine go ?_
    exact ai (bad q u rK (by rw [aQ]; exact hu) (fun hh=>by have:=lh.mpr hh; cases this))
  ·try refine go ?_
   exact tail _ _ _ fun k hk=>by
    obtain⟨m,hm⟩:=ed hk;have:=(aj.mp hm).1;exact hI m (by omega) k hm
 ·try refine go ?_
  refine jw ?_;try refine go ?_
  exact tail _ _ _ fun k hk=>by cases hk
 ·have acs:s1.get ko=some (.arr 1 3 (ints K) 0):=GH;try refine go ?_
  refine fw K.length (fun j=> [(0,.ptr bo 0),(4,.bool false),(5,.lv (Tm.d ⟨kd,b,ng,n1,ft,tx,n2,kids,gy,sm⟩)),(43,.sl ko 0 K.length K.length),(44,.int .i64 (K.length:Nat)),(45,.int .i64 (j:Nat))]) (fun j s' =>s' =s1/\∀m,m < j->∀k,K[m]? =some k->∃u,tms[k.toNat]? =some u/\IsKey u) ⟨rfl,fun m hm=>by omega⟩ ?_;rintro j s3 hj ⟨rfl,hI⟩;rcases aP j K.length with mw | vO
  ·have hk:K[j]? =some K[j]:=ak mw;obtain⟨q,Re,J3⟩:=aax K[j] (cA mw);have rK:=cA mw;rw [Re]at hk rK;have wZ:(ints K)[0+j]? =some (.int .i64 (q:Nat)):=by rw [aU]; exact ints_at hk
   have hu:tms[q]? =some tms[q]:=ak J3;have ha:=kD hu;generalize tms[q]=u at hu ha;have JZ:=Eo (H:=H) (s:=s3) (t:=u) hS;try refine go ?_
   refine af JZ ?_;rintro d s4 ⟨⟨bb,rfl,lh⟩,rfl⟩;cases bb with
   | true=>
    try refine go ?_
    refine dI mw ⟨rfl,fun m hm k Az => ?_⟩;rcases aP m j with h1 | h1
    ·exact hI m h1 k Az
    ·obtain rfl:m=j:=by omega
     rw [hk]at Az; simp only [aa]at Az; subst Az;exact⟨u,by rw [aQ]; exact hu,lh.mp rfl⟩
   | false=>
    try refine go ?_
    exact ai (bad q u rK (by rw [aQ]; exact hu) (fun hh=>by have:=lh.mpr hh; cases this))
  ·try refine go ?_
   exact tail _ _ _ fun k hk=>by
    obtain⟨m,hm⟩:=ed hk;have:=(aj.mp hm).1;exact hI m (by omega) k hm
theorem Gg (hS:TS T)(hs:s.Ok)(hb:s.get bo=some (.var 105 (.agg [.ptr so 0,.vs false 8 (tms.map Tm.d),x])))(hti:tms[i]? =some t)(ho:t.Ok)(hN:tms.length<=100000):
  bY T H 45 [.ptr bo 0,.int .i64 (i:Nat)] s fun d s1=>(∃b,d= .bool b/\(b=false↔ox tms i t))/\aH Nil s s1:=by
 have ha:=kD hti;have hi:i < tms.length:=(aj.mp hti).1;have xO:(tms.map Tm.d).length=tms.length:=aY _;have sD:=ho.kids;obtain⟨tl,OY⟩:∃tl,tl=RD:=⟨_,rfl⟩;have hB:=fun (z1 z2 z3 z4:D) (qY:∀k∈t.kids,tu tms i t k)=>YY (T:=T) (H:=H) (z1:=z1) (z2:=z2) (z3:=z3) (z4:=z4) (R:=fun d s1=>(∃b,d= .bool b/\(b=false↔ox tms i t))/\aH Nil s s1) hS hs hb ho (by omega) qY (fun b s1 h1 h2=>⟨⟨b,rfl,h1⟩,h2⟩);rw [← OY]at hB
 have bad:∀k:Int,k∈t.kids-> ¬ tu tms i t k->(∃b,D.bool true= .bool b/\(b=false↔ox tms i t))/\aH Nil s s:=fun k hk hn=>⟨⟨true,rfl,by
  simp only [Bool.true_eq_false,false_iff];exact fun h=>hn (h.1 k hk)⟩,aH.refl hs⟩
 unfold tu at hB bad;obtain⟨kd,b,ng,n1,ft,tx,n2,kids,gy,sm⟩:=t;have s9:=fH kids;simp only at hB bad sD;refine aD hS.t45 ?_;show dR T H (.seq (L9 1) (.seq (L9 2) (.seq (L9 3) (.seq (L9 4) (.seq (L9 5) RD))))) _ _ s _;rw [← OY];by_cases h6:kd=6
 ·subst h6;simp only [ei]at hB bad;try refine go ?_
  refine fw kids.length (fun j=> [(0,.ptr bo 0),(4,.bool false),(5,.lv (Tm.d ⟨6,b,ng,n1,ft,tx,n2,kids,gy,sm⟩)),(6,.int .i64 ((tms.map Tm.d).length:Nat)),(28,.vs n2 1 (ints kids)),(29,.int .i64 ((ints kids).length:Nat)),(30,.int .i64 (j:Nat))]) (fun j s' =>s' =s/\∀m,m < j->∀k,kids[m]? =some k->0<=k/\k < (tms.length:Nat)) ⟨rfl,fun m hm=>by omega⟩ ?_;rintro j s3 hj ⟨rfl,hI⟩;rcases aP j kids.length with mw | vO
  ·have hk:kids[j]? =some kids[j]:=ak mw;have rK:=cA mw;generalize kids[j]=k at hk rK;have wZ:(ints kids)[j]? =some (.int .i64 k):=ints_at hk;by_cases h0:k < 0
   ·try refine go ?_
    exact ai (bad k rK (by omega))
   ·by_cases h1:(tms.length:Int)<=k
    ·try refine go ?_
     exact ai (bad k rK (by omega))
    ·try refine go ?_
     refine dI mw ⟨rfl,fun m hm k' Az => ?_⟩;rcases aP m j with h2 | h2
     ·exact hI m h2 k' Az
     ·obtain rfl:m=j:=by omega
      rw [hk]at Az; simp only [aa]at Az; subst Az;omega
  ·try refine go ?_
   exact hB _ _ _ _ fun k hk=>by
    obtain⟨m,hm⟩:=ed hk;have:=(aj.mp hm).1;exact hI m (by omega) k hm
 ·simp only [aI h6]at hB bad;try refine go ?_
  refine fw kids.length (fun j=> [(0,.ptr bo 0),(4,.bool false),(5,.lv (Tm.d ⟨kd,b,ng,n1,ft,tx,n2,kids,gy,sm⟩)),(6,.int .i64 (i:Nat)),(28,.vs n2 1 (ints kids)),(29,.int .i64 ((ints kids).length:Nat)),(30,.int .i64 (j:Nat))]) (fun j s' =>s' =s/\∀m,m < j->∀k,kids[m]? =some k->0<=k/\k < (i:Nat)) ⟨rfl,fun m hm=>by omega⟩ ?_;rintro j s3 hj ⟨rfl,hI⟩;rcases aP j kids.length with mw | vO
  ·have hk:kids[j]? =some kids[j]:=ak mw;have rK:=cA mw;generalize kids[j]=k at hk rK;have wZ:(ints kids)[j]? =some (.int .i64 k):=ints_at hk;by_cases h0:k < 0
   ·try refine go ?_
    exact ai (bad k rK (by omega))
   ·by_cases h1:(i:Int)<=k
    ·try refine go ?_
     exact ai (bad k rK (by omega))
    ·try refine go ?_
     refine dI mw ⟨rfl,fun m hm k' Az => ?_⟩;rcases aP m j with h2 | h2
     ·exact hI m h2 k' Az
     ·obtain rfl:m=j:=by omega
      rw [hk]at Az; simp only [aa]at Az; subst Az;omega
  ·try refine go ?_
   exact hB _ _ _ _ fun k hk=>by
    obtain⟨m,hm⟩:=ed hk;have:=(aj.mp hm).1;exact hI m (by omega) k hm
end
theorem tE (s:ByteArray)(i:Nat):1<=(Utf8.decode s i).2:=by
 unfold Utf8.decode;simp only
 repeat' split
 all_goals simp
def runesFrom (l:List UInt8)(pos:Nat):Nat:=if h:pos < l.length then runesFrom l (pos+(Utf8.decode ⟨l.toArray⟩ pos).2)+1 else 0
 termination_by l.length - pos
 decreasing_by have:=tE ⟨l.toArray⟩ pos; omega
theorem u7 {l:List UInt8}{pos:Nat}(h:pos < l.length):runesFrom l pos=runesFrom l (pos+(Utf8.decode ⟨l.toArray⟩ pos).2)+1:=by rw [runesFrom,dif_pos h]
theorem qL {l:List UInt8}{pos:Nat}(h: ¬ pos < l.length):runesFrom l pos=0:=by rw [runesFrom,dif_neg h]
theorem nP (l:List UInt8):∀(m pos:Nat),l.length - pos<=m->runesFrom l pos<=l.length - pos
 | 0,pos,h=>by rw [qL (by omega)]; omega
 | m+1,pos,h=>by
  by_cases hp:pos < l.length
  ·have:=tE ⟨l.toArray⟩ pos;rw [u7 hp];have:=nP l m (pos+(Utf8.decode ⟨l.toArray⟩ pos).2) (by omega);omega
  ·rw [qL hp]; omega
theorem Qg {s:St}{e:Env}{x:bO}{l:List UInt8}(hs:s.Ok)(hx:x.ev e=some (.str l)):cg fm e s none (.range x)=some (.ptr s.n 0,s.aZ (.oW l 0)):=by
 simp only [cg,hx,hs.XJ]
theorem Tc {s:St}{e:Env}{x:bO}{o pos:Nat}{l:List UInt8}(hs:s.Ok)(hx:x.ev e=some (.ptr o 0))(hg:s.get o=some (.oW l pos))(h:pos < l.length):cg fm e s none (.uO x)=some (.gW [.bool true,Gy pos,.int .i32 (Utf8.decode ⟨l.toArray⟩ pos).1],s.bn o (.oW l (pos+(Utf8.decode ⟨l.toArray⟩ pos).2))):=by
 have hb:Nat.blt pos l.length=true:=ax h;simp only [cg,hx,hg,hb,hs.set,nY]
theorem Tb {s:St}{e:Env}{x:bO}{o pos:Nat}{l:List UInt8}(hx:x.ev e=some (.ptr o 0))(hg:s.get o=some (.oW l pos))(h: ¬ pos < l.length):cg fm e s none (.uO x)=some (.gW [.bool false],s):=by
 have hb:Nat.blt pos l.length=false:=by
  cases hc:Nat.blt pos l.length with
  | false=>rfl
  | true=>exact absurd (az hc) h
 simp only [cg,hx,hg,hb]
section
variable {T:Nat->Option dJ}{H:au}{s:St}
def Vu (s:St)(l:List UInt8)(m:Nat)(env:Env) (s' :St):Prop:=aH Nil s s' /\∃pos c,l.length - pos<=m/\s'.get s.n=some (.oW l pos)/\c+runesFrom l pos=runesFrom l 0/\c<=l.length/\env=[(3,.int .i64 ((c:Nat):Int)),(5,.ptr s.n 0)]
theorem Vv (hS:TS T)(hs:s.Ok){l:List UInt8}(hl:l.length<=1000000000):bY T H 84 [.str l] s fun d s1=>d= .int .i64 (runesFrom l 0:Nat)/\aH Nil s s1:=by
 have h0:=nP l l.length 0 (by omega);refine aD hS.t84 ?_;try refine go ?_
 refine lR ?_ rfl (Qg hs rfl);try refine go ?_
 refine fY (Vu s l) l.length rfl ⟨aH.push (aH.refl hs) _,0,0,by omega,St.bq,by omega,by omega,rfl⟩ ?_;rintro m env s1 ⟨b1,pos,c,hm,hg,hc,Oy,rfl⟩;have ok1:=b1.ok;have ln:=ok1.lt hg;by_cases hp:pos < l.length
 ·have hd:=tE ⟨l.toArray⟩ pos;have hr:=u7 hp;have hle:=nP l l.length pos (by omega);try refine go ?_
  refine lR ?_ rfl (Tc ok1 rfl hg hp);try refine go ?_
  exact ec (m - 1) (by omega) rfl ⟨aH.set b1 _ ln (fun h=>by omega),_,c+1,by omega,St.aG,by omega,by omega,rfl⟩
 ·have hr:=qL hp;try refine go ?_
  refine lR ?_ rfl (Tb rfl hg hp);try refine go ?_
  exact ai ⟨by rw [show runesFrom l 0=c by omega],b1⟩
end
theorem QH (ng:Bool){V:List Nat}(hl:V.length<=100000)(hw:∀v∈V,v < 4294967296):(ve ng V).length<=4000000:=by
 unfold ve;split
 ·simp
 ·have key:∀L:List Nat,(L.flatMap oJ).length=9 * L.length:=by
   intro L;induction L with
   | nil=>rfl
   | cons a r ih=>rw [iR,an,ih,aT]; simp only [oJ,aY,aT,b9]; omega
  have h1:=(lF (l:=jj (ep (gx V))) (· ==48)).length_le;have h2:(jj (ep (gx V))).length=9 * (ep (gx V)).length:=by rw [jj,key,gQ]
  have h3:=wk hw;rw [an];split <;> simp only [aT,b9] <;> omega
def BQ (t:Tm)(k:Nat):List UInt8:=if t.kd=1 then [110,111,110,101] else if t.kd=2 then (if t.b then [105,49] else [105,48]) else if t.kd=3 then [105]++ve t.ng t.ft else if t.kd=4 then [115]++t.tx else [111]++Lib.itoa (k:Nat)
section
variable {T:Nat->Option dJ}{H:au}{s:St}{so bo k:Nat}{x:D}{tms:List Tm}{t:Tm}
theorem IZ (hS:TS T)(hW:TW T)(hV:TV T)(hX:TX T)(hU:TU T H)(hs:s.Ok)(hb:kZ s bo so tms x)(hk:tms[k]? =some t)(ho:t.Ok)(hwd:∀v∈t.ft,v < 4294967296)(pQ:k < 1000):
  bY T H 85 [.ptr bo 0,.int .i64 (k:Nat)] s fun d s1=>d= .str (BQ t k)/\aH Nil s s1:=by
 have hg:=hb.go;have ha:=kD hk;have q1:=ho.n1; have q2:=ho.ft; have q3:=ho.tx;obtain⟨kd,b,ng,n1,ft,tx,n2,kids,gy,sm⟩:=t;simp only at q1 q2 q3 hwd;have hit:=hU.i s k (by omega);have xO:=QH ng (bW q2 (by decide)) hwd;have td:=SP (n:=k) (by omega);unfold BQ;simp only;refine aD hS.t85 ?_;by_cases h1:kd=1
 ·subst h1;simp only [bQ];try refine go ?_
  exact ai ⟨rfl,aH.refl hs⟩
 rw [aI h1];by_cases h2:kd=2
 ·subst h2;simp only [bQ];cases b
  ·try refine go ?_
   exact ai ⟨rfl,aH.refl hs⟩
  ·try refine go ?_
   exact ai ⟨rfl,aH.refl hs⟩
 rw [aI h2];by_cases h3:kd=3
 ·subst h3;simp only [bQ];try refine go ?_
  refine af (QV hW hV hX hs (.vs n1 ft q1) (bW q2 (by decide)) hwd) ?_;rintro d s2 ⟨rfl,z1⟩;try refine go ?_
  refine xT (m:=[105]) (c:=ve ng ft) ?_ (by rw [aC]; omega);try refine go ?_
  exact ai ⟨rfl,z1⟩
 rw [aI h3];by_cases h4:kd=4
 ·subst h4;simp only [bQ];try refine go ?_
  refine xT (m:=[115]) (c:=tx) ?_ (by rw [aC]; omega);try refine go ?_
  exact ai ⟨rfl,aH.refl hs⟩
 ·rw [aI h4];try refine go ?_
  refine af hit ?_;rintro d s2 ⟨rfl,rfl⟩;try refine go ?_
  refine xT (m:=[111]) (c:=Lib.itoa (k:Nat)) ?_ (by rw [aC]; omega);try refine go ?_
  exact ai ⟨rfl,aH.refl hs⟩
end
end Go.Proofs.Tab
