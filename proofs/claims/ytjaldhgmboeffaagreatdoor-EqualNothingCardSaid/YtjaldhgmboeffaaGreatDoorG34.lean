/- Part. -/
import Derived.Test.YtjaldhgmboeffaaGreatDoorG33
set_option linter.unusedSimpArgs false
set_option linter.unusedVariables false
set_option linter.unusedSectionVars false
set_option maxRecDepth 100000
set_option maxHeartbeats 4000000
namespace Go.Proofs.Tab
open Go Go.Ab Go.Ab.Sm
def uV (tms:List Tm)(t:Tm):Prop:=
 if t.kd=5\/t.kd=6\/t.kd=8\/t.kd=9 then True else if t.kd=7 then t.kids.length % 2=0 else if t.kd=15\/t.kd=16\/t.kd=17 then ∃k u,t.kids=[k]/\tms[k.toNat]? =some u/\u.kd=7 else t.kids=[]
def rA (tms:List Tm)(i:Nat)(t:Tm)(k:Int):Prop:=0<=k/\k < (if t.kd=6 then tms.length else i:Nat)
def mS (tms:List Tm)(i:Nat)(t:Tm):Prop:=(∀k∈t.kids,rA tms i t k)/\(∀k∈fi t,∃u,tms[k.toNat]? =some u/\IsKey u)/\uV tms t
noncomputable def gv:AC:=match mV.1.body with
 | .seq _ (.seq _ (.seq _ (.seq _ (.seq _ (.seq _ c)))))=>c
 | _=> .skip
section
variable {T:Nat->Option dU}{H:ay}{s:St}{so bo i:Nat}{tms:List Tm}{t:Tm}{x:D}{K:List iT}{Q:QP}
theorem abW (hb:s.get bo=some (.var 116 (.agg [.ptr so 0,.vs false 8 (tms.map Tm.d),x]))){b ng n1 n2 gW sm:Bool}{mag:List Nat}{tx:List UInt8}{z1 z2 z3:D}{R:D->St->Prop}{kids:List Int}(h:R (.bool false) s):eH T H gv [] ⟨(46,.bool false)::(0,.ptr bo 0)::(4,.bool false)::(5,.lv (Tm.d ⟨5,b,ng,n1,mag,tx,n2,kids,gW,sm⟩))::[(43,z1),(44,z2),(45,z3)],[]⟩ s (QF mV.1.results R):=by
 show eH T H (.seq _ _) _ _ s _;try refine go ?_
 exact ai h
theorem acd (hb:s.get bo=some (.var 116 (.agg [.ptr so 0,.vs false 8 (tms.map Tm.d),x]))){b ng n1 n2 gW sm:Bool}{mag:List Nat}{tx:List UInt8}{z1 z2 z3:D}{R:D->St->Prop}{kids:List Int}(h:R (.bool false) s):eH T H gv [] ⟨(46,.bool false)::(0,.ptr bo 0)::(4,.bool false)::(5,.lv (Tm.d ⟨6,b,ng,n1,mag,tx,n2,kids,gW,sm⟩))::[(43,z1),(44,z2),(45,z3)],[]⟩ s (QF mV.1.results R):=by
 show eH T H (.seq _ _) _ _ s _;try refine go ?_
 exact ai h
theorem aa7 (hb:s.get bo=some (.var 116 (.agg [.ptr so 0,.vs false 8 (tms.map Tm.d),x]))){b ng n1 n2 gW sm:Bool}{mag:List Nat}{tx:List UInt8}{z1 z2 z3:D}{R:D->St->Prop}{kids:List Int}(h:R (.bool false) s):eH T H gv [] ⟨(46,.bool false)::(0,.ptr bo 0)::(4,.bool false)::(5,.lv (Tm.d ⟨8,b,ng,n1,mag,tx,n2,kids,gW,sm⟩))::[(43,z1),(44,z2),(45,z3)],[]⟩ s (QF mV.1.results R):=by
 show eH T H (.seq _ _) _ _ s _;try refine go ?_
 exact ai h
theorem abe (hb:s.get bo=some (.var 116 (.agg [.ptr so 0,.vs false 8 (tms.map Tm.d),x]))){b ng n1 n2 gW sm:Bool}{mag:List Nat}{tx:List UInt8}{z1 z2 z3:D}{R:D->St->Prop}{kids:List Int}(h:R (.bool false) s):eH T H gv [] ⟨(46,.bool false)::(0,.ptr bo 0)::(4,.bool false)::(5,.lv (Tm.d ⟨9,b,ng,n1,mag,tx,n2,kids,gW,sm⟩))::[(43,z1),(44,z2),(45,z3)],[]⟩ s (QF mV.1.results R):=by
 show eH T H (.seq _ _) _ _ s _;try refine go ?_
 exact ai h
theorem Y7 (hb:s.get bo=some (.var 116 (.agg [.ptr so 0,.vs false 8 (tms.map Tm.d),x]))){b ng n1 n2 gW sm:Bool}{mag:List Nat}{tx:List UInt8}{z1 z2 z3:D}{R:D->St->Prop}{kids:List Int}(hm:kids.length % 2=0)(h:R (.bool false) s):eH T H gv [] ⟨(46,.bool false)::(0,.ptr bo 0)::(4,.bool false)::(5,.lv (Tm.d ⟨7,b,ng,n1,mag,tx,n2,kids,gW,sm⟩))::[(43,z1),(44,z2),(45,z3)],[]⟩ s (QF mV.1.results R):=by
 have ja:=fB kids;have e1:Int.tmod (((ints kids).length:Nat):Int) 2=((0:Nat):Int):=by rw [ja,bZ (by omega)]; omega
 show eH T H (.seq _ _) _ _ s _;try refine go ?_
 simp only [e1];try refine go ?_
 exact ai h
theorem aah (hb:s.get bo=some (.var 116 (.agg [.ptr so 0,.vs false 8 (tms.map Tm.d),x]))){b ng n1 n2 gW sm:Bool}{mag:List Nat}{tx:List UInt8}{z1 z2 z3:D}{R:D->St->Prop}{kids:List Int}(hm:kids.length % 2=1)(h:R (.bool true) s):eH T H gv [] ⟨(46,.bool false)::(0,.ptr bo 0)::(4,.bool false)::(5,.lv (Tm.d ⟨7,b,ng,n1,mag,tx,n2,kids,gW,sm⟩))::[(43,z1),(44,z2),(45,z3)],[]⟩ s (QF mV.1.results R):=by
 have ja:=fB kids;have e1:Int.tmod (((ints kids).length:Nat):Int) 2=((1:Nat):Int):=by rw [ja,bZ (by omega)]; omega
 show eH T H (.seq _ _) _ _ s _;try refine go ?_
 simp only [e1];try refine go ?_
 exact ai h
theorem XI (hb:s.get bo=some (.var 116 (.agg [.ptr so 0,.vs false 8 (tms.map Tm.d),x]))){b ng n1 n2 gW sm:Bool}{mag:List Nat}{tx:List UInt8}{z1 z2 z3:D}{R:D->St->Prop}(h:R (.bool true) s):eH T H gv [] ⟨(46,.bool false)::(0,.ptr bo 0)::(4,.bool false)::(5,.lv (Tm.d ⟨15,b,ng,n1,mag,tx,n2,[],gW,sm⟩))::[(43,z1),(44,z2),(45,z3)],[]⟩ s (QF mV.1.results R):=by
 have cE:(((ints ([]:List Int)).length:Int) !=1)=true:=by simp [ints]
 show eH T H (.seq _ _) _ _ s _;try refine go ?_
 exact ai h
theorem W1 (hb:s.get bo=some (.var 116 (.agg [.ptr so 0,.vs false 8 (tms.map Tm.d),x]))){b ng n1 n2 gW sm:Bool}{mag:List Nat}{tx:List UInt8}{z1 z2 z3:D}{R:D->St->Prop}{k k2:Int}{r:List Int}(h:R (.bool true) s):eH T H gv [] ⟨(46,.bool false)::(0,.ptr bo 0)::(4,.bool false)::(5,.lv (Tm.d ⟨15,b,ng,n1,mag,tx,n2,(k::k2::r),gW,sm⟩))::[(43,z1),(44,z2),(45,z3)],[]⟩ s (QF mV.1.results R):=by
 have ja:=fB (k::k2::r);have cE:(((ints (k::k2::r)).length:Int) !=1)=true:=by rw [ja]; simp only [aV,bne_iff_ne,ne_eq]; omega
 show eH T H (.seq _ _) _ _ s _;try refine go ?_
 simp only [cE];try refine go ?_
 exact ai h
theorem Rg (hb:s.get bo=some (.var 116 (.agg [.ptr so 0,.vs false 8 (tms.map Tm.d),x]))){b ng n1 n2 gW sm:Bool}{mag:List Nat}{tx:List UInt8}{z1 z2 z3:D}{R:D->St->Prop}{q:Nat}{u:Tm}(hu:tms[q]? =some u)(wN:u.kd=7)(h:R (.bool false) s):eH T H gv [] ⟨(46,.bool false)::(0,.ptr bo 0)::(4,.bool false)::(5,.lv (Tm.d ⟨15,b,ng,n1,mag,tx,n2,[(q:Int)],gW,sm⟩))::[(43,z1),(44,z2),(45,z3)],[]⟩ s (QF mV.1.results R):=by
 have ha:=ej hu;have Cm:(ints [(q:Int)])[0]? =some (.int .i64 (q:Nat)):=rfl;obtain⟨ukd,ub,ung,MH,umag,utx,Ox,ukids,uhs,usm⟩:=u;simp only at wN;subst wN;show eH T H (.seq _ _) _ _ s _;try refine go ?_
 exact ai h
theorem Rq (hb:s.get bo=some (.var 116 (.agg [.ptr so 0,.vs false 8 (tms.map Tm.d),x]))){b ng n1 n2 gW sm:Bool}{mag:List Nat}{tx:List UInt8}{z1 z2 z3:D}{R:D->St->Prop}{q:Nat}{u:Tm}(hu:tms[q]? =some u)(wN:u.kd≠7)(h:R (.bool true) s):eH T H gv [] ⟨(46,.bool false)::(0,.ptr bo 0)::(4,.bool false)::(5,.lv (Tm.d ⟨15,b,ng,n1,mag,tx,n2,[(q:Int)],gW,sm⟩))::[(43,z1),(44,z2),(45,z3)],[]⟩ s (QF mV.1.results R):=by
 have ha:=ej hu;have Cm:(ints [(q:Int)])[0]? =some (.int .i64 (q:Nat)):=rfl;obtain⟨ukd,ub,ung,MH,umag,utx,Ox,ukids,uhs,usm⟩:=u;simp only at wN;have MO:(ukd !=7)=true:=by simpa using wN
 show eH T H (.seq _ _) _ _ s _;try refine go ?_
 try simp only [MO]
 try refine go ?_
 exact ai h
theorem Wr (hb:s.get bo=some (.var 116 (.agg [.ptr so 0,.vs false 8 (tms.map Tm.d),x]))){b ng n1 n2 gW sm:Bool}{mag:List Nat}{tx:List UInt8}{z1 z2 z3:D}{R:D->St->Prop}(h:R (.bool true) s):eH T H gv [] ⟨(46,.bool false)::(0,.ptr bo 0)::(4,.bool false)::(5,.lv (Tm.d ⟨16,b,ng,n1,mag,tx,n2,[],gW,sm⟩))::[(43,z1),(44,z2),(45,z3)],[]⟩ s (QF mV.1.results R):=by
 have cE:(((ints ([]:List Int)).length:Int) !=1)=true:=by simp [ints]
 show eH T H (.seq _ _) _ _ s _;try refine go ?_
 exact ai h
theorem XU (hb:s.get bo=some (.var 116 (.agg [.ptr so 0,.vs false 8 (tms.map Tm.d),x]))){b ng n1 n2 gW sm:Bool}{mag:List Nat}{tx:List UInt8}{z1 z2 z3:D}{R:D->St->Prop}{k k2:Int}{r:List Int}(h:R (.bool true) s):eH T H gv [] ⟨(46,.bool false)::(0,.ptr bo 0)::(4,.bool false)::(5,.lv (Tm.d ⟨16,b,ng,n1,mag,tx,n2,(k::k2::r),gW,sm⟩))::[(43,z1),(44,z2),(45,z3)],[]⟩ s (QF mV.1.results R):=by
 have ja:=fB (k::k2::r);have cE:(((ints (k::k2::r)).length:Int) !=1)=true:=by rw [ja]; simp only [aV,bne_iff_ne,ne_eq]; omega
 show eH T H (.seq _ _) _ _ s _;try refine go ?_
 simp only [cE];try refine go ?_
 exact ai h
theorem QO (hb:s.get bo=some (.var 116 (.agg [.ptr so 0,.vs false 8 (tms.map Tm.d),x]))){b ng n1 n2 gW sm:Bool}{mag:List Nat}{tx:List UInt8}{z1 z2 z3:D}{R:D->St->Prop}{q:Nat}{u:Tm}(hu:tms[q]? =some u)(wN:u.kd=7)(h:R (.bool false) s):eH T H gv [] ⟨(46,.bool false)::(0,.ptr bo 0)::(4,.bool false)::(5,.lv (Tm.d ⟨16,b,ng,n1,mag,tx,n2,[(q:Int)],gW,sm⟩))::[(43,z1),(44,z2),(45,z3)],[]⟩ s (QF mV.1.results R):=by
 have ha:=ej hu;have Cm:(ints [(q:Int)])[0]? =some (.int .i64 (q:Nat)):=rfl;obtain⟨ukd,ub,ung,MH,umag,utx,Ox,ukids,uhs,usm⟩:=u;simp only at wN;subst wN;show eH T H (.seq _ _) _ _ s _;try refine go ?_
 exact ai h
theorem R1 (hb:s.get bo=some (.var 116 (.agg [.ptr so 0,.vs false 8 (tms.map Tm.d),x]))){b ng n1 n2 gW sm:Bool}{mag:List Nat}{tx:List UInt8}{z1 z2 z3:D}{R:D->St->Prop}{q:Nat}{u:Tm}(hu:tms[q]? =some u)(wN:u.kd≠7)(h:R (.bool true) s):eH T H gv [] ⟨(46,.bool false)::(0,.ptr bo 0)::(4,.bool false)::(5,.lv (Tm.d ⟨16,b,ng,n1,mag,tx,n2,[(q:Int)],gW,sm⟩))::[(43,z1),(44,z2),(45,z3)],[]⟩ s (QF mV.1.results R):=by
 have ha:=ej hu;have Cm:(ints [(q:Int)])[0]? =some (.int .i64 (q:Nat)):=rfl;obtain⟨ukd,ub,ung,MH,umag,utx,Ox,ukids,uhs,usm⟩:=u;simp only at wN;have MO:(ukd !=7)=true:=by simpa using wN
 show eH T H (.seq _ _) _ _ s _;try refine go ?_
 try simp only [MO]
 try refine go ?_
 exact ai h
theorem WT (hb:s.get bo=some (.var 116 (.agg [.ptr so 0,.vs false 8 (tms.map Tm.d),x]))){b ng n1 n2 gW sm:Bool}{mag:List Nat}{tx:List UInt8}{z1 z2 z3:D}{R:D->St->Prop}(h:R (.bool true) s):eH T H gv [] ⟨(46,.bool false)::(0,.ptr bo 0)::(4,.bool false)::(5,.lv (Tm.d ⟨17,b,ng,n1,mag,tx,n2,[],gW,sm⟩))::[(43,z1),(44,z2),(45,z3)],[]⟩ s (QF mV.1.results R):=by
 have cE:(((ints ([]:List Int)).length:Int) !=1)=true:=by simp [ints]
 show eH T H (.seq _ _) _ _ s _;try refine go ?_
 exact ai h
theorem V4 (hb:s.get bo=some (.var 116 (.agg [.ptr so 0,.vs false 8 (tms.map Tm.d),x]))){b ng n1 n2 gW sm:Bool}{mag:List Nat}{tx:List UInt8}{z1 z2 z3:D}{R:D->St->Prop}{k k2:Int}{r:List Int}(h:R (.bool true) s):eH T H gv [] ⟨(46,.bool false)::(0,.ptr bo 0)::(4,.bool false)::(5,.lv (Tm.d ⟨17,b,ng,n1,mag,tx,n2,(k::k2::r),gW,sm⟩))::[(43,z1),(44,z2),(45,z3)],[]⟩ s (QF mV.1.results R):=by
 have ja:=fB (k::k2::r);have cE:(((ints (k::k2::r)).length:Int) !=1)=true:=by rw [ja]; simp only [aV,bne_iff_ne,ne_eq]; omega
 show eH T H (.seq _ _) _ _ s _;try refine go ?_
 simp only [cE];try refine go ?_
 exact ai h
theorem Si (hb:s.get bo=some (.var 116 (.agg [.ptr so 0,.vs false 8 (tms.map Tm.d),x]))){b ng n1 n2 gW sm:Bool}{mag:List Nat}{tx:List UInt8}{z1 z2 z3:D}{R:D->St->Prop}{q:Nat}{u:Tm}(hu:tms[q]? =some u)(wN:u.kd=7)(h:R (.bool false) s):eH T H gv [] ⟨(46,.bool false)::(0,.ptr bo 0)::(4,.bool false)::(5,.lv (Tm.d ⟨17,b,ng,n1,mag,tx,n2,[(q:Int)],gW,sm⟩))::[(43,z1),(44,z2),(45,z3)],[]⟩ s (QF mV.1.results R):=by
 have ha:=ej hu;have Cm:(ints [(q:Int)])[0]? =some (.int .i64 (q:Nat)):=rfl;obtain⟨ukd,ub,ung,MH,umag,utx,Ox,ukids,uhs,usm⟩:=u;simp only at wN;subst wN;show eH T H (.seq _ _) _ _ s _;try refine go ?_
 exact ai h
theorem PO (hb:s.get bo=some (.var 116 (.agg [.ptr so 0,.vs false 8 (tms.map Tm.d),x]))){b ng n1 n2 gW sm:Bool}{mag:List Nat}{tx:List UInt8}{z1 z2 z3:D}{R:D->St->Prop}{q:Nat}{u:Tm}(hu:tms[q]? =some u)(wN:u.kd≠7)(h:R (.bool true) s):eH T H gv [] ⟨(46,.bool false)::(0,.ptr bo 0)::(4,.bool false)::(5,.lv (Tm.d ⟨17,b,ng,n1,mag,tx,n2,[(q:Int)],gW,sm⟩))::[(43,z1),(44,z2),(45,z3)],[]⟩ s (QF mV.1.results R):=by
 have ha:=ej hu;have Cm:(ints [(q:Int)])[0]? =some (.int .i64 (q:Nat)):=rfl;obtain⟨ukd,ub,ung,MH,umag,utx,Ox,ukids,uhs,usm⟩:=u;simp only at wN;have MO:(ukd !=7)=true:=by simpa using wN
 show eH T H (.seq _ _) _ _ s _;try refine go ?_
 try simp only [MO]
 try refine go ?_
 exact ai h
theorem abz (hb:s.get bo=some (.var 116 (.agg [.ptr so 0,.vs false 8 (tms.map Tm.d),x]))){b ng n1 n2 gW sm:Bool}{mag:List Nat}{tx:List UInt8}{z1 z2 z3:D}{R:D->St->Prop}{kd:Int}(hk:kd≠5/\kd≠6/\kd≠8/\kd≠9/\kd≠7/\kd≠15/\kd≠16/\kd≠17)(h:R (.bool false) s):eH T H gv [] ⟨(46,.bool false)::(0,.ptr bo 0)::(4,.bool false)::(5,.lv (Tm.d ⟨kd,b,ng,n1,mag,tx,n2,[],gW,sm⟩))::[(43,z1),(44,z2),(45,z3)],[]⟩ s (QF mV.1.results R):=by
 obtain⟨k1,k2,k3,k4,k5,k6,k7,k8⟩:=hk;show eH T H (.seq _ _) _ _ s _;try refine go ?_
 exact ai h
theorem abT (hb:s.get bo=some (.var 116 (.agg [.ptr so 0,.vs false 8 (tms.map Tm.d),x]))){b ng n1 n2 gW sm:Bool}{mag:List Nat}{tx:List UInt8}{z1 z2 z3:D}{R:D->St->Prop}{kd:Int}{k:Int}{r:List Int}(hk:kd≠5/\kd≠6/\kd≠8/\kd≠9/\kd≠7/\kd≠15/\kd≠16/\kd≠17)(h:R (.bool true) s):eH T H gv [] ⟨(46,.bool false)::(0,.ptr bo 0)::(4,.bool false)::(5,.lv (Tm.d ⟨kd,b,ng,n1,mag,tx,n2,(k::r),gW,sm⟩))::[(43,z1),(44,z2),(45,z3)],[]⟩ s (QF mV.1.results R):=by
 obtain⟨k1,k2,k3,k4,k5,k6,k7,k8⟩:=hk;have ja:=fB (k::r);have dM:(0:Int) < ((ints (k::r)).length:Nat):=by rw [ja,aV]; omega
 show eH T H (.seq _ _) _ _ s _;try refine go ?_
 exact ai h
theorem OI (hb:s.get bo=some (.var 116 (.agg [.ptr so 0,.vs false 8 (tms.map Tm.d),x])))(hi:i<=tms.length)(mD:∀k∈t.kids,rA tms i t k){z1 z2 z3:D}{R:D->St->Prop}
  (h:∀b,(b=false↔uV tms t)->R (.bool b) s):eH T H gv [] ⟨(46,.bool false)::(0,.ptr bo 0)::(4,.bool false)::(5,.lv t.d)::[(43,z1),(44,z2),(45,z3)],[]⟩ s (QF mV.1.results R):=by
 unfold uV at h;unfold rA at mD;obtain⟨kd,b,ng,n1,mag,tx,n2,kids,gW,sm⟩:=t;simp only at h mD;by_cases h1:kd=5
 ·subst h1; exact abW hb (h false (by simp))
 by_cases h2:kd=6
 ·subst h2; exact acd hb (h false (by simp))
 by_cases h3:kd=8
 ·subst h3; exact aa7 hb (h false (by simp))
 by_cases h4:kd=9
 ·subst h4; exact abe hb (h false (by simp))
 by_cases h5:kd=7
 ·subst h5;rcases iR kids.length with hm | hm
  ·exact Y7 hb hm (h false (by simp [hm]))
  ·exact aah hb hm (h true (by simp [hm]))
 by_cases h6:kd=15\/kd=16\/kd=17
 ·have h7: ¬ (kd=5\/kd=6\/kd=8\/kd=9):=by omega
  rw [aK h7,aK h5,bT h6]at h;cases kids with
  | nil=>
   have h' :=h true (by simp);rcases h6 with rfl | rfl | rfl
   ·exact XI hb h'
   ·exact Wr hb h'
   ·exact WT hb h'
  | cons k r=>
   cases r with
   | cons k2 r=>
    have h' :=h true (by simp);rcases h6 with rfl | rfl | rfl
    ·exact W1 hb h'
    ·exact XU hb h'
    ·exact V4 hb h'
   | nil=>
    obtain⟨k0,k1⟩:=mD k (by simp);rw [aK h2]at k1;obtain⟨q,rfl⟩:∃q:Nat,k=q:=⟨k.toNat,by omega⟩;have hq:q < tms.length:=by omega
    have hu:tms[q]? =some tms[q]:=ab hq;generalize tms[q]=u at hu;by_cases wN:u.kd=7
    ·have h' :=h false (by simp [hu,wN]);rcases h6 with rfl | rfl | rfl
     ·exact Rg hb hu wN h'
     ·exact QO hb hu wN h'
     ·exact Si hb hu wN h'
    ·have h' :=h true (by simp [hu,wN]);rcases h6 with rfl | rfl | rfl
     ·exact Rq hb hu wN h'
     ·exact R1 hb hu wN h'
     ·exact PO hb hu wN h'
 ·have hk:kd≠5/\kd≠6/\kd≠8/\kd≠9/\kd≠7/\kd≠15/\kd≠16/\kd≠17:=by omega
  cases kids with
  | nil=>exact abz hb hk (h false (by simp [h1,h2,h3,h4,h5,h6]))
  | cons k r=>exact abT hb hk (h true (by simp [h1,h2,h3,h4,h5,h6]))
end
noncomputable def Rv:AC:=match mV.1.body with
 | .seq _ (.seq _ (.seq _ (.seq _ (.seq _ c))))=>c
 | _=> .skip
noncomputable def YQ:AC:=match Rv with
 | .seq a _=>a
 | _=> .skip
noncomputable def Pm (n:Nat):AC:=match n,mV.1.body with
 | 1,.seq a _=>a
 | 2,.seq _ (.seq a _)=>a
 | 3,.seq _ (.seq _ (.seq a _))=>a
 | 4,.seq _ (.seq _ (.seq _ (.seq a _)))=>a
 | 5,.seq _ (.seq _ (.seq _ (.seq _ (.seq a _))))=>a
 | _,_=> .skip
section
variable {T:Nat->Option dU}{H:ay}{s:St}{so bo i:Nat}{tms:List Tm}{t:Tm}{x:D}
theorem aaj (hS:TS T)(hs:s.Ok)(hb:s.get bo=some (.var 116 (.agg [.ptr so 0,.vs false 8 (tms.map Tm.d),x])))(ho:t.Ok)(hi:i<=tms.length)(mD:∀k∈t.kids,rA tms i t k){z1 z2 z3 z4:D}{R:D->St->Prop}
  (h:∀b s1,(b=false↔mS tms i t)->aF Nil s s1->R (.bool b) s1):eH T H Rv [] ⟨(31,.bool false)::(0,.ptr bo 0)::(4,.bool false)::(5,.lv t.d)::[(6,z1),(28,z2),(29,z3),(30,z4)],[]⟩ s (QF mV.1.results R):=by
 have JJ:=Cp (H:=H) (t:=t) hS hs ho;have j9:=ho.kids;have DF:=tB t;have ja:=fB (fi t);have lb:=hs.lt hb;have yr:(tms.map Tm.d).length=tms.length:=aJ _
 have Z4:∀k∈fi t,∃q:Nat,k=q/\q < tms.length:=fun k hk=>by
  obtain⟨h1,h2⟩:=mD k (yI hk);refine⟨k.toNat,by omega, ?_⟩;split at h2 <;> omega
 have bt:=fun (s1:St) (z1 z2 z3:D) hb gX=>OI (T:=T) (H:=H) (s:=s1) (so:=so) (bo:=bo) (x:=x) (z1:=z1) (z2:=z2) (z3:=z3) (R:=R) hb hi mD gX;obtain⟨kd,b,ng,n1,mag,tx,n2,kids,gW,sm⟩:=t;obtain⟨tl,MD⟩:∃tl,tl=gv:=⟨_,rfl⟩;rw [← MD]at bt;show eH T H (.seq YQ gv) _ _ s _;rw [← MD];refine run_seq ?_;show eH T H (.seq _ _) _ _ s _;try refine go ?_
 refine ak JJ ?_;rintro xk s1 ⟨q1,q2,q3⟩;have ok1:=q3.ok;have G8:=q3.get hs hb (fun h=>h);have tail:=fun (z1 z2 z3:D) (Cl:∀k∈fi ⟨kd,b,ng,n1,mag,tx,n2,kids,gW,sm⟩,∃u,tms[k.toNat]? =some u/\IsKey u)=>bt s1 z1 z2 z3 G8 (fun b jl =>h b s1 (jl.trans ⟨fun gX=>⟨mD,Cl,gX⟩,fun hk=>hk.2.2⟩) q3)
 have bad:∀(k:Int) (u:Tm),k∈fi ⟨kd,b,ng,n1,mag,tx,n2,kids,gW,sm⟩->tms[k.toNat]? =some u-> ¬ IsKey u->R (.bool true) s1:=fun k u hk hu hn=>h true s1 (by
  simp only [Bool.true_eq_false,false_iff];rintro⟨_,h2,_⟩;obtain⟨u',h3,h4⟩:=h2 k hk;rw [hu]at h3; simp only [aa]at h3; subst h3;exact hn h4) q3
 generalize hK:fi ⟨kd,b,ng,n1,mag,tx,n2,kids,gW,sm⟩=K at *;rcases q1 with ⟨nl,K,Fo⟩ | _ | ⟨ko,K,rW⟩
 ·try refine go ?_
  refine ee K.length (fun j=> [(0,.ptr bo 0),(4,.bool false),(5,.lv (Tm.d ⟨kd,b,ng,n1,mag,tx,n2,kids,gW,sm⟩)),(43,.vs nl 1 (ints K)),(44,.int .i64 ((ints K).length:Nat)),(45,.int .i64 (j:Nat))]) (fun j s' =>s' =s1/\∀m,m < j->∀k,K[m]? =some k->∃u,tms[k.toNat]? =some u/\IsKey u) ⟨rfl,fun m hm=>by omega⟩ ?_;rintro j s3 hj ⟨rfl,hI⟩;rcases aH j K.length with mK | pW
  ·have hk:K[j]? =some K[j]:=ab mK;obtain⟨q,PK,zW⟩:=Z4 K[j] (bH mK);have rI:=bH mK;rw [PK]at hk rI;have Cm:(ints K)[j]? =some (.int .i64 (q:Nat)):=ints_at hk;have hu:tms[q]? =some tms[q]:=ab zW;have ha:=ej hu;generalize tms[q]=u at hu ha;have X2:=EN (H:=H) (s:=s3) (t:=u) hS;try refine go ?_
   refine ak X2 ?_;rintro d s4 ⟨⟨bb,rfl,lT⟩,rfl⟩;cases bb with
   | true=>
    try refine go ?_
    refine dw mK ⟨rfl,fun m hm k wZ => ?_⟩;rcases aH m j with h1 | h1
    ·exact hI m h1 k wZ
    ·obtain rfl:m=j:=by omega
     rw [hk]at wZ; simp only [aa]at wZ; subst wZ;exact⟨u,by rw [cZ]; exact hu,lT.mp rfl⟩
   | false=>
    try refine go ?_
    exact ai (bad q u rI (by rw [cZ]; exact hu) (fun hh=>by have:=lT.mpr hh; cases this))
  ·try refine go ?_
   exact tail _ _ _ fun k hk=>by
    obtain⟨m,hm⟩:=cJ hk;have:=(aj.mp hm).1;exact hI m (by omega) k hm
 ·try refine go ?_
  refine lU ?_;try refine go ?_
  exact tail _ _ _ fun k hk=>by cases hk
 ·have acq:s1.get ko=some (.arr 1 3 (ints K) 0):=rW;try refine go ?_
  refine ee K.length (fun j=> [(0,.ptr bo 0),(4,.bool false),(5,.lv (Tm.d ⟨kd,b,ng,n1,mag,tx,n2,kids,gW,sm⟩)),(43,.sl ko 0 K.length K.length),(44,.int .i64 (K.length:Nat)),(45,.int .i64 (j:Nat))]) (fun j s' =>s' =s1/\∀m,m < j->∀k,K[m]? =some k->∃u,tms[k.toNat]? =some u/\IsKey u) ⟨rfl,fun m hm=>by omega⟩ ?_;rintro j s3 hj ⟨rfl,hI⟩;rcases aH j K.length with mK | pW
  ·have hk:K[j]? =some K[j]:=ab mK;obtain⟨q,PK,zW⟩:=Z4 K[j] (bH mK);have rI:=bH mK;rw [PK]at hk rI;have Cm:(ints K)[0+j]? =some (.int .i64 (q:Nat)):=by rw [aN]; exact ints_at hk
   have hu:tms[q]? =some tms[q]:=ab zW;have ha:=ej hu;generalize tms[q]=u at hu ha;have X2:=EN (H:=H) (s:=s3) (t:=u) hS;try refine go ?_
   refine ak X2 ?_;rintro d s4 ⟨⟨bb,rfl,lT⟩,rfl⟩;cases bb with
   | true=>
    try refine go ?_
    refine dw mK ⟨rfl,fun m hm k wZ => ?_⟩;rcases aH m j with h1 | h1
    ·exact hI m h1 k wZ
    ·obtain rfl:m=j:=by omega
     rw [hk]at wZ; simp only [aa]at wZ; subst wZ;exact⟨u,by rw [cZ]; exact hu,lT.mp rfl⟩
   | false=>
    try refine go ?_
    exact ai (bad q u rI (by rw [cZ]; exact hu) (fun hh=>by have:=lT.mpr hh; cases this))
  ·try refine go ?_
   exact tail _ _ _ fun k hk=>by
    obtain⟨m,hm⟩:=cJ hk;have:=(aj.mp hm).1;exact hI m (by omega) k hm
theorem Gt (hS:TS T)(hs:s.Ok)(hb:s.get bo=some (.var 116 (.agg [.ptr so 0,.vs false 8 (tms.map Tm.d),x])))(hti:tms[i]? =some t)(ho:t.Ok)(hN:tms.length<=100000):
  cu T H 73 [.ptr bo 0,.int .i64 (i:Nat)] s fun d s1=>(∃b,d= .bool b/\(b=false↔mS tms i t))/\aF Nil s s1:=by
 have ha:=ej hti;have hi:i < tms.length:=(aj.mp hti).1;have yr:(tms.map Tm.d).length=tms.length:=aJ _;have j9:=ho.kids;obtain⟨tl,MD⟩:∃tl,tl=Rv:=⟨_,rfl⟩;have hB:=fun (z1 z2 z3 z4:D) (mD:∀k∈t.kids,rA tms i t k)=>aaj (T:=T) (H:=H) (z1:=z1) (z2:=z2) (z3:=z3) (z4:=z4) (R:=fun d s1=>(∃b,d= .bool b/\(b=false↔mS tms i t))/\aF Nil s s1) hS hs hb ho (by omega) mD (fun b s1 h1 h2=>⟨⟨b,rfl,h1⟩,h2⟩);rw [← MD]at hB
 have bad:∀k:Int,k∈t.kids-> ¬ rA tms i t k->(∃b,D.bool true= .bool b/\(b=false↔mS tms i t))/\aF Nil s s:=fun k hk hn=>⟨⟨true,rfl,by
  simp only [Bool.true_eq_false,false_iff];exact fun h=>hn (h.1 k hk)⟩,aF.refl hs⟩
 unfold rA at hB bad;obtain⟨kd,b,ng,n1,mag,tx,n2,kids,gW,sm⟩:=t;have ja:=fB kids;simp only at hB bad j9;refine ax hS.t73 ?_;show eH T H (.seq (Pm 1) (.seq (Pm 2) (.seq (Pm 3) (.seq (Pm 4) (.seq (Pm 5) Rv))))) _ _ s _;rw [← MD];by_cases h6:kd=6
 ·subst h6;simp only [eu]at hB bad;try refine go ?_
  refine ee kids.length (fun j=> [(0,.ptr bo 0),(4,.bool false),(5,.lv (Tm.d ⟨6,b,ng,n1,mag,tx,n2,kids,gW,sm⟩)),(6,.int .i64 ((tms.map Tm.d).length:Nat)),(28,.vs n2 1 (ints kids)),(29,.int .i64 ((ints kids).length:Nat)),(30,.int .i64 (j:Nat))]) (fun j s' =>s' =s/\∀m,m < j->∀k,kids[m]? =some k->0<=k/\k < (tms.length:Nat)) ⟨rfl,fun m hm=>by omega⟩ ?_;rintro j s3 hj ⟨rfl,hI⟩;rcases aH j kids.length with mK | pW
  ·have hk:kids[j]? =some kids[j]:=ab mK;have rI:=bH mK;generalize kids[j]=k at hk rI;have Cm:(ints kids)[j]? =some (.int .i64 k):=ints_at hk;by_cases h0:k < 0
   ·try refine go ?_
    exact ai (bad k rI (by omega))
   ·by_cases h1:(tms.length:Int)<=k
    ·try refine go ?_
     exact ai (bad k rI (by omega))
    ·try refine go ?_
     refine dw mK ⟨rfl,fun m hm k' wZ => ?_⟩;rcases aH m j with h2 | h2
     ·exact hI m h2 k' wZ
     ·obtain rfl:m=j:=by omega
      rw [hk]at wZ; simp only [aa]at wZ; subst wZ;omega
  ·try refine go ?_
   exact hB _ _ _ _ fun k hk=>by
    obtain⟨m,hm⟩:=cJ hk;have:=(aj.mp hm).1;exact hI m (by omega) k hm
 ·simp only [aK h6]at hB bad;try refine go ?_
  refine ee kids.length (fun j=> [(0,.ptr bo 0),(4,.bool false),(5,.lv (Tm.d ⟨kd,b,ng,n1,mag,tx,n2,kids,gW,sm⟩)),(6,.int .i64 (i:Nat)),(28,.vs n2 1 (ints kids)),(29,.int .i64 ((ints kids).length:Nat)),(30,.int .i64 (j:Nat))]) (fun j s' =>s' =s/\∀m,m < j->∀k,kids[m]? =some k->0<=k/\k < (i:Nat)) ⟨rfl,fun m hm=>by omega⟩ ?_;rintro j s3 hj ⟨rfl,hI⟩;rcases aH j kids.length with mK | pW
  ·have hk:kids[j]? =some kids[j]:=ab mK;have rI:=bH mK;generalize kids[j]=k at hk rI;have Cm:(ints kids)[j]? =some (.int .i64 k):=ints_at hk;by_cases h0:k < 0
   ·try refine go ?_
    exact ai (bad k rI (by omega))
   ·by_cases h1:(i:Int)<=k
    ·try refine go ?_
     exact ai (bad k rI (by omega))
    ·try refine go ?_
     refine dw mK ⟨rfl,fun m hm k' wZ => ?_⟩;rcases aH m j with h2 | h2
     ·exact hI m h2 k' wZ
     ·obtain rfl:m=j:=by omega
      rw [hk]at wZ; simp only [aa]at wZ; subst wZ;omega
  ·try refine go ?_
   exact hB _ _ _ _ fun k hk=>by
    obtain⟨m,hm⟩:=cJ hk;have:=(aj.mp hm).1;exact hI m (by omega) k hm
end
theorem qI (s:ByteArray)(i:Nat):1<=(Utf8.decode s i).2:=by
 unfold Utf8.decode;simp only
 repeat' split
 all_goals simp
def runesFrom (l:List UInt8)(pos:Nat):Nat:=if h:pos < l.length then runesFrom l (pos+(Utf8.decode ⟨l.toArray⟩ pos).2)+1 else 0
 termination_by l.length - pos
 decreasing_by have:=qI ⟨l.toArray⟩ pos; omega
theorem uc {l:List UInt8}{pos:Nat}(h:pos < l.length):runesFrom l pos=runesFrom l (pos+(Utf8.decode ⟨l.toArray⟩ pos).2)+1:=by rw [runesFrom,dif_pos h]
theorem qK {l:List UInt8}{pos:Nat}(h: ¬ pos < l.length):runesFrom l pos=0:=by rw [runesFrom,dif_neg h]
theorem oe (l:List UInt8):∀(m pos:Nat),l.length - pos<=m->runesFrom l pos<=l.length - pos
 | 0,pos,h=>by rw [qK (by omega)]; omega
 | m+1,pos,h=>by
  by_cases hp:pos < l.length
  ·have:=qI ⟨l.toArray⟩ pos;rw [uc hp];have:=oe l m (pos+(Utf8.decode ⟨l.toArray⟩ pos).2) (by omega);omega
  ·rw [qK hp]; omega
theorem Eu {s:St}{e:Env}{x:bP}{l:List UInt8}(hs:s.Ok)(hx:x.ev e=some (.str l)):cC fF e s none (.range x)=some (.ptr s.n 0,s.bz (.lF l 0)):=by
 simp only [cC,hx,hs.We]
theorem Cf {s:St}{e:Env}{x:bP}{o pos:Nat}{l:List UInt8}(hs:s.Ok)(hx:x.ev e=some (.ptr o 0))(hg:s.get o=some (.lF l pos))(h:pos < l.length):cC fF e s none (.uh x)=some (.gK [.bool true,Fq pos,.int .i32 (Utf8.decode ⟨l.toArray⟩ pos).1],s.bF o (.lF l (pos+(Utf8.decode ⟨l.toArray⟩ pos).2))):=by
 have hb:Nat.blt pos l.length=true:=au h;simp only [cC,hx,hg,hb,hs.set,oK]
theorem B7 {s:St}{e:Env}{x:bP}{o pos:Nat}{l:List UInt8}(hx:x.ev e=some (.ptr o 0))(hg:s.get o=some (.lF l pos))(h: ¬ pos < l.length):cC fF e s none (.uh x)=some (.gK [.bool false],s):=by
 have hb:Nat.blt pos l.length=false:=by
  cases hc:Nat.blt pos l.length with
  | false=>rfl
  | true=>exact absurd (az hc) h
 simp only [cC,hx,hg,hb]
section
variable {T:Nat->Option dU}{H:ay}{s:St}
def VO (s:St)(l:List UInt8)(m:Nat)(env:Env) (s' :St):Prop:=aF Nil s s' /\∃pos c,l.length - pos<=m/\s'.get s.n=some (.lF l pos)/\c+runesFrom l pos=runesFrom l 0/\c<=l.length/\env=[(3,.int .i64 ((c:Nat):Int)),(5,.ptr s.n 0)]
theorem XJ (hS:TS T)(hs:s.Ok){l:List UInt8}(hl:l.length<=1000000000):cu T H 138 [.str l] s fun d s1=>d= .int .i64 (runesFrom l 0:Nat)/\aF Nil s s1:=by
 have h0:=oe l l.length 0 (by omega);refine ax hS.t138 ?_;try refine go ?_
 refine iV ?_ rfl (Eu hs rfl);try refine go ?_
 refine cg (VO s l) l.length rfl ⟨aF.push (aF.refl hs) _,0,0,by omega,St.bu,by omega,by omega,rfl⟩ ?_;rintro m env s1 ⟨b1,pos,c,hm,hg,hc,yh,rfl⟩;have ok1:=b1.ok;have ln:=ok1.lt hg;by_cases hp:pos < l.length
 ·have hd:=qI ⟨l.toArray⟩ pos;have hr:=uc hp;have hle:=oe l l.length pos (by omega);try refine go ?_
  refine iV ?_ rfl (Cf ok1 rfl hg hp);try refine go ?_
  exact bf (m - 1) (by omega) rfl ⟨aF.set b1 _ ln (fun h=>by omega),_,c+1,by omega,St.aO,by omega,by omega,rfl⟩
 ·have hr:=qK hp;try refine go ?_
  refine iV ?_ rfl (B7 rfl hg hp);try refine go ?_
  exact ai ⟨by rw [show runesFrom l 0=c by omega],b1⟩
end
theorem MI (ng:Bool){V:List Nat}(hl:V.length<=100000)(hw:∀v∈V,v < 4294967296):(uM ng V).length<=4000000:=by
 unfold uM;split
 ·simp
 ·have key:∀L:List Nat,(L.flatMap oR).length=9 * L.length:=by
   intro L;induction L with
   | nil=>rfl
   | cons a r ih=>rw [jf,aG,ih,aV]; simp only [oR,aJ,aV,bL]; omega
  have h1:=(ml (l:=jw (eM (gH V))) (· ==48)).length_le;have h2:(jw (eM (gH V))).length=9 * (eM (gH V)).length:=by rw [jw,key,ir]
  have h3:=vJ hw;rw [aG];split <;> simp only [aV,bL] <;> omega
def AA (t:Tm)(k:Nat):List UInt8:=if t.kd=1 then [110,111,110,101] else if t.kd=2 then (if t.b then [105,49] else [105,48]) else if t.kd=3 then [105]++uM t.ng t.mag else if t.kd=4 then [115]++t.tx else [111]++rL k
section
variable {T:Nat->Option dU}{H:ay}{s:St}{so bo k:Nat}{x:D}{tms:List Tm}{t:Tm}
theorem HM (hS:TS T)(hW:TW T)(hV:TV T)(hX:TX T)(hs:s.Ok)(hb:lS s bo so tms x)(hk:tms[k]? =some t)(ho:t.Ok)(hwd:∀v∈t.mag,v < 4294967296)(ym:k < 100):
  cu T H 139 [.ptr bo 0,.int .i64 (k:Nat)] s fun d s1=>d= .str (AA t k)/\aF Nil s s1:=by
 have hg:=hb.go;have ha:=ej hk;have q1:=ho.n1; have q2:=ho.mag; have q3:=ho.tx;obtain⟨kd,b,ng,n1,mag,tx,n2,kids,gW,sm⟩:=t;simp only at q1 q2 q3 hwd;have hit:=Ry (H:=H) (s:=s) hX ym;have yr:=MI ng (cU q2 (by decide)) hwd;have sO:=JF k;unfold AA;simp only;refine ax hS.t139 ?_;by_cases h1:kd=1
 ·subst h1;simp only [bT];try refine go ?_
  exact ai ⟨rfl,aF.refl hs⟩
 rw [aK h1];by_cases h2:kd=2
 ·subst h2;simp only [bT];cases b
  ·try refine go ?_
   exact ai ⟨rfl,aF.refl hs⟩
  ·try refine go ?_
   exact ai ⟨rfl,aF.refl hs⟩
 rw [aK h2];by_cases h3:kd=3
 ·subst h3;simp only [bT];try refine go ?_
  refine ak (MQ hW hV hX hs (.vs n1 mag q1) (cU q2 (by decide)) hwd) ?_;rintro d s2 ⟨rfl,z1⟩;try refine go ?_
  refine xq (m:=[105]) (c:=uM ng mag) ?_ (by rw [aZ]; omega);try refine go ?_
  exact ai ⟨rfl,z1⟩
 rw [aK h3];by_cases h4:kd=4
 ·subst h4;simp only [bT];try refine go ?_
  refine xq (m:=[115]) (c:=tx) ?_ (by rw [aZ]; omega);try refine go ?_
  exact ai ⟨rfl,aF.refl hs⟩
 ·rw [aK h4];try refine go ?_
  refine ak hit ?_;rintro d s2 ⟨rfl,rfl⟩;try refine go ?_
  refine xq (m:=[111]) (c:=rL k) ?_ (by rw [aZ]; omega);try refine go ?_
  exact ai ⟨rfl,aF.refl hs⟩
end
end Go.Proofs.Tab
