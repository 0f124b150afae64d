/- Part. -/
import Derived.Test.YtmcdajnpdekocaaGreatDoorG47
set_option linter.unusedSectionVars false
set_option linter.unusedSimpArgs false
set_option linter.unusedVariables false
set_option maxRecDepth 100000
set_option maxHeartbeats 4000000
namespace Go.Proofs.YtmcdajnpdekocaaGreatDoor.Tab
open Go Go.Ab Go.Ab.Sm
section
variable {T:Nat→Option AFn}{H:zAa}{P Sh:Nat}{s:St}{so o la ta pl mp n lv tk bo i:Nat}{Ds:List D}{Vs:List Val}{F:Nat→Nat→Prop}{tms:List Tm}{t:Tm}{R:List Nat}{x:D}
theorem mk_inst (hS:TS T)(hT:TT T)(hP:TP T)(h:MkCx P Sh s so o la ta pl mp n lv tk bo Ds Vs F tms R x)(h1:t.kd=14):EvP T H 20 [.ptr bo 0,t.d] s (zQh P Sh s so o la ta pl mp n lv tk Ds Vs F t R):=by
 have hds:=h.ds; have htk:=h.tb; have hnn:=h.nb; have hll:=h.lb; have hpp:=h.pb
 have hs:=h.ok
 have gb:=h.bl.go
 have hm:zQa P Vs R t n [.cls (n+1) t.hs t.sm,.inst (n+2) Vs.length] (Vs.length+1) (n+2):=zQa.inst h1
 have hlt:=fun j (hj:OfS so o la ta pl j∨j=mp)=>h.st.lt hs hj
 have nW:∀j,s.n≤j→ ¬ OfS so o la ta pl j:=fun j hj hh=>by have:=hlt j (.inl hh); omega
 have hcl:=class_ev (H:=H) hS hT hP hs h.st (by omega) (by omega) (by omega) (by simp only [mxE]; omega) (by omega) h.sb
 obtain⟨kd,b,ng,n1,mag,tx,n2,kids,hs',sm⟩:=t
 simp only at h1 hm; subst h1
 refine evI hS.t20 ?_
 try refine go ?_
 refine clE hcl ?_
 rintro d s1 ⟨rfl,po,dv,fo,ko,mo,p1,p2,p3,p4,p5,p6,p7⟩
 have ok1:=p7.ok
 have gb1:=p7.get hs gb h.b0.1
 have lpo:=ok1.lt p4
 have n1' :=p7.n
 try refine go ?_
 refine clE (zAb hS p6 (i:=Ds.length) (by rw [List.getElem?_append_right (Nat.le_refl _),Nat.sub_self]; rfl)) ?_
 rintro d s1 ⟨rfl,rfl⟩
 have lb1:=ok1.lt gb1
 have nbp:bo≠po:=by have:=hs.lt gb; omega
 try refine go ?_
 obtain⟨s2,hs2⟩:∃s2,s2=(s1.set0 po (.var 124 (.agg [.int .i64 (n+1:Nat),.ptr dv 0,.str [67],.int .i64 (-1),.ptr fo 0,.bool hs',.bool false]))).set0 po (.var 124 (.agg [.int .i64 (n+1:Nat),.ptr dv 0,.str [67],.int .i64 (-1),.ptr fo 0,.bool hs',.bool sm])):=⟨_,rfl⟩
 have b2:Beh (fun j=>j=po) s1 s2:=by rw [hs2]; exact Beh.set (W:=fun j=>j=po) (Beh.set (W:=fun j=>j=po) (Beh.refl ok1) _ lpo (fun _=>rfl)) _ lpo (fun _=>rfl)
 have g2:s2.get po=some (.var 124 (.agg [.int .i64 (n+1:Nat),.ptr dv 0,.str [67],.int .i64 (-1),.ptr fo 0,.bool hs',.bool sm])):=by rw [hs2]; exact St.gsE
 show Sm.Call T H _ _ _ _ _ _ _ ((s1.set0 po (.var 124 (.agg [.int .i64 (n+1:Nat),.ptr dv 0,.str [67],.int .i64 (-1),.ptr fo 0,.bool hs',.bool false]))).set0 po (.var 124 (.agg [.int .i64 (n+1:Nat),.ptr dv 0,.str [67],.int .i64 (-1),.ptr fo 0,.bool hs',.bool sm]))) _
 rw [← hs2]
 have ok2:=b2.ok
 have gf2:=b2.get ok1 p5 (fun e=>p3 e.symm)
 have st2:=p6.beh ok1 b2 fun j hj e=>by have:=hlt j hj; omega
 have hin:=zUf (H:=H) hS ok2 st2 (by omega) (by omega) (by omega) (by rw [List.length_append]; simp only [mxE,List.length_singleton]; omega) (c:=Ds.length) (by rw [List.getElem?_append_right (Nat.le_refl _),Nat.sub_self]; rfl) g2 gf2 (nW _ p1) (nW _ p2)
 refine clE hin ?_
 rintro d s3 ⟨rfl,io,sp,ro,i1,i2,i3,i4,i5,i6,i7,i8⟩
 have b02:Beh (OfS so o la ta pl) s s2:=p7.trans' b2 fun j e hl=>by exfalso; omega
 have n2' :=b2.n; have n3' :=i8.n
 have ok3:=i8.ok
 have lfo:=ok2.lt gf2
 have v1:=h.vs.snoc hs b02 (fun i j hj=>(h.hF i j hj).1) (G:=fun j=>s.n≤j∧j < s2.n) (d:= .ifc 120 (.ptr po 0)) (v:= .cls (n+1) hs' sm) ⟨po,dv,fo,rfl,g2,⟨p1,by omega⟩,⟨p2,lfo⟩,Sh,ko,mo,gf2⟩ (fun _ h=> .inl h)
 have hF1:∀i j,more F Ds.length (fun j=>s.n≤j∧j < s2.n) i j→ ¬ OfS so o la ta pl j:=fun i j hj=>by
  simp only [more]at hj
  split at hj
  ·exact nW j hj.1
  ·exact (h.hF i j hj).1
 have hln:=h.vs.ln
 have i4:=hln ▸ i4
 have l4:=ok3.lt i4; have l5:=ok3.lt i5; have l6:=ok3.lt i6
 have v2:=v1.snoc ok2 i8 hF1 (G:=fun j=>s2.n≤j∧j < s3.n) (d:= .ifc 93 (.ptr io 0)) (v:= .inst (n+2) Vs.length) ⟨io,sp,rfl,i4,⟨i1,l4⟩,⟨i2,l5⟩,fo,ro,i5,i6,⟨i3,l6⟩⟩ (fun _ h=> .inl h)
 try refine go ?_
 refine rtF ⟨[.ifc 120 (.ptr po 0),.ifc 93 (.ptr io 0)],[.cls (n+1) hs' sm,.inst (n+2) Vs.length],Vs.length+1,n+2,tk+1+1,more (more F Ds.length (fun j=>s.n≤j∧j < s2.n)) (Ds++ [D.ifc 120 (.ptr po 0)]).length (fun j=>s2.n≤j∧j < s3.n),hm, ?_, ?_,by omega, ?_,fun i j hj=> ?_,b02.trans i8⟩
 rotate_left
 ·rw [show lv+(n+2 - n)=lv+1+1 by omega,show Ds++ [D.ifc 120 (.ptr po 0),.ifc 93 (.ptr io 0)]=Ds++ [D.ifc 120 (.ptr po 0)]++ [.ifc 93 (.ptr io 0)] by simp]
  exact i7
 ·rw [show Ds++ [D.ifc 120 (.ptr po 0),.ifc 93 (.ptr io 0)]=Ds++ [D.ifc 120 (.ptr po 0)]++ [.ifc 93 (.ptr io 0)] by simp,show Vs++ [Val.cls (n+1) hs' sm,.inst (n+2) Vs.length]=Vs++ [Val.cls (n+1) hs' sm]++ [.inst (n+2) Vs.length] by simp]
  exact v2
 ·simp only [more]at hj
  split at hj
  ·right; left; omega
  ·split at hj
   ·right; left; omega
   ·exact .inl hj
 ·show D.int .i64 (((Ds++ [D.ifc 120 (.ptr po 0)]).length:Nat):Int)=_
  rw [List.length_append,List.length_singleton,hln]
theorem make_ev' (hS:TS T)(hT:TT T)(hP:TP T)(hW:TW T)(hV:TV T)(h:MkCx P Sh s so o la ta pl mp n lv tk bo Ds Vs F tms R x)(htm:tms[R.length]? =some t)(hg:zFa tms R.length t):EvP T H 20 [.ptr bo 0,t.d] s (zQh P Sh s so o la ta pl mp n lv tk Ds Vs F t R):=by
 have ho:=h.tm t (List.mem_of_getElem? htm)
 have hk:=hg.kind
 by_cases h1:t.kd=1
 ·exact mk_none hS h h1
 by_cases h2:t.kd=2
 ·exact mk_bool hS h h2
 by_cases h3:t.kd=3
 ·exact mk_int hS hW h ho h3
 by_cases h4:t.kd=4
 ·exact mk_str hS h ho h4
 by_cases h5:t.kd=5∨t.kd=6
 ·exact mk_row hS h ho h5
 by_cases h7:t.kd=7∨t.kd=8∨t.kd=9
 ·exact mk_tbl hS hT hP hW hV h htm hg h7
 by_cases h14:t.kd=14
 ·exact mk_inst hS hT hP h h14
 ·exact mk_view hS h hg (by omega)
end
def zGu (kd:Int):Prop:=(1≤kd∧kd≤9)∨(14≤kd∧kd≤17)
def IsKey (u:Tm):Prop:=(1≤u.kd∧u.kd≤4)∨(u.kd=14∧(u.hs=true∨u.sm=false))
theorem IsKey.tm {u:Tm}(h:IsKey u):zZi u:=by unfold IsKey at h; unfold zZi; omega
section
variable {T:Nat→Option AFn}{H:zAa}{s:St}
theorem yGc (hS:TS T){kd:Int}:EvP T H 34 [.int .i64 kd] s fun d s1=>(∃b,d= .bool b∧(b=true↔zGu kd))∧s1=s:=by
 refine evI hS.t34 ?_
 by_cases h1:1≤kd
 ·by_cases h2:kd≤9
  ·try refine go ?_
   exact rtF ⟨⟨true,rfl,by simp only [zGu,true_iff]; omega⟩,rfl⟩
  ·by_cases h3:kd=14
   ·try refine go ?_
    exact rtF ⟨⟨true,rfl,by simp only [zGu,true_iff]; omega⟩,rfl⟩
   ·by_cases h4:15≤kd
    ·by_cases h5:kd≤17
     ·try refine go ?_
      exact rtF ⟨⟨true,rfl,by simp only [zGu,true_iff]; omega⟩,rfl⟩
     ·try refine go ?_
      exact rtF ⟨⟨false,rfl,by simp only [zGu,Bool.false_eq_true,false_iff]; omega⟩,rfl⟩
    ·try refine go ?_
     exact rtF ⟨⟨false,rfl,by simp only [zGu,Bool.false_eq_true,false_iff]; omega⟩,rfl⟩
 ·have h3:kd≠14:=by omega
  try refine go ?_
  exact rtF ⟨⟨false,rfl,by simp only [zGu,Bool.false_eq_true,false_iff]; omega⟩,rfl⟩
theorem zVy (hS:TS T){t:Tm}:EvP T H 67 [t.d] s fun d s1=>(∃b,d= .bool b∧(b=true↔IsKey t))∧s1=s:=by
 unfold IsKey
 obtain⟨kd,b,ng,n1,mag,tx,n2,kids,hs',sm⟩:=t
 refine evI hS.t67 ?_
 by_cases h1:1≤kd
 ·by_cases h2:kd≤4
  ·try refine go ?_
   exact rtF ⟨⟨true,rfl,by simp only [true_iff]; omega⟩,rfl⟩
  ·by_cases h3:kd=14
   ·subst h3
    cases hs'
    ·cases sm
     ·try refine go ?_
      exact rtF ⟨⟨true,rfl,by simp⟩,rfl⟩
     ·try refine go ?_
      exact rtF ⟨⟨false,rfl,by simp⟩,rfl⟩
    ·try refine go ?_
     exact rtF ⟨⟨true,rfl,by simp⟩,rfl⟩
   ·try refine go ?_
    exact rtF ⟨⟨false,rfl,by simp only [Bool.false_eq_true,false_iff]; omega⟩,rfl⟩
 ·have h3:kd≠14:=by omega
  try refine go ?_
  exact rtF ⟨⟨false,rfl,by simp only [Bool.false_eq_true,false_iff]; omega⟩,rfl⟩
end
def zNf (tms:List Tm)(t:Tm):Prop:=
 if t.kd=5∨t.kd=6∨t.kd=8∨t.kd=9 then True else if t.kd=7 then t.kids.length % 2=0 else if t.kd=15∨t.kd=16∨t.kd=17 then ∃k u,t.kids=[k]∧tms[k.toNat]? =some u∧u.kd=7 else t.kids=[]
def zJk (tms:List Tm)(i:Nat)(t:Tm)(k:Int):Prop:=0≤k∧k < (if t.kd=6 then tms.length else i:Nat)
def zLr (tms:List Tm)(i:Nat)(t:Tm):Prop:=(∀k∈t.kids,zJk tms i t k)∧(∀k∈zAo t,∃u,tms[k.toNat]? =some u∧IsKey u)∧zNf tms t
def zAt:AC:=match code35.body with
 | .seq _ (.seq _ (.seq _ (.seq _ (.seq _ (.seq _ c)))))=>c
 | _=> .skip
section
variable {T:Nat→Option AFn}{H:zAa}{s:St}{so bo i:Nat}{tms:List Tm}{t:Tm}{x:D}{K:List Kont}{Q:QP}
theorem bt_5 (hb:s.get bo=some (.var 67 (.agg [.ptr so 0,.vs false 8 (tms.map Tm.d),x]))){b ng n1 n2 hs' sm:Bool}{mag:List Nat}{tx:List UInt8}{z1 z2 z3:D}{R:D→St→Prop}{kids:List Int}(h:R (.bool false) s):Run T H zAt [] ⟨(46,.bool false)::(0,.ptr bo 0)::(4,.bool false)::(5,.lv (Tm.d ⟨5,b,ng,n1,mag,tx,n2,kids,hs',sm⟩))::[(43,z1),(44,z2),(45,z3)],[]⟩ s (QF code35.results R):=by
 show Run T H (.seq _ _) _ _ s _
 try refine go ?_
 exact rtF h
theorem bt_6 (hb:s.get bo=some (.var 67 (.agg [.ptr so 0,.vs false 8 (tms.map Tm.d),x]))){b ng n1 n2 hs' sm:Bool}{mag:List Nat}{tx:List UInt8}{z1 z2 z3:D}{R:D→St→Prop}{kids:List Int}(h:R (.bool false) s):Run T H zAt [] ⟨(46,.bool false)::(0,.ptr bo 0)::(4,.bool false)::(5,.lv (Tm.d ⟨6,b,ng,n1,mag,tx,n2,kids,hs',sm⟩))::[(43,z1),(44,z2),(45,z3)],[]⟩ s (QF code35.results R):=by
 show Run T H (.seq _ _) _ _ s _
 try refine go ?_
 exact rtF h
theorem bt_8 (hb:s.get bo=some (.var 67 (.agg [.ptr so 0,.vs false 8 (tms.map Tm.d),x]))){b ng n1 n2 hs' sm:Bool}{mag:List Nat}{tx:List UInt8}{z1 z2 z3:D}{R:D→St→Prop}{kids:List Int}(h:R (.bool false) s):Run T H zAt [] ⟨(46,.bool false)::(0,.ptr bo 0)::(4,.bool false)::(5,.lv (Tm.d ⟨8,b,ng,n1,mag,tx,n2,kids,hs',sm⟩))::[(43,z1),(44,z2),(45,z3)],[]⟩ s (QF code35.results R):=by
 show Run T H (.seq _ _) _ _ s _
 try refine go ?_
 exact rtF h
theorem bt_9 (hb:s.get bo=some (.var 67 (.agg [.ptr so 0,.vs false 8 (tms.map Tm.d),x]))){b ng n1 n2 hs' sm:Bool}{mag:List Nat}{tx:List UInt8}{z1 z2 z3:D}{R:D→St→Prop}{kids:List Int}(h:R (.bool false) s):Run T H zAt [] ⟨(46,.bool false)::(0,.ptr bo 0)::(4,.bool false)::(5,.lv (Tm.d ⟨9,b,ng,n1,mag,tx,n2,kids,hs',sm⟩))::[(43,z1),(44,z2),(45,z3)],[]⟩ s (QF code35.results R):=by
 show Run T H (.seq _ _) _ _ s _
 try refine go ?_
 exact rtF h
theorem bt_70 (hb:s.get bo=some (.var 67 (.agg [.ptr so 0,.vs false 8 (tms.map Tm.d),x]))){b ng n1 n2 hs' sm:Bool}{mag:List Nat}{tx:List UInt8}{z1 z2 z3:D}{R:D→St→Prop}{kids:List Int}(hm:kids.length % 2=0)(h:R (.bool false) s):Run T H zAt [] ⟨(46,.bool false)::(0,.ptr bo 0)::(4,.bool false)::(5,.lv (Tm.d ⟨7,b,ng,n1,mag,tx,n2,kids,hs',sm⟩))::[(43,z1),(44,z2),(45,z3)],[]⟩ s (QF code35.results R):=by
 have hil:=zAp kids
 have e1:Int.tmod (((ints kids).length:Nat):Int) 2=((0:Nat):Int):=by rw [hil,Int.tmod_eq_emod_of_nonneg (by omega)]; omega
 show Run T H (.seq _ _) _ _ s _
 try refine go ?_
 simp only [e1]
 try refine go ?_
 exact rtF h
theorem bt_71 (hb:s.get bo=some (.var 67 (.agg [.ptr so 0,.vs false 8 (tms.map Tm.d),x]))){b ng n1 n2 hs' sm:Bool}{mag:List Nat}{tx:List UInt8}{z1 z2 z3:D}{R:D→St→Prop}{kids:List Int}(hm:kids.length % 2=1)(h:R (.bool true) s):Run T H zAt [] ⟨(46,.bool false)::(0,.ptr bo 0)::(4,.bool false)::(5,.lv (Tm.d ⟨7,b,ng,n1,mag,tx,n2,kids,hs',sm⟩))::[(43,z1),(44,z2),(45,z3)],[]⟩ s (QF code35.results R):=by
 have hil:=zAp kids
 have e1:Int.tmod (((ints kids).length:Nat):Int) 2=((1:Nat):Int):=by rw [hil,Int.tmod_eq_emod_of_nonneg (by omega)]; omega
 show Run T H (.seq _ _) _ _ s _
 try refine go ?_
 simp only [e1]
 try refine go ?_
 exact rtF h
theorem bt_150 (hb:s.get bo=some (.var 67 (.agg [.ptr so 0,.vs false 8 (tms.map Tm.d),x]))){b ng n1 n2 hs' sm:Bool}{mag:List Nat}{tx:List UInt8}{z1 z2 z3:D}{R:D→St→Prop}(h:R (.bool true) s):Run T H zAt [] ⟨(46,.bool false)::(0,.ptr bo 0)::(4,.bool false)::(5,.lv (Tm.d ⟨15,b,ng,n1,mag,tx,n2,[],hs',sm⟩))::[(43,z1),(44,z2),(45,z3)],[]⟩ s (QF code35.results R):=by
 have hne:(((ints ([]:List Int)).length:Int) !=1)=true:=by simp [ints]
 show Run T H (.seq _ _) _ _ s _
 try refine go ?_
 exact rtF h
theorem bt_152 (hb:s.get bo=some (.var 67 (.agg [.ptr so 0,.vs false 8 (tms.map Tm.d),x]))){b ng n1 n2 hs' sm:Bool}{mag:List Nat}{tx:List UInt8}{z1 z2 z3:D}{R:D→St→Prop}{k k2:Int}{r:List Int}(h:R (.bool true) s):Run T H zAt [] ⟨(46,.bool false)::(0,.ptr bo 0)::(4,.bool false)::(5,.lv (Tm.d ⟨15,b,ng,n1,mag,tx,n2,(k::k2::r),hs',sm⟩))::[(43,z1),(44,z2),(45,z3)],[]⟩ s (QF code35.results R):=by
 have hil:=zAp (k::k2::r)
 have hne:(((ints (k::k2::r)).length:Int) !=1)=true:=by rw [hil]; simp only [List.length_cons,bne_iff_ne,ne_eq]; omega
 show Run T H (.seq _ _) _ _ s _
 try refine go ?_
 simp only [hne]
 try refine go ?_
 exact rtF h
theorem bt_1517 (hb:s.get bo=some (.var 67 (.agg [.ptr so 0,.vs false 8 (tms.map Tm.d),x]))){b ng n1 n2 hs' sm:Bool}{mag:List Nat}{tx:List UInt8}{z1 z2 z3:D}{R:D→St→Prop}{q:Nat}{u:Tm}(hu:tms[q]? =some u)(hu7:u.kd=7)(h:R (.bool false) s):Run T H zAt [] ⟨(46,.bool false)::(0,.ptr bo 0)::(4,.bool false)::(5,.lv (Tm.d ⟨15,b,ng,n1,mag,tx,n2,[(q:Int)],hs',sm⟩))::[(43,z1),(44,z2),(45,z3)],[]⟩ s (QF code35.results R):=by
 have ha:=zPx hu
 have hki:(ints [(q:Int)])[0]? =some (.int .i64 (q:Nat)):=rfl
 obtain⟨ukd,ub,ung,un1,umag,utx,un2,ukids,uhs,usm⟩:=u
 simp only at hu7
 subst hu7
 show Run T H (.seq _ _) _ _ s _
 try refine go ?_
 exact rtF h
theorem bt_151x (hb:s.get bo=some (.var 67 (.agg [.ptr so 0,.vs false 8 (tms.map Tm.d),x]))){b ng n1 n2 hs' sm:Bool}{mag:List Nat}{tx:List UInt8}{z1 z2 z3:D}{R:D→St→Prop}{q:Nat}{u:Tm}(hu:tms[q]? =some u)(hu7:u.kd≠7)(h:R (.bool true) s):Run T H zAt [] ⟨(46,.bool false)::(0,.ptr bo 0)::(4,.bool false)::(5,.lv (Tm.d ⟨15,b,ng,n1,mag,tx,n2,[(q:Int)],hs',sm⟩))::[(43,z1),(44,z2),(45,z3)],[]⟩ s (QF code35.results R):=by
 have ha:=zPx hu
 have hki:(ints [(q:Int)])[0]? =some (.int .i64 (q:Nat)):=rfl
 obtain⟨ukd,ub,ung,un1,umag,utx,un2,ukids,uhs,usm⟩:=u
 simp only at hu7
 have hne7:(ukd !=7)=true:=by simpa using hu7
 show Run T H (.seq _ _) _ _ s _
 try refine go ?_
 try simp only [hne7]
 try refine go ?_
 exact rtF h
theorem bt_160 (hb:s.get bo=some (.var 67 (.agg [.ptr so 0,.vs false 8 (tms.map Tm.d),x]))){b ng n1 n2 hs' sm:Bool}{mag:List Nat}{tx:List UInt8}{z1 z2 z3:D}{R:D→St→Prop}(h:R (.bool true) s):Run T H zAt [] ⟨(46,.bool false)::(0,.ptr bo 0)::(4,.bool false)::(5,.lv (Tm.d ⟨16,b,ng,n1,mag,tx,n2,[],hs',sm⟩))::[(43,z1),(44,z2),(45,z3)],[]⟩ s (QF code35.results R):=by
 have hne:(((ints ([]:List Int)).length:Int) !=1)=true:=by simp [ints]
 show Run T H (.seq _ _) _ _ s _
 try refine go ?_
 exact rtF h
theorem bt_162 (hb:s.get bo=some (.var 67 (.agg [.ptr so 0,.vs false 8 (tms.map Tm.d),x]))){b ng n1 n2 hs' sm:Bool}{mag:List Nat}{tx:List UInt8}{z1 z2 z3:D}{R:D→St→Prop}{k k2:Int}{r:List Int}(h:R (.bool true) s):Run T H zAt [] ⟨(46,.bool false)::(0,.ptr bo 0)::(4,.bool false)::(5,.lv (Tm.d ⟨16,b,ng,n1,mag,tx,n2,(k::k2::r),hs',sm⟩))::[(43,z1),(44,z2),(45,z3)],[]⟩ s (QF code35.results R):=by
 have hil:=zAp (k::k2::r)
 have hne:(((ints (k::k2::r)).length:Int) !=1)=true:=by rw [hil]; simp only [List.length_cons,bne_iff_ne,ne_eq]; omega
 show Run T H (.seq _ _) _ _ s _
 try refine go ?_
 simp only [hne]
 try refine go ?_
 exact rtF h
theorem bt_1617 (hb:s.get bo=some (.var 67 (.agg [.ptr so 0,.vs false 8 (tms.map Tm.d),x]))){b ng n1 n2 hs' sm:Bool}{mag:List Nat}{tx:List UInt8}{z1 z2 z3:D}{R:D→St→Prop}{q:Nat}{u:Tm}(hu:tms[q]? =some u)(hu7:u.kd=7)(h:R (.bool false) s):Run T H zAt [] ⟨(46,.bool false)::(0,.ptr bo 0)::(4,.bool false)::(5,.lv (Tm.d ⟨16,b,ng,n1,mag,tx,n2,[(q:Int)],hs',sm⟩))::[(43,z1),(44,z2),(45,z3)],[]⟩ s (QF code35.results R):=by
 have ha:=zPx hu
 have hki:(ints [(q:Int)])[0]? =some (.int .i64 (q:Nat)):=rfl
 obtain⟨ukd,ub,ung,un1,umag,utx,un2,ukids,uhs,usm⟩:=u
 simp only at hu7
 subst hu7
 show Run T H (.seq _ _) _ _ s _
 try refine go ?_
 exact rtF h
theorem bt_161x (hb:s.get bo=some (.var 67 (.agg [.ptr so 0,.vs false 8 (tms.map Tm.d),x]))){b ng n1 n2 hs' sm:Bool}{mag:List Nat}{tx:List UInt8}{z1 z2 z3:D}{R:D→St→Prop}{q:Nat}{u:Tm}(hu:tms[q]? =some u)(hu7:u.kd≠7)(h:R (.bool true) s):Run T H zAt [] ⟨(46,.bool false)::(0,.ptr bo 0)::(4,.bool false)::(5,.lv (Tm.d ⟨16,b,ng,n1,mag,tx,n2,[(q:Int)],hs',sm⟩))::[(43,z1),(44,z2),(45,z3)],[]⟩ s (QF code35.results R):=by
 have ha:=zPx hu
 have hki:(ints [(q:Int)])[0]? =some (.int .i64 (q:Nat)):=rfl
 obtain⟨ukd,ub,ung,un1,umag,utx,un2,ukids,uhs,usm⟩:=u
 simp only at hu7
 have hne7:(ukd !=7)=true:=by simpa using hu7
 show Run T H (.seq _ _) _ _ s _
 try refine go ?_
 try simp only [hne7]
 try refine go ?_
 exact rtF h
theorem bt_170 (hb:s.get bo=some (.var 67 (.agg [.ptr so 0,.vs false 8 (tms.map Tm.d),x]))){b ng n1 n2 hs' sm:Bool}{mag:List Nat}{tx:List UInt8}{z1 z2 z3:D}{R:D→St→Prop}(h:R (.bool true) s):Run T H zAt [] ⟨(46,.bool false)::(0,.ptr bo 0)::(4,.bool false)::(5,.lv (Tm.d ⟨17,b,ng,n1,mag,tx,n2,[],hs',sm⟩))::[(43,z1),(44,z2),(45,z3)],[]⟩ s (QF code35.results R):=by
 have hne:(((ints ([]:List Int)).length:Int) !=1)=true:=by simp [ints]
 show Run T H (.seq _ _) _ _ s _
 try refine go ?_
 exact rtF h
theorem bt_172 (hb:s.get bo=some (.var 67 (.agg [.ptr so 0,.vs false 8 (tms.map Tm.d),x]))){b ng n1 n2 hs' sm:Bool}{mag:List Nat}{tx:List UInt8}{z1 z2 z3:D}{R:D→St→Prop}{k k2:Int}{r:List Int}(h:R (.bool true) s):Run T H zAt [] ⟨(46,.bool false)::(0,.ptr bo 0)::(4,.bool false)::(5,.lv (Tm.d ⟨17,b,ng,n1,mag,tx,n2,(k::k2::r),hs',sm⟩))::[(43,z1),(44,z2),(45,z3)],[]⟩ s (QF code35.results R):=by
 have hil:=zAp (k::k2::r)
 have hne:(((ints (k::k2::r)).length:Int) !=1)=true:=by rw [hil]; simp only [List.length_cons,bne_iff_ne,ne_eq]; omega
 show Run T H (.seq _ _) _ _ s _
 try refine go ?_
 simp only [hne]
 try refine go ?_
 exact rtF h
theorem bt_1717 (hb:s.get bo=some (.var 67 (.agg [.ptr so 0,.vs false 8 (tms.map Tm.d),x]))){b ng n1 n2 hs' sm:Bool}{mag:List Nat}{tx:List UInt8}{z1 z2 z3:D}{R:D→St→Prop}{q:Nat}{u:Tm}(hu:tms[q]? =some u)(hu7:u.kd=7)(h:R (.bool false) s):Run T H zAt [] ⟨(46,.bool false)::(0,.ptr bo 0)::(4,.bool false)::(5,.lv (Tm.d ⟨17,b,ng,n1,mag,tx,n2,[(q:Int)],hs',sm⟩))::[(43,z1),(44,z2),(45,z3)],[]⟩ s (QF code35.results R):=by
 have ha:=zPx hu
 have hki:(ints [(q:Int)])[0]? =some (.int .i64 (q:Nat)):=rfl
 obtain⟨ukd,ub,ung,un1,umag,utx,un2,ukids,uhs,usm⟩:=u
 simp only at hu7
 subst hu7
 show Run T H (.seq _ _) _ _ s _
 try refine go ?_
 exact rtF h
theorem bt_171x (hb:s.get bo=some (.var 67 (.agg [.ptr so 0,.vs false 8 (tms.map Tm.d),x]))){b ng n1 n2 hs' sm:Bool}{mag:List Nat}{tx:List UInt8}{z1 z2 z3:D}{R:D→St→Prop}{q:Nat}{u:Tm}(hu:tms[q]? =some u)(hu7:u.kd≠7)(h:R (.bool true) s):Run T H zAt [] ⟨(46,.bool false)::(0,.ptr bo 0)::(4,.bool false)::(5,.lv (Tm.d ⟨17,b,ng,n1,mag,tx,n2,[(q:Int)],hs',sm⟩))::[(43,z1),(44,z2),(45,z3)],[]⟩ s (QF code35.results R):=by
 have ha:=zPx hu
 have hki:(ints [(q:Int)])[0]? =some (.int .i64 (q:Nat)):=rfl
 obtain⟨ukd,ub,ung,un1,umag,utx,un2,ukids,uhs,usm⟩:=u
 simp only at hu7
 have hne7:(ukd !=7)=true:=by simpa using hu7
 show Run T H (.seq _ _) _ _ s _
 try refine go ?_
 try simp only [hne7]
 try refine go ?_
 exact rtF h
theorem bt_0 (hb:s.get bo=some (.var 67 (.agg [.ptr so 0,.vs false 8 (tms.map Tm.d),x]))){b ng n1 n2 hs' sm:Bool}{mag:List Nat}{tx:List UInt8}{z1 z2 z3:D}{R:D→St→Prop}{kd:Int}(hk:kd≠5∧kd≠6∧kd≠8∧kd≠9∧kd≠7∧kd≠15∧kd≠16∧kd≠17)(h:R (.bool false) s):Run T H zAt [] ⟨(46,.bool false)::(0,.ptr bo 0)::(4,.bool false)::(5,.lv (Tm.d ⟨kd,b,ng,n1,mag,tx,n2,[],hs',sm⟩))::[(43,z1),(44,z2),(45,z3)],[]⟩ s (QF code35.results R):=by
 obtain⟨k1,k2,k3,k4,k5,k6,k7,k8⟩:=hk
 show Run T H (.seq _ _) _ _ s _
 try refine go ?_
 exact rtF h
theorem bt_1 (hb:s.get bo=some (.var 67 (.agg [.ptr so 0,.vs false 8 (tms.map Tm.d),x]))){b ng n1 n2 hs' sm:Bool}{mag:List Nat}{tx:List UInt8}{z1 z2 z3:D}{R:D→St→Prop}{kd:Int}{k:Int}{r:List Int}(hk:kd≠5∧kd≠6∧kd≠8∧kd≠9∧kd≠7∧kd≠15∧kd≠16∧kd≠17)(h:R (.bool true) s):Run T H zAt [] ⟨(46,.bool false)::(0,.ptr bo 0)::(4,.bool false)::(5,.lv (Tm.d ⟨kd,b,ng,n1,mag,tx,n2,(k::r),hs',sm⟩))::[(43,z1),(44,z2),(45,z3)],[]⟩ s (QF code35.results R):=by
 obtain⟨k1,k2,k3,k4,k5,k6,k7,k8⟩:=hk
 have hil:=zAp (k::r)
 have hlt:(0:Int) < ((ints (k::r)).length:Nat):=by rw [hil,List.length_cons]; omega
 show Run T H (.seq _ _) _ _ s _
 try refine go ?_
 exact rtF h
theorem bad_tail (hb:s.get bo=some (.var 67 (.agg [.ptr so 0,.vs false 8 (tms.map Tm.d),x])))(hi:i≤tms.length)(hin:∀k∈t.kids,zJk tms i t k){z1 z2 z3:D}{R:D→St→Prop}
  (h:∀b,(b=false↔zNf tms t)→R (.bool b) s):Run T H zAt [] ⟨(46,.bool false)::(0,.ptr bo 0)::(4,.bool false)::(5,.lv t.d)::[(43,z1),(44,z2),(45,z3)],[]⟩ s (QF code35.results R):=by
 unfold zNf at h
 unfold zJk at hin
 obtain⟨kd,b,ng,n1,mag,tx,n2,kids,hs',sm⟩:=t
 simp only at h hin
 by_cases h1:kd=5
 ·subst h1; exact bt_5 hb (h false (by simp))
 by_cases h2:kd=6
 ·subst h2; exact bt_6 hb (h false (by simp))
 by_cases h3:kd=8
 ·subst h3; exact bt_8 hb (h false (by simp))
 by_cases h4:kd=9
 ·subst h4; exact bt_9 hb (h false (by simp))
 by_cases h5:kd=7
 ·subst h5
  rcases Nat.mod_two_eq_zero_or_one kids.length with hm | hm
  ·exact bt_70 hb hm (h false (by simp [hm]))
  ·exact bt_71 hb hm (h true (by simp [hm]))
 by_cases h6:kd=15∨kd=16∨kd=17
 ·have h7: ¬ (kd=5∨kd=6∨kd=8∨kd=9):=by omega
  rw [if_neg h7,if_neg h5,if_pos h6]at h
  cases kids with
  | nil=>
   have h' :=h true (by simp)
   rcases h6 with rfl | rfl | rfl
   ·exact bt_150 hb h'
   ·exact bt_160 hb h'
   ·exact bt_170 hb h'
  | cons k r=>
   cases r with
   | cons k2 r=>
    have h' :=h true (by simp)
    rcases h6 with rfl | rfl | rfl
    ·exact bt_152 hb h'
    ·exact bt_162 hb h'
    ·exact bt_172 hb h'
   | nil=>
    obtain⟨k0,k1⟩:=hin k (by simp)
    rw [if_neg h2]at k1
    obtain⟨q,rfl⟩:∃q:Nat,k=q:=⟨k.toNat,by omega⟩
    have hq:q < tms.length:=by omega
    have hu:tms[q]? =some tms[q]:=List.getElem?_eq_getElem hq
    generalize tms[q]=u at hu
    by_cases hu7:u.kd=7
    ·have h' :=h false (by simp [hu,hu7])
     rcases h6 with rfl | rfl | rfl
     ·exact bt_1517 hb hu hu7 h'
     ·exact bt_1617 hb hu hu7 h'
     ·exact bt_1717 hb hu hu7 h'
    ·have h' :=h true (by simp [hu,hu7])
     rcases h6 with rfl | rfl | rfl
     ·exact bt_151x hb hu hu7 h'
     ·exact bt_161x hb hu hu7 h'
     ·exact bt_171x hb hu hu7 h'
 ·have hk:kd≠5∧kd≠6∧kd≠8∧kd≠9∧kd≠7∧kd≠15∧kd≠16∧kd≠17:=by omega
  cases kids with
  | nil=>exact bt_0 hb hk (h false (by simp [h1,h2,h3,h4,h5,h6]))
  | cons k r=>exact bt_1 hb hk (h true (by simp [h1,h2,h3,h4,h5,h6]))
end
def badB:AC:=match code35.body with
 | .seq _ (.seq _ (.seq _ (.seq _ (.seq _ c))))=>c
 | _=> .skip
def badB1:AC:=match badB with
 | .seq a _=>a
 | _=> .skip
def badP (n:Nat):AC:=match n,code35.body with
 | 1,.seq a _=>a
 | 2,.seq _ (.seq a _)=>a
 | 3,.seq _ (.seq _ (.seq a _))=>a
 | 4,.seq _ (.seq _ (.seq _ (.seq a _)))=>a
 | 5,.seq _ (.seq _ (.seq _ (.seq _ (.seq a _))))=>a
 | _,_=> .skip
section
variable {T:Nat→Option AFn}{H:zAa}{s:St}{so bo i:Nat}{tms:List Tm}{t:Tm}{x:D}
theorem bad_B (hS:TS T)(hs:s.Ok)(hb:s.get bo=some (.var 67 (.agg [.ptr so 0,.vs false 8 (tms.map Tm.d),x])))(ho:t.Ok)(hi:i≤tms.length)(hin:∀k∈t.kids,zJk tms i t k){z1 z2 z3 z4:D}{R:D→St→Prop}
  (h:∀b s1,(b=false↔zLr tms i t)→Beh Nil s s1→R (.bool b) s1):Run T H badB [] ⟨(31,.bool false)::(0,.ptr bo 0)::(4,.bool false)::(5,.lv t.d)::[(6,z1),(28,z2),(29,z3),(30,z4)],[]⟩ s (QF code35.results R):=by
 have hke:=zTm (H:=H) (t:=t) hS hs ho
 have hkl:=ho.kids
 have hkl2:=zIa t
 have hil:=zAp (zAo t)
 have lb:=hs.lt hb
 have htl:(tms.map Tm.d).length=tms.length:=List.length_map _
 have hrng:∀k∈zAo t,∃q:Nat,k=q∧q < tms.length:=fun k hk=>by
  obtain⟨h1,h2⟩:=hin k (zMl hk)
  refine⟨k.toNat,by omega, ?_⟩
  split at h2 <;> omega
 have bt:=fun (s1:St) (z1 z2 z3:D) hb hsh=>bad_tail (T:=T) (H:=H) (s:=s1) (so:=so) (bo:=bo) (x:=x) (z1:=z1) (z2:=z2) (z3:=z3) (R:=R) hb hi hin hsh
 obtain⟨kd,b,ng,n1,mag,tx,n2,kids,hs',sm⟩:=t
 obtain⟨tl,htl'⟩:∃tl,tl=zAt:=⟨_,rfl⟩
 rw [← htl']at bt
 show Run T H (.seq badB1 zAt) _ _ s _
 rw [← htl']
 refine zJl ?_
 show Run T H (.seq _ _) _ _ s _
 try refine go ?_
 refine clE hke ?_
 rintro xk s1 ⟨q1,q2,q3⟩
 have ok1:=q3.ok
 have gb1:=q3.get hs hb (fun h=>h)
 have tail:=fun (z1 z2 z3:D) (hkey:∀k∈zAo ⟨kd,b,ng,n1,mag,tx,n2,kids,hs',sm⟩,∃u,tms[k.toNat]? =some u∧IsKey u)=>bt s1 z1 z2 z3 gb1 (fun b hb' =>h b s1 (hb'.trans ⟨fun hsh=>⟨hin,hkey,hsh⟩,fun hk=>hk.2.2⟩) q3)
 have bad:∀(k:Int) (u:Tm),k∈zAo ⟨kd,b,ng,n1,mag,tx,n2,kids,hs',sm⟩→tms[k.toNat]? =some u→ ¬ IsKey u→R (.bool true) s1:=fun k u hk hu hn=>h true s1 (by
  simp only [Bool.true_eq_false,false_iff]
  rintro⟨_,h2,_⟩
  obtain⟨u',h3,h4⟩:=h2 k hk
  rw [hu]at h3; simp only [Option.some.injEq]at h3; subst h3
  exact hn h4) q3
 generalize hK:zAo ⟨kd,b,ng,n1,mag,tx,n2,kids,hs',sm⟩=K at *
 rcases q1 with ⟨nl,K,hn0⟩ | _ | ⟨ko,K,hko⟩
 ·try refine go ?_
  refine zAh K.length (fun j=> [(0,.ptr bo 0),(4,.bool false),(5,.lv (Tm.d ⟨kd,b,ng,n1,mag,tx,n2,kids,hs',sm⟩)),(43,.vs nl 1 (ints K)),(44,.int .i64 ((ints K).length:Nat)),(45,.int .i64 (j:Nat))]) (fun j s' =>s' =s1∧∀m,m < j→∀k,K[m]? =some k→∃u,tms[k.toNat]? =some u∧IsKey u) ⟨rfl,fun m hm=>by omega⟩ ?_
  rintro j s3 hj ⟨rfl,hI⟩
  rcases Nat.lt_or_ge j K.length with hlt' | hge
  ·have hk:K[j]? =some K[j]:=List.getElem?_eq_getElem hlt'
   obtain⟨q,hq1,hq2⟩:=hrng K[j] (List.getElem_mem hlt')
   have hmem:=List.getElem_mem hlt'
   rw [hq1]at hk hmem
   have hki:(ints K)[j]? =some (.int .i64 (q:Nat)):=zDk hk
   have hu:tms[q]? =some tms[q]:=List.getElem?_eq_getElem hq2
   have ha:=zPx hu
   generalize tms[q]=u at hu ha
   have hik:=zVy (H:=H) (s:=s3) (t:=u) hS
   try refine go ?_
   refine clE hik ?_
   rintro d s4 ⟨⟨bb,rfl,hbb⟩,rfl⟩
   cases bb with
   | true=>
    try refine go ?_
    refine rtC hlt' ⟨rfl,fun m hm k hk' => ?_⟩
    rcases Nat.lt_or_ge m j with h1 | h1
    ·exact hI m h1 k hk'
    ·obtain rfl:m=j:=by omega
     rw [hk]at hk'; simp only [Option.some.injEq]at hk'; subst hk'
     exact⟨u,by rw [Int.toNat_natCast]; exact hu,hbb.mp rfl⟩
   | false=>
    try refine go ?_
    exact rtF (bad q u hmem (by rw [Int.toNat_natCast]; exact hu) (fun hh=>by have:=hbb.mpr hh; cases this))
  ·try refine go ?_
   exact tail _ _ _ fun k hk=>by
    obtain⟨m,hm⟩:=List.getElem?_of_mem hk
    have:=(List.getElem?_eq_some_iff.mp hm).1
    exact hI m (by omega) k hm
 ·try refine go ?_
  refine zCr ?_
  try refine go ?_
  exact tail _ _ _ fun k hk=>by cases hk
 ·have hko1:s1.get ko=some (.arr 1 3 (ints K) 0):=hko
  try refine go ?_
  refine zAh K.length (fun j=> [(0,.ptr bo 0),(4,.bool false),(5,.lv (Tm.d ⟨kd,b,ng,n1,mag,tx,n2,kids,hs',sm⟩)),(43,.sl ko 0 K.length K.length),(44,.int .i64 (K.length:Nat)),(45,.int .i64 (j:Nat))]) (fun j s' =>s' =s1∧∀m,m < j→∀k,K[m]? =some k→∃u,tms[k.toNat]? =some u∧IsKey u) ⟨rfl,fun m hm=>by omega⟩ ?_
  rintro j s3 hj ⟨rfl,hI⟩
  rcases Nat.lt_or_ge j K.length with hlt' | hge
  ·have hk:K[j]? =some K[j]:=List.getElem?_eq_getElem hlt'
   obtain⟨q,hq1,hq2⟩:=hrng K[j] (List.getElem_mem hlt')
   have hmem:=List.getElem_mem hlt'
   rw [hq1]at hk hmem
   have hki:(ints K)[0+j]? =some (.int .i64 (q:Nat)):=by rw [Nat.zero_add]; exact zDk hk
   have hu:tms[q]? =some tms[q]:=List.getElem?_eq_getElem hq2
   have ha:=zPx hu
   generalize tms[q]=u at hu ha
   have hik:=zVy (H:=H) (s:=s3) (t:=u) hS
   try refine go ?_
   refine clE hik ?_
   rintro d s4 ⟨⟨bb,rfl,hbb⟩,rfl⟩
   cases bb with
   | true=>
    try refine go ?_
    refine rtC hlt' ⟨rfl,fun m hm k hk' => ?_⟩
    rcases Nat.lt_or_ge m j with h1 | h1
    ·exact hI m h1 k hk'
    ·obtain rfl:m=j:=by omega
     rw [hk]at hk'; simp only [Option.some.injEq]at hk'; subst hk'
     exact⟨u,by rw [Int.toNat_natCast]; exact hu,hbb.mp rfl⟩
   | false=>
    try refine go ?_
    exact rtF (bad q u hmem (by rw [Int.toNat_natCast]; exact hu) (fun hh=>by have:=hbb.mpr hh; cases this))
  ·try refine go ?_
   exact tail _ _ _ fun k hk=>by
    obtain⟨m,hm⟩:=List.getElem?_of_mem hk
    have:=(List.getElem?_eq_some_iff.mp hm).1
    exact hI m (by omega) k hm
theorem zYu (hS:TS T)(hs:s.Ok)(hb:s.get bo=some (.var 67 (.agg [.ptr so 0,.vs false 8 (tms.map Tm.d),x])))(hti:tms[i]? =some t)(ho:t.Ok)(hN:tms.length≤100000):
  EvP T H 35 [.ptr bo 0,.int .i64 (i:Nat)] s fun d s1=>(∃b,d= .bool b∧(b=false↔zLr tms i t))∧Beh Nil s s1:=by
 have ha:=zPx hti
 have hi:i < tms.length:=(List.getElem?_eq_some_iff.mp hti).1
 have htl:(tms.map Tm.d).length=tms.length:=List.length_map _
 have hkl:=ho.kids
 obtain⟨tl,htl'⟩:∃tl,tl=badB:=⟨_,rfl⟩
 have hB:=fun (z1 z2 z3 z4:D) (hin:∀k∈t.kids,zJk tms i t k)=>bad_B (T:=T) (H:=H) (z1:=z1) (z2:=z2) (z3:=z3) (z4:=z4) (R:=fun d s1=>(∃b,d= .bool b∧(b=false↔zLr tms i t))∧Beh Nil s s1) hS hs hb ho (by omega) hin (fun b s1 h1 h2=>⟨⟨b,rfl,h1⟩,h2⟩)
 rw [← htl']at hB
 have bad:∀k:Int,k∈t.kids→ ¬ zJk tms i t k→(∃b,D.bool true= .bool b∧(b=false↔zLr tms i t))∧Beh Nil s s:=fun k hk hn=>⟨⟨true,rfl,by
  simp only [Bool.true_eq_false,false_iff]
  exact fun h=>hn (h.1 k hk)⟩,Beh.refl hs⟩
 unfold zJk at hB bad
 obtain⟨kd,b,ng,n1,mag,tx,n2,kids,hs',sm⟩:=t
 have hil:=zAp kids
 simp only at hB bad hkl
 refine evI hS.t35 ?_
 show Run T H (.seq (badP 1) (.seq (badP 2) (.seq (badP 3) (.seq (badP 4) (.seq (badP 5) badB))))) _ _ s _
 rw [← htl']
 by_cases h6:kd=6
 ·subst h6
  simp only [if_true]at hB bad
  try refine go ?_
  refine zAh kids.length (fun j=> [(0,.ptr bo 0),(4,.bool false),(5,.lv (Tm.d ⟨6,b,ng,n1,mag,tx,n2,kids,hs',sm⟩)),(6,.int .i64 ((tms.map Tm.d).length:Nat)),(28,.vs n2 1 (ints kids)),(29,.int .i64 ((ints kids).length:Nat)),(30,.int .i64 (j:Nat))]) (fun j s' =>s' =s∧∀m,m < j→∀k,kids[m]? =some k→0≤k∧k < (tms.length:Nat)) ⟨rfl,fun m hm=>by omega⟩ ?_
  rintro j s3 hj ⟨rfl,hI⟩
  rcases Nat.lt_or_ge j kids.length with hlt' | hge
  ·have hk:kids[j]? =some kids[j]:=List.getElem?_eq_getElem hlt'
   have hmem:=List.getElem_mem hlt'
   generalize kids[j]=k at hk hmem
   have hki:(ints kids)[j]? =some (.int .i64 k):=zDk hk
   by_cases h0:k < 0
   ·try refine go ?_
    exact rtF (bad k hmem (by omega))
   ·by_cases h1:(tms.length:Int)≤k
    ·try refine go ?_
     exact rtF (bad k hmem (by omega))
    ·try refine go ?_
     refine rtC hlt' ⟨rfl,fun m hm k' hk' => ?_⟩
     rcases Nat.lt_or_ge m j with h2 | h2
     ·exact hI m h2 k' hk'
     ·obtain rfl:m=j:=by omega
      rw [hk]at hk'; simp only [Option.some.injEq]at hk'; subst hk'
      omega
  ·try refine go ?_
   exact hB _ _ _ _ fun k hk=>by
    obtain⟨m,hm⟩:=List.getElem?_of_mem hk
    have:=(List.getElem?_eq_some_iff.mp hm).1
    exact hI m (by omega) k hm
 ·simp only [if_neg h6]at hB bad
  try refine go ?_
  refine zAh kids.length (fun j=> [(0,.ptr bo 0),(4,.bool false),(5,.lv (Tm.d ⟨kd,b,ng,n1,mag,tx,n2,kids,hs',sm⟩)),(6,.int .i64 (i:Nat)),(28,.vs n2 1 (ints kids)),(29,.int .i64 ((ints kids).length:Nat)),(30,.int .i64 (j:Nat))]) (fun j s' =>s' =s∧∀m,m < j→∀k,kids[m]? =some k→0≤k∧k < (i:Nat)) ⟨rfl,fun m hm=>by omega⟩ ?_
  rintro j s3 hj ⟨rfl,hI⟩
  rcases Nat.lt_or_ge j kids.length with hlt' | hge
  ·have hk:kids[j]? =some kids[j]:=List.getElem?_eq_getElem hlt'
   have hmem:=List.getElem_mem hlt'
   generalize kids[j]=k at hk hmem
   have hki:(ints kids)[j]? =some (.int .i64 k):=zDk hk
   by_cases h0:k < 0
   ·try refine go ?_
    exact rtF (bad k hmem (by omega))
   ·by_cases h1:(i:Int)≤k
    ·try refine go ?_
     exact rtF (bad k hmem (by omega))
    ·try refine go ?_
     refine rtC hlt' ⟨rfl,fun m hm k' hk' => ?_⟩
     rcases Nat.lt_or_ge m j with h2 | h2
     ·exact hI m h2 k' hk'
     ·obtain rfl:m=j:=by omega
      rw [hk]at hk'; simp only [Option.some.injEq]at hk'; subst hk'
      omega
  ·try refine go ?_
   exact hB _ _ _ _ fun k hk=>by
    obtain⟨m,hm⟩:=List.getElem?_of_mem hk
    have:=(List.getElem?_eq_some_iff.mp hm).1
    exact hI m (by omega) k hm
end
end Go.Proofs.YtmcdajnpdekocaaGreatDoor.Tab
