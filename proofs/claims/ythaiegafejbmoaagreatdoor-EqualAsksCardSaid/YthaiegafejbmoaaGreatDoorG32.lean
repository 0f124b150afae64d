/- Part. -/
import Derived.Test.YthaiegafejbmoaaGreatDoorG30
set_option maxRecDepth 100000
set_option maxHeartbeats 4000000
set_option linter.unusedSectionVars false
set_option linter.unusedSimpArgs false
set_option linter.unusedVariables false
namespace Go.Proofs.Tab
open Go Go.Ab
noncomputable section
def VM:=RK.mk (a:=cf Tryz.f10 10)
def RR:=RK.mk (a:=cf Tryz.f12 12)
def VN:=RK.mk (a:=cf Tryz.f17 17)
def RS:=RK.mk (a:=cf Tryz.f23 23)
def VO:=RK.mk (a:=cf Tryz.f25 25)
def VP:=RK.mk (a:=cf Tryz.f26 26)
def VQ:=RK.mk (a:=cf Tryz.f27 27)
def VR:=RK.mk (a:=cf Tryz.f28 28)
def VS:=RK.mk (a:=cf Tryz.f29 29)
def VT:=RK.mk (a:=cf Tryz.f30 30)
def VU:=RK.mk (a:=cf Tryz.f44 44)
def lV:=RK.mk (a:=cf Tryz.f45 45)
def VV:=RK.mk (a:=cf Tryz.f46 46)
def VW:=RK.mk (a:=cf Tryz.f47 47)
def VX:=RK.mk (a:=cf Tryz.f48 48)
def VY:=RK.mk (a:=cf Tryz.f49 49)
def V0:=RK.mk (a:=cf Tryz.f51 51)
def V5:=RK.mk (a:=cf Tryz.f52 52)
def V6:=RK.mk (a:=cf Tryz.f53 53)
def V7:=RK.mk (a:=cf Tryz.f54 54)
def V8:=RK.mk (a:=cf Tryz.f55 55)
def V9:=RK.mk (a:=cf Tryz.f56 56)
def Wa:=RK.mk (a:=cf Tryz.f57 57)
def Wb:=RK.mk (a:=cf Tryz.f58 58)
def Wc:=RK.mk (a:=cf Tryz.f67 67)
def We:=RK.mk (a:=cf Tryz.f69 69)
def Wj:=RK.mk (a:=cf Tryz.f81 81)
def Wk:=RK.mk (a:=cf Tryz.f82 82)
def Wl:=RK.mk (a:=cf Tryz.f84 84)
def Wm:=RK.mk (a:=cf Tryz.f85 85)
def Wn:=RK.mk (a:=cf Tryz.f86 86)
def Wq:=RK.mk (a:=cf Tryz.f88 88)
def Wr:=RK.mk (a:=cf Tryz.f89 89)
def Wt:=RK.mk (a:=cf Tryz.f90 90)
def Wv:=RK.mk (a:=cf Tryz.f92 92)
def Ww:=RK.mk (a:=cf Tryz.f93 93)
def Wx:=RK.mk (a:=cf Tryz.f94 94)
def Mj:=RK.mk (a:=cf Tryz.f102 102)
def Mp:=RK.mk (a:=cf Tryz.f115 115)
def Mw:=RK.mk (a:=cf Tryz.f126 126)
def My:=RK.mk (a:=cf Tryz.f128 128)
def Mz:=RK.mk (a:=cf Tryz.f129 129)
def MB:=RK.mk (a:=cf Tryz.f131 131)
def M3:=RK.mk (a:=cf Tryz.f187 187)
def No:=RK.mk (a:=cf Tryz.f268 268)
def Np:=RK.mk (a:=cf Tryz.f276 276)
def Nq:=RK.mk (a:=cf Tryz.f277 277)
def Nr:=RK.mk (a:=cf Tryz.f278 278)
def Ns:=RK.mk (a:=cf Tryz.f284 284)
def Nt:=RK.mk (a:=cf Tryz.f287 287)
def Nu:=RK.mk (a:=cf Tryz.f288 288)
def Nv:=RK.mk (a:=cf Tryz.f289 289)
end
structure TS (T:Nat->Option dJ):Prop where
 t10:T 10=some VM.1
 t12:T 12=some RR.1
 t17:T 17=some VN.1
 t23:T 23=some RS.1
 t25:T 25=some VO.1
 t26:T 26=some VP.1
 t27:T 27=some VQ.1
 t28:T 28=some VR.1
 t29:T 29=some VS.1
 t30:T 30=some VT.1
 t44:T 44=some VU.1
 t45:T 45=some lV.1
 t46:T 46=some VV.1
 t47:T 47=some VW.1
 t48:T 48=some VX.1
 t49:T 49=some VY.1
 t51:T 51=some V0.1
 t52:T 52=some V5.1
 t53:T 53=some V6.1
 t54:T 54=some V7.1
 t55:T 55=some V8.1
 t56:T 56=some V9.1
 t57:T 57=some Wa.1
 t58:T 58=some Wb.1
 t67:T 67=some Wc.1
 t69:T 69=some We.1
 t81:T 81=some Wj.1
 t82:T 82=some Wk.1
 t84:T 84=some Wl.1
 t85:T 85=some Wm.1
 t86:T 86=some Wn.1
 t88:T 88=some Wq.1
 t89:T 89=some Wr.1
 t90:T 90=some Wt.1
 t92:T 92=some Wv.1
 t93:T 93=some Ww.1
 t94:T 94=some Wx.1
 t102:T 102=some Mj.1
 t115:T 115=some Mp.1
 t126:T 126=some Mw.1
 t128:T 128=some My.1
 t129:T 129=some Mz.1
 t131:T 131=some MB.1
 t187:T 187=some M3.1
 t268:T 268=some No.1
 t276:T 276=some Np.1
 t277:T 277=some Nq.1
 t278:T 278=some Nr.1
 t284:T 284=some Ns.1
 t287:T 287=some Nt.1
 t288:T 288=some Nu.1
 t289:T 289=some Nv.1
open Go Go.Ab Go.Ab.Sm
structure lK (s:St)(o la ta:Nat)(V:List D):Prop where
 go:s.get o=some (.var 124 (.agg [.sl la 0 V.length V.length,.sl ta 0 V.length V.length,.vs true 0 []]))
 gl:s.get la=some (.arr 1 90 V 0)
 gt:s.get ta=some (.arr 1 4 (List.replicate V.length (.bool true)) 0)
 ol:o≠la
 ot:o≠ta
 lt:la≠ta
theorem lK.dT {W:Nat->Prop}{s s1:St}{o la ta:Nat}{V:List D}(h:lK s o la ta V)(hs:s.Ok)(hb:aH W s s1)(h1: ¬ W o)(h2: ¬ W la)(h3: ¬ W ta):lK s1 o la ta V:=
 ⟨hb.get hs h.go h1,hb.get hs h.gl h2,hb.get hs h.gt h3,h.ol,h.ot,h.lt⟩
structure aX (s:St)(so o la ta pl mp:Nat)(P Sh:Nat)(V:List D)(n lv tk:Nat):Prop where
 go:s.get so=some (.var 94 (.agg [.int .i64 0,.int .i64 P,.int .i64 Sh,.vs true 0 [],.vs true 0 [],.dU,.ptr o 0,.int .i64 n,.int .i64 lv,.int .i64 0,.ptr pl 0,.bool false]))
 gp:s.get pl=some (.var 127 (.agg [.mp mp,.int .i64 tk]))
 gm:s.get mp=some (.map [] 0)
 sl:lK s o la ta V
 nd:[so,o,la,ta,pl,mp].Nodup
def br (so o la ta pl:Nat):Nat->Prop:=fun j=>j=so\/j=o\/j=la\/j=ta\/j=pl
theorem lK.up {s:St}{o la ta:Nat}{V:List D}(h:lK s o la ta V)(k:Nat):lK (s.up k) o la ta V:=⟨h.go,h.gl,h.gt,h.ol,h.ot,h.lt⟩
section
variable {s s1:St}{so o la ta pl mp P Sh n lv tk:Nat}{V:List D}
theorem aX.up (h:aX s so o la ta pl mp P Sh V n lv tk)(k:Nat):aX (s.up k) so o la ta pl mp P Sh V n lv tk:=⟨h.go,h.gp,h.gm,h.sl.up k,h.nd⟩
theorem aX.dT {W:Nat->Prop}(h:aX s so o la ta pl mp P Sh V n lv tk)(hs:s.Ok)(hb:aH W s s1)(hw:∀j,(br so o la ta pl j\/j=mp)-> ¬ W j):aX s1 so o la ta pl mp P Sh V n lv tk:=
 ⟨hb.get hs h.go (hw _ (by simp [br])),hb.get hs h.gp (hw _ (by simp [br])),hb.get hs h.gm (hw _ (by simp)),h.sl.dT hs hb (hw _ (by simp [br])) (hw _ (by simp [br])) (hw _ (by simp [br])),h.nd⟩
theorem aX.lt (h:aX s so o la ta pl mp P Sh V n lv tk)(hs:s.Ok){j:Nat}(hj:br so o la ta pl j\/j=mp):j < s.n:=by
 have m1:=hs.lt h.go; have m2:=hs.lt h.sl.go; have m3:=hs.lt h.sl.gl; have m4:=hs.lt h.sl.gt; have m5:=hs.lt h.gp; have m6:=hs.lt h.gm;rcases hj with (hj | hj | hj | hj | hj) | hj <;> omega
end
section
variable {T:Nat->Option dJ}{H:au}
theorem qs (hT:TS T){s:St}{o la ta:Nat}{V:List D}{ty:Nat}{x:D}(hs:s.Ok)(h:lK s o la ta V)(hV:V.length+1<=aM):
  bY T H 27 [.ptr o 0,.eM ty x] s fun d s1=>d= .int .i64 V.length/\lK s1 o la ta (V++ [.eM ty x])/\aH (fun j=>j=o\/j=la\/j=ta) s s1:=by
 have ho:=h.go; have hl:=h.gl; have ht:=h.gt; have h1:=h.ol; have h2:=h.ot; have h3:=h.lt;have l1:=hs.lt ho; have l2:=hs.lt hl; have l3:=hs.lt ht;refine aD hT.t27 ?_;try refine go ?_
 refine ai ⟨?_,⟨?_, ?_, ?_,h1,h2,h3⟩, ?_⟩
 ·simp only [aM]at hV;simp only [aT,b9];rw [wrap_small (by omega) (by omega)];show D.int .i64 _=D.int .i64 _
  congr 1; omega
 ·rw [an];exact gI
 ·exact gI
 ·rw [an,aC,j7];exact gI
 ·exact bI
variable {s:St}{so o la ta pl mp P Sh n lv tk:Nat}{V:List D}
theorem Cz (hT:TS T)(hs:s.Ok)(h:aX s so o la ta pl mp P Sh V n lv tk)(hn:tk < 2147483648):
  bY T H 86 [.ptr so 0] s fun d s1=>aX s1 so o la ta pl mp P Sh V n lv (tk+1)/\aH (fun j=>j=pl) s s1:=by
 obtain⟨h1,h2,h3,⟨g1,g2,g3,k1,k2,k3⟩,h5⟩:=h;have l1:=hs.lt h1; have l2:=hs.lt h2; have l3:=hs.lt h3; have l4:=hs.lt g1; have l5:=hs.lt g2; have l6:=hs.lt g3;have nd:=h5;simp only [dZ,aN,eZ,cJ,jr,cT,fj,ix]at h5;obtain⟨⟨n1,n2,n3,n4,n5⟩,⟨n6,n7,n8,n9⟩,⟨U0,U1,U2⟩,⟨U3,U4⟩,U5⟩:=h5;refine aD hT.t86 ?_
 repeat' first | refine go ?_ | refine eD hT.t126 ?_
 have hw:IntKind.wrap .i64 ((tk:Int)+1)=((tk+1:Nat):Int):=by rw [wrap_small (by omega) (by omega)]; omega
 try simp only [hw]
 refine iG ⟨⟨?_, ?_, ?_,⟨?_, ?_, ?_,k1,k2,k3⟩,nd⟩, ?_⟩
 ·exact gI
 ·exact gI
 ·exact gI
 ·exact gI
 ·exact gI
 ·exact gI
 ·exact bI
theorem ux (hT:TS T)(hs:s.Ok)(h:aX s so o la ta pl mp P Sh V n lv tk)(hn:n < 2147483648)(hl:lv < 2147483648)(ht:tk < 2147483648):
  bY T H 88 [.ptr so 0] s fun d s1=>d= .agg [.int .i64 (n+1:Nat)]/\aX s1 so o la ta pl mp P Sh V (n+1) (lv+1) (tk+1)/\aH (fun j=>j=so\/j=pl) s s1:=by
 have hm:=Cz (H:=H) hT hs h ht;refine aD hT.t88 ?_;try refine go ?_
 refine af hm ?_;rintro d s1 ⟨⟨h1,h2,h3,⟨g1,g2,g3,k1,k2,k3⟩,h5⟩,b1⟩;have ok1:=b1.ok;have l1:=ok1.lt h1; have l2:=ok1.lt h2; have l3:=ok1.lt h3; have l4:=ok1.lt g1; have l5:=ok1.lt g2; have l6:=ok1.lt g3;have nd:=h5;simp only [dZ,aN,eZ,cJ,jr,cT,fj,ix]at h5;obtain⟨⟨n1,n2,n3,n4,n5⟩,⟨n6,n7,n8,n9⟩,⟨U0,U1,U2⟩,⟨U3,U4⟩,U5⟩:=h5;try refine go ?_
 have hw:IntKind.wrap .i64 ((n:Int)+1)=((n+1:Nat):Int):=by rw [wrap_small (by omega) (by omega)]; omega
 have XB:IntKind.wrap .i64 ((lv:Int)+1)=((lv+1:Nat):Int):=by rw [wrap_small (by omega) (by omega)]; omega
 try simp only [hw,XB]
 have hb:∀x:D,aH (fun j=>j=so) s1 (s1.bn so (.var 94 x)):=fun x=>aH.set (W:=fun j=>j=so) (aH.refl ok1) _ l1 (fun _=>rfl);have jb:∀x y:D,aH (fun j=>j=so) s1 ((s1.bn so (.var 94 x)).bn so (.var 94 y)):=fun x y=>aH.set (W:=fun j=>j=so) (hb x) _ l1 (fun _=>rfl);refine ai ⟨rfl,⟨?_, ?_, ?_,⟨?_, ?_, ?_,k1,k2,k3⟩,nd⟩,(b1.mono fun j hj=> .inr hj).trans ((jb _ _).mono fun j hj=> .inl hj)⟩
 ·exact gI
 ·exact gI
 ·exact gI
 ·exact gI
 ·exact gI
 ·exact gI
theorem cz (hT:TS T){i ty:Nat}{x:D}(h:aX s so o la ta pl mp P Sh V n lv tk)(hi:V[i]? =some (.eM ty x)):
  bY T H 30 [.ptr so 0,.int .i64 i] s fun d s1=>d= .eM ty x/\s1=s:=by
 obtain⟨h1,h2,h3,⟨g1,g2,g3,k1,k2,k3⟩,h5⟩:=h;have l:i < V.length:=(aj.mp hi).1;have ht:(List.replicate V.length (D.bool true))[0+i]? =some (.bool true):=by rw [aU,k9,bQ l]
 have hi' :V[0+i]? =some (.eM ty x):=by rw [aU]; exact hi
 refine aD hT.t30 ?_
 repeat' first | refine go ?_ | refine eD hT.t57 ?_ | refine eD hT.t94 ?_
 exact ai ⟨rfl,rfl⟩
end
inductive fE where
 | none
 | bool (b:Bool)
 | int (n:Bool×List Nat)
 | str (t:List UInt8)
 | row (num kd:Nat) (L:List Int)
 | pC (num kd:Nat) (E:List dY)
 | cls (num:Nat) (h sm:Bool)
 | inst (num c:Nat)
 | view (num kd:Nat) (of:Int)
def fE.kind:fE->Nat
 | .none=>1
 | .bool _=>2
 | .int _=>3
 | .str _=>4
 | .row _ kd _=>kd
 | .pC _ kd _=>kd
 | .cls .. =>13
 | .inst .. =>14
 | .view _ kd _=>kd
def fE.num:fE->Nat
 | .row n _ _=>n
 | .pC n _ _=>n
 | .cls n _ _=>n
 | .inst n _=>n
 | .view n _ _=>n
 | _=>0
def ints (L:List Int):List D:=L.map fun v=>D.int .i64 v
theorem fH (L:List Int):(ints L).length=L.length:=aY _
def eK (P:Nat)(F:Nat->Prop)(s:St)(d:D):fE->Prop
 | .none=>d= .eM 98 (.agg [])
 | .bool b=>d= .eM 100 (.agg [.bool b])
 | .int n=>∃y,d= .eM 175 (.agg [.bool n.1,y])/\Ws s y n.2/\(∀o a l c,y= .sl o a l c->F o)/\n.2.length<=100000000
 | .str t=>d= .eM 177 (.agg [.str t])/\t.length<=1000000000
 | .row num kd L=>∃ro lx st,d= .eM 107 (.ptr ro 0)/\s.get ro=some (.var 111 (.agg [.int .i64 num,.sl lx 0 L.length L.length,.int .i64 kd]))/\s.get lx=some (.arr 1 3 (ints L) st)/\st<=L.length/\F ro/\F lx
 | .pC num kd E=>∃po dv,d= .eM 56 (.ptr po 0)/\s.get po=some (.var 67 (.agg [.int .i64 num,.ptr dv 0,.int .i64 kd]))/\dQ F s dv P E/\F po
 | .cls num h sm=>∃po dv fo,d= .eM 138 (.ptr po 0)/\s.get po=some (.var 142 (.agg [.int .i64 num,.ptr dv 0,.str [67],.int .i64 (-1),.ptr fo 0,.bool h,.bool sm]))/\
   (F po/\F fo/\∃(sh:Nat) (ko mo:Nat),s.get fo=some (.var 248 (.agg [.int .i64 sh,.int .i64 P,.dU,.ptr ko 0,.vs true 0 [],.mp mo])))
 | .inst num c=>∃po sp,d= .eM 184 (.ptr po 0)/\s.get po=some (.var 187 (.agg [.int .i64 num,.ptr sp 0,.int .i64 c]))/\
   (F po/\F sp/\∃fo ro,s.get sp=some (.var 256 (.agg [.ptr fo 0,.eM 250 (.ptr ro 0),.int .u64 0]))/\s.get ro=some (.var 252 (.agg [.vs true 0 []]))/\F ro)
 | .view num kd of=>∃po,d= .eM 189 (.ptr po 0)/\s.get po=some (.var 191 (.agg [.int .i64 num,.int .i64 of,.int .i64 kd]))/\F po
theorem Ws.RF {W:Nat->Prop}{s s1:St}{x:D}{V:List Nat}(h:Ws s x V)(hs:s.Ok)(hb:aH W s s1)(hw:∀o a l c,x= .sl o a l c-> ¬ W o):Ws s1 x V:=by
 rcases h with ⟨nl,V,hn⟩ | _ | ⟨o,cp,V,R,hg,hc⟩
 ·exact .vs nl V hn
 ·exact .nil
 ·exact .sl o cp V R (hb.get hs hg (hw _ _ _ _ rfl)) hc
theorem eK.dT {P:Nat}{F W:Nat->Prop}{s s1:St}{d:D}{v:fE}(h:eK P F s d v)(hs:s.Ok)(hb:aH W s s1)(hw:∀j,j < s.n->F j-> ¬ W j):eK P F s1 d v:=by
 cases v with
 | none=>exact h
 | bool b=>exact h
 | int n=>
  obtain⟨y,h1,h2,h3,h4⟩:=h
  exact⟨y,h1,h2.RF hs hb (fun o a l c e=>by
   subst e;rcases h2 with _ | _ | ⟨_,_,_,_,hg,_⟩;exact hw o (hs.lt hg) (h3 _ _ _ _ rfl)),h3,h4⟩
 | str t=>exact h
 | row num kd L=>
  obtain⟨ro,lx,st,h1,h2,h3,h6,h4,h5⟩:=h;exact⟨ro,lx,st,h1,hb.get hs h2 (hw _ (hs.lt h2) h4),hb.get hs h3 (hw _ (hs.lt h3) h5),h6,h4,h5⟩
 | pC num kd E=>
  obtain⟨po,dv,h1,h2,h3,h4⟩:=h;exact⟨po,dv,h1,hb.get hs h2 (hw _ (hs.lt h2) h4),h3.dT hs hb hw,h4⟩
 | cls num a b=>
  obtain⟨po,dv,fo,h1,h2,h3,h4,sh,ko,mo,h5⟩:=h;exact⟨po,dv,fo,h1,hb.get hs h2 (hw _ (hs.lt h2) h3),h3,h4,sh,ko,mo,hb.get hs h5 (hw _ (hs.lt h5) h4)⟩
 | inst num c=>
  obtain⟨po,sp,h1,h2,h3,h4,fo,ro,h5,h6,h7⟩:=h;exact⟨po,sp,h1,hb.get hs h2 (hw _ (hs.lt h2) h3),h3,h4,fo,ro,hb.get hs h5 (hw _ (hs.lt h5) h4),hb.get hs h6 (hw _ (hs.lt h6) h7),h7⟩
 | view num kd of=>
  obtain⟨po,h1,h2,h3⟩:=h;exact⟨po,h1,hb.get hs h2 (hw _ (hs.lt h2) h3),h3⟩
theorem dQ.mono {W W' :Nat->Prop}{s:St}{dv most:Nat}{E:List dY}(h:dQ W s dv most E)(hw:∀o,W o->W' o):dQ W' s dv most E:=by
 obtain⟨to,eo,co,ro,log,b,st,x,C,ver,p1,p2,v1,v2,v3,v4,v5,p3⟩:=h;exact⟨to,eo,co,ro,log,b,st,x,C,ver,p1,p2,hw _ v1,hw _ v2,hw _ v3,hw _ v4,hw _ v5,p3⟩
theorem eK.mono {P:Nat} {F F' :Nat->Prop}{s:St}{d:D}{v:fE}(h:eK P F s d v)(hw:∀o,F o->F' o):eK P F' s d v:=by
 cases v with
 | none=>exact h
 | bool b=>exact h
 | int n=>
  obtain⟨y,h1,h2,h3,h4⟩:=h;exact⟨y,h1,h2,fun o a l c e=>hw _ (h3 o a l c e),h4⟩
 | str t=>exact h
 | row num kd L=>
  obtain⟨ro,lx,st,h1,h2,h3,h6,h4,h5⟩:=h;exact⟨ro,lx,st,h1,h2,h3,h6,hw _ h4,hw _ h5⟩
 | pC num kd E=>
  obtain⟨po,dv,h1,h2,h3,h4⟩:=h;exact⟨po,dv,h1,h2,h3.mono hw,hw _ h4⟩
 | cls num a b=>
  obtain⟨po,dv,fo,h1,h2,h3,h4,sh,ko,mo,h5⟩:=h;exact⟨po,dv,fo,h1,h2,hw _ h3,hw _ h4,sh,ko,mo,h5⟩
 | inst num c=>
  obtain⟨po,sp,h1,h2,h3,h4,fo,ro,h5,h6,h7⟩:=h;exact⟨po,sp,h1,h2,hw _ h3,hw _ h4,fo,ro,h5,h6,hw _ h7⟩
 | view num kd of=>
  obtain⟨po,h1,h2,h3⟩:=h;exact⟨po,h1,h2,hw _ h3⟩
def Dj (s:St)(o:Nat):Prop:=∃es st,s.get o=some (.arr 1 26 es st)
structure eh (P:Nat)(s:St)(F:Nat->Nat->Prop)(Ds:List D)(Vs:List fE):Prop where
 ln:Ds.length=Vs.length
 at' :∀i d v,Ds[i]? =some d->Vs[i]? =some v->eK P (F i) s d v
 dj:∀i j o,F i o->F j o->i=j\/Dj s o
 lt:∀i o,F i o->o < s.n/\i < Ds.length
theorem eh.get {P:Nat}{s:St}{F:Nat->Nat->Prop}{Ds:List D}{Vs:List fE}(h:eh P s F Ds Vs){i:Nat}{v:fE}(hi:Vs[i]? =some v):∃d,Ds[i]? =some d/\eK P (F i) s d v:=by
 have l:i < Vs.length:=(aj.mp hi).1;have l2:i < Ds.length:=by rw [h.ln]; exact l
 exact⟨Ds[i],ak l2,h.at' i _ _ (ak l2) hi⟩
theorem Dj.dT {W:Nat->Prop}{s s1:St}{o:Nat}(h:Dj s o)(hs:s.Ok)(hb:aH W s s1)(hw: ¬ W o):Dj s1 o:=by
 obtain⟨es,st,h⟩:=h;exact⟨es,st,hb.get hs h hw⟩
theorem eh.dT {P:Nat}{W:Nat->Prop}{s s1:St}{F:Nat->Nat->Prop}{Ds:List D}{Vs:List fE}(h:eh P s F Ds Vs)(hs:s.Ok)(hb:aH W s s1)(hw:∀i j,F i j-> ¬ W j):eh P s1 F Ds Vs:=
 ⟨h.ln,fun i d v h1 h2=>(h.at' i d v h1 h2).dT hs hb (fun j _ hj=>hw i j hj),fun i j o h1 h2=>(h.dj i j o h1 h2).imp id fun h=>h.dT hs hb (hw i o h1),fun i o ho=>⟨cC (h.lt i o ho).1 hb.n,(h.lt i o ho).2⟩⟩
def more (F:Nat->Nat->Prop)(k:Nat)(G:Nat->Prop):Nat->Nat->Prop:=fun i o=>if i=k then G o else F i o
theorem eh.snoc {P:Nat}{W G:Nat->Prop}{s s1:St}{F:Nat->Nat->Prop}{Ds:List D}{Vs:List fE}(h:eh P s F Ds Vs)(hs:s.Ok)(hb:aH W s s1)(hw:∀i j,F i j-> ¬ W j){d:D}{v:fE}(hv:eK P G s1 d v)(hG:∀o,G o->(s.n<=o/\o < s1.n)\/Dj s1 o):
  eh P s1 (more F Ds.length G) (Ds++ [d]) (Vs++ [v]):=by
 have h' :=h.dT hs hb hw
 have hF:∀i o,F i o->more F Ds.length G i o:=fun i o ho=>by
  have:=(h.lt i o ho).2;simp only [more,aI (show i≠Ds.length by omega)]; exact ho
 refine⟨by rw [an,an,h.ln,aC,aC],fun i d' v' h1 h2=> ?_,fun i j o h1 h2=> ?_,fun i o h1=> ?_⟩
 ·rcases gJ i Ds.length with hl | hl | hl
  ·rw [aK hl]at h1;rw [aK (by rw [← h.ln]; exact hl)]at h2;exact (h'.at' i d' v' h1 h2).mono (hF i)
  ·subst hl;rw [aF (aq _),ef]at h1;rw [aF (by rw [h.ln]; exact aq _),h.ln,ef]at h2;simp only [aS,aa]at h1 h2;subst h1; subst h2;exact hv.mono fun o ho=>by simp only [more,ei]; exact ho
  ·have:=(aj.mp h1).1;rw [an,aC]at this;omega
 ·simp only [more]at h1 h2;split at h1 <;> split at h2
  ·left; omega
  ·rcases hG o h1 with h3 | h3
   ·have:=(h.lt j o h2).1; omega
   ·exact .inr h3
  ·rcases hG o h2 with h3 | h3
   ·have:=(h.lt i o h1).1; omega
   ·exact .inr h3
  ·exact h'.dj i j o h1 h2
 ·simp only [more]at h1;rw [an,aC];split at h1
  ·rcases hG o h1 with h3 | ⟨es,st,h3⟩
   ·omega
   ·have:=hb.ok.lt h3; omega
  ·have:=h'.lt i o h1; omega
section
variable {T:Nat->Option dJ}{H:au}{s:St}{so o la ta pl mp P Sh n lv tk i:Nat}{Ds:List D}{d:D}{v:fE}{Q:Nat}{F:Nat->Prop}
theorem xP (hT:TS T)(h:aX s so o la ta pl mp P Sh Ds n lv tk)(hi:Ds[i]? =some d)(hv:eK Q F s d v):
  bY T H 23 [.ptr so 0,.int .i64 i] s fun d s1=>d= .int .i64 v.kind/\s1=s:=by
 refine aD hT.t23 ?_;cases v with
 | none=>
  subst hv;try refine go ?_
  refine af (cz hT h hi) ?_;rintro d s1 ⟨rfl,rfl⟩
  repeat' first | refine go ?_ | refine eD hT.t277 ?_
  exact ai ⟨rfl,rfl⟩
 | bool b=>
  subst hv;try refine go ?_
  refine af (cz hT h hi) ?_;rintro d s1 ⟨rfl,rfl⟩
  repeat' first | refine go ?_ | refine eD hT.t278 ?_
  exact ai ⟨rfl,rfl⟩
 | int n=>
  obtain⟨y,rfl,h2,h3⟩:=hv;rcases h2.sh with ⟨nl,z,l,rfl⟩ | ⟨o',l,c,rfl⟩
  all_goals
   try refine go ?_
   refine af (cz hT h hi) ?_;rintro d s1 ⟨rfl,rfl⟩
   repeat' first | refine go ?_ | refine eD hT.t287 ?_
   exact ai ⟨rfl,rfl⟩
 | str t=>
  obtain⟨rfl,h2⟩:=hv;try refine go ?_
  refine af (cz hT h hi) ?_;rintro d s1 ⟨rfl,rfl⟩
  repeat' first | refine go ?_ | refine eD hT.t288 ?_
  exact ai ⟨rfl,rfl⟩
 | row num kd L=>
  obtain⟨ro,lx,st,rfl,h2,h3⟩:=hv;try refine go ?_
  refine af (cz hT h hi) ?_;rintro d s1 ⟨rfl,rfl⟩
  repeat' first | refine go ?_ | refine eD hT.t102 ?_
  exact ai ⟨rfl,rfl⟩
 | pC num kd E=>
  obtain⟨po,dv,rfl,h2,h3⟩:=hv;try refine go ?_
  refine af (cz hT h hi) ?_;rintro d s1 ⟨rfl,rfl⟩
  repeat' first | refine go ?_ | refine eD hT.t17 ?_
  exact ai ⟨rfl,rfl⟩
 | cls num a b=>
  obtain⟨po,dv,fo,rfl,h2,h3⟩:=hv;try refine go ?_
  refine af (cz hT h hi) ?_;rintro d s1 ⟨rfl,rfl⟩
  repeat' first | refine go ?_ | refine eD hT.t284 ?_
  exact ai ⟨rfl,rfl⟩
 | inst num c=>
  obtain⟨po,sp,rfl,h2,h3⟩:=hv;try refine go ?_
  refine af (cz hT h hi) ?_;rintro d s1 ⟨rfl,rfl⟩
  repeat' first | refine go ?_ | refine eD hT.t289 ?_
  exact ai ⟨rfl,rfl⟩
 | view num kd of=>
  obtain⟨po,rfl,h2,h3⟩:=hv;try refine go ?_
  refine af (cz hT h hi) ?_;rintro d s1 ⟨rfl,rfl⟩
  repeat' first | refine go ?_ | refine eD hT.t187 ?_
  exact ai ⟨rfl,rfl⟩
theorem XS (hT:TS T)(h:aX s so o la ta pl mp P Sh Ds n lv tk)(hi:Ds[i]? =some d)(hv:eK Q F s d v):
  bY T H 115 [.ptr so 0,.int .i64 i] s fun d s1=>d= .int .i64 v.num/\s1=s:=by
 refine aD hT.t115 ?_;have ld:∀ {o c:Nat} {d:D},s.get o=some (.var c d)->∀x,(match d with | .agg (y::_)=>some y | _=>none)=some x->x.sc=true->qb s (.ptr o 0) (.load 0 (some 1))=some (.agg [x]):=by
  intro o c d hg x hx J4;cases d <;> first | (cases hx; done) | skip
  rename_i l;cases l with
  | nil=>cases hx
  | cons y l=>
   simp only [aa]at hx; subst hx;have e:Nat.ble (0+0+1) (y::l).length=true:=ax (by simp);show iJ s (some 1) (.ptr o (0+0))=_;simp only [iJ,hg,D.flat,part,e];rfl
 cases v with
 | none=>
  subst hv;try refine go ?_
  refine af (cz hT h hi) ?_;rintro d s1 ⟨rfl,rfl⟩
  repeat' first | refine go ?_ | refine eD hT.t276 ?_
  exact ai ⟨rfl,rfl⟩
 | bool b=>
  subst hv;try refine go ?_
  refine af (cz hT h hi) ?_;rintro d s1 ⟨rfl,rfl⟩
  repeat' first | refine go ?_ | refine eD hT.t276 ?_
  exact ai ⟨rfl,rfl⟩
 | int n=>
  obtain⟨y,rfl,h2,h3⟩:=hv;rcases h2.sh with ⟨nl,z,l,rfl⟩ | ⟨o',l,c,rfl⟩
  all_goals
   try refine go ?_
   refine af (cz hT h hi) ?_;rintro d s1 ⟨rfl,rfl⟩
   repeat' first | refine go ?_ | refine eD hT.t276 ?_
   exact ai ⟨rfl,rfl⟩
 | str t=>
  obtain⟨rfl,h2⟩:=hv;try refine go ?_
  refine af (cz hT h hi) ?_;rintro d s1 ⟨rfl,rfl⟩
  repeat' first | refine go ?_ | refine eD hT.t276 ?_
  exact ai ⟨rfl,rfl⟩
 | row num kd L=>
  obtain⟨ro,lx,st,rfl,h2,h3⟩:=hv;have h4:=ld h2 _ rfl rfl;try refine go ?_
  refine af (cz hT h hi) ?_;rintro d s1 ⟨rfl,rfl⟩
  repeat' first | refine go ?_ | refine iY ?_ (hu:=h4) | refine eD hT.t268 ?_
  exact ai ⟨rfl,rfl⟩
 | pC num kd E=>
  obtain⟨po,dv,rfl,h2,h3⟩:=hv;have h4:=ld h2 _ rfl rfl;try refine go ?_
  refine af (cz hT h hi) ?_;rintro d s1 ⟨rfl,rfl⟩
  repeat' first | refine go ?_ | refine iY ?_ (hu:=h4) | refine eD hT.t268 ?_
  exact ai ⟨rfl,rfl⟩
 | cls num a b=>
  obtain⟨po,dv,fo,rfl,h2,h3⟩:=hv;have h4:=ld h2 _ rfl rfl;try refine go ?_
  refine af (cz hT h hi) ?_;rintro d s1 ⟨rfl,rfl⟩
  repeat' first | refine go ?_ | refine iY ?_ (hu:=h4) | refine eD hT.t268 ?_
  exact ai ⟨rfl,rfl⟩
 | inst num c=>
  obtain⟨po,sp,rfl,h2,h3⟩:=hv;have h4:=ld h2 _ rfl rfl;try refine go ?_
  refine af (cz hT h hi) ?_;rintro d s1 ⟨rfl,rfl⟩
  repeat' first | refine go ?_ | refine iY ?_ (hu:=h4) | refine eD hT.t268 ?_
  exact ai ⟨rfl,rfl⟩
 | view num kd of=>
  obtain⟨po,rfl,h2,h3⟩:=hv;have h4:=ld h2 _ rfl rfl;try refine go ?_
  refine af (cz hT h hi) ?_;rintro d s1 ⟨rfl,rfl⟩
  repeat' first | refine go ?_ | refine iY ?_ (hu:=h4) | refine eD hT.t268 ?_
  exact ai ⟨rfl,rfl⟩
end
def fE.whole:fE->Option (Bool×List Nat)
 | .bool b=>some (if b then (false,[1]) else (false,[]))
 | .int n=>some n
 | _=>Option.none
def fE.text:fE->Option (List UInt8)
 | .str t=>some t
 | _=>Option.none
section
variable {T:Nat->Option dJ}{H:au}{s:St}{so o la ta pl mp P Sh n lv tk i:Nat}{Ds:List D}{d:D}{v:fE}{Q:Nat}{F:Nat->Prop}
theorem gU (hS:TS T)(hW:TW T)(hV:TV T)(h:aX s so o la ta pl mp P Sh Ds n lv tk)(hi:Ds[i]? =some d)(hv:eK Q F s d v):
  bY T H 67 [.ptr so 0,.int .i64 i] s fun d s1=>s1=s/\∃x,d= .gW [x,.bool v.whole.isSome]/\xB s x (v.whole.getD (false,[])):=by
 have ho0:=LF (H:=H) (s:=s) hW hV (.inl rfl);have OP:=LF (H:=H) (s:=s) hW hV (.inr (.inl rfl));simp only [ei,gS,Int.one_ne_zero,show ((1:Int)=0)=False by simp]at ho0 OP;have nz:xB s (.agg [.bool false,.vs true 0 []]) (false,[]):=⟨_,rfl,.nil⟩;refine aD hS.t67 ?_;cases v with
 | none=>
  subst hv;try refine go ?_
  refine af (cz hS h hi) ?_;rintro d s1 ⟨rfl,rfl⟩;try refine go ?_
  exact ai ⟨rfl,_,rfl,nz⟩
 | bool b=>
  subst hv;try refine go ?_
  refine af (cz hS h hi) ?_;rintro d s1 ⟨rfl,rfl⟩;try refine go ?_
  cases b
  ·try refine go ?_
   refine af ho0 ?_;rintro d s1 ⟨rfl,y,rfl,hy⟩;rcases hy.sh with ⟨nl,z,l,rfl⟩ | ⟨o',l,c,rfl⟩
   all_goals
    repeat' first | refine go ?_ | refine dO ?_
    exact ai ⟨rfl,_,rfl,_,rfl,hy⟩
  ·try refine go ?_
   refine af OP ?_;rintro d s1 ⟨rfl,y,rfl,hy⟩;rcases hy.sh with ⟨nl,z,l,rfl⟩ | ⟨o',l,c,rfl⟩
   all_goals
    repeat' first | refine go ?_ | refine dO ?_
    exact ai ⟨rfl,_,rfl,_,rfl,hy⟩
 | int n=>
  obtain⟨y,rfl,h2,h3⟩:=hv;rcases h2.sh with ⟨nl,z,l,rfl⟩ | ⟨o',l,c,rfl⟩
  all_goals
   try refine go ?_
   refine af (cz hS h hi) ?_;rintro d s1 ⟨rfl,rfl⟩;try refine go ?_
   exact ai ⟨rfl,_,rfl,_,rfl,h2⟩
 | str t=>
  obtain⟨rfl,h2⟩:=hv;try refine go ?_
  refine af (cz hS h hi) ?_;rintro d s1 ⟨rfl,rfl⟩;try refine go ?_
  exact ai ⟨rfl,_,rfl,nz⟩
 | row num kd L=>
  obtain⟨ro,lx,st,rfl,h2,h3⟩:=hv;try refine go ?_
  refine af (cz hS h hi) ?_;rintro d s1 ⟨rfl,rfl⟩;try refine go ?_
  exact ai ⟨rfl,_,rfl,nz⟩
 | pC num kd E=>
  obtain⟨po,dv,rfl,h2,h3⟩:=hv;try refine go ?_
  refine af (cz hS h hi) ?_;rintro d s1 ⟨rfl,rfl⟩;try refine go ?_
  exact ai ⟨rfl,_,rfl,nz⟩
 | cls num a b=>
  obtain⟨po,dv,fo,rfl,h2,h3⟩:=hv;try refine go ?_
  refine af (cz hS h hi) ?_;rintro d s1 ⟨rfl,rfl⟩;try refine go ?_
  exact ai ⟨rfl,_,rfl,nz⟩
 | inst num c=>
  obtain⟨po,sp,rfl,h2,h3⟩:=hv;try refine go ?_
  refine af (cz hS h hi) ?_;rintro d s1 ⟨rfl,rfl⟩;try refine go ?_
  exact ai ⟨rfl,_,rfl,nz⟩
 | view num kd of=>
  obtain⟨po,rfl,h2,h3⟩:=hv;try refine go ?_
  refine af (cz hS h hi) ?_;rintro d s1 ⟨rfl,rfl⟩;try refine go ?_
  exact ai ⟨rfl,_,rfl,nz⟩
theorem jZ (hS:TS T)(h:aX s so o la ta pl mp P Sh Ds n lv tk)(hi:Ds[i]? =some d)(hv:eK Q F s d v):
  bY T H 69 [.ptr so 0,.int .i64 i] s fun d s1=>d= .gW [.str (v.text.getD []),.bool v.text.isSome]/\s1=s:=by
 refine aD hS.t69 ?_;cases v with
 | none=>
  subst hv;try refine go ?_
  refine af (cz hS h hi) ?_;rintro d s1 ⟨rfl,rfl⟩;try refine go ?_
  exact ai ⟨rfl,rfl⟩
 | bool b=>
  subst hv;try refine go ?_
  refine af (cz hS h hi) ?_;rintro d s1 ⟨rfl,rfl⟩;try refine go ?_
  exact ai ⟨rfl,rfl⟩
 | int n=>
  obtain⟨y,rfl,h2,h3⟩:=hv;try refine go ?_
  refine af (cz hS h hi) ?_;rintro d s1 ⟨rfl,rfl⟩;try refine go ?_
  exact ai ⟨rfl,rfl⟩
 | str t=>
  obtain⟨rfl,h2⟩:=hv;try refine go ?_
  refine af (cz hS h hi) ?_;rintro d s1 ⟨rfl,rfl⟩;try refine go ?_
  exact ai ⟨rfl,rfl⟩
 | row num kd L=>
  obtain⟨ro,lx,st,rfl,h2,h3⟩:=hv;try refine go ?_
  refine af (cz hS h hi) ?_;rintro d s1 ⟨rfl,rfl⟩;try refine go ?_
  exact ai ⟨rfl,rfl⟩
 | pC num kd E=>
  obtain⟨po,dv,rfl,h2,h3⟩:=hv;try refine go ?_
  refine af (cz hS h hi) ?_;rintro d s1 ⟨rfl,rfl⟩;try refine go ?_
  exact ai ⟨rfl,rfl⟩
 | cls num a b=>
  obtain⟨po,dv,fo,rfl,h2,h3⟩:=hv;try refine go ?_
  refine af (cz hS h hi) ?_;rintro d s1 ⟨rfl,rfl⟩;try refine go ?_
  exact ai ⟨rfl,rfl⟩
 | inst num c=>
  obtain⟨po,sp,rfl,h2,h3⟩:=hv;try refine go ?_
  refine af (cz hS h hi) ?_;rintro d s1 ⟨rfl,rfl⟩;try refine go ?_
  exact ai ⟨rfl,rfl⟩
 | view num kd of=>
  obtain⟨po,rfl,h2,h3⟩:=hv;try refine go ?_
  refine af (cz hS h hi) ?_;rintro d s1 ⟨rfl,rfl⟩;try refine go ?_
  exact ai ⟨rfl,rfl⟩
end
noncomputable def Ct:List (Nat×Nat×Recv):=match RS.1.body with
 | .seq _ (.seq (.seq _ (.seq _ (.cond _ (.seq (.AL (_::⟨_,.invoke t _ _,_,_⟩::_)) _) _))) _)=>t
 | _=> []
def uK (i:Nat)(v:fE)(j:Nat)(w:fE):Bool:=
 decide (i=j) || match v.whole,w.whole with
  | some a,some b=>decide (db a.1 a.2=db b.1 b.2)
  | _,_=>(match v.text,w.text with
   | some a,some b=>a==b
   | _,_=>false) || (v.kind==1 && w.kind==1)
theorem eK.eM {Q:Nat}{F:Nat->Prop}{s:St}{d:D}{v:fE}(h:eK Q F s d v):∃ty x,d= .eM ty x/\Nat.beq ty 195=false:=by
 cases v with
 | none=>exact ⟨_,_,h,rfl⟩
 | bool b=>exact ⟨_,_,h,rfl⟩
 | int n=>obtain ⟨y,rfl,_⟩:=h; exact ⟨_,_,rfl,rfl⟩
 | str t=>obtain ⟨rfl,_⟩:=h; exact ⟨_,_,rfl,rfl⟩
 | row num kd L=>obtain ⟨_,_,_,rfl,_⟩:=h; exact ⟨_,_,rfl,rfl⟩
 | pC num kd E=>obtain ⟨_,_,rfl,_⟩:=h; exact ⟨_,_,rfl,rfl⟩
 | cls num a b=>obtain ⟨_,_,_,rfl,_⟩:=h; exact ⟨_,_,rfl,rfl⟩
 | inst num c=>obtain ⟨_,_,rfl,_⟩:=h; exact ⟨_,_,rfl,rfl⟩
 | view num kd of=>obtain ⟨_,rfl,_⟩:=h; exact ⟨_,_,rfl,rfl⟩
section
variable {T:Nat->Option dJ}{H:au}{s:St}{b t:Nat}{l:List bz}{k:List iI}{e:Env}{ds:List (D×List D)}{g:Option (Nat×Bool)}{QQ:QP}{d:D}{v:fE}{Q:Nat}{F:Nat->Prop}
theorem kf (hT:TS T){x:bO}(hv:eK Q F s d v)(h:iN T H b l k ⟨(t,.int .i64 v.kind)::e,ds⟩ s QQ)(hw:aJ e g=some true:=by rfl)(hx:x.ev e=some d:=by rfl):iN T H b (⟨some t,.invoke Ct x [],g,none⟩::l) k ⟨e,ds⟩ s QQ:=by
 have key:∀ {ty f:Nat} {y:D},d= .eM ty y->xA Ct ty=some (f,.self)->bY T H f [y] s (fun d s1=>d= .int .i64 v.kind/\s1=s)->iN T H b (⟨some t,.invoke Ct x [],g,none⟩::l) k ⟨e,ds⟩ s QQ:=by
  intro ty f y hd ht hE;subst hd;refine iY (af hE ?_) hw hx rfl ht rfl;rintro d s1 ⟨rfl,rfl⟩;exact h
 cases v with
 | none=>
  refine key hv rfl (aD hT.t277 ?_);try refine go ?_
  exact ai ⟨rfl,rfl⟩
 | bool b=>
  refine key hv rfl (aD hT.t278 ?_);try refine go ?_
  exact ai ⟨rfl,rfl⟩
 | int n=>
  obtain⟨y,hd,h2,h3⟩:=hv;rcases h2.sh with ⟨nl,z,l,rfl⟩ | ⟨o',l,c,rfl⟩
  all_goals
   refine key hd rfl (aD hT.t287 ?_);try refine go ?_
   exact ai ⟨rfl,rfl⟩
 | str t=>
  refine key hv.1 rfl (aD hT.t288 ?_);try refine go ?_
  exact ai ⟨rfl,rfl⟩
 | row num kd L=>
  obtain⟨ro,lx,st,hd,h2,h3⟩:=hv;refine key hd rfl (aD hT.t102 ?_);try refine go ?_
  exact ai ⟨rfl,rfl⟩
 | pC num kd E=>
  obtain⟨po,dv,hd,h2,h3⟩:=hv;refine key hd rfl (aD hT.t17 ?_);try refine go ?_
  exact ai ⟨rfl,rfl⟩
 | cls num a b=>
  obtain⟨po,dv,fo,hd,h2,h3⟩:=hv;refine key hd rfl (aD hT.t284 ?_);try refine go ?_
  exact ai ⟨rfl,rfl⟩
 | inst num c=>
  obtain⟨po,sp,hd,h2,h3⟩:=hv;refine key hd rfl (aD hT.t289 ?_);try refine go ?_
  exact ai ⟨rfl,rfl⟩
 | view num kd of=>
  obtain⟨po,hd,h2,h3⟩:=hv;refine key hd rfl (aD hT.t187 ?_);try refine go ?_
  exact ai ⟨rfl,rfl⟩
end
theorem mB {C:au}{s:St}{al:Option Nat}{e:Env}{t ty:Nat}{z y:D}{x:bO}(hx:x.ev e=some (.eM ty y))(ht:Nat.beq ty t=false):cg C e s al (.sO t z true x)=some (.gW [z,.bool false],s):=by
 simp only [cg,hx,ht]
theorem Ws.sc {s:St}{y:D}{V:List Nat}(h:Ws s y V):y.sc=true:=by cases h <;> rfl
theorem pz {s:St}{y p q:D}{a:Bool}{V:List Nat}(h:Ws s y V):D.over (.agg [p,q]) 0 (.agg [.bool a,y])=some (.agg [.bool a,y]):=by
 cases h <;> rfl
section
variable {T:Nat->Option dJ}{H:au}{s:St}{so o la ta pl mp P Sh n lv tk i j:Nat}{Ds:List D} {d d' :D}{v w:fE}{Q:Nat} {F F' :Nat->Prop}
theorem eK.vh (h:eK Q F s d v):(v.whole.getD (false,[])).2.length<=aM:=by
 simp only [aM];cases v with
 | int n=>obtain ⟨y,_,_,_,h⟩:=h; simp only [fE.whole,Option.getD]; omega
 | bool b=>cases b <;> simp [fE.whole]
 | _=>simp [fE.whole]
theorem Ga (hS:TS T)(hW:TW T)(hV:TV T)(hs:s.Ok)(h:aX s so o la ta pl mp P Sh Ds n lv tk)(hi:Ds[i]? =some d)(hv:eK Q F s d v)(hj:Ds[j]? =some d')(hw:eK Q F' s d' w)(uz:i=j):
  bY T H 58 [.ptr so 0,.int .i64 i,.int .i64 j] s fun d s1=>d= .bool (true)/\s1=s:=by
 obtain⟨ty,x,rfl,hn⟩:=hv.eM;obtain⟨ty',x',rfl,OM⟩:=hw.eM;have gi:=cz (H:=H) hS h hi;have gj:=cz (H:=H) hS h hj;have wi:=gU (H:=H) hS hW hV h hi hv;have wj:=gU (H:=H) hS hW hV h hj hw;have ti:=jZ (H:=H) hS h hi hv;have tj:=jZ (H:=H) hS h hj hw;have l1:=hv.vh;have l2:=hw.vh;refine aD hS.t58 ?_;try refine go ?_
 refine af gi ?_;rintro d s1 ⟨rfl,rfl⟩;try refine go ?_
 refine af gj ?_;rintro d s1 ⟨rfl,rfl⟩;try refine go ?_
 exact ai ⟨rfl,rfl⟩
theorem Dk (hS:TS T)(hW:TW T)(hV:TV T)(hs:s.Ok)(h:aX s so o la ta pl mp P Sh Ds n lv tk)(hi:Ds[i]? =some d)(hv:eK Q F s d v)(hj:Ds[j]? =some d')(hw:eK Q F' s d' w)(uz:i≠j){a b:Bool×List Nat}(ha:v.whole=some a)(hb:w.whole=some b):
  bY T H 58 [.ptr so 0,.int .i64 i,.int .i64 j] s fun d s1=>d= .bool (decide (db a.1 a.2=db b.1 b.2))/\s1=s:=by
 obtain⟨ty,x,rfl,hn⟩:=hv.eM;obtain⟨ty',x',rfl,OM⟩:=hw.eM;have gi:=cz (H:=H) hS h hi;have gj:=cz (H:=H) hS h hj;have wi:=gU (H:=H) hS hW hV h hi hv;have wj:=gU (H:=H) hS hW hV h hj hw;have ti:=jZ (H:=H) hS h hi hv;have tj:=jZ (H:=H) hS h hj hw;have l1:=hv.vh;have l2:=hw.vh;simp only [ha,hb,Option.getD,Option.isSome]at wi wj l1 l2;refine aD hS.t58 ?_;try refine go ?_
 refine af gi ?_;rintro d s1 ⟨rfl,rfl⟩;try refine go ?_
 refine af gj ?_;rintro d s1 ⟨rfl,rfl⟩;try refine go ?_
 refine af wi ?_;rintro d s1 ⟨rfl,x1,rfl,vS⟩;have Ro:=vS;obtain⟨y1,rfl,AD⟩:=vS;have P9:=fun p q=>pz (p:=p) (q:=q) (a:=a.1) AD
 repeat' first | refine go ?_ | refine dO ?_ (hp:=P9 _ _)
 refine af wj ?_;rintro d s1 ⟨rfl,x2,rfl,vT⟩;have Ih:=vT;obtain⟨y2,rfl,y9⟩:=vT;have Qa:=fun p q=>pz (p:=p) (q:=q) (a:=b.1) y9;have abk:=FW (H:=H) hW hV hs Ro Ih l1 l2
 repeat' first | refine go ?_ | refine dO ?_ (hp:=Qa _ _)
 refine af abk ?_;rintro d s1 ⟨rfl,c,rfl,hc⟩;try refine go ?_
 exact ai ⟨congrArg D.bool (decide_eq_decide.mpr hc),rfl⟩
end
end Go.Proofs.Tab
