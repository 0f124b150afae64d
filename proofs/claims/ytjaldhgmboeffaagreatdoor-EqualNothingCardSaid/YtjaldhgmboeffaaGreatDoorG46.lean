/- Part. -/
import Derived.Test.YtjaldhgmboeffaaGreatDoorChecked
import Derived.Test.YtjaldhgmboeffaaGreatDoorG37
import Derived.Test.YtjaldhgmboeffaaGreatDoorG36
import Derived.Shelf.Unicode.ValidAny
import Derived.Below
set_option linter.unusedSimpArgs false
set_option linter.unusedVariables false
set_option linter.unusedSectionVars false
set_option maxRecDepth 100000
namespace Go.Proofs.Tab
open Go Go.Ab Go.Proofs
variable [Go.Ab.eV]
theorem VS:mA Tryz.prog 298 (.YN):=⟨⟨Tryz.f298,Extern.AbiNoEscape.same,Tryz.func298,by kernel_rfl,by kernel_rfl,by kernel_rfl,by kernel_rfl,rfl⟩⟩
theorem OB:mC Tryz.prog gl exts Rn:=W9
theorem IQ:∀f k,exts f=some k->mA Tryz.prog f k:=by
 intro f k h;unfold exts at h;cases hb:Nat.beq f 298
 case true=>
  obtain rfl:=aD hb;simp only [hb,cond,aa]at h; subst h;exact VS
 simp only [hb,cond]at h;cases h
theorem mixed:Tryz.prog.follows .mixedOrders=true:=by kernel_rfl
end Go.Proofs.Tab
namespace Go.Proofs.Tab
open Go Go.Ab
noncomputable def rR:Nat->Option dU:=uj Rn [5,137]
theorem ez {n:Nat}{a:Option dU}(c:RK a)(h:rR n=a:=by kernel_rfl):rR n=some c.1:=h.trans c.2
theorem abr:TW rR:=⟨ez aaD,ez aaI,ez SU,ez T2,ez T7,ez Uk⟩
theorem abJ:TV rR:=⟨ez Y8,ez aag,ez aaz,ez WW,ez ZQ,ez Z2,ez ZM,ez Zd,ez Us,ez UL,ez TC,ez UU,ez U7,ez qS,ez UJ,ez IL,ez Uo,ez TJ⟩
theorem abc:TT rR:=⟨ez U0,ez N4,ez Uc,ez Ve,ez SQ,ez Sy,ez SX,ez UD,ez Uh,ez Uq,ez UT,ez TK,ez Sz,ez Tq,ez Sp,ez Vr,ez SV,ez TG,ez SD,ez Vi,ez Pc,ez TF,ez Mp,ez Vw,ez So,ez SP,ez Uy,ez T0,ez Tk,ez UM,ez Vj,ez VG,ez SR,ez VF,ez U9,ez S1,ez Ss,ez UX⟩
theorem aa9:TP rR:=⟨ez UH,ez NF,ez SJ,ez Vx,ez Vc,ez T1,ez Ts,ez Sq,ez US,ez Un,ez S5,ez Uz,ez Tc,ez Vp,ez U3⟩
theorem abq:TS rR:=⟨ez aae,ez VP,ez WH,ez Zj,ez aas,ez aab,ez YU,ez YE,ez ZA,ez Zy,ez YW,ez YA,ez YJ,ez Yt,ez mV,ez Z7,ez Zl,ez YI,ez YC,ez Z1,ez aau,ez aaO,ez YG,ez aaG,ez YS,ez Z0,ez aar,ez aaR,ez Sw,ez Vq,ez UC,ez T4,ez VK,ez TI,ez SE,ez VM,ez Vv,ez SH,ez Uf,ez SZ,ez Ua,ez Ub,ez S2,ez Vo,ez UW,ez TY,ez S6,ez VA,ez Tw,ez S9,ez Tx,ez UE⟩
theorem abp:TX rR:=⟨ez D5,ez VB,ez UB,ez Tf,ez Tl,ez Ux,ez Tb,ez VL,ez SF,ez TR,ez U1,ez UF⟩
theorem aaE:nB rR:=⟨ez T9,ez VN,ez Sx,ez UA,ez Ui,ez Td,ez Vy,ez S3,ez Te,ez MK,ez TD,ez TM,ez VD,ez Tt⟩
theorem Ze:nK rR:=⟨ez Sn,ez Ue,ez S4,ez Tu,ez SG,ez Tn,ez Su,ez TL,ez Tj,ez Ut,ez Ur,ez Vt,ez UQ,ez Uj,ez Uv,ez T8,ez TZ,ez SW,ez UR,ez Tp,ez Uw,ez Iy,ez SB⟩
theorem ZH:mz rR:=⟨ez Za,ez KH,ez aaQ,ez RM,ez Nr,ez Va,ez UO,ez UZ,ez VE,ez Vz,ez VH,ez Sr,ez VJ,ez TH,ez T3,ez SL,ez SO,ez Vg,ez Ty,ez Vd,ez U2⟩
theorem abv:TQ rR:=⟨ez cd3,ez cd4,ez cd6,ez cd7,ez cd8,ez cd9,ez aay,ez Z6,ez aaa,ez aaq,ez aaC,ez ZY,ez ZO⟩
open Go Go.Ab Go.Ab.Sm Go.RowKit Go.Proofs Go.Shelf
def ren:Go.Shelf.Ren:=⟨fun | 196=>137 | 259=>197 | n=>n,fun | 9=>9 | 4=>4 | 3=>3 | 5=>5 | 12=>12 | 119=>299 | 0=>0 | 46=>195 | 139=>302 | 138=>301 | 53=>188 | n=>n,fun | 3=>0 | 4=>1 | n=>n⟩
theorem KD:Go.Proofs.Lays.n196 Tryz.prog ren where
 mixed:=by kernel_rfl
 f196:=Tryz.func137.trans (congrArg some (by kernel_rfl))
 f259:=Tryz.func197.trans (congrArg some (by kernel_rfl))
 t0:=Tryz.underlying0
 a0:=Tryz.isAgg0
 z0:=Tryz.sizeOf0
 v0:=Tryz.zeroValue0
 t3:=Tryz.underlying3
 a3:=Tryz.isAgg3
 z3:=Tryz.sizeOf3
 v3:=Tryz.zeroValue3
 t4:=Tryz.underlying4
 a4:=Tryz.isAgg4
 z4:=Tryz.sizeOf4
 v4:=Tryz.zeroValue4
 t5:=Tryz.underlying5
 a5:=Tryz.isAgg5
 z5:=Tryz.sizeOf5
 v5:=Tryz.zeroValue5
 t9:=Tryz.underlying9
 a9:=Tryz.isAgg9
 z9:=Tryz.sizeOf9
 v9:=Tryz.zeroValue9
 t12:=Tryz.underlying12
 a12:=Tryz.isAgg12
 z12:=Tryz.sizeOf12
 v12:=Tryz.zeroValue12
 t46:=Tryz.underlying195
 a46:=Tryz.isAgg195
 z46:=Tryz.sizeOf195
 v46:=Tryz.zeroValue195
 t53:=Tryz.underlying188
 a53:=Tryz.isAgg188
 z53:=Tryz.sizeOf188
 v53:=Tryz.zeroValue188
 t119:=Tryz.underlying299
 a119:=Tryz.isAgg299
 z119:=Tryz.sizeOf299
 t138:=Tryz.underlying301
 a138:=Tryz.isAgg301
 z138:=Tryz.sizeOf301
 v138:=Tryz.zeroValue301
 t139:=Tryz.underlying302
 a139:=Tryz.isAgg302
 z139:=Tryz.sizeOf302
 v139:=Tryz.zeroValue302
 g3:=by kernel_rfl
 g4:=by kernel_rfl
theorem xE {α:Type}(f g:Nat->α):∀n i,i < n->((List.range n).flatMap fun i=> [f i,g i])[2 * i]? =some (f i)/\((List.range n).flatMap fun i=> [f i,g i])[2 * i+1]? =some (g i)
 | 0,i,h=>absurd h (Nat.not_lt_zero i)
 | n+1,i,h=>by
  have hl:∀n,((List.range n).flatMap fun i=> [f i,g i]).length=2 * n:=fun n=>by
   induction n with
   | zero=>rfl
   | succ n ih=>rw [List.range_succ,List.flatMap_append,List.length_append,ih]; simp; omega
  have pQ:=hl n;rw [List.range_succ,List.flatMap_append];by_cases hi:i < n
  ·obtain⟨h1,h2⟩:=xE f g n i hi;rw [List.getElem?_append_left (by omega),List.getElem?_append_left (by omega)];exact⟨h1,h2⟩
  ·obtain rfl:i=n:=by omega
   rw [List.getElem?_append_right (by omega),List.getElem?_append_right (by omega),pQ,Nat.sub_self,show 2 * i+1 - 2 * i=1 by omega];exact⟨rfl,rfl⟩
theorem CZ {ρ:Gh}{w:World}{k:IntKind}{n:Int} [Go.Ab.eV]:∀ {L:List D} {vs:List Value} {j:Nat},bw ρ w L vs->L[j]? =some (.int k n)->vs[j]? =some (.int k n)
 | [],_,_,_,h=>by simp at h
 | d::L,vs,j,hr,h=>by
  simp only [bw]at hr;obtain⟨v,r,rfl,h1,h2⟩:=hr
  match j with
  | 0=>
   simp only [List.getElem?_cons_zero,Option.some.injEq]at h ⊢;subst h;simpa only [aU] using h1
  | j+1=>exact CZ (L:=L) (vs:=r) (j:=j) h2 (by simpa only [List.getElem?_cons_succ] using h)
theorem Fv {ρ:Gh}{w:World}{g j:Nat}{L:List D}{k:IntKind}{n:Int} [Go.Ab.eV](h:aU ρ w (.jD (.agg L) 0) (.pointer (some ⟨g,0,none⟩)))(hj:L[j]? =some (.int k n)):w.cell? ⟨g,j,none⟩=some (.int k n):=by
 simp only [aU]at h;obtain⟨b,x,u,_,⟨vs,rfl,hr,_⟩,hc,_,he⟩:=h;have hx:g=b/\0=x:=by
  injection he with he;injection he with he;injection he with e1 e2;exact⟨e1,by omega⟩
 obtain⟨rfl,rfl⟩:=hx;have hv:=CZ hr hj;rw [Array.getElem?_toList]at hv;have:=hc j (Array.getElem?_eq_some_iff.mp hv).1;rw [Nat.zero_add]at this;exact this.trans hv
theorem RV {ρ:Gh}{w:World}{pn:jn} [Go.Ab.eV](hg:gN pn gl ρ w):Lib.Utf8Tabs 0 1 w:=
 ⟨fun c hc=>Fv (hg.1 0 NB rfl) (by simp [BV,hc]),fun i hi=>⟨Fv (hg.1 1 Bu rfl) (xE _ _ 16 i hi).1,Fv (hg.1 1 Bu rfl) (xE _ _ 16 i hi).2⟩⟩
theorem GF {ρ:Gh} {w w' :World}{s:St} [Go.Ab.eV](hs:ck ρ s w)(h:Below w.heap.size w w')(b:Bool):jW ρ w s (.bool b) (.returned (.bool b)) w' :=by
 let ρ2:Gh:= { ρ with own:=fun b=>if b < w.heap.size then ρ.own b else .zO}
 have lC:∀b,b < w.heap.size->ρ2.own b=ρ.own b:=fun b hb=>if_pos hb;have DL :∀b, ¬ b < w.heap.size->ρ2.own b= .zO:=fun b hb=>if_neg hb;have hK:Kp ρ w ρ2 w' :=by
  refine⟨h.os,h.tape,h.output,h.size,fun b hb _=>⟨h.block b hb,lC b hb⟩,fun _ h=>⟨h,rfl⟩,fun o sz ho=> .inr ⟨ho,fun b hb=>⟨?_,rfl,Nat.le_refl _,rfl⟩⟩⟩;rw [lC b (hs.jJ hb)]; exact hb
 refine⟨ρ2,hK,hs.bV hK.r (fun b o=> ?_) rfl (fun b o hb=>⟨h.block b (hs.jJ hb),rfl,rfl,rfl⟩) (fun b hb=>DL b (by have:=h.size; omega)),by simp [aU]⟩;by_cases hb:b < w.heap.size
 ·rw [lC b hb]
 ·rw [DL b hb,hs.size b (by omega)]
noncomputable def hk (aw:ay):ay:=fun f l s=>bif Nat.beq f 137 then (match l with
 | [.str t]=>bif Nat.ble t.length 1000000000 then some (.bool (Lib.validD t),s) else none
 | _=>none) else aw f l s
theorem AH {aw:ay}{f:Nat}(h:Nat.beq f 137=false):hk aw f=aw f:=by
 funext l s; unfold hk; rw [h]; rfl
theorem BT {aw:ay}{l:List D}{s:St}{r:D×St}(h:hk aw 137 l s=some r):∃t:List UInt8,l=[.str t]/\t.length<=1000000000/\r=(.bool (Lib.validD t),s):=by
 unfold hk at h;rw [Nat.beq_refl]at h;simp only [cond]at h;split at h
 ·rename_i t;cases hb:Nat.ble t.length 1000000000 <;> rw [hb]at h <;> simp only [cond]at h
  ·cases h
  ·cases h; exact ⟨t,rfl,Nat.le_of_ble_eq_true hb,rfl⟩
 ·cases h
theorem YT [Go.Ab.eV]{aw:ay}(ha:dR .none Tryz.prog gl aw):dR .none Tryz.prog gl (hk aw):=by
 refine⟨fun f l s r h hy args w=> ?_,fun f l s d s' ρ w vs h hs hg hr=> ?_,fun f l s d s' wM h=> ?_,fun y l s d s' ρ w u vs h=> ?_,fun f l s d s' s1 hs h=> ?_⟩
 ·cases hf:Nat.beq f 137
  ·rw [AH hf]at h; exact ha.enter f l s r h hy args w
  ·obtain rfl:=Nat.eq_of_beq_eq_true hf;exact enters_of Tryz.func137 (by kernel_rfl) rfl args w
 ·cases hf:Nat.beq f 137
  ·rw [AH hf]at h; exact ha.calls f l s d s' ρ w vs h hs hg hr
  ·obtain rfl:=Nat.eq_of_beq_eq_true hf;obtain⟨t,rfl,ht,e⟩:=BT h;cases e;simp only [bw,aU]at hr;obtain⟨v,r,rfl,rfl,rfl⟩:=hr;refine (Any.utf8_ValidString KD ⟨⟨t⟩⟩ w (by show t.length<=_; omega) (RV hg)).mono fun e w' he=> ?_;obtain⟨rfl,hb⟩:=he;exact GF hs hb _
 ·cases hf:Nat.beq f 137
  ·rw [AH hf]at h; exact ha.ro f l s d s' wM h
  ·obtain rfl:=Nat.eq_of_beq_eq_true hf;obtain⟨t,rfl,ht,e⟩:=BT h;cases e; rfl
 ·rw [AH rfl]at h; exact ha.yF y l s d s' ρ w u vs h
 ·cases hf:Nat.beq f 137
  ·rw [AH hf]at h ⊢; exact ha.P8 f l s d s' s1 hs h
  ·obtain rfl:=Nat.eq_of_beq_eq_true hf;obtain⟨t,rfl,ht,e⟩:=BT h;cases e;refine⟨rfl, ?_⟩;unfold hk;rw [Nat.beq_refl];simp only [cond,Nat.ble_eq_true_of_le ht]
theorem aao {aw:ay}{T:Nat->Option dU}(hT:T 137=none):TU T (hk aw):=fun s l hl=>by
 refine⟨.bool (Lib.validD l),s,⟨1, ?_⟩,rfl,rfl⟩;have h:hk aw 137 [.str l] s=some (.bool (Lib.validD l),s):=by
  unfold hk; rw [Nat.beq_refl]; simp only [cond,Nat.ble_eq_true_of_le hl]
 unfold dJ;rw [hT];split <;> exact h
end Go.Proofs.Tab
set_option maxRecDepth 1000000
namespace Go.Proofs.Tab
open Go Go.Ab Go.Ab.Sm
theorem GH {C:ay}{f:Nat}(h:Ab.isTrue (C f [] st0)=true)(s:St):alone C f [] s=some (.bool true,s):=by
 unfold alone;split
 ·generalize C f [] st0=r at h;unfold Ab.isTrue at h;split at h
  ·rfl
  ·cases h
 ·rename_i h1; cases h1
theorem Jk:Ab.isTrue (dJ Rn fF 200 5 [] st0)=true:=by kernel_rfl
noncomputable def aw:ay:=alone (dJ Rn fF 200)
theorem CX (s:St):aw 5 [] s=some (.bool true,s):=GH Jk s
theorem Y1 (s:St):hk aw 5 [] s=some (.bool true,s):=by rw [AH rfl]; exact CX s
theorem Om {T:Nat->Option dU}{H:ay}{f:Nat}{x:List D}{s s1:St}{d:D}{R:D->St->Prop}(h:H f x s=some (d,s1))(ht:T f=none)(hr:R d s1):cu T H f x s R:=by
 refine⟨d,s1,⟨1, ?_⟩,hr⟩;unfold dJ;rw [ht];split <;> exact h
theorem Rk:rR 5=none:=rfl
theorem Re:rR 137=none:=rfl
theorem Kj (s:St):cu rR (hk aw) 5 [] s fun d s1=>d= .bool true/\s1=s:=Om (Y1 s) Rk ⟨rfl,rfl⟩
theorem aaU:TU rR (hk aw):=aao Re
end Go.Proofs.Tab
