/- Part. -/
import Derived.Test.YtdkejjahldkkoaaGreatDoorChecked
import Derived.Test.YtdkejjahldkkoaaGreatDoorG34
import Derived.Shelf.Unicode.ValidAny
import Derived.Shelf.Strconv.Itoa3
import Derived.Below
set_option linter.unusedSectionVars false
set_option maxRecDepth 100000
set_option linter.unusedSimpArgs false
set_option linter.unusedVariables false
namespace Go.Proofs.Tab
open Go Go.Ab Go.Proofs
variable [Go.Ab.eW]
theorem aab:my Tryz.prog 68 (.Zv):=⟨⟨Tryz.f68,Extern.AbiNoEscape.same,Tryz.func68,by kernel_rfl,by kernel_rfl,by kernel_rfl,by kernel_rfl,rfl⟩⟩
theorem Py:nT Tryz.prog gl exts Q4:=VJ
theorem H6:∀f k,exts f=some k->my Tryz.prog f k:=by
 intro f k h;unfold exts at h;cases hb:Nat.beq f 68
 case true=>
  obtain rfl:=aF hb;simp only [hb,cond,aa]at h; subst h;exact aab
 simp only [hb,cond]at h;cases h
theorem mixed:Tryz.prog.follows .mixedOrders=true:=by kernel_rfl
end Go.Proofs.Tab
namespace Go.Proofs.Tab
open Go Go.Ab
noncomputable def rp:Nat->Option dS:=uR Q4 [5,72,119]
theorem ez {n:Nat}{a:Option dS}(c:RK a)(h:rp n=a:=by kernel_rfl):rp n=some c.1:=h.trans c.2
theorem aby:TW rp:=⟨ez aa6,ez Yq,ez T0,ez U8,ez Uj,ez T7⟩
theorem acy:TV rp:=⟨ez T8,ez Vg,ez SI,ez Uv,ez UK,ez UF,ez Uy,ez Pt,ez TK,ez Tn,ez SW,ez Tc,ez ri,ez Tj,ez T1,ez SJ,ez AS,ez Um⟩
theorem abK:TT rp:=⟨ez U6,ez UQ,ez Md,ez SK,ez Ul,ez S7,ez UI,ez US,ez SL,ez UT,ez S6,ez UJ,ez Vk,ez SQ,ez Tx,ez S1,ez TQ,ez TO,ez UO,ez Vm,ez SH,ez Ta,ez OR,ez Uf,ez O3,ez TA,ez Vf,ez TN,ez Tu,ez UY,ez Ts,ez Ve,ez SZ,ez Vc,ez Ug,ez Uz,ez U1,ez Vb⟩
theorem abb:TP rp:=⟨ez aaX,ez Tq,ez Lt,ez Ur,ez SP,ez TY,ez Uh,ez S8,ez To,ez Te,ez Ut,ez Uw,ez UW,ez Tp,ez TJ⟩
theorem acv:TS rp:=⟨ez cd8,ez Xr,ez aaJ,ez YK,ez aaq,ez aaH,ez ZK,ez YI,ez aaw,ez Yu,ez mF,ez YP,ez ZC,ez Zb,ez aaW,ez Y2,ez Zi,ez ZS,ez ZJ,ez aa0,ez aa1,ez Ze,ez Zr,ez aan,ez Zt,ez Y9,ez aag,ez aa5,ez Zx,ez aaE,ez aau,ez YO,ez YX,ez S0,ez T9,ez TE,ez MB,ez UL,ez SF,ez SO,ez Vh,ez Vo,ez S4,ez Va,ez Tb,ez T6,ez SC,ez Un,ez U7,ez T2,ez TZ,ez Vr⟩
theorem abJ:TX rp:=⟨ez ZQ,ez aac,ez Dy,ez Td,ez S2,ez UP,ez U0,ez Tw⟩
theorem aaN:nB rp:=⟨ez Yi,ez Z3,ez aaA,ez Yo,ez Zj,ez aaT,ez Zu,ez aaZ,ez Yz,ez NG,ez UX,ez T4,ez SE,ez U3⟩
theorem aax:nH rp:=⟨ez aaf,ez Yy,ez Zp,ez Y5,ez aaI,ez YV,ez Ub,ez SN,ez Uc,ez SU,ez Tv,ez Tg,ez TI,ez U9,ez Ui,ez Th,ez UN,ez U5,ez Vi,ez SX,ez TL,ez Ij,ez Ty⟩
theorem aaz:mw rp:=⟨ez cd9,ez I9,ez Zg,ez Qq,ez WH,ez Y8,ez aaD,ez ZB,ez aaR,ez YD,ez Zd,ez Yt,ez Zl,ez Yh,ez aap,ez Z9,ez Yx,ez Zs,ez UG,ez UA,ez TR⟩
theorem abC:TH rp:=⟨ez cd3,ez cd4,ez cd6,ez cd7,ez YF,ez aa8,ez ZL,ez Yn,ez YB⟩
open Go Go.Ab Go.Ab.Sm Go.RowKit Go.Proofs Go.Shelf
def Af:Go.Shelf.Ren:=⟨fun | 196=>72 | 259=>120 | n=>n,fun | 9=>9 | 4=>4 | 3=>3 | 5=>5 | 12=>12 | 119=>226 | 0=>0 | 46=>230 | 139=>229 | 138=>228 | 53=>237 | n=>n,fun | 3=>0 | 4=>1 | n=>n⟩
theorem laysValid:Go.Proofs.Lays.n196 Tryz.prog Af where
 mixed:=by kernel_rfl
 f196:=Tryz.func72.trans (congrArg some (by kernel_rfl))
 f259:=Tryz.func120.trans (congrArg some (by kernel_rfl))
 t0:=Tryz.underlying0
 a0:=Tryz.isAgg0
 z0:=Tryz.sizeOf0
 v0:=Tryz.zeroValue0
 t3:=Tryz.underlying3
 a3:=Tryz.isAgg3
 z3:=Tryz.sizeOf3
 v3:=Tryz.zeroValue3
 t4:=Tryz.underlying4
 a4:=Tryz.isAgg4
 z4:=Tryz.sizeOf4
 v4:=Tryz.zeroValue4
 t5:=Tryz.underlying5
 a5:=Tryz.isAgg5
 z5:=Tryz.sizeOf5
 v5:=Tryz.zeroValue5
 t9:=Tryz.underlying9
 a9:=Tryz.isAgg9
 z9:=Tryz.sizeOf9
 v9:=Tryz.zeroValue9
 t12:=Tryz.underlying12
 a12:=Tryz.isAgg12
 z12:=Tryz.sizeOf12
 v12:=Tryz.zeroValue12
 t46:=Tryz.underlying230
 a46:=Tryz.isAgg230
 z46:=Tryz.sizeOf230
 v46:=Tryz.zeroValue230
 t53:=Tryz.underlying237
 a53:=Tryz.isAgg237
 z53:=Tryz.sizeOf237
 v53:=Tryz.zeroValue237
 t119:=Tryz.underlying226
 a119:=Tryz.isAgg226
 z119:=Tryz.sizeOf226
 t138:=Tryz.underlying228
 a138:=Tryz.isAgg228
 z138:=Tryz.sizeOf228
 v138:=Tryz.zeroValue228
 t139:=Tryz.underlying229
 a139:=Tryz.isAgg229
 z139:=Tryz.sizeOf229
 v139:=Tryz.zeroValue229
 g3:=by kernel_rfl
 g4:=by kernel_rfl
def CE:Go.Shelf.Ren:=⟨fun | 171=>119 | 243=>159 | 246=>194 | 283=>228 | 284=>229 | 285=>230 | 286=>231 | 129=>249 | 317=>248 | 318=>250 | 319=>251 | 320=>252 | 337=>262 | 338=>263 | n=>n,fun | 3=>3 | 9=>9 | 2=>2 | 4=>4 | 171=>361 | 0=>0 | 53=>237 | 37=>52 | 5=>5 | 173=>364 | 212=>377 | 51=>263 | 20=>20 | 213=>378 | 46=>230 | 232=>405 | 233=>406 | n=>n,fun | 17=>3 | 18=>6 | 19=>7 | n=>n⟩
theorem laysItoa:Go.Proofs.LaysM.n171 Tryz.prog CE where
 mixed:=by kernel_rfl
 f129:=Tryz.func249.trans (congrArg some (by kernel_rfl))
 f171:=Tryz.func119.trans (congrArg some (by kernel_rfl))
 f243:=Tryz.func159.trans (congrArg some (by kernel_rfl))
 f246:=Tryz.func194.trans (congrArg some (by kernel_rfl))
 f283:=Tryz.func228.trans (congrArg some (by kernel_rfl))
 f284:=Tryz.func229.trans (congrArg some (by kernel_rfl))
 f285:=Tryz.func230.trans (congrArg some (by kernel_rfl))
 f286:=Tryz.func231.trans (congrArg some (by kernel_rfl))
 f317:=Tryz.func248.trans (congrArg some (by kernel_rfl))
 f318:=Tryz.func250.trans (congrArg some (by kernel_rfl))
 f319:=Tryz.func251.trans (congrArg some (by kernel_rfl))
 f320:=Tryz.func252.trans (congrArg some (by kernel_rfl))
 f337:=Tryz.func262.trans (congrArg some (by kernel_rfl))
 f338:=Tryz.func263.trans (congrArg some (by kernel_rfl))
 t0:=Tryz.underlying0
 a0:=Tryz.isAgg0
 z0:=Tryz.sizeOf0
 v0:=Tryz.zeroValue0
 t2:=Tryz.underlying2
 a2:=Tryz.isAgg2
 z2:=Tryz.sizeOf2
 v2:=Tryz.zeroValue2
 t3:=Tryz.underlying3
 a3:=Tryz.isAgg3
 z3:=Tryz.sizeOf3
 v3:=Tryz.zeroValue3
 t4:=Tryz.underlying4
 a4:=Tryz.isAgg4
 z4:=Tryz.sizeOf4
 v4:=Tryz.zeroValue4
 t5:=Tryz.underlying5
 a5:=Tryz.isAgg5
 z5:=Tryz.sizeOf5
 v5:=Tryz.zeroValue5
 t9:=Tryz.underlying9
 a9:=Tryz.isAgg9
 z9:=Tryz.sizeOf9
 v9:=Tryz.zeroValue9
 t20:=Tryz.underlying20
 a20:=Tryz.isAgg20
 z20:=Tryz.sizeOf20
 v20:=Tryz.zeroValue20
 t37:=Tryz.underlying52
 a37:=Tryz.isAgg52
 z37:=Tryz.sizeOf52
 v37:=Tryz.zeroValue52
 t46:=Tryz.underlying230
 a46:=Tryz.isAgg230
 z46:=Tryz.sizeOf230
 v46:=Tryz.zeroValue230
 t51:=Tryz.underlying263
 a51:=Tryz.isAgg263
 z51:=Tryz.sizeOf263
 v51:=Tryz.zeroValue263
 t53:=Tryz.underlying237
 a53:=Tryz.isAgg237
 z53:=Tryz.sizeOf237
 v53:=Tryz.zeroValue237
 t171:=Tryz.underlying361
 a171:=Tryz.isAgg361
 z171:=Tryz.sizeOf361
 v171:=Tryz.zeroValue361
 t173:=Tryz.underlying364
 a173:=Tryz.isAgg364
 z173:=Tryz.sizeOf364
 v173:=Tryz.zeroValue364
 t212:=Tryz.underlying377
 a212:=Tryz.isAgg377
 z212:=Tryz.sizeOf377
 v212:=Tryz.zeroValue377
 t213:=Tryz.underlying378
 a213:=Tryz.isAgg378
 z213:=Tryz.sizeOf378
 t232:=Tryz.underlying405
 a232:=Tryz.isAgg405
 z232:=Tryz.sizeOf405
 v232:=Tryz.zeroValue405
 t233:=Tryz.underlying406
 a233:=Tryz.isAgg406
 z233:=Tryz.sizeOf406
 v233:=Tryz.zeroValue406
 g17:=by kernel_rfl
 g18:=by kernel_rfl
 g19:=by kernel_rfl
 i0:=by kernel_rfl
 i2:=by kernel_rfl
 i3:=by kernel_rfl
 i4:=by kernel_rfl
 i5:=by kernel_rfl
 i9:=by kernel_rfl
 i20:=by kernel_rfl
 i37:=by kernel_rfl
 i46:=by kernel_rfl
 i51:=by kernel_rfl
 i53:=by kernel_rfl
 i171:=by kernel_rfl
 i173:=by kernel_rfl
 i212:=by kernel_rfl
 i232:=by kernel_rfl
 i233:=by kernel_rfl
 m17:=by kernel_rfl
 m18:=by kernel_rfl
 m19:=by kernel_rfl
theorem xM {α:Type}(f g:Nat->α):∀n i,i < n->((List.range n).flatMap fun i=> [f i,g i])[2 * i]? =some (f i)/\((List.range n).flatMap fun i=> [f i,g i])[2 * i+1]? =some (g i)
 | 0,i,h=>absurd h (Nat.not_lt_zero i)
 | n+1,i,h=>by
  have hl:∀n,((List.range n).flatMap fun i=> [f i,g i]).length=2 * n:=fun n=>by
   induction n with
   | zero=>rfl
   | succ n ih=>rw [List.range_succ,List.flatMap_append,List.length_append,ih]; simp; omega
  have pQ:=hl n;rw [List.range_succ,List.flatMap_append];by_cases hi:i < n
  ·obtain⟨h1,h2⟩:=xM f g n i hi;rw [List.getElem?_append_left (by omega),List.getElem?_append_left (by omega)];exact⟨h1,h2⟩
  ·obtain rfl:i=n:=by omega
   rw [List.getElem?_append_right (by omega),List.getElem?_append_right (by omega),pQ,Nat.sub_self,show 2 * i+1 - 2 * i=1 by omega];exact⟨rfl,rfl⟩
theorem Dz {ρ:Gh}{w:World}{k:IntKind}{n:Int} [Go.Ab.eW]:∀ {L:List D} {vs:List Value} {j:Nat},br ρ w L vs->L[j]? =some (.int k n)->vs[j]? =some (.int k n)
 | [],_,_,_,h=>by simp at h
 | d::L,vs,j,hr,h=>by
  simp only [br]at hr;obtain⟨v,r,rfl,h1,h2⟩:=hr
  match j with
  | 0=>
   simp only [List.getElem?_cons_zero,Option.some.injEq]at h ⊢;subst h;simpa only [aS] using h1
  | j+1=>exact Dz (L:=L) (vs:=r) (j:=j) h2 (by simpa only [List.getElem?_cons_succ] using h)
theorem F9 {ρ:Gh}{w:World}{g j:Nat}{L:List D}{k:IntKind}{n:Int} [Go.Ab.eW](h:aS ρ w (.jE (.agg L) 0) (.pointer (some ⟨g,0,none⟩)))(hj:L[j]? =some (.int k n)):w.cell? ⟨g,j,none⟩=some (.int k n):=by
 simp only [aS]at h;obtain⟨b,x,u,_,⟨vs,rfl,hr,_⟩,hc,_,he⟩:=h;have hx:g=b/\0=x:=by
  injection he with he;injection he with he;injection he with e1 e2;exact⟨e1,by omega⟩
 obtain⟨rfl,rfl⟩:=hx;have hv:=Dz hr hj;rw [Array.getElem?_toList]at hv;have:=hc j (Array.getElem?_eq_some_iff.mp hv).1;rw [Nat.zero_add]at this;exact this.trans hv
theorem P2 {ρ:Gh}{w:World}{pn:iO} [Go.Ab.eW](hg:gF pn gl ρ w):Lib.Utf8Tabs 0 1 w:=
 ⟨fun c hc=>F9 (hg.1 0 ON rfl) (by simp [CH,hc]),fun i hi=>⟨F9 (hg.1 1 Cg rfl) (xM _ _ 16 i hi).1,F9 (hg.1 1 Cg rfl) (xM _ _ 16 i hi).2⟩⟩
theorem yc {ρ:Gh} {w w' :World}{s:St} [Go.Ab.eW](hs:bZ ρ s w)(h:Below w.heap.size w w'){d:D}{v:Value}(hd:∀ρ w,aS ρ w d v):jA ρ w s d (.returned v) w' :=by
 let ρ2:Gh:= { ρ with own:=fun b=>if b < w.heap.size then ρ.own b else .zC}
 have lE:∀b,b < w.heap.size->ρ2.own b=ρ.own b:=fun b hb=>if_pos hb;have DW :∀b, ¬ b < w.heap.size->ρ2.own b= .zC:=fun b hb=>if_neg hb;have hK:Kp ρ w ρ2 w' :=by
  refine⟨h.os,h.tape,h.output,h.size,fun b hb _=>⟨h.block b hb,lE b hb⟩,fun _ h=>⟨h,rfl⟩,fun o sz ho=> .inr ⟨ho,fun b hb=>⟨?_,rfl,Nat.le_refl _,rfl⟩⟩⟩;rw [lE b (hs.jN hb)]; exact hb
 refine⟨ρ2,hK,hs.bR hK.r (fun b o=> ?_) rfl (fun b o hb=>⟨h.block b (hs.jN hb),rfl,rfl,rfl⟩) (fun b hb=>DW b (by have:=h.size; omega)),hd _ _⟩;by_cases hb:b < w.heap.size
 ·rw [lE b hb]
 ·rw [DW b hb,hs.size b (by omega)]
def vm (f0:Nat)(g:List D->Option D)(aw:au):au:=fun f l s=>bif Nat.beq f f0 then (g l).map fun d=>(d,s) else aw f l s
theorem rz {f0:Nat}{g:List D->Option D}{aw:au}{f:Nat}(h:Nat.beq f f0=false):vm f0 g aw f=aw f:=by
 funext l s; unfold vm; rw [h]; rfl
theorem xO {f0:Nat}{g:List D->Option D}{aw:au}{l:List D}{s:St}:vm f0 g aw f0 l s=(g l).map fun d=>(d,s):=by
 unfold vm; rw [Nat.beq_refl]; rfl
theorem LL [Go.Ab.eW]{pn:iO}{P:Program}{G:Gl}{f0:Nat}{g:List D->Option D}{aw:au}(ha:c9 pn P G aw)(h0:Nat.beq 0 f0=false)(he:∀args w,(callFunc f0 args).run P w= .ok (.enter f0 args) w)
  (hc:∀l d ρ w vs s,g l=some d->bZ ρ s w->gF pn G ρ w->br ρ w l vs->Calls P f0 vs.toArray w (jA ρ w s d)):c9 pn P G (vm f0 g aw):=by
 refine⟨fun f l s r h hy args w=> ?_,fun f l s d s' ρ w vs h hs hg hr=> ?_,fun f l s d s' wz h=> ?_,fun y l s d s' ρ w u vs h=> ?_,fun f l s d s' s1 hs h=> ?_⟩
 ·cases hf:Nat.beq f f0
  ·rw [rz hf]at h; exact ha.enter f l s r h hy args w
  ·obtain rfl:=Nat.eq_of_beq_eq_true hf;exact he args w
 ·cases hf:Nat.beq f f0
  ·rw [rz hf]at h; exact ha.calls f l s d s' ρ w vs h hs hg hr
  ·obtain rfl:=Nat.eq_of_beq_eq_true hf;rw [xO]at h;obtain⟨r,Ld,e⟩:=Option.map_eq_some_iff.1 h;cases e;exact hc l _ ρ w vs s Ld hs hg hr
 ·cases hf:Nat.beq f f0
  ·rw [rz hf]at h; exact ha.ro f l s d s' wz h
  ·obtain rfl:=Nat.eq_of_beq_eq_true hf;rw [xO]at h;obtain⟨r,Ld,e⟩:=Option.map_eq_some_iff.1 h;cases e; rfl
 ·rw [rz h0]at h; exact ha.vw y l s d s' ρ w u vs h
 ·cases hf:Nat.beq f f0
  ·rw [rz hf]at h ⊢; exact ha.PG f l s d s' s1 hs h
  ·obtain rfl:=Nat.eq_of_beq_eq_true hf;rw [xO]at h ⊢;obtain⟨r,Ld,e⟩:=Option.map_eq_some_iff.1 h;cases e;exact⟨rfl,by rw [Ld]; rfl⟩
theorem WW {f0:Nat}{g:List D->Option D}{aw:au}{T:Nat->Option dS}{l:List D}{s:St}{d:D}(hT:T f0=none)(hg:g l=some d){R:D->St->Prop}(hR:R d s):cu T (vm f0 g aw) f0 l s R:=by
 refine⟨d,s,⟨1, ?_⟩,hR⟩;unfold dH;rw [hT];have h:vm f0 g aw f0 l s=some (d,s):=by rw [xO,hg]; rfl
 split <;> exact h
noncomputable def gV:List D->Option D:=fun l=>match l with
 | [.str t]=>bif Nat.ble t.length 1000000000 then some (.bool (Lib.validD t)) else none
 | _=>none
noncomputable def gI:List D->Option D:=fun l=>match l with
 | [.int .i64 (.ofNat n)]=>bif Nat.ble n 999999 then some (.str (Lib.itoa (n:Nat))) else none
 | _=>none
theorem ZG {l:List UInt8}(h:l.length<=1000000000):gV [.str l]=some (.bool (Lib.validD l)):=by
 have e:=Nat.ble_eq_true_of_le h;unfold gV;simp only [e,cond]
theorem Yf {n:Nat}(h:n < 1000000):gI [.int .i64 (n:Nat)]=some (.str (Lib.itoa (n:Nat))):=by
 have e:Nat.ble n 999999=true:=Nat.ble_eq_true_of_le (by omega);show (bif Nat.ble n 999999 then some (D.str (Lib.itoa (n:Nat))) else none)=_;rw [e]; rfl
theorem So {l:List D}{d:D}(h:gV l=some d):∃t:List UInt8,l=[.str t]/\t.length<=1000000000/\d= .bool (Lib.validD t):=by
 unfold gV at h;split at h
 ·rename_i t;cases hb:Nat.ble t.length 1000000000 <;> rw [hb]at h <;> simp only [cond]at h
  ·cases h
  ·cases h; exact ⟨t,rfl,Nat.le_of_ble_eq_true hb,rfl⟩
 ·cases h
theorem Rj {l:List D}{d:D}(h:gI l=some d):∃n:Nat,l=[.int .i64 (n:Nat)]/\n<=999999/\d= .str (Lib.itoa (n:Nat)):=by
 unfold gI at h;split at h
 ·rename_i n;cases hb:Nat.ble n 999999 <;> rw [hb]at h <;> simp only [cond]at h
  ·cases h
  ·cases h; exact ⟨n,rfl,Nat.le_of_ble_eq_true hb,rfl⟩
 ·cases h
def Wg : iO := ⟨fun ρ w => ρ.own 3 = .zC ∧ Lib.TabIs Tryz.prog w "internal/strconv.uint64pow10" .u64 Lib.pow10Tab, fun {ρ ρ' w w'} h ⟨h1, h2⟩ => by
 have hg : Tryz.prog.globalNamed "internal/strconv.uint64pow10" = some 3 := by kernel_rfl
 unfold Lib.TabIs World.var? at h2 ⊢;rw [hg]at h2 ⊢;simp only [Option.bind_some]at h2 ⊢;have dQ:3 < w.heap.size:=by
  rcases Nat.lt_or_ge 3 w.heap.size with hl | hl
  ·exact hl
  ·rw [Array.getElem?_eq_none hl]at h2; cases h2
 obtain⟨e1,e2⟩:=h.kept 3 dQ (fun o=>by rw [h1]; simp);exact⟨e2.trans h1,by rw [e1]; exact h2⟩⟩
theorem aaF [Go.Ab.eW]{P:Program}{G:Gl}{C:au}{pn:iO}(h:c9 .none P G C):c9 pn P G C:=
 ⟨h.enter,fun f l s d s' ρ w vs h1 h2 h3 h4=>h.calls f l s d s' ρ w vs h1 h2 ⟨h3.1,trivial⟩ h4,h.ro,fun y l s d s' ρ w u vs h1 h2 h3 h4 h5=>h.vw y l s d s' ρ w u vs h1 h2 ⟨h3.1,trivial⟩ h4 h5,h.PG⟩
theorem V1 [Go.Ab.eW]{aw:au}(ha:c9 .none Tryz.prog gl aw):c9 Wg Tryz.prog gl (vm 119 gI aw):=
 LL (aaF ha) rfl (enters_of Tryz.func119 (by kernel_rfl) rfl) fun l d ρ w vs s hd hs hg hr=>by
  obtain⟨n,rfl,h2,rfl⟩:=Rj hd;simp only [br,aS]at hr;obtain⟨v,r,rfl,rfl,rfl⟩:=hr;refine (Any.strconv_Itoa laysItoa (n:Nat) (by omega) (by omega) w hg.2.2).mono fun e w' he=> ?_;obtain⟨rfl,k,os,rfl⟩:=he;refine yc hs ?_ ?_;rotate_left
  ·intro _ _;simp [aS]
  refine⟨rfl,rfl,rfl, ?_,fun i hi=> ?_⟩
  ·show w.heap.size<=(w.heap++os).size;rw [Array.size_append]; omega
  ·show (w.heap++os)[i]? =_;rw [Array.getElem?_append_left hi]
noncomputable def hk (aw:au):au:=vm 72 gV (vm 119 gI aw)
theorem Yr [Go.Ab.eW]{aw:au}(ha:c9 .none Tryz.prog gl aw):c9 Wg Tryz.prog gl (hk aw):=
 LL (V1 ha) rfl (enters_of Tryz.func72 (by kernel_rfl) rfl) fun l d ρ w vs s hd hs hg hr=>by
  obtain⟨t,rfl,ht,rfl⟩:=So hd;simp only [br,aS]at hr;obtain⟨v,r,rfl,rfl,rfl⟩:=hr;refine (Any.utf8_ValidString laysValid ⟨⟨t⟩⟩ w (by show t.length<=_; omega) (P2 hg)).mono fun e w' he=> ?_;obtain⟨rfl,hb⟩:=he;exact yc hs hb fun _ _=>by simp [aS]
theorem aal {aw:au}{f:Nat}(h:Nat.beq f 72=false)(h2:Nat.beq f 119=false):hk aw f=aw f:=by
 rw [hk,rz h,rz h2]
theorem abx {aw:au}{T:Nat->Option dS}(hT:T 72=none)(s:St){l:List UInt8}(hl:l.length<=1000000000):cu T (hk aw) 72 [.str l] s fun d s1=>d= .bool (Lib.validD l)/\s1=s:=by
 unfold hk;exact WW hT (ZG hl) ⟨rfl,rfl⟩
theorem ab1 {aw:au}{T:Nat->Option dS}(hI:T 119=none)(s:St){n:Nat}(hn:n < 1000000):cu T (hk aw) 119 [.int .i64 (n:Nat)] s fun d s1=>s1=s/\d= .str (Lib.itoa (n:Nat)):=by
 refine⟨.str (Lib.itoa (n:Nat)),s,⟨1, ?_⟩,rfl,rfl⟩;have h:hk aw 119 [.int .i64 (n:Nat)] s=some (.str (Lib.itoa (n:Nat)),s):=by
  rw [hk,rz rfl,xO,Yf hn]; rfl
 unfold dH;rw [hI];split <;> exact h
theorem X9 {aw:au}{T:Nat->Option dS}(hT:T 72=none)(hI:T 119=none):TU T (hk aw):=
 ⟨fun s _ hl=>abx hT s hl,fun s _ hn=>ab1 hI s hn⟩
end Go.Proofs.Tab
