/- Part. -/
import Derived.Test.YthaiegafejbmoaaGreatDoorRows
import Derived.Test.YthaiegafejbmoaaGreatDoorG46
set_option linter.unusedSectionVars false
set_option maxRecDepth 100000
set_option linter.unusedSimpArgs false
set_option linter.unusedVariables false
namespace Go.Proofs.Tab
open Go Go.Ab Go.Ab.Sm Go.Proofs.YthaiegafejbmoaaGreatDoor
def N6:List Int:=Go.Pinned.utf8FirstZ.map Int.ofNat
def HF:List (Int×Int):=[(128,191),(160,191),(128,159),(144,191),(128,143),(0,0),(0,0),(0,0),(0,0),(0,0),(0,0),(0,0),(0,0),(0,0),(0,0),(0,0)]
theorem JJ:Ck=N6.map (D.int .u8):=by kernel_rfl
theorem F9:B5=(HF.flatMap fun z=> [z.1,z.2]).map (D.int .u8):=by kernel_rfl
theorem N7:Rows.laid_unicode_utf8_first= .agg (N6.map fun z=> .lit (.int .u8 z)):=by kernel_rfl
theorem Jc:(Rows.laid_unicode_utf8_acceptRanges:DataW Unit)= .agg (HF.map fun z=> .agg [.lit (.int .u8 z.1),.lit (.int .u8 z.2)]):=by kernel_rfl
theorem N9 {k:IntKind}(Z:List (Int×Int)):HZ k Z=(Z.flatMap fun z=> [z.1,z.2]).map (Value.int k):=by
 induction Z with
 | nil=>rfl
 | cons z Z ih=>simp only [HZ,List.flatMap_cons,List.map_append,List.map_cons,List.map_nil]at ih ⊢; rw [ih]
theorem FB {P:Program}{w:World}{n:String}{g:Nat}{cs:Array Value}(hg:P.globalNamed n=some g)(h:w.var? P n=some cs):∃ty fz,w.heap[g]? =some (.cells cs ty fz):=by
 unfold World.var? at h;rw [hg]at h;simp only [Option.bind_some]at h;split at h
 ·rename_i c t f hh;cases h;exact⟨_,_,hh⟩
 ·cases h
theorem ZJ [Go.Ab.eh]{w:World}(h:laidMetH Tryz.prog Rows.equalAsksRow.laid w):∀g d,gl g=some d->aR AM w (.jJ d 0) (.pointer (some ⟨g,0,none⟩)):=by
 have hm:laidMet Tryz.prog Rows.equalAsksRow.laid w:=by
  unfold laidMetH at h;have e:(Rows.equalAsksRow.laid.filter fun x=>x.2.handleName?.isSome)=[]:=by kernel_rfl
  rw [e]at h;exact h
 obtain⟨ps,hv,_⟩:=hm;obtain⟨_,_,_,_,_,_,_,_,_,_,hv,_⟩:=hv;obtain⟨_,_,_,_,_,_,_,_,_,_,hv,_⟩:=hv;obtain⟨_,_,_,_,_,_,_,_,_,_,hv,_⟩:=hv;obtain⟨g2,t2,cs2,f2,p2,q2,a1,a2,a3,a4,hv,_⟩:=hv;obtain⟨g1,t1,cs1,f1,p1,q1,b1,b2,b3,b4,hv,_⟩:=hv;have C8 : Tryz.prog.globalNamed "unicode/utf8.acceptRanges" = some 1 := by kernel_rfl
 have Q6 : Tryz.prog.globalNamed "unicode/utf8.first" = some 0 := by kernel_rfl
 have Ic:(Tryz.prog.globals[1]?).map (·.type)=some 243:=by kernel_rfl
 have FU:(Tryz.prog.globals[0]?).map (·.type)=some 240:=by kernel_rfl
 have a1:=C8.symm.trans a1;have b1:=Q6.symm.trans b1;cases a1; cases b1;have a2:=Ic.symm.trans a2;have b2:=FU.symm.trans b2;cases a2; cases b2;obtain⟨ty2,fz2,hh2⟩:=FB C8 a3;obtain⟨ty1,fz1,hh1⟩:=FB Q6 b3;rw [Jc]at a4;rw [N7]at b4;have c1:=Qm Tryz.underlying240 Tryz.underlying5 (by kernel_rfl) (by kernel_rfl) b4;have c2:=KO Tryz.underlying243 Tryz.underlying242 rfl rfl (by kernel_rfl) (by kernel_rfl) Tryz.underlying5 Tryz.underlying5 (by kernel_rfl) (by kernel_rfl) a4;rw [N9]at c2;intro g d hd;unfold gl at hd;cases e1:Nat.beq g 0 with
 | true=>
  obtain rfl:=Nat.eq_of_beq_eq_true e1;simp only [e1,cond,Option.some.injEq]at hd;subst hd;show aR AM w (.jJ (.agg Ck) 0) _;rw [JJ];exact D4 hh1 c1 (by decide)
 | false=>
  simp only [e1,cond]at hd;cases e2:Nat.beq g 1 with
  | true=>
   obtain rfl:=Nat.eq_of_beq_eq_true e2;simp only [e2,cond,Option.some.injEq]at hd;subst hd;show aR AM w (.jJ (.agg B5) 0) _;rw [F9];exact D4 hh2 c2 (by decide)
  | false=>simp only [e2,cond]at hd; cases hd
theorem ZI:∀g d,gl g=some d->d.im=true:=by
 intro g d hd;unfold gl at hd;cases e1:Nat.beq g 0 with
 | true=>simp only [e1,cond,Option.some.injEq]at hd; subst hd; decide
 | false=>
  simp only [e1,cond]at hd;cases e2:Nat.beq g 1 with
  | true=>simp only [e2,cond,Option.some.injEq]at hd; subst hd; decide
  | false=>simp only [e2,cond]at hd; cases hd
theorem Ya:kX.Ok:=⟨rfl,rfl,fun o _=>rfl⟩
theorem wf_i64 {a:Int}(h:(Lit.int .i64 a).wf=true): -9223372036854775808<=a/\a<=9223372036854775807:=by
 simp only [Lit.wf,Bool.and_eq_true,decide_eq_true_eq]at h;have h1:IntKind.min .i64= -9223372036854775808:=by decide
 have h2:IntKind.max .i64=9223372036854775807:=by decide
 omega
theorem TE {n yes num most:Int}(hm:(Lit.int .i64 most).wf=true):∃k,Ab.isTrue (cV u9 HO k 3 [.int .i64 n,.int .i64 yes,.int .i64 num,.int .i64 most] kX)=true:=by
 obtain⟨d,s1,⟨k,hk⟩,rfl⟩:=XG (n:=n) (yes:=yes) (num:=num) aaE abV abW abU abY abX ez3 S2 Jh Ya (wf_i64 hm);exact⟨k,by rw [hk]; rfl⟩
theorem X3 {w:World}(h:laidMetH Tryz.prog Rows.equalAsksRow.laid w):Tz.J AM w:=by
 have hm:laidMet Tryz.prog Rows.equalAsksRow.laid w:=by
  unfold laidMetH at h;have e:(Rows.equalAsksRow.laid.filter fun x=>x.2.handleName?.isSome)=[]:=by kernel_rfl
  rw [e]at h;exact h
 obtain⟨ps,hv,_⟩:=hm;obtain⟨_,_,_,_,_,_,_,_,_,_,hv,_⟩:=hv;obtain⟨_,_,_,_,_,_,_,_,_,_,hv,_⟩:=hv;obtain⟨g3,t3,cs3,f3,p3,q3,d1,d2,d3,d4,_,_⟩:=hv;have hg3 : Tryz.prog.globalNamed "internal/strconv.uint64pow10" = some 4 := by kernel_rfl
 have Ri:(Tryz.prog.globals[4]?).map (·.type)=some 351:=by kernel_rfl
 have d1:=hg3.symm.trans d1;cases d1;have d2:=Ri.symm.trans d2;cases d2;have e:(Rows.laid_internal_strconv_uint64pow10:DataW Unit)=Lib.tabData .u64 Lib.pow10Tab:=by kernel_rfl
 rw [e]at d4;refine⟨rfl, ?_⟩;unfold Lib.TabIs;rw [d3,← Lib.cells_of_tab Tryz.underlying351 Tryz.underlying23 (by kernel_rfl) (by kernel_rfl) d4]
end Go.Proofs.Tab
