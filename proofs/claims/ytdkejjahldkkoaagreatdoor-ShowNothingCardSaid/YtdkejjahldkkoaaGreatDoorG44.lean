/- Part. -/
import Derived.Test.YtdkejjahldkkoaaGreatDoorRows
import Derived.Test.YtdkejjahldkkoaaGreatDoorG41
import Derived.Test.YtdkejjahldkkoaaGreatDoorG43
set_option linter.unusedSectionVars false
set_option maxRecDepth 100000
set_option linter.unusedSimpArgs false
set_option linter.unusedVariables false
namespace Go.Proofs.Tab
open Go Go.Ab Go.Ab.Sm Go.Proofs.YtdkejjahldkkoaaGreatDoor
def vK:Sh:= .st [.int .i64,.bool,.st [.bool,.slice 1 true (.int .u32)],.str,.slice 1 true (.int .i64),.bool,.bool]
theorem wf_u32 {a:Int}(h:(Lit.int .u32 a).wf=true):0<=a/\a < 4294967296:=by
 simp only [Lit.wf,Bool.and_eq_true,decide_eq_true_eq]at h;have h1:IntKind.min .u32=0:=by decide
 have h2:IntKind.max .u32=4294967295:=by decide
 omega
theorem IX:∀m:List D,(∀d,d∈m->∃l,d=R9 true l/\∃n,l=[.int .u32 n]/\(Lit.int .u32 n).wf=true)->∃M:List Nat,m=dz M/\∀v∈M,v < 4294967296
 | [],_=>⟨[],rfl,fun v h=>by cases h⟩
 | d::m,h=>by
  obtain⟨M,e1,e2⟩:=IX m fun x hx=>h x (List.mem_cons_of_mem _ hx);obtain⟨l,rfl,n,rfl,hw⟩:=h d (by simp);obtain⟨h1,h2⟩:=wf_u32 hw;refine⟨n.toNat::M, ?_,fun v hv=> ?_⟩
  ·simp only [dz,List.map_cons,R9,List.headD_cons];rw [e1,dz,show ((n.toNat:Nat):Int)=n by omega]
  ·rcases List.mem_cons.1 hv with rfl | hv
   ·omega
   ·exact e2 v hv
theorem IS:∀m:List D,(∀d,d∈m->∃l,d=R9 true l/\∃n,l=[.int .i64 n]/\(Lit.int .i64 n).wf=true)->∃M:List Int,m=ints M
 | [],_=>⟨[],rfl⟩
 | d::m,h=>by
  obtain⟨M,e1⟩:=IS m fun x hx=>h x (List.mem_cons_of_mem _ hx);obtain⟨l,rfl,n,rfl,hw⟩:=h d (by simp);exact⟨n::M,by simp only [ints,List.map_cons,R9,List.headD_cons]; rw [e1,ints]⟩
def OH (t:Tm):Prop:=(t.n1=true->t.mag=[])/\(t.n2=true->t.kids=[])/\(∀w∈t.mag,w < 4294967296)/\Gg 1000000000000000000 t
theorem QS {d:D}(h:∃l,d=R9 false l/\qg vK l):∃t:Tm,d=t.d/\OH t:=by
 have hr:reachBytes<=1000000000000000000:=by decide
 obtain⟨l,rfl,h⟩:=h;simp only [vK,qg,BV]at h;obtain⟨a1,r1,rfl,⟨k,rfl,_⟩,a2,r2,rfl,⟨b,rfl⟩,a3,r3,rfl,⟨c1,q1,rfl,⟨ng,rfl⟩,c2,q2,rfl,⟨n1,m,rfl,zQ,hm1,hm⟩,rfl⟩,a4,r4,rfl,⟨tx,rfl,BZ⟩,a5,r5,rfl,⟨n2,ks,rfl,qX,vm,hk⟩,a6,r6,rfl,⟨hs,rfl⟩,a7,r7,rfl,⟨sm,rfl⟩,rfl⟩:=h;obtain⟨M,rfl,hM⟩:=IX m hm;obtain⟨K,rfl⟩:=IS ks hk;have e1:(dz M).length=M.length:=List.length_map _;have e2:=fw K;refine⟨⟨k,b,ng,n1,M,tx,n2,K,hs,sm⟩,rfl,fun h=> ?_,fun h=> ?_,hM,by show K.length<=_; omega,by show tx.length<=_; omega,by show M.length<=_; omega⟩
 ·have:=zQ h; exact List.eq_nil_of_length_eq_zero (by rw [← e1,this]; rfl)
 ·have:=qX h; exact List.eq_nil_of_length_eq_zero (by rw [← e2,this]; rfl)
theorem EI:∀L:List D,(∀d,d∈L->∃l,d=R9 false l/\qg vK l)->∃tms:List Tm,L=tms.map Tm.d/\∀t∈tms,OH t
 | [],_=>⟨[],rfl,fun t h=>by cases h⟩
 | d::L,h=>by
  obtain⟨tms,e1,e2⟩:=EI L fun x hx=>h x (List.mem_cons_of_mem _ hx);obtain⟨t,rfl,ht⟩:=QS (h d (by simp))
  exact⟨t::tms,by rw [List.map_cons,e1],fun u hu=>by
   rcases List.mem_cons.1 hu with rfl | hu
   ·exact ht
   ·exact e2 u hu⟩
theorem RQ {nl:Bool}{L:List D}(h:qg (.slice 8 false vK) [.vs nl 8 L]):∃tms:List Tm,L=tms.map Tm.d/\A5 nl tms:=by
 have hr:reachBytes<=1000000000000000000:=by decide
 simp only [qg]at h;obtain⟨nl',L',he,hn,hl,hx⟩:=h;simp only [List.cons.injEq,D.vs.injEq,and_true,true_and]at he;obtain⟨rfl,rfl⟩:=he;obtain⟨tms,rfl,ht⟩:=EI L hx;rw [List.length_map]at hl;exact⟨tms,rfl,⟨by omega,fun h=>List.map_eq_nil_iff.mp (hn h),fun t h=>(ht t h).1,fun t h=>(ht t h).2.1,fun t h=>(ht t h).2.2.1,fun t h=>(ht t h).2.2.2⟩⟩
def Pb:List Int:=Go.Pinned.utf8FirstZ.map Int.ofNat
def Ii:List (Int×Int):=[(128,191),(160,191),(128,159),(144,191),(128,143),(0,0),(0,0),(0,0),(0,0),(0,0),(0,0),(0,0),(0,0),(0,0),(0,0),(0,0)]
theorem Ky:CH=Pb.map (D.int .u8):=by kernel_rfl
theorem Hq:BE=(Ii.flatMap fun z=> [z.1,z.2]).map (D.int .u8):=by kernel_rfl
theorem LH:Rows.laid_unicode_utf8_first= .agg (Pb.map fun z=> .lit (.int .u8 z)):=by kernel_rfl
theorem I4:(Rows.laid_unicode_utf8_acceptRanges:DataW Unit)= .agg (Ii.map fun z=> .agg [.lit (.int .u8 z.1),.lit (.int .u8 z.2)]):=by kernel_rfl
theorem NT {k:IntKind}(Z:List (Int×Int)):HT k Z=(Z.flatMap fun z=> [z.1,z.2]).map (Value.int k):=by
 induction Z with
 | nil=>rfl
 | cons z Z ih=>simp only [HT,List.flatMap_cons,List.map_append,List.map_cons,List.map_nil]at ih ⊢; rw [ih]
theorem DY {P:Program}{w:World}{n:String}{g:Nat}{cs:Array Value}(hg:P.globalNamed n=some g)(h:w.var? P n=some cs):∃ty fz,w.heap[g]? =some (.cells cs ty fz):=by
 unfold World.var? at h;rw [hg]at h;simp only [Option.bind_some]at h;split at h
 ·rename_i c t f hh;cases h;exact⟨_,_,hh⟩
 ·cases h
theorem aa2 [Go.Ab.eW]{w:World}(h:laidMetH Tryz.prog Rows.showNothingRow.laid w):∀g d,gl g=some d->aS tH w (.jE d 0) (.pointer (some ⟨g,0,none⟩)):=by
 have hm:laidMet Tryz.prog Rows.showNothingRow.laid w:=by
  unfold laidMetH at h;have e:(Rows.showNothingRow.laid.filter fun x=>x.2.handleName?.isSome)=[]:=by kernel_rfl
  rw [e]at h;exact h
 obtain⟨ps,hv,_⟩:=hm;obtain⟨_,_,_,_,_,_,_,_,_,_,hv,_⟩:=hv;obtain⟨_,_,_,_,_,_,_,_,_,_,hv,_⟩:=hv;obtain⟨_,_,_,_,_,_,_,_,_,_,hv,_⟩:=hv;obtain⟨g2,t2,cs2,f2,p2,q2,a1,a2,a3,a4,hv,_⟩:=hv;obtain⟨g1,t1,cs1,f1,p1,q1,b1,b2,b3,b4,hv,_⟩:=hv;have FF : Tryz.prog.globalNamed "unicode/utf8.acceptRanges" = some 1 := by kernel_rfl
 have UB : Tryz.prog.globalNamed "unicode/utf8.first" = some 0 := by kernel_rfl
 have sO:(Tryz.prog.globals[1]?).map (·.type)=some 229:=by kernel_rfl
 have tW:(Tryz.prog.globals[0]?).map (·.type)=some 226:=by kernel_rfl
 have a1:=FF.symm.trans a1;have b1:=UB.symm.trans b1;cases a1; cases b1;have a2:=sO.symm.trans a2;have b2:=tW.symm.trans b2;cases a2; cases b2;obtain⟨ty2,fz2,hh2⟩:=DY FF a3;obtain⟨ty1,fz1,hh1⟩:=DY UB b3;rw [I4]at a4;rw [LH]at b4;have c1:=N3 Tryz.underlying226 Tryz.underlying5 (by kernel_rfl) (by kernel_rfl) b4;have c2:=JF Tryz.underlying229 Tryz.underlying228 rfl rfl (by kernel_rfl) (by kernel_rfl) Tryz.underlying5 Tryz.underlying5 (by kernel_rfl) (by kernel_rfl) a4;rw [NT]at c2;intro g d hd;unfold gl at hd;cases e1:Nat.beq g 0 with
 | true=>
  obtain rfl:=Nat.eq_of_beq_eq_true e1;simp only [e1,cond,Option.some.injEq]at hd;subst hd;show aS tH w (.jE (.agg CH) 0) _;rw [Ky];exact Ee hh1 c1 (by decide)
 | false=>
  simp only [e1,cond]at hd;cases e2:Nat.beq g 1 with
  | true=>
   obtain rfl:=Nat.eq_of_beq_eq_true e2;simp only [e2,cond,Option.some.injEq]at hd;subst hd;show aS tH w (.jE (.agg BE) 0) _;rw [Hq];exact Ee hh2 c2 (by decide)
  | false=>simp only [e2,cond]at hd; cases hd
theorem aad:∀g d,gl g=some d->d.im=true:=by
 intro g d hd;unfold gl at hd;cases e1:Nat.beq g 0 with
 | true=>simp only [e1,cond,Option.some.injEq]at hd; subst hd; decide
 | false=>
  simp only [e1,cond]at hd;cases e2:Nat.beq g 1 with
  | true=>simp only [e2,cond,Option.some.injEq]at hd; subst hd; decide
  | false=>simp only [e2,cond]at hd; cases hd
theorem WM:st0.Ok:=⟨rfl,rfl,fun o _=>rfl⟩
theorem wf_i64 {a:Int}(h:(Lit.int .i64 a).wf=true): -9223372036854775808<=a/\a<=9223372036854775807:=by
 simp only [Lit.wf,Bool.and_eq_true,decide_eq_true_eq]at h;have h1:IntKind.min .i64= -9223372036854775808:=by decide
 have h2:IntKind.max .i64=9223372036854775807:=by decide
 omega
theorem Rv {nl pl:Bool}{tms:List Tm}(h:A5 nl tms){v:Int}(hv:(Lit.int .i64 v).wf=true):∃n,Ab.isTrue (dH rp (hk aw) n 3 [.vs nl 8 (tms.map Tm.d),.int .i64 v,.bool pl] st0)=true:=by
 obtain⟨d,s1,⟨n,hn⟩,rfl⟩:=WL (pn:=pl) abC acv abK abb aby acy abJ acq aaN aax aaz KQ WM h (wf_i64 hv).1 (wf_i64 hv).2;exact⟨n,by rw [hn]; rfl⟩
theorem Wo {w:World}(h:laidMetH Tryz.prog Rows.showNothingRow.laid w):Wg.J tH w:=by
 have hm:laidMet Tryz.prog Rows.showNothingRow.laid w:=by
  unfold laidMetH at h;have e:(Rows.showNothingRow.laid.filter fun x=>x.2.handleName?.isSome)=[]:=by kernel_rfl
  rw [e]at h;exact h
 obtain⟨ps,hv,_⟩:=hm;obtain⟨_,_,_,_,_,_,_,_,_,_,hv,_⟩:=hv;obtain⟨_,_,_,_,_,_,_,_,_,_,hv,_⟩:=hv;obtain⟨g3,t3,cs3,f3,p3,q3,d1,d2,d3,d4,_,_⟩:=hv;have hg3 : Tryz.prog.globalNamed "internal/strconv.uint64pow10" = some 3 := by kernel_rfl
 have Jj:(Tryz.prog.globals[3]?).map (·.type)=some 377:=by kernel_rfl
 have d1:=hg3.symm.trans d1;cases d1;have d2:=Jj.symm.trans d2;cases d2;have e:(Rows.laid_internal_strconv_uint64pow10:DataW Unit)=Lib.tabData .u64 Lib.pow10Tab:=by kernel_rfl
 rw [e]at d4;refine⟨rfl, ?_⟩;unfold Lib.TabIs;rw [d3,← Lib.cells_of_tab Tryz.underlying377 Tryz.underlying237 (by kernel_rfl) (by kernel_rfl) d4]
end Go.Proofs.Tab
