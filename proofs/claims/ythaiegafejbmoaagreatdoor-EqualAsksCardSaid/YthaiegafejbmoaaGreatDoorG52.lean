/- Part. -/
import Derived.ChangeOld
import Derived.ChangeSame
import Derived.LaidHandle
import Derived.Carry
import Derived.Stop.Joined
import Derived.Test.YthaiegafejbmoaaGreatDoorG47
import Derived.Test.YthaiegafejbmoaaGreatDoorG48
import Derived.Test.YthaiegafejbmoaaGreatDoorG49
import Derived.Test.YthaiegafejbmoaaGreatDoorG50
import Derived.Test.YthaiegafejbmoaaGreatDoorG51
set_option linter.unusedSimpArgs false
set_option linter.unusedVariables false
set_option linter.unusedSectionVars false
namespace Go.Proofs.YthaiegafejbmoaaGreatDoor.equalAsks
open Go.ChangeShapes Go.WideShapes Go.ChangeAt Go.RowKit
theorem own:ownKnob Tryz.prog.godebug=none:=by kernel_rfl
section
open Go.Ab Tab
abbrev V (a:Int):Go.Ab.eh:=⟨fun _=>a,fun _=> [],fun _=>false⟩
theorem Mb {w w' :World}(h:w'.os=w.os/\w'.tape=w.tape/\w'.output=w.output/\w.heap.size<=w'.heap.size/\∀b,b < w.heap.size->w'.heap[b]? =w.heap[b]?):Below w.heap.size w w' :=⟨h.1,h.2.1,h.2.2.1,h.2.2.2.1,h.2.2.2.2⟩
theorem Ui [Go.Ab.eh]:cm .none Tryz.prog gl aw:=LY (rv mixed Hp Ci Kx 200) ZI
theorem aas [Go.Ab.eh]:cm Tz Tryz.prog gl HO:=WS (SX fun n=>rv mixed Hp.qP Ci (UK Ui) n) (UK Ui) rfl
set_option maxRecDepth 100000 in
theorem aaW [Go.Ab.eh]{a b c d:Int}{w:World}(wd:(Lit.int .i64 d).wf=true)(hl:laidMetH Tryz.prog Rows.equalAsksRow.laid w):
  Calls Tryz.prog 3 #[.int .i64 a,.int .i64 b,.int .i64 c,.int .i64 d] w fun e w' =>e= .returned (.bool true)/\Below w.heap.size w w' :=by
 obtain⟨n,hn⟩:=TE (n:=a) (yes:=b) (num:=c) wd;refine (T5 (rv mixed Hp.qP Ci aas n) (f:=3) (w:=w) (vs:=[.int .i64 a,.int .i64 b,.int .i64 c,.int .i64 d]) (X3 hl) (ZJ hl) hn ?_).mono fun e w' he=>⟨he.1,Mb he.2⟩;simp only [bu,aR];exact⟨_,_,rfl,rfl,_,_,rfl,rfl,_,_,rfl,rfl,_,_,rfl,rfl,rfl⟩
set_option maxRecDepth 1000000 in
theorem walk {a b c d:Int}{w:World}(wd:(Lit.int .i64 d).wf=true)(hl:laidMetH Tryz.prog Rows.equalAsksRow.laid w):
  Calls Tryz.prog 3 #[.int .i64 a,.int .i64 b,.int .i64 c,.int .i64 d] w fun e w' =>e= .returned (.bool true)/\Below w.heap.size w w' := @aaW (V 0) _ _ _ _ _ wd hl
end
def acd:List Int:=[0,1,28,2,29,14,24,3,30,22,20,15,25,17,4,8,31,27,13,23,21,19,16,7,26,12,18,6,11,5,10,9]
def ace:List Int:=[0,1,56,2,57,49,28,3,61,58,42,50,38,29,17,4,62,47,59,36,45,43,51,22,53,39,33,30,24,18,12,5,63,55,48,27,60,41,37,16,46,35,44,21,52,32,23,11,54,26,40,15,34,20,31,10,25,14,19,9,13,8,7,6]
def acf:List Int:=[1,10,100,1000,10000,100000,1000000,10000000,100000000,1000000000,10000000000,100000000000,1000000000000,10000000000000,100000000000000,1000000000000000,10000000000000000,100000000000000000,1000000000000000000,10000000000000000000]
def acg:List Int:=[128,191,160,191,128,159,144,191,128,143,0,0,0,0,0,0,0,0,0,0,0,0,0,0,0,0,0,0,0,0,0,0]
def WQ:List Int:=Go.Pinned.utf8FirstZ.map Int.ofNat
def lay (k:IntKind)(l:List Int):_root_.Go.Obj->_root_.Go.Obj
 | .cells _ t frozen=> .cells (l.map fun z=>Value.int k z).toArray t frozen
 | o=>o
noncomputable def Bq (os:Os):World:=
 {World.holding Tryz.prog os ⟨#[], #[],[]⟩ with heap:=(((((World.holding Tryz.prog os ⟨#[], #[],[]⟩).heap.modify 6 (lay .u8 acd)).modify 7 (lay .u8 ace)).modify 4 (lay .u64 acf)).modify 1 (lay .u8 acg)).modify 0 (lay .u8 WQ)}
theorem Pc (os:Os)(args:Array Value):laidMetH Tryz.prog Rows.equalAsksRow.laid ((Bq os).forCall (fun _ _=>0) ⟨#[],args,[]⟩).memory:=
 laidMetH_of_parts (laidMet_of_run' 8 (by kernel_rfl) (by kernel_rfl)) (by kernel_rfl)
set_option maxRecDepth 100000 in
theorem lifted (os:Os)(started:os.Started)(H:Type)(enc:TypeId×Value->H):
  ReturnsInHanded {} Tryz.checked os 3 .any (fun w args=>(Rows.equalAsksSpec.pre enc Tryz.prog Tryz.f3 [] false w args/\laidMetH Tryz.prog Rows.equalAsksRow.laid w)/\sizedMet enc Tryz.prog Tryz.f3 (OpenSpec.ofChange Rows.equalAsksSpec) false w args)
   (Rows.equalAsksSpec.post enc Tryz.prog Tryz.f3 false true false false):=by
 refine returnsInHanded_of_change_and (C:=Tryz.checked) (X:=fun w _=>laidMetH Tryz.prog Rows.equalAsksRow.laid w) (fun _ _ _ hh h=>h.of_heap hh) own started (by kernel_rfl) Tryz.func3
  (ChangeSpec.witness_at (enc:=enc) (C:=Tryz.checked) (os:=os) (X:=fun w _=>laidMetH Tryz.prog Rows.equalAsksRow.laid w) false (Bq os) #[.int .i64 0,.int .i64 0,.int .i64 0,.int .i64 0] 8 rfl (by kernel_rfl) (by kernel_rfl) (by kernel_rfl) (by kernel_rfl) (by kernel_rfl) (Pc os _)) ?_
 intro W base args ds gs before US hW _ fQ aal _;have O2:∀(j:Nat) t v,Tryz.f3.params[j]? =some t->args[j]? =some v->Value.okWide Tryz.prog W .any base t v:=US;have hW' :=hW;obtain⟨p,q,hA0,hV,rfl,hfz,sE⟩:=hW;have hA:DataW.TrodAll enc Tryz.prog W 0 (fun _=>true) true Tryz.f3.params.toList args.toList ds p:=hA0;have eW:=DataW.TrodAll.lt hA;rw [Tryz.params3]at hA O2;obtain⟨v0,vs0,d0,ds0,p0,q0,ach,rfl,rfl,h0,r0⟩:=trodAll_cons hA;obtain⟨v1,vs1,d1,ds1,p1,q1,rfl,rfl,rfl,h1,r1⟩:=trodAll_cons r0;obtain⟨v2,vs2,d2,ds2,p2,q2,rfl,rfl,rfl,h2,r2⟩:=trodAll_cons r1;obtain⟨v3,vs3,d3,ds3,p3,q3,rfl,rfl,rfl,h3,r3⟩:=trodAll_cons r2;obtain⟨rfl,rfl,rfl⟩:=trodAll_nil r3;obtain rfl:args= #[v0,v1,v2,v3]:=by cases args; simp_all
 obtain⟨rfl,rfl⟩:=trodVars_none hV;obtain⟨a,rfl,rfl,rfl,wa⟩:=open_int Tryz.underlying3 (O2 0 3 v0 rfl rfl) h0;obtain⟨b,rfl,rfl,rfl,wb⟩:=open_int Tryz.underlying3 (O2 1 3 v1 rfl rfl) h1;obtain⟨c,rfl,rfl,rfl,wc⟩:=open_int Tryz.underlying3 (O2 2 3 v2 rfl rfl) h2;obtain⟨d,rfl,rfl,rfl,wd⟩:=open_int Tryz.underlying3 (O2 3 3 v3 rfl rfl) h3;clear hA0 US;refine (walk wd aal).mono fun e W' ⟨he,bel⟩=> ?_;subst he;exact⟨_,rfl,_,_,_,[],_,[],hW',trodAll_mk1 (shut_bool Tryz.underlying4 _),(trodAll_cons_mk (shut_int Tryz.underlying3 wa) (trodAll_cons_mk (shut_int Tryz.underlying3 wb) (trodAll_cons_mk (shut_int Tryz.underlying3 wc) (trodAll_cons_mk (shut_int Tryz.underlying3 wd) trodAll_mk0)))),rfl,bel.frame _,fun h=>by cases h⟩
theorem closed:joinedFacts Tryz.pinned.checked.prog 3 Tryz.f3 Rows.equalAsksSpec Rows.equalAsksRow=true:=by
 unfold joinedFacts;rw [abZ,J9,Cq,GO,SQ,Ep,Cp,GN];kernel_rfl
theorem over:Rows.equalAsksRow.holds Tryz.pinned (OpenSpec.ofChange Rows.equalAsksSpec):=
 OpenClaim.holds_of_wide 3 Tryz.f3 rfl rfl rfl rfl rfl rfl rfl ⟨rfl,rfl,rfl,rfl,rfl⟩ rfl rfl rfl rfl rfl (by kernel_rfl) Tryz.func3 closed
  (of_decide_eq_true (by kernel_rfl)) (by unfold Func.isWrapper; first | (rw [if_pos (by decide+kernel)]; kernel_rfl) | (rw [if_neg (by decide+kernel)]; exact ⟨rfl,rfl⟩))
  (fun os started H enc _=>lifted os started H enc)
end Go.Proofs.YthaiegafejbmoaaGreatDoor.equalAsks
