/- Part. -/
import Derived.ChangeOld
import Derived.ChangeSame
import Derived.LaidHandle
import Derived.Carry
import Derived.Stop.Joined
import Derived.Test.YtdkejjahldkkoaaGreatDoorG44
import Derived.Test.YtdkejjahldkkoaaGreatDoorG45
import Derived.Test.YtdkejjahldkkoaaGreatDoorG46
import Derived.Test.YtdkejjahldkkoaaGreatDoorG47
import Derived.Test.YtdkejjahldkkoaaGreatDoorG48
set_option linter.unusedSimpArgs false
set_option linter.unusedVariables false
set_option linter.unusedSectionVars false
namespace Go.Proofs.YtdkejjahldkkoaaGreatDoor.showNothing
open Go.ChangeShapes Go.WideShapes Go.ChangeAt Go.RowKit
theorem own:ownKnob Tryz.prog.godebug=none:=by kernel_rfl
theorem laidOut:laidOutB Tryz.prog=true:=by kernel_rfl
theorem MY:Tryz.prog.cellsOf 36=8:=by kernel_rfl
open Go.Ab Tab in
theorem Sn:ql Tryz.prog (.slice 8 false vK) 22:=by
 unfold vK;simp only [ql];refine⟨36,Tryz.underlying22,MY,by decide,(fun h=>by cases h),of_decide_eq_true (by kernel_rfl),_,Tryz.underlying36, ?_⟩;rw [MY];simp only [qP,ql,true_and];refine⟨Tryz.underlying3,by kernel_rfl,Tryz.underlying4,by kernel_rfl,⟨_,Tryz.underlying34, ?_⟩,by kernel_rfl,Tryz.underlying9,by kernel_rfl,⟨3,Tryz.underlying26,by kernel_rfl,by simp,by simp,of_decide_eq_true (by kernel_rfl),Tryz.underlying3⟩,by kernel_rfl,Tryz.underlying4,by kernel_rfl,Tryz.underlying4,by kernel_rfl⟩;simp only [qP,ql,true_and];exact⟨Tryz.underlying4,by kernel_rfl,⟨263,Tryz.underlying32,by kernel_rfl,by simp,by simp,of_decide_eq_true (by kernel_rfl),Tryz.underlying263⟩,by kernel_rfl⟩
section
open Go.Ab Tab
abbrev V (a:Int):Go.Ab.eW:=⟨fun _=>a,fun _=> [],fun _=>false⟩
theorem O7 {w w' :World}(h:w'.os=w.os/\w'.tape=w.tape/\w'.output=w.output/\w.heap.size<=w'.heap.size/\∀b,b < w.heap.size->w'.heap[b]? =w.heap[b]?):Below w.heap.size w w' :=⟨h.1,h.2.1,h.2.2.1,h.2.2.2.1,h.2.2.2.2⟩
theorem YQ [Go.Ab.eW]:c9 .none Tryz.prog gl aw:=Oo (wD mixed Py H6 KE 200) aad
set_option maxRecDepth 100000 in
theorem aav [Go.Ab.eW]{H:Type}{enc:TypeId×Value->H}{v0:Value}{d0:DataW H}{p0:List MemPlace}{base:Nat}{a:Int}{b:Bool}{w:World}(k0:Value.okWide Tryz.prog w .any base 22 v0)
  (h0:DataW.Trod enc Tryz.prog w 0 (fun _=>true) true 22 v0 d0 p0)(wa:(Lit.int .i64 a).wf=true)(hw:∀b∈d0.weights Tryz.prog 22,b<=reachBytes)(hl:laidMetH Tryz.prog Rows.showNothingRow.laid w):
  Calls Tryz.prog 3 #[v0,.int .i64 a,.bool b] w fun e w' =>e= .returned (.bool true)/\Below w.heap.size w w' :=by
 obtain⟨nl,L,g0,q0⟩:=GB Sn Tryz.underlying22 k0 h0 hw;obtain⟨tms,rfl,hI⟩:=RQ q0;obtain⟨n,hn⟩:=Rv (pl:=b) hI wa;refine (Qb (wD mixed Py.uR H6 (Yr YQ) n) (f:=3) (w:=w) (vs:=[v0,.int .i64 a,.bool b]) (Wo hl) (aa2 hl) hn ?_).mono fun e w' he=>⟨he.1,O7 he.2⟩;simp only [br,aS];exact⟨_,_,rfl,g0,_,_,rfl,rfl,_,_,rfl,rfl,rfl⟩
set_option maxRecDepth 1000000 in
theorem walk {H:Type}{enc:TypeId×Value->H}{v0:Value}{d0:DataW H}{p0:List MemPlace}{base:Nat}{a:Int}{b:Bool}{w:World}(k0:Value.okWide Tryz.prog w .any base 22 v0)
  (h0:DataW.Trod enc Tryz.prog w 0 (fun _=>true) true 22 v0 d0 p0)(wa:(Lit.int .i64 a).wf=true)(hw:∀b∈d0.weights Tryz.prog 22,b<=reachBytes)(hl:laidMetH Tryz.prog Rows.showNothingRow.laid w):
  Calls Tryz.prog 3 #[v0,.int .i64 a,.bool b] w fun e w' =>e= .returned (.bool true)/\Below w.heap.size w w' := @aav (V 0) _ _ _ _ _ _ _ _ _ k0 h0 wa hw hl
end
def abm:List Int:=[0,1,28,2,29,14,24,3,30,22,20,15,25,17,4,8,31,27,13,23,21,19,16,7,26,12,18,6,11,5,10,9]
def acb:List Int:=[0,1,56,2,57,49,28,3,61,58,42,50,38,29,17,4,62,47,59,36,45,43,51,22,53,39,33,30,24,18,12,5,63,55,48,27,60,41,37,16,46,35,44,21,52,32,23,11,54,26,40,15,34,20,31,10,25,14,19,9,13,8,7,6]
def abd:List Int:=[1,10,100,1000,10000,100000,1000000,10000000,100000000,1000000000,10000000000,100000000000,1000000000000,10000000000000,100000000000000,1000000000000000,10000000000000000,100000000000000000,1000000000000000000,10000000000000000000]
def ab7:List Int:=[128,191,160,191,128,159,144,191,128,143,0,0,0,0,0,0,0,0,0,0,0,0,0,0,0,0,0,0,0,0,0,0]
def W6:List Int:=Go.Pinned.utf8FirstZ.map Int.ofNat
def lay (k:IntKind)(l:List Int):_root_.Go.Obj->_root_.Go.Obj
 | .cells _ t frozen=> .cells (l.map fun z=>Value.int k z).toArray t frozen
 | o=>o
noncomputable def A4 (os:Os):World:=
 {World.holding Tryz.prog os ⟨#[], #[],[]⟩ with heap:=(((((World.holding Tryz.prog os ⟨#[], #[],[]⟩).heap.modify 6 (lay .u8 abm)).modify 7 (lay .u8 acb)).modify 3 (lay .u64 abd)).modify 1 (lay .u8 ab7)).modify 0 (lay .u8 W6)}
theorem MV (os:Os)(args:Array Value):laidMetH Tryz.prog Rows.showNothingRow.laid ((A4 os).forCall (fun _ _=>0) ⟨#[],args,[]⟩).memory:=
 laidMetH_of_parts (laidMet_of_run' 8 (by kernel_rfl) (by kernel_rfl)) (by kernel_rfl)
set_option maxRecDepth 100000 in
theorem lifted (os:Os)(started:os.Started)(H:Type)(enc:TypeId×Value->H):
  ReturnsInHanded {} Tryz.checked os 3 .any (fun w args=>(Rows.showNothingSpec.pre enc Tryz.prog Tryz.f3 [] false w args/\laidMetH Tryz.prog Rows.showNothingRow.laid w)/\sizedMet enc Tryz.prog Tryz.f3 (OpenSpec.ofChange Rows.showNothingSpec) false w args)
   (Rows.showNothingSpec.post enc Tryz.prog Tryz.f3 false true false false):=by
 refine returnsInHanded_of_change_and (C:=Tryz.checked) (X:=fun w _=>laidMetH Tryz.prog Rows.showNothingRow.laid w) (fun _ _ _ hh h=>h.of_heap hh) own started (by kernel_rfl) Tryz.func3
  (ChangeSpec.witness_at (enc:=enc) (C:=Tryz.checked) (os:=os) (X:=fun w _=>laidMetH Tryz.prog Rows.showNothingRow.laid w) false (A4 os) #[.slice none 0 0,.int .i64 0,.bool false] 8 rfl (by kernel_rfl) (by kernel_rfl) (by kernel_rfl) (by kernel_rfl) (by kernel_rfl) (MV os _)) ?_
 intro W base args ds gs before Us hW _ fR Yk _;have Sq:∀(j:Nat) t v,Tryz.f3.params[j]? =some t->args[j]? =some v->Value.okWide Tryz.prog W .any base t v:=Us;have hW' :=hW;obtain⟨p,q,hA0,hV,rfl,hfz,tK⟩:=hW;have hA:DataW.TrodAll enc Tryz.prog W 0 (fun _=>true) true Tryz.f3.params.toList args.toList ds p:=hA0;have dQ:=DataW.TrodAll.lt hA;rw [Tryz.params3]at hA Sq;obtain⟨v0,vs0,d0,ds0,p0,q0,acD,rfl,rfl,h0,r0⟩:=trodAll_cons hA;obtain⟨v1,vs1,d1,ds1,p1,q1,rfl,rfl,rfl,h1,r1⟩:=trodAll_cons r0;obtain⟨v2,vs2,d2,ds2,p2,q2,rfl,rfl,rfl,h2,r2⟩:=trodAll_cons r1;obtain⟨rfl,rfl,rfl⟩:=trodAll_nil r2;obtain rfl:args= #[v0,v1,v2]:=by cases args; simp_all
 obtain⟨rfl,rfl⟩:=trodVars_none hV;obtain⟨a,rfl,rfl,rfl,wa⟩:=open_int Tryz.underlying3 (Sq 1 3 v1 rfl rfl) h1;obtain⟨b,rfl,rfl,rfl⟩:=open_bool Tryz.underlying4 (Sq 2 4 v2 rfl rfl) h2;clear hA0 Us
 have hw:∀b∈d0.weights Tryz.prog 22,b<=reachBytes:=fun b hb=>by
  rw [Tryz.params3]at fR;rw [List.all_eq_true]at fR;exact of_decide_eq_true (fR b (Go.Ab.nN (i:=0) rfl rfl hb))
 refine (walk (Sq 0 22 v0 rfl rfl) h0 wa hw Yk).mono fun e W' ⟨he,bel⟩=> ?_;subst he;have t0:=Below.trod laidOut (by kernel_rfl) (of_decide_eq_true (by kernel_rfl)) h0 bel (fun x hx=>dQ x (by simp [hx]));exact⟨_,rfl,_,_,_,[],_,[],hW',trodAll_mk1 (shut_bool Tryz.underlying4 _),(trodAll_cons_mk t0 (trodAll_cons_mk (shut_int Tryz.underlying3 wa) (trodAll_cons_mk (shut_bool Tryz.underlying4 b) trodAll_mk0))),rfl,bel.frame _,fun h=>by cases h⟩
theorem closed:joinedFacts Tryz.pinned.checked.prog 3 Tryz.f3 Rows.showNothingSpec Rows.showNothingRow=true:=by
 unfold joinedFacts;rw [abH,Kl,B1,FT,RE,E6,B4,GV];kernel_rfl
theorem over:Rows.showNothingRow.holds Tryz.pinned (OpenSpec.ofChange Rows.showNothingSpec):=
 OpenClaim.holds_of_wide 3 Tryz.f3 rfl rfl rfl rfl rfl rfl rfl ⟨rfl,rfl,rfl,rfl,rfl⟩ rfl rfl rfl rfl rfl (by kernel_rfl) Tryz.func3 closed
  (of_decide_eq_true (by kernel_rfl)) (by unfold Func.isWrapper; first | (rw [if_pos (by decide+kernel)]; kernel_rfl) | (rw [if_neg (by decide+kernel)]; exact ⟨rfl,rfl⟩))
  (fun os started H enc _=>lifted os started H enc)
end Go.Proofs.YtdkejjahldkkoaaGreatDoor.showNothing
