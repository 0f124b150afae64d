/-
  EqualNothing returns true for whatever terms and two numbers; the arguments read as they did.
  The shell is turned from the kit's worked proofs; the walk is our own.
-/
import Derived.Test.YtjaldhgmboeffaaGreatDoorCards
import Derived.Test.YtjaldhgmboeffaaGreatDoorTie
import Derived.ChangeOld
import Derived.ChangeSame
import Derived.LaidHandle
import Derived.Carry
import Derived.Stop.Joined
import Derived.Test.YtjaldhgmboeffaaGreatDoorG48
import Derived.Test.YtjaldhgmboeffaaGreatDoorG49
import Derived.Test.YtjaldhgmboeffaaGreatDoorG50
import Derived.Test.YtjaldhgmboeffaaGreatDoorG51
namespace Go.Proofs.YtjaldhgmboeffaaGreatDoor.equalNothing
open Go.ChangeShapes Go.WideShapes Go.ChangeAt Go.RowKit
theorem own:ownKnob Tryz.prog.godebug=none:=by kernel_rfl
theorem laidOut:laidOutB Tryz.prog=true:=by kernel_rfl
theorem Ij:Tryz.prog.cellsOf 48=8:=by kernel_rfl
open Go.Ab Tab in
theorem QL:qb Tryz.prog (.slice 8 false vx) 22:=by
 unfold vx;simp only [qb];refine⟨48,Tryz.underlying22,Ij,by decide,(fun h=>by cases h),of_decide_eq_true (by kernel_rfl),_,Tryz.underlying48, ?_⟩;rw [Ij];simp only [qC,qb,true_and];refine⟨Tryz.underlying3,by kernel_rfl,Tryz.underlying4,by kernel_rfl,⟨_,Tryz.underlying46, ?_⟩,by kernel_rfl,Tryz.underlying9,by kernel_rfl,⟨3,Tryz.underlying39,by kernel_rfl,by simp,by simp,of_decide_eq_true (by kernel_rfl),Tryz.underlying3⟩,by kernel_rfl,Tryz.underlying4,by kernel_rfl,Tryz.underlying4,by kernel_rfl⟩;simp only [qC,qb,true_and];exact⟨Tryz.underlying4,by kernel_rfl,⟨194,Tryz.underlying44,by kernel_rfl,by simp,by simp,of_decide_eq_true (by kernel_rfl),Tryz.underlying194⟩,by kernel_rfl⟩
section
open Go.Ab Tab
abbrev V (a:Int):Go.Ab.eV:=⟨fun _=>a,fun _=> [],fun _=>false⟩
theorem My {w w' :World}(h:w'.os=w.os/\w'.tape=w.tape/\w'.output=w.output/\w.heap.size<=w'.heap.size/\∀b,b < w.heap.size->w'.heap[b]? =w.heap[b]?):Below w.heap.size w w' :=⟨h.1,h.2.1,h.2.2.1,h.2.2.2.1,h.2.2.2.2⟩
theorem aaA [Go.Ab.eV]:dR .none Tryz.prog gl aw:=Nx (wy mixed OB IQ Kt 200) YP
set_option maxRecDepth 100000 in
theorem ZD [Go.Ab.eV]{H:Type}{enc:TypeId×Value->H}{v0:Value}{d0:DataW H}{p0:List MemPlace}{base:Nat}{a b:Int}{w:World}(k0:Value.okWide Tryz.prog w .any base 22 v0)
  (h0:DataW.Trod enc Tryz.prog w 0 (fun _=>true) true 22 v0 d0 p0)(wa:(Lit.int .i64 a).wf=true)(hw:∀b∈d0.weights Tryz.prog 22,b<=reachBytes)(hl:laidMetH Tryz.prog Rows.equalNothingRow.laid w):
  Calls Tryz.prog 3 #[v0,.int .i64 a,.int .i64 b] w fun e w' =>e= .returned (.bool true)/\Below w.heap.size w w' :=by
 obtain⟨nl,L,g0,q0⟩:=GU QL Tryz.underlying22 k0 h0 hw;obtain⟨tms,rfl,hI⟩:=Qy q0;obtain⟨n,hn⟩:=P9 (goal:=b) hI wa;refine (RR (wy mixed OB.uj IQ (YT aaA) n) (f:=3) (w:=w) (vs:=[v0,.int .i64 a,.int .i64 b]) (Zx hl) hn ?_).mono fun e w' he=>⟨he.1,My he.2⟩;simp only [bw,aU];exact⟨_,_,rfl,g0,_,_,rfl,rfl,_,_,rfl,rfl,rfl⟩
set_option maxRecDepth 1000000 in
theorem walk {H:Type}{enc:TypeId×Value->H}{v0:Value}{d0:DataW H}{p0:List MemPlace}{base:Nat}{a b:Int}{w:World}(k0:Value.okWide Tryz.prog w .any base 22 v0)
  (h0:DataW.Trod enc Tryz.prog w 0 (fun _=>true) true 22 v0 d0 p0)(wa:(Lit.int .i64 a).wf=true)(hw:∀b∈d0.weights Tryz.prog 22,b<=reachBytes)(hl:laidMetH Tryz.prog Rows.equalNothingRow.laid w):
  Calls Tryz.prog 3 #[v0,.int .i64 a,.int .i64 b] w fun e w' =>e= .returned (.bool true)/\Below w.heap.size w w' := @ZD (V 0) _ _ _ _ _ _ _ _ _ k0 h0 wa hw hl
end
def abt:List Int:=[0,1,28,2,29,14,24,3,30,22,20,15,25,17,4,8,31,27,13,23,21,19,16,7,26,12,18,6,11,5,10,9]
def abi:List Int:=[0,1,56,2,57,49,28,3,61,58,42,50,38,29,17,4,62,47,59,36,45,43,51,22,53,39,33,30,24,18,12,5,63,55,48,27,60,41,37,16,46,35,44,21,52,32,23,11,54,26,40,15,34,20,31,10,25,14,19,9,13,8,7,6]
def aby:List Int:=[1,10,100,1000,10000,100000,1000000,10000000,100000000,1000000000,10000000000,100000000000,1000000000000,10000000000000,100000000000000,1000000000000000,10000000000000000,100000000000000000,1000000000000000000,10000000000000000000]
def abQ:List Int:=[128,191,160,191,128,159,144,191,128,143,0,0,0,0,0,0,0,0,0,0,0,0,0,0,0,0,0,0,0,0,0,0]
def XC:List Int:=Go.Pinned.utf8FirstZ.map Int.ofNat
def lay (k:IntKind)(l:List Int):_root_.Go.Obj->_root_.Go.Obj
 | .cells _ t frozen=> .cells (l.map fun z=>Value.int k z).toArray t frozen
 | o=>o
noncomputable def A0 (os:Os):World:=
 {World.holding Tryz.prog os ⟨#[], #[],[]⟩ with heap:=(((((World.holding Tryz.prog os ⟨#[], #[],[]⟩).heap.modify 6 (lay .u8 abt)).modify 7 (lay .u8 abi)).modify 4 (lay .u64 aby)).modify 1 (lay .u8 abQ)).modify 0 (lay .u8 XC)}
theorem NZ (os:Os)(args:Array Value):laidMetH Tryz.prog Rows.equalNothingRow.laid ((A0 os).forCall (fun _ _=>0) ⟨#[],args,[]⟩).memory:=
 laidMetH_of_parts (laidMet_of_run' 8 (by kernel_rfl) (by kernel_rfl)) (by kernel_rfl)
set_option maxRecDepth 100000 in
theorem lifted (os:Os)(started:os.Started)(H:Type)(enc:TypeId×Value->H):
  ReturnsInHanded {} Tryz.checked os 3 .any (fun w args=>(Rows.equalNothingSpec.pre enc Tryz.prog Tryz.f3 [] false w args/\laidMetH Tryz.prog Rows.equalNothingRow.laid w)/\sizedMet enc Tryz.prog Tryz.f3 (OpenSpec.ofChange Rows.equalNothingSpec) false w args)
   (Rows.equalNothingSpec.post enc Tryz.prog Tryz.f3 false true false false):=by
 refine returnsInHanded_of_change_and (C:=Tryz.checked) (X:=fun w _=>laidMetH Tryz.prog Rows.equalNothingRow.laid w) (fun _ _ _ hh h=>h.of_heap hh) own started (by kernel_rfl) Tryz.func3
  (ChangeSpec.witness_at (enc:=enc) (C:=Tryz.checked) (os:=os) (X:=fun w _=>laidMetH Tryz.prog Rows.equalNothingRow.laid w) false (A0 os) #[.slice none 0 0,.int .i64 0,.int .i64 0] 8 rfl (by kernel_rfl) (by kernel_rfl) (by kernel_rfl) (by kernel_rfl) (by kernel_rfl) (NZ os _)) ?_
 intro W base args ds gs before U4 hW _ fS aap _;have Qa:∀(j:Nat) t v,Tryz.f3.params[j]? =some t->args[j]? =some v->Value.okWide Tryz.prog W .any base t v:=U4;have hW' :=hW;obtain⟨p,q,hA0,hV,rfl,hfz,tc⟩:=hW;have hA:DataW.TrodAll enc Tryz.prog W 0 (fun _=>true) true Tryz.f3.params.toList args.toList ds p:=hA0;have dM:=DataW.TrodAll.lt hA;rw [Tryz.params3]at hA Qa;obtain⟨v0,vs0,d0,ds0,p0,q0,acg,rfl,rfl,h0,r0⟩:=trodAll_cons hA;obtain⟨v1,vs1,d1,ds1,p1,q1,rfl,rfl,rfl,h1,r1⟩:=trodAll_cons r0;obtain⟨v2,vs2,d2,ds2,p2,q2,rfl,rfl,rfl,h2,r2⟩:=trodAll_cons r1;obtain⟨rfl,rfl,rfl⟩:=trodAll_nil r2;obtain rfl:args= #[v0,v1,v2]:=by cases args; simp_all
 obtain⟨rfl,rfl⟩:=trodVars_none hV;obtain⟨a,rfl,rfl,rfl,wa⟩:=open_int Tryz.underlying3 (Qa 1 3 v1 rfl rfl) h1;obtain⟨b,rfl,rfl,rfl,wb⟩:=open_int Tryz.underlying3 (Qa 2 3 v2 rfl rfl) h2;clear hA0 U4
 have hw:∀b∈d0.weights Tryz.prog 22,b<=reachBytes:=fun b hb=>by
  rw [Tryz.params3]at fS;rw [List.all_eq_true]at fS;exact of_decide_eq_true (fS b (Go.Ab.nQ (i:=0) rfl rfl hb))
 refine (walk (Qa 0 22 v0 rfl rfl) h0 wa hw aap).mono fun e W' ⟨he,bel⟩=> ?_;subst he;have t0:=Below.trod laidOut (by kernel_rfl) (of_decide_eq_true (by kernel_rfl)) h0 bel (fun x hx=>dM x (by simp [hx]));exact⟨_,rfl,_,_,_,[],_,[],hW',trodAll_mk1 (shut_bool Tryz.underlying4 _),(trodAll_cons_mk t0 (trodAll_cons_mk (shut_int Tryz.underlying3 wa) (trodAll_cons_mk (shut_int Tryz.underlying3 wb) trodAll_mk0))),rfl,bel.frame _,fun h=>by cases h⟩
theorem closed:joinedFacts Tryz.pinned.checked.prog 3 Tryz.f3 Rows.equalNothingSpec Rows.equalNothingRow=true:=by
 unfold joinedFacts;rw [abO,KR,Cc,F1,Qk,EI,Bo,F7];kernel_rfl
theorem over:Rows.equalNothingRow.holds Tryz.pinned (OpenSpec.ofChange Rows.equalNothingSpec):=
 OpenClaim.holds_of_wide 3 Tryz.f3 rfl rfl rfl rfl rfl rfl rfl ⟨rfl,rfl,rfl,rfl,rfl⟩ rfl rfl rfl rfl rfl (by kernel_rfl) Tryz.func3 closed
  (of_decide_eq_true (by kernel_rfl)) (by unfold Func.isWrapper; first | (rw [if_pos (by decide+kernel)]; kernel_rfl) | (rw [if_neg (by decide+kernel)]; exact ⟨rfl,rfl⟩))
  (fun os started H enc _=>lifted os started H enc)
end Go.Proofs.YtjaldhgmboeffaaGreatDoor.equalNothing
