/-
  StoreOrders returns true for whatever terms; the terms read as they did.
  The shell is turned from the kit's worked proofs; the walk is our own.
-/
import Derived.Test.YtmcdajnpdekocaaGreatDoorCards
import Derived.Test.YtmcdajnpdekocaaGreatDoorTie
import Derived.WalkKit
import Derived.ProofKit
import Derived.ChangeOld
import Derived.ChangeSame
import Derived.JoinedOf
import Derived.RowKit
import Derived.LaidHandle
import Derived.Below
import Derived.Carry
import Derived.Stop.Joined
import Derived.Test.YtmcdajnpdekocaaGreatDoorG52
set_option linter.unusedVariables false
namespace Go.Proofs.YtmcdajnpdekocaaGreatDoor.storeOrders
open Go.ChangeShapes Go.WideShapes Go.ChangeAt Go.RowKit
theorem own:ownKnob Tryz.prog.godebug=none:=by kernel_rfl
theorem laidOut:laidOutB Tryz.prog=true:=by kernel_rfl
theorem cells42:Tryz.prog.cellsOf 42=8:=by kernel_rfl
open Go.Ab Tab in
theorem shTerms:zQo Tryz.prog (.slice 8 false zLm) 22:=by
 unfold zLm
 simp only [zQo]
 refine⟨42,Tryz.underlying22,cells42,by decide,(fun h=>by cases h),of_decide_eq_true (by kernel_rfl),_,Tryz.underlying42, ?_⟩
 rw [cells42]
 simp only [zGt,zQo,true_and]
 refine⟨Tryz.underlying3,by kernel_rfl,Tryz.underlying4,by kernel_rfl,⟨_,Tryz.underlying40, ?_⟩,by kernel_rfl,Tryz.underlying9,by kernel_rfl,⟨3,Tryz.underlying30,by kernel_rfl,by simp,by simp,of_decide_eq_true (by kernel_rfl),Tryz.underlying3⟩,by kernel_rfl,Tryz.underlying4,by kernel_rfl,Tryz.underlying4,by kernel_rfl⟩
 simp only [zGt,zQo,true_and]
 exact⟨Tryz.underlying4,by kernel_rfl,⟨140,Tryz.underlying38,by kernel_rfl,by simp,by simp,of_decide_eq_true (by kernel_rfl),Tryz.underlying140⟩,by kernel_rfl⟩
section
open Go.Ab Tab
abbrev V (a:Int):Go.Ab.Vals:=⟨fun _=>a,fun _=> [],fun _=>false⟩
theorem below_of {w w' :World}(h:w'.os=w.os∧w'.tape=w.tape∧w'.output=w.output∧w.heap.size≤w'.heap.size∧∀b,b < w.heap.size→w'.heap[b]? =w.heap[b]?):Below w.heap.size w w' :=⟨h.1,h.2.1,h.2.2.1,h.2.2.2.1,h.2.2.2.2⟩
theorem aw_ok [Go.Ab.Vals]:ClO .none Tryz.prog gl aw:=alone_ok (zLh mixed tab_ok yBn yFo 200) gl_im
set_option maxRecDepth 100000 in
theorem walkV [Go.Ab.Vals]{H:Type}{enc:TypeId×Value→H}{v0:Value}{d0:DataW H}{p0:List MemPlace}{base:Nat}{w:World}(k0:Value.okWide Tryz.prog w .any base 22 v0)
  (h0:DataW.Trod enc Tryz.prog w 0 (fun _=>true) true 22 v0 d0 p0)(hw:∀b∈d0.weights Tryz.prog 22,b≤reachBytes)(hl:laidMetH Tryz.prog Rows.storeOrdersRow.laid w):
  Calls Tryz.prog 3 #[v0] w fun e w' =>e= .returned (.bool true)∧Below w.heap.size w w' :=by
 obtain⟨nl,L,g0,q0⟩:=zYv shTerms Tryz.underlying22 k0 h0 hw
 obtain⟨tms,rfl,hI⟩:=args_in q0
 obtain⟨n,hn⟩:=run_law hI
 refine (top_okG (zLh mixed tab_ok.without yBn aw_ok n) (f:=3) (w:=w) (vs:=[v0]) (gl_ok hl) hn ?_).mono fun e w' he=>⟨he.1,below_of he.2⟩
 simp only [RepL]
 exact⟨_,_,rfl,g0,rfl⟩
set_option maxRecDepth 1000000 in
theorem walk {H:Type}{enc:TypeId×Value→H}{v0:Value}{d0:DataW H}{p0:List MemPlace}{base:Nat}{w:World}(k0:Value.okWide Tryz.prog w .any base 22 v0)
  (h0:DataW.Trod enc Tryz.prog w 0 (fun _=>true) true 22 v0 d0 p0)(hw:∀b∈d0.weights Tryz.prog 22,b≤reachBytes)(hl:laidMetH Tryz.prog Rows.storeOrdersRow.laid w):
  Calls Tryz.prog 3 #[v0] w fun e w' =>e= .returned (.bool true)∧Below w.heap.size w w' := @walkV (V 0) _ _ _ _ _ _ _ k0 h0 hw hl
end
def tab1:List Int:=[0,1,28,2,29,14,24,3,30,22,20,15,25,17,4,8,31,27,13,23,21,19,16,7,26,12,18,6,11,5,10,9]
def tab2:List Int:=[0,1,56,2,57,49,28,3,61,58,42,50,38,29,17,4,62,47,59,36,45,43,51,22,53,39,33,30,24,18,12,5,63,55,48,27,60,41,37,16,46,35,44,21,52,32,23,11,54,26,40,15,34,20,31,10,25,14,19,9,13,8,7,6]
def tab3:List Int:=[1,10,100,1000,10000,100000,1000000,10000000,100000000,1000000000,10000000000,100000000000,1000000000000,10000000000000,100000000000000,1000000000000000,10000000000000000,100000000000000000,1000000000000000000,10000000000000000000]
def tab4:List Int:=[128,191,160,191,128,159,144,191,128,143,0,0,0,0,0,0,0,0,0,0,0,0,0,0,0,0,0,0,0,0,0,0]
def first1:List Int:=Go.Pinned.utf8FirstZ.map Int.ofNat
def lay (k:IntKind)(l:List Int):_root_.Go.Obj→_root_.Go.Obj
 | .cells _ t frozen=> .cells (l.map fun z=>Value.int k z).toArray t frozen
 | o=>o
noncomputable def laidWorld (os:Os):World:=
 {World.holding Tryz.prog os ⟨#[], #[],[]⟩ with heap:=(((((World.holding Tryz.prog os ⟨#[], #[],[]⟩).heap.modify 5 (lay .u8 tab1)).modify 6 (lay .u8 tab2)).modify 3 (lay .u64 tab3)).modify 2 (lay .u8 tab4)).modify 1 (lay .u8 first1)}
theorem laid_met (os:Os)(args:Array Value):laidMetH Tryz.prog Rows.storeOrdersRow.laid ((laidWorld os).forCall (fun _ _=>0) ⟨#[],args,[]⟩).memory:=
 laidMetH_of_parts (laidMet_of_run' 8 (by kernel_rfl) (by kernel_rfl)) (by kernel_rfl)
set_option maxRecDepth 100000 in
theorem lifted (os:Os)(started:os.Started)(H:Type)(enc:TypeId×Value→H):
  ReturnsInHanded {} Tryz.checked os 3 .any (fun w args=>(Rows.storeOrdersSpec.pre enc Tryz.prog Tryz.f3 [] false w args∧laidMetH Tryz.prog Rows.storeOrdersRow.laid w)∧sizedMet enc Tryz.prog Tryz.f3 (OpenSpec.ofChange Rows.storeOrdersSpec) false w args)
   (Rows.storeOrdersSpec.post enc Tryz.prog Tryz.f3 false true false false):=by
 refine returnsInHanded_of_change_and (C:=Tryz.checked) (X:=fun w _=>laidMetH Tryz.prog Rows.storeOrdersRow.laid w) (fun _ _ _ hh h=>h.of_heap hh) own started (by kernel_rfl) Tryz.func3
  (ChangeSpec.witness_at (enc:=enc) (C:=Tryz.checked) (os:=os) (X:=fun w _=>laidMetH Tryz.prog Rows.storeOrdersRow.laid w) false (laidWorld os) #[.slice none 0 0] 8 rfl (by kernel_rfl) (by kernel_rfl) (by kernel_rfl) (by kernel_rfl) (by kernel_rfl) (laid_met os _)) ?_
 intro W base args ds gs before hval0 hW _ hsz hlaid _
 have hval:∀(j:Nat) t v,Tryz.f3.params[j]? =some t→args[j]? =some v→Value.okWide Tryz.prog W .any base t v:=hval0
 have hW' :=hW
 obtain⟨p,q,hA0,hV,rfl,hfz,hnd⟩:=hW
 have hA:DataW.TrodAll enc Tryz.prog W 0 (fun _=>true) true Tryz.f3.params.toList args.toList ds p:=hA0
 have hlt:=DataW.TrodAll.lt hA
 rw [Tryz.params3]at hA hval
 obtain⟨v0,vs0,d0,ds0,p0,q0,hargs,rfl,rfl,h0,r0⟩:=trodAll_cons hA
 obtain⟨rfl,rfl,rfl⟩:=trodAll_nil r0
 obtain rfl:args= #[v0]:=by cases args; simp_all
 obtain⟨rfl,rfl⟩:=trodVars_none hV
 clear hA0 hval0
 have hw:∀b∈d0.weights Tryz.prog 22,b≤reachBytes:=fun b hb=>by
  rw [Tryz.params3]at hsz
  rw [List.all_eq_true]at hsz
  exact of_decide_eq_true (hsz b (Go.Ab.zDo (i:=0) rfl rfl hb))
 refine (walk (hval 0 22 v0 rfl rfl) h0 hw hlaid).mono fun e W' ⟨he,bel⟩=> ?_
 subst he
 have t0:=Below.trod laidOut (by kernel_rfl) (of_decide_eq_true (by kernel_rfl)) h0 bel (fun x hx=>hlt x (by simp [hx]))
 exact⟨_,rfl,_,_,_,[],_,[],hW',trodAll_mk1 (shut_bool Tryz.underlying4 _),(trodAll_cons_mk t0 trodAll_mk0),rfl,bel.frame _,fun h=>by cases h⟩
theorem over:Rows.storeOrdersRow.holds Tryz.pinned (OpenSpec.ofChange Rows.storeOrdersSpec):=
 OpenClaim.holds_of_wide 3 Tryz.f3 rfl rfl rfl rfl rfl rfl rfl ⟨rfl,rfl,rfl,rfl,rfl⟩ rfl rfl rfl rfl rfl (by kernel_rfl) Tryz.func3 (by kernel_rfl)
  (of_decide_eq_true (by kernel_rfl)) (by unfold Func.isWrapper; first | (rw [if_pos (by decide+kernel)]; kernel_rfl) | (rw [if_neg (by decide+kernel)]; exact ⟨rfl,rfl⟩))
  (fun os started H enc _=>lifted os started H enc)
theorem proved:Rows.StoreOrdersCardSaid:=
 Claim7.holds_tied_plain_at .later [] [.data, .data, .data, .data, .pinned] true (true, "f0410feaa7e2db765472e67b8145e66f454ee4fedfb44d6dd6ee9156eb75a715") true
  over (fun _ h=>by cases h) (by kernel_rfl) (fun _ h=>by cases h) storeOrders_row_tie rfl ⟨rfl,rfl⟩ (by kernel_rfl) rfl
  (fun f fn hf hfn=>by
   obtain rfl : f = 3 := Option.some.inj ((show Tryz.prog.funcNamed "lexicon/lexiconlaw19.StoreOrders" = some 3 by kernel_rfl).symm.trans hf) |>.symm
   obtain rfl:fn=Tryz.f3:=(Option.some.inj (Tryz.func3.symm.trans hfn)).symm
   exact⟨by kernel_rfl,fun j t ht=>by
    rw [Tryz.params3]at ht
    rcases j with _ | j
    ·obtain rfl:t=22:=by simpa using ht.symm
     exact (show Tryz.prog.wantsStandIn 22=false by kernel_rfl)
    ·simp at ht⟩)
  (by kernel_rfl)
end Go.Proofs.YtmcdajnpdekocaaGreatDoor.storeOrders
