/- Part. -/
import Derived.Test.YtdkejjahldkkoaaGreatDoorG42
set_option linter.unusedSectionVars false
set_option maxRecDepth 1000000
set_option linter.unusedSimpArgs false
set_option linter.unusedVariables false
namespace Go.Proofs.Tab
open Go Go.Ab Go.Ab.Sm
theorem GM {C:au}{f:Nat}(h:Ab.isTrue (C f [] st0)=true)(s:St):alone C f [] s=some (.bool true,s):=by
 unfold alone;split
 ·generalize C f [] st0=r at h;unfold Ab.isTrue at h;split at h
  ·rfl
  ·cases h
 ·rename_i h1; cases h1
theorem JK:Ab.isTrue (dH Q4 fD 200 5 [] st0)=true:=by kernel_rfl
noncomputable def aw:au:=alone (dH Q4 fD 200)
theorem Fj (s:St):aw 5 [] s=some (.bool true,s):=GM JK s
theorem YA (s:St):hk aw 5 [] s=some (.bool true,s):=by rw [aal rfl rfl]; exact Fj s
theorem OT {T:Nat->Option dS}{H:au}{f:Nat}{x:List D}{s s1:St}{d:D}{R:D->St->Prop}(h:H f x s=some (d,s1))(ht:T f=none)(hr:R d s1):cu T H f x s R:=by
 refine⟨d,s1,⟨1, ?_⟩,hr⟩;unfold dH;rw [ht];split <;> exact h
theorem R8:rp 5=none:=rfl
theorem RR:rp 72=none:=rfl
theorem KQ (s:St):cu rp (hk aw) 5 [] s fun d s1=>d= .bool true/\s1=s:=OT (YA s) R8 ⟨rfl,rfl⟩
theorem QD:rp 119=none:=rfl
theorem acq:TU rp (hk aw):=X9 RR QD
end Go.Proofs.Tab
