/- Part. -/
import Derived.Test.YthaiegafejbmoaaGreatDoorG43
set_option linter.unusedSectionVars false
set_option maxRecDepth 100000
set_option maxHeartbeats 4000000
set_option linter.unusedSimpArgs false
set_option linter.unusedVariables false
namespace Go.Proofs.Tab
open Go Go.Ab Go.Ab.Sm
section
variable {T:Nat->Option dJ}{H:au}{s:St}{yes most:Int}
theorem CV (x:Int):∃a:Nat,a < 4294967296/\IntKind.wrap .u32 x=(a:Int):=by
 have e:IntKind.wrap .u32 x=x % 4294967296:=by
  simp only [IntKind.wrap,IntKind.signed,IntKind.bits];rfl
 exact⟨(x % 4294967296).toNat,by omega,by rw [e]; omega⟩
theorem XG (hE:lC T)(hS:TS T)(hT:TT T)(hP:TP T)(hW:TW T)(hV:TV T)(hQ:T 3=some Jn.1)(hM:F5 T H)(C4:∀s,bY T H 4 [] s fun d s1=>d= .bool true/\s1=s)(hs:s.Ok){n num:Int}(Sy: -9223372036854775808<=most/\most<=9223372036854775807):
  bY T H 3 [.int .i64 n,.int .i64 yes,.int .i64 num,.int .i64 most] s fun d s1=>d= .bool true:=by
 refine aD hQ ?_;by_cases h1:n < 0
 ·have e1:decide (n < 0)=true:=du h1;try refine go ?_
  refine af (C4 _) ?_;rintro d s1 ⟨rfl,rfl⟩;try refine go ?_
  exact ai rfl
 have e1:decide (n < 0)=false:=cP h1;by_cases h2:n > 40
 ·have e2:decide (n > 40)=true:=du h2;try refine go ?_
  refine af (C4 _) ?_;rintro d s1 ⟨rfl,rfl⟩;try refine go ?_
  exact ai rfl
 have e2:decide (n > 40)=false:=cP h2;obtain⟨N,rfl⟩:∃N:Nat,n=(N:Int):=⟨n.toNat,by omega⟩;by_cases h3:num < 0
 ·have e3:decide (num < 0)=true:=du h3;try refine go ?_
  obtain⟨a,ha,ZS⟩:=CV (IntKind.wrap .u64 (0 - IntKind.wrap .u64 num));obtain⟨b,hb,iS⟩:=CV ((IntKind.wrap .u64 (0 - IntKind.wrap .u64 num)).fdiv (2 ^ min (Int.toNat 32) (IntKind.bits .u64)));exact Ae (g:=true) hs (by omega) ZS iS rfl fun s1 lx kx qz hl hk=>AP (n:=N) hE hS hT hP hW hV hM C4 qz (by omega) ha hb Sy hl hk
 ·have e3:decide (num < 0)=false:=cP h3;try refine go ?_
  obtain⟨a,ha,ZS⟩:=CV (IntKind.wrap .u64 num);obtain⟨b,hb,iS⟩:=CV ((IntKind.wrap .u64 num).fdiv (2 ^ min (Int.toNat 32) (IntKind.bits .u64)));exact Ae (g:=false) hs (by omega) ZS iS rfl fun s1 lx kx qz hl hk=>AP (n:=N) hE hS hT hP hW hV hM C4 qz (by omega) ha hb Sy hl hk
end
end Go.Proofs.Tab
