/- Part. -/
import Derived.Test.YtmcdajnpdekocaaGreatDoorG03
import Derived.Laws.StructEq
import Derived.Laws.Concat
import Derived.Laws.Strings
set_option linter.unusedSectionVars false
set_option linter.unusedSimpArgs false
set_option linter.unusedVariables false
namespace Go.Ab
open Go
variable [Vals]
variable {ρ:Gh}{w:World}{P:Program}
theorem zEg:∀(a b:List UInt8),Op.bytesLess a b=zEk a b
 | _,[]=>by simp [Op.bytesLess,zEk]
 | [],_::_=>by simp [Op.bytesLess,zEk]
 | a::x,b::y=>by simp [Op.bytesLess,zEk,zEg x y]
theorem zEc (op:BinOp)(t:TypeId)(px py:Operand)(k j:IntKind)(a b:Int):(eqGuard op t px py (.int k a) (.int j b)).run P w= .ok () w:=by
 cases op <;> simp [eqGuard]
theorem zRt (op:BinOp)(t:TypeId)(px py:Operand)(a b:ByteArray):(eqGuard op t px py (.string a) (.string b)).run P w= .ok () w:=by
 cases op <;> simp [eqGuard]
theorem zSl {op:BinOp}{k:IntKind}{a b:Int}{d:D}(h:zLp op k a b=some d)(t:TypeId):∃r,(binOp op t (.int k a) (.int k b)).run P w= .ok r w∧Rep ρ w d r:=by
 cases op <;> simp only [zLp,Option.some.injEq]at h
 case add=>subst h; exact ⟨_,by simp [binOp,Op.intArith]; rfl,by simp [Rep]⟩
 case sub=>subst h; exact ⟨_,by simp [binOp,Op.intArith]; rfl,by simp [Rep]⟩
 case mul=>subst h; exact ⟨_,by simp [binOp,Op.intArith]; rfl,by simp [Rep]⟩
 case quo=>
  split at h
  ·cases h
  ·rename_i hb
   simp only [Option.some.injEq]at h; subst h
   exact⟨_,by simp [binOp,Op.intDiv,hb]; rfl,by simp [Rep]⟩
 case rem=>
  split at h
  ·cases h
  ·rename_i hb
   simp only [Option.some.injEq]at h; subst h
   exact⟨_,by simp [binOp,Op.intDiv,hb]; rfl,by simp [Rep]⟩
 case and=>subst h; exact ⟨_,by simp only [binOp,ne_eq,not_true_eq_false,if_false,Op.intBits,Sem.run_pure]; rfl,by simp [Rep]⟩
 case or=>subst h; exact ⟨_,by simp only [binOp,ne_eq,not_true_eq_false,if_false,Op.intBits,Sem.run_pure]; rfl,by simp [Rep]⟩
 case xor=>subst h; exact ⟨_,by simp only [binOp,ne_eq,not_true_eq_false,if_false,Op.intBits,Sem.run_pure]; rfl,by simp [Rep]⟩
 case andNot=>subst h; exact ⟨_,by simp only [binOp,ne_eq,not_true_eq_false,if_false,Op.intBits,Sem.run_pure]; rfl,by simp [Rep]⟩
 case eql=>subst h; exact ⟨_,by simp [binOp,Op.intCmp]; rfl,by simp [Rep]⟩
 case neq=>subst h; exact ⟨_,by simp [binOp,Op.intCmp]; rfl,by simp [Rep]⟩
 case lss=>subst h; exact ⟨_,by simp [binOp,Op.intCmp]; rfl,by simp [Rep]⟩
 case leq=>subst h; exact ⟨_,by simp [binOp,Op.intCmp]; rfl,by simp [Rep]⟩
 case gtr=>subst h; exact ⟨_,by simp [binOp,Op.intCmp]; rfl,by simp [Rep]⟩
 case geq=>subst h; exact ⟨_,by simp [binOp,Op.intCmp]; rfl,by simp [Rep]⟩
 all_goals cases h
theorem zSk {op:BinOp}{a b:List UInt8}{d:D}(h:zOp op a b=some d)(t:TypeId):∃r,(binOp op t (.string ⟨⟨a⟩⟩) (.string ⟨⟨b⟩⟩)).run P w= .ok r w∧Rep ρ w d r:=by
 have ha:(⟨⟨a⟩⟩:ByteArray).toList=a:=ByteArray.toList_mk a
 have hb:(⟨⟨b⟩⟩:ByteArray).toList=b:=ByteArray.toList_mk b
 cases op <;> simp only [zOp,Option.some.injEq]at h
 case add=>
  split at h
  ·rename_i hl
   simp only [Option.some.injEq]at h; subst h
   have hle:=Nat.le_of_ble_eq_true hl
   refine⟨.string (⟨⟨a⟩⟩++⟨⟨b⟩⟩), ?_, ?_⟩
   ·have:=run_string_add_sum (P:=P) (w:=w) ⟨⟨a⟩⟩ ⟨⟨b⟩⟩ (by simp only [ByteArray.size_mk',List.size_toArray]; omega)
    simpa [binOp] using this
   ·simp only [Rep]
    exact congrArg Value.string (ByteArray.mk_append_mk a b)
  ·cases h
 case eql=>subst h; exact ⟨_,by simp [binOp,Op.stringOp,ha,hb]; rfl,by simp [Rep]⟩
 case neq=>subst h; exact ⟨_,by simp [binOp,Op.stringOp,ha,hb]; rfl,by simp [Rep]⟩
 case lss=>subst h; exact ⟨_,by simp only [binOp,Op.stringOp,ha,hb,zEg,Sem.run_pure]; rfl,by simp [Rep]⟩
 case leq=>subst h; exact ⟨_,by simp only [binOp,Op.stringOp,ha,hb,zEg,Sem.run_pure]; rfl,by simp [Rep]⟩
 case gtr=>subst h; exact ⟨_,by simp only [binOp,Op.stringOp,ha,hb,zEg,Sem.run_pure]; rfl,by simp [Rep]⟩
 case geq=>subst h; exact ⟨_,by simp only [binOp,Op.stringOp,ha,hb,zEg,Sem.run_pure]; rfl,by simp [Rep]⟩
 all_goals cases h
theorem yAh {lo hi c n:Int}(h:outI lo hi c=true)(h1:lo≤n)(h2:n≤hi):(n==c)=false∧(c==n)=false:=by
 simp only [outI,Bool.or_eq_true,decide_eq_true_eq]at h
 have:n≠c:=by omega
 exact⟨by simpa using this,by simpa using fun e=>this e.symm⟩
theorem yAg {ex:List (List UInt8)}{lo hi:Nat}{c n:List UInt8}(h:outS ex lo hi c=true)(h0:n ∉ ex)(h1:lo≤n.length)(h2:n.length≤hi):(n==c)=false∧(c==n)=false:=by
 have:n≠c:=by
  rintro rfl
  simp only [outS,Bool.or_eq_true,List.any_eq_true]at h
  rcases h with h | h | ⟨z,hz,h⟩
  ·have:=Nat.le_of_ble_eq_true h; omega
  ·have:=Nat.le_of_ble_eq_true h; omega
  ·exact h0 ((eq_of_beq h) ▸ hz)
 exact⟨by simpa using this,by simpa using fun e=>this e.symm⟩
theorem zBh {c b r:Bool}(h:zDt c b=some r):c=true∧r=b:=by
 unfold zDt at h
 split at h
 ·simp only [Option.some.injEq]at h; exact ⟨rfl,h.symm⟩
 ·cases h
theorem zNt {x y:D}{r:Bool}{u v:Value}(h:eqI x y=some r)(hu:Rep ρ w x u)(hv:Rep ρ w y v):∃k a b,u= .int k a∧v= .int k b∧r=(a==b):=by
 unfold eqI at h
 split at h
 ·obtain⟨h1,h2⟩:=zBh h
  obtain rfl:=of_decide_eq_true h1
  simp only [Rep]at hu hv
  exact⟨_,_,_,hu,hv,h2⟩
 ·obtain⟨h1,h2⟩:=zBh h
  simp only [Bool.and_eq_true]at h1
  obtain rfl:=of_decide_eq_true h1.1
  simp only [Rep]at hu hv
  exact⟨_,_,_,hu.1,hv,by rw [(yAh h1.2 hu.2.1 hu.2.2).1]; exact h2⟩
 ·obtain⟨h1,h2⟩:=zBh h
  simp only [Bool.and_eq_true]at h1
  obtain rfl:=of_decide_eq_true h1.1
  simp only [Rep]at hu hv
  exact⟨_,_,_,hu,hv.1,by rw [(yAh h1.2 hv.2.1 hv.2.2).2]; exact h2⟩
 ·obtain⟨h1,h2⟩:=zBh h
  simp only [Bool.and_eq_true]at h1
  obtain rfl:=of_decide_eq_true h1.1
  obtain rfl:=of_decide_eq_true h1.2
  simp only [Rep]at hu hv
  exact⟨_,_,_,hu.1,hv.1,by simpa using h2⟩
 ·cases h
theorem zNs {x y:D}{r:Bool}{u v:Value}(h:eqS x y=some r)(hu:Rep ρ w x u)(hv:Rep ρ w y v):∃a b:List UInt8,u= .string ⟨⟨a⟩⟩∧v= .string ⟨⟨b⟩⟩∧r=(a==b):=by
 unfold eqS at h
 split at h
 ·simp only [Option.some.injEq]at h
  simp only [Rep]at hu hv
  exact⟨_,_,hu,hv,h.symm⟩
 ·obtain⟨h1,h2⟩:=zBh h
  simp only [Rep]at hu hv
  exact⟨_,_,hu.1,hv,by rw [(yAg h1 hu.2.1 hu.2.2.1 hu.2.2.2).1]; exact h2⟩
 ·obtain⟨h1,h2⟩:=zBh h
  simp only [Rep]at hu hv
  exact⟨_,_,hu,hv.1,by rw [(yAg h1 hv.2.1 hv.2.2.1 hv.2.2.2).2]; exact h2⟩
 ·obtain⟨h1,h2⟩:=zBh h
  obtain rfl:=Nat.eq_of_beq_eq_true h1
  simp only [Rep]at hu hv
  exact⟨_,_,hu.1,hv.1,by simpa using h2⟩
 ·cases h
theorem zKi {x y:D}{r:Bool}{u v:Value}(h:eqB1 x y=some r)(hu:Rep ρ w x u)(hv:Rep ρ w y v):∃a b,u= .bool a∧v= .bool b∧r=(a==b):=by
 unfold eqB1 at h
 split at h
 ·simp only [Option.some.injEq]at h
  simp only [Rep]at hu hv
  exact⟨_,_,hu,hv,h.symm⟩
 ·obtain⟨h1,h2⟩:=zBh h
  obtain rfl:=Nat.eq_of_beq_eq_true h1
  simp only [Rep]at hu hv
  exact⟨_,_,hu,hv,by simpa using h2⟩
 ·cases h
theorem zFu {x y d:D}{u v:Value}(h:zXb x y=some d)(hu:Rep ρ w x u)(hv:Rep ρ w y v):∃k a b,u= .int k a∧v= .int k b∧d= .bool (decide (a < b)):=by
 unfold zXb at h
 split at h
 ·split at h
  ·rename_i hk
   obtain rfl:=of_decide_eq_true hk
   simp only [Rep]at hu hv
   split at h
   ·rename_i h1
    have:=of_decide_eq_true h1
    simp only [Option.some.injEq]at h; subst h
    exact⟨_,_,_,hu.1,hv,congrArg D.bool (decide_eq_true (by omega)).symm⟩
   ·rename_i h1 _
    have:=of_decide_eq_true h1
    simp only [Option.some.injEq]at h; subst h
    exact⟨_,_,_,hu.1,hv,congrArg D.bool (decide_eq_false (by omega)).symm⟩
   ·cases h
  ·cases h
 ·split at h
  ·rename_i hk
   obtain rfl:=of_decide_eq_true hk
   simp only [Rep]at hu hv
   split at h
   ·rename_i h1
    have:=of_decide_eq_true h1
    simp only [Option.some.injEq]at h; subst h
    exact⟨_,_,_,hu,hv.1,congrArg D.bool (decide_eq_true (by omega)).symm⟩
   ·rename_i h1 _
    have:=of_decide_eq_true h1
    simp only [Option.some.injEq]at h; subst h
    exact⟨_,_,_,hu,hv.1,congrArg D.bool (decide_eq_false (by omega)).symm⟩
   ·cases h
  ·cases h
 ·cases h
theorem zLt {x y d:D}{u v:Value}(h:yHq x y=some d)(hu:Rep ρ w x u)(hv:Rep ρ w y v):
  (∃k a b,u= .int k a∧v= .int k b∧d= .bool (a==b))∨∃a b:List UInt8,u= .string ⟨⟨a⟩⟩∧v= .string ⟨⟨b⟩⟩∧d= .bool (a==b):=by
 unfold yHq at h
 split at h
 ·rename_i r hr
  obtain⟨k,a,b,h1,h2,rfl⟩:=zNt hr hu hv
  simp only [Option.some.injEq]at h; subst h
  exact .inl ⟨k,a,b,h1,h2,rfl⟩
 ·split at h
  ·rename_i r hr
   obtain⟨a,b,h1,h2,rfl⟩:=zNs hr hu hv
   simp only [Option.some.injEq]at h; subst h
   exact .inr ⟨a,b,h1,h2,rfl⟩
  ·cases h
theorem yFs {m c:Int}:∀ {a:Sym},(mkLin m c a).val=m * a.val+c
 | .i _=>rfl
 | .len _=>rfl
 | .lin m' c' a=>by simp only [mkLin,Sym.val,Int.mul_add,Int.mul_assoc,Int.add_assoc]
theorem wrap64 {n:Int}(h1: -9223372036854775808≤n)(h2:n≤9223372036854775807):IntKind.wrap .i64 n=n:=by
 simp only [IntKind.wrap,IntKind.signed,IntKind.bits,Bool.true_and,decide_eq_true_eq,ge_iff_le]
 rw [show ((2:Int) ^ (64 - 1))=9223372036854775808 from rfl,show ((2:Int) ^ 64)=18446744073709551616 from rfl]
 split <;> omega
theorem zEt {k:IntKind}{m c lo hi n:Int}{a:Sym}{d:D}(h:zLn k m c a lo hi=some d)(hn:n=m * a.val+c)(h1:lo≤n)(h2:n≤hi):Rep ρ w d (.int k (k.wrap n)):=by
 unfold zLn at h
 split at h
 ·rename_i hk hl hh
  have hk:=of_decide_eq_true hk
  have hl:=of_decide_eq_true hl
  have hh:=of_decide_eq_true hh
  simp only [Option.some.injEq]at h; subst h
  subst hk
  simp only [Rep,yFs]
  rw [wrap64 (by omega) (by omega),← hn]
  exact⟨rfl,h1,h2⟩
 ·cases h
theorem zTw {x y d:D}{u v:Value}(h:zZm x y=some d)(hu:Rep ρ w x u)(hv:Rep ρ w y v):∃k a b,u= .int k a∧v= .int k b∧Rep ρ w d (.int k (k.wrap (a+b))):=by
 unfold zZm at h
 split at h
 ·split at h
  ·rename_i hk
   obtain rfl:=of_decide_eq_true hk
   simp only [Rep]at hu hv
   exact⟨_,_,_,hu.1,hv,zEt h (by omega) (by omega) (by omega)⟩
  ·cases h
 ·split at h
  ·rename_i hk
   obtain rfl:=of_decide_eq_true hk
   simp only [Rep]at hu hv
   exact⟨_,_,_,hu,hv.1,zEt h (by omega) (by omega) (by omega)⟩
  ·cases h
 ·cases h
theorem zTv {x y d:D}{u v:Value}(h:zZl x y=some d)(hu:Rep ρ w x u)(hv:Rep ρ w y v):∃k a b,u= .int k a∧v= .int k b∧Rep ρ w d (.int k (k.wrap (a - b))):=by
 unfold zZl at h
 split at h
 ·split at h
  ·rename_i hk
   obtain rfl:=of_decide_eq_true hk
   simp only [Rep]at hu hv
   exact⟨_,_,_,hu.1,hv,zEt h (by omega) (by omega) (by omega)⟩
  ·cases h
 ·split at h
  ·rename_i hk
   obtain rfl:=of_decide_eq_true hk
   simp only [Rep]at hu hv
   exact⟨_,_,_,hu,hv.1,zEt h (by omega) (by omega) (by omega)⟩
  ·cases h
 ·cases h
theorem add_run (t:TypeId)(k:IntKind)(a b:Int):(binOp .add t (.int k a) (.int k b)).run P w= .ok (.int k (k.wrap (a+b))) w:=by
 simp [binOp,Op.intArith]
theorem sub_run (t:TypeId)(k:IntKind)(a b:Int):(binOp .sub t (.int k a) (.int k b)).run P w= .ok (.int k (k.wrap (a - b))) w:=by
 simp [binOp,Op.intArith]
theorem bin_ok {op:BinOp}{x y d:D}{u v:Value}(hu:Rep ρ w x u)(hv:Rep ρ w y v)(h:binD op x y=some d)(t:TypeId)(px py:Operand):
  ∃r,(do eqGuard op t px py u v; binOp op t u v:Sem Value).run P w= .ok r w∧Rep ρ w d r:=by
 unfold binD at h
 split at h
 ·simp only [Rep]at hu hv; subst hu hv
  split at h
  ·cases h
  ·rename_i hb
   simp only [Option.some.injEq]at h; subst h
   exact⟨_,by simp only [Sem.run_bind,zEc,Result.andThen_ok]; simp [binOp,Op.shift,hb]; rfl,by simp [Rep]⟩
 ·simp only [Rep]at hu hv; subst hu hv
  split at h
  ·cases h
  ·rename_i hb
   simp only [Option.some.injEq]at h; subst h
   exact⟨_,by simp only [Sem.run_bind,zEc,Result.andThen_ok]; simp [binOp,Op.shift,hb]; rfl,by simp [Rep]⟩
 ·simp only [Rep]at hu hv; subst hu hv
  split at h
  ·rename_i hk
   have hk' :=of_decide_eq_true hk
   subst hk'
   obtain⟨r,h1,h2⟩:=zSl (P:=P) (ρ:=ρ) (w:=w) h t
   exact⟨r,by simp only [Sem.run_bind,zEc,Result.andThen_ok]; exact h1,h2⟩
  ·cases h
 ·simp only [Rep]at hu hv; subst hu hv
  obtain⟨r,h1,h2⟩:=zSk (P:=P) (ρ:=ρ) (w:=w) h t
  exact⟨r,by simp only [Sem.run_bind,zRt,Result.andThen_ok]; exact h1,h2⟩
 all_goals
  have int:∀(op:BinOp) (k:IntKind) (a b:Int) (d:D),zLp op k a b=some d→∃r,(do eqGuard op t px py (.int k a) (.int k b); binOp op t (.int k a) (.int k b):Sem Value).run P w= .ok r w∧Rep ρ w d r:=fun op k a b d h=>by
   obtain⟨r,h1,h2⟩:=zSl (P:=P) (ρ:=ρ) (w:=w) h t
   exact⟨r,by simp only [Sem.run_bind,zEc,Result.andThen_ok]; exact h1,h2⟩
  have str:∀(op:BinOp) (a b:List UInt8) (d:D),zOp op a b=some d→∃r,(do eqGuard op t px py (.string ⟨⟨a⟩⟩) (.string ⟨⟨b⟩⟩); binOp op t (.string ⟨⟨a⟩⟩) (.string ⟨⟨b⟩⟩):Sem Value).run P w= .ok r w∧Rep ρ w d r:=fun op a b d h=>by
   obtain⟨r,h1,h2⟩:=zSk (P:=P) (ρ:=ρ) (w:=w) h t
   exact⟨r,by simp only [Sem.run_bind,zRt,Result.andThen_ok]; exact h1,h2⟩
 ·rcases zLt h hu hv with ⟨k,a,b,rfl,rfl,rfl⟩ | ⟨a,b,rfl,rfl,rfl⟩
  ·exact int _ _ _ _ _ rfl
  ·exact str _ _ _ _ rfl
 ·split at h
  ·rename_i b0 hb0
   simp only [Option.some.injEq]at h; subst h
   rcases zLt hb0 hu hv with ⟨k,a,b,rfl,rfl,hd⟩ | ⟨a,b,rfl,rfl,hd⟩
   ·simp only [D.bool.injEq]at hd; subst hd
    exact int _ _ _ _ _ rfl
   ·simp only [D.bool.injEq]at hd; subst hd
    exact str _ _ _ _ rfl
  ·cases h
 ·obtain⟨k,a,b,rfl,rfl,rfl⟩:=zFu h hu hv
  exact int _ _ _ _ _ rfl
 ·obtain⟨k,a,b,rfl,rfl,rfl⟩:=zFu h hv hu
  exact int _ _ _ _ _ rfl
 ·unfold zUq at h
  split at h
  ·rename_i b0 hb0
   simp only [Option.some.injEq]at h; subst h
   obtain⟨k,a,b,rfl,rfl,hd⟩:=zFu hb0 hu hv
   simp only [D.bool.injEq]at hd; subst hd
   refine int _ _ _ _ _ ?_
   simp only [zLp,Option.some.injEq,D.bool.injEq]
   by_cases hh:a < b
   ·rw [decide_eq_true hh,decide_eq_false (by omega)]; rfl
   ·rw [decide_eq_false hh,decide_eq_true (by omega)]; rfl
  ·cases h
 ·unfold zUq at h
  split at h
  ·rename_i b0 hb0
   simp only [Option.some.injEq]at h; subst h
   obtain⟨k,a,b,rfl,rfl,hd⟩:=zFu hb0 hv hu
   simp only [D.bool.injEq]at hd; subst hd
   refine int _ _ _ _ _ ?_
   simp only [zLp,Option.some.injEq,D.bool.injEq]
   by_cases hh:a < b
   ·rw [decide_eq_true hh,decide_eq_false (by omega)]; rfl
   ·rw [decide_eq_false hh,decide_eq_true (by omega)]; rfl
  ·cases h
 ·obtain⟨k,a,b,rfl,rfl,hd⟩:=zTw h hu hv
  exact⟨_,by simp only [Sem.run_bind,zEc,Result.andThen_ok]; exact add_run t k a b,hd⟩
 ·obtain⟨k,a,b,rfl,rfl,hd⟩:=zTv h hu hv
  exact⟨_,by simp only [Sem.run_bind,zEc,Result.andThen_ok]; exact sub_run t k a b,hd⟩
 ·cases h
theorem un_ok {op:UnOp}{x d:D}{u:Value}(hu:Rep ρ w x u)(h:unD op x=some d):∃r,(Op.unary op u).run P w= .ok r w∧Rep ρ w d r:=by
 unfold unD at h
 split at h
 ·simp only [Rep]at hu; subst hu
  simp only [Option.some.injEq]at h; subst h
  exact⟨_,by simp [Op.unary,Op.intArith]; rfl,by simp [Rep]⟩
 ·simp only [Rep]at hu; subst hu
  simp only [Option.some.injEq]at h; subst h
  exact⟨_,by simp only [Op.unary,Op.intBits,Sem.run_pure]; rfl,by simp [Rep]⟩
 ·simp only [Rep]at hu; subst hu
  simp only [Option.some.injEq]at h; subst h
  exact⟨_,by simp [Op.unary]; rfl,by simp [Rep]⟩
 ·cases h
theorem zFk {t:TypeId}{cs:Array Value}{l:List D}{off:Nat}{sz:Option Nat}{d:D}(hl:RepL ρ w l cs.toList)(hs:l.all D.sc=true)(hsh:zBm P t=some sz)(hp:part l off sz=some d):
  ∃v,(Go.part t cs off).run P w= .ok v w∧Rep ρ w d v:=by
 have hr:=zGx hl hs hp
 cases hu:P.underlying t with
 | none=>simp [zBm,zFb,hu]at hsh
 | some e=>
  by_cases hd:e.isRow=true
  ·have ha:zFb P t=some true:=by cases e <;> simp_all [zFb,TypeDesc.isRow]
   cases hz:zPo P t with
   | none=>simp [zBm,hz]at hsh
   | some s=>
    simp only [zBm,ha,hz,Option.some.injEq]at hsh
    subst hsh
    simp only at hr
    obtain⟨h1,h2⟩:=hr
    have hagg:(isAgg t).run P w= .ok true w:=by
     unfold isAgg
     rw [Sem.run_bind,run_underlying hu w]
     cases e <;> simp_all [TypeDesc.isRow]
    cases hq:P.info? t with
    | none=>simp [zPo,hq]at hz
    | some i=>
     have hi:i.size=s:=by simpa [zPo,hq] using hz
     refine⟨.agg (cs.extract off (off+s)), ?_, ?_⟩
     ·simp [Go.part,hagg,sizeOf,typeInfo,hq,hi]
     ·have e1:cs.extract off (off+s)=((cs.toList.drop off).take s).toArray:=by
       apply Array.toList_inj.1
       simp [Array.toList_extract]
      rw [e1]; exact h2
  ·have ha:zFb P t=some false:=by cases e <;> simp_all [zFb,TypeDesc.isRow]
   have h1:sz=none:=by
    simp only [zBm,ha]at hsh
    split at hsh
    ·simp_all
    ·simpa using hsh.symm
    ·cases hsh
   subst h1
   simp only at hr
   obtain⟨v,h1,h2,_⟩:=hr
   have hd:e.isRow=false:=by simpa using hd
   have hagg:(isAgg t).run P w= .ok false w:=by
    unfold isAgg
    rw [Sem.run_bind,run_underlying hu w]
    cases e <;> simp_all [TypeDesc.isRow]
   have h1' :cs[off]? =some v:=by simpa using h1
   exact⟨v,by simp [Go.part,hagg,h1'],h2⟩
theorem zUi {t:TypeId}{fs:Array Field}(h:P.underlying t=some (.struct fs)):P.fieldsOf t=fs:=by
 simp [Program.fieldsOf,h]
theorem zKz {d:Nat}{f:TypeId→Option ET}{xs ys:Array Value}{lx ly:List D}(hx:RepL ρ w lx xs.toList)(hy:RepL ρ w ly ys.toList)(hsx:lx.all D.sc=true)(hsy:ly.all D.sc=true)
  (ih:∀t e,f t=some e→∀x y r u v,eqT false e x y=some r→Rep ρ w x u→Rep ρ w y v→(Op.equalIn d t u v).run P w= .ok r w):
  ∀(fs:List Field) (l:ETs),etB.fieldsB P f fs=some l→∀r,eqTs l lx ly=some r→(Op.eqFields d xs ys fs).run P w= .ok r w
 | [],l,h,r,hr=>by
  simp only [etB.fieldsB,Option.some.injEq]at h; subst h
  simp only [eqTs,Option.some.injEq]at hr; subst hr
  simp [Op.eqFields]
 | x::fs,l,h,r,hr=>by
  simp only [etB.fieldsB]at h
  split at h
  ·cases h
  ·rename_i hn
   split at h
   ·rename_i s e l' h1 h2 h3
    simp only [Option.some.injEq]at h; subst h
    simp only [eqTs]at hr
    split at hr
    ·rename_i p q hp hq
     obtain⟨u,hu1,hu2⟩:=zFk (P:=P) hx hsx h1 hp
     obtain⟨v,hv1,hv2⟩:=zFk (P:=P) hy hsy h1 hq
     have hne : x.name ≠ "_" := by simpa using hn
     split at hr
     ·rename_i hb
      have hi:=ih x.type e h2 p q true u v hb hu2 hv2
      have hrest:=zKz hx hy hsx hsy ih fs l' h3 r hr
      simp only [Op.eqFields,hne,ne_eq,not_false_eq_true,if_true,Sem.run_bind,hu1,hv1,hi,Result.andThen_ok]
      simpa using hrest
     ·rename_i hb
      simp only [Option.some.injEq]at hr; subst hr
      have hi:=ih x.type e h2 p q false u v hb hu2 hv2
      simp only [Op.eqFields,hne,ne_eq,not_false_eq_true,if_true,Sem.run_bind,hu1,hv1,hi,Result.andThen_ok]
      simp
     ·cases hr
    ·cases hr
   ·cases h
set_option maxHeartbeats 2000000 in
theorem eqT_ok (oc:Bool):∀(n:Nat) (t:TypeId) (et:ET),etB P n t=some et→∀(d:Nat),n≤d→∀(x y:D) (r:Bool) (u v:Value),eqT oc et x y=some r→Rep ρ w x u→Rep ρ w y v→(Op.equalIn d t u v).run P w= .ok r w:=by
 intro n
 induction n generalizing oc with
 | zero=>intro t et h; simp [etB]at h
 | succ n ih=>
  intro t et h d hd x y r u v he hu hv
  obtain⟨d,rfl⟩:∃k,d=k+1:=⟨d - 1,by omega⟩
  simp only [etB]at h
  split at h
  ·rename_i hun
   simp only [Option.some.injEq]at h; subst h
   simp only [eqT]at he
   obtain⟨p,q,rfl,rfl,rfl⟩:=zKi he hu hv
   exact run_equalIn_bool w d t _ _ hun
  ·rename_i k hun
   simp only [Option.some.injEq]at h; subst h
   simp only [eqT]at he
   obtain⟨_,p,q,rfl,rfl,rfl⟩:=zNt he hu hv
   exact run_equalIn_int w d t _ _ _ _ hun
  ·rename_i hun
   simp only [Option.some.injEq]at h; subst h
   simp only [eqT]at he
   obtain⟨p,q,rfl,rfl,rfl⟩:=zNs he hu hv
   rw [run_equalIn_string w d t _ _ hun,ByteArray.toList_eq,ByteArray.toList_eq]
  ·rename_i e hun
   split at h
   ·rename_i m hm
    simp only [Option.some.injEq]at h; subst h
    have key:∀(a b:Option Addr),(a=none∨b=none)→(Op.equalIn (d+1) t (.pointer a) (.pointer b)).run P w= .ok (a.isNone && b.isNone) w:=by
     intro a b hab
     cases a <;> cases b <;> simp_all [Op.equalIn,run_underlying hun]
    have shp:∀(z:D) (q:Value),Rep ρ w z q→(∃o c,z= .ptr o c)∨(∃o i c e,z= .eptr o i c e)∨(∃e c,z= .vptr e c)→∃a,q= .pointer (some a):=by
     intro z q hz hs
     rcases hs with ⟨o,c,rfl⟩ | ⟨o,i,c,e,rfl⟩ | ⟨e,c,rfl⟩ <;> simp only [Rep]at hz
     ·exact Gh.at_any hz fun _ _ q=>⟨_,q⟩
     ·exact Gh.at_any hz fun _ _ q=>⟨_,q.2.2.2⟩
     ·obtain⟨_,_,_,_,_,_,_,rfl⟩:=hz; exact ⟨_,rfl⟩
    simp only [eqT]at he
    split at he <;> (try cases he)
    ·simp only [Rep]at hu hv; subst hu hv; simpa using key none none (.inl rfl)
    ·obtain⟨a,rfl⟩:=shp _ _ hv (.inl ⟨_,_,rfl⟩); simp only [Rep]at hu; subst hu; simpa using key none (some a) (.inl rfl)
    ·obtain⟨a,rfl⟩:=shp _ _ hu (.inl ⟨_,_,rfl⟩); simp only [Rep]at hv; subst hv; simpa using key (some a) none (.inr rfl)
    ·obtain⟨a,rfl⟩:=shp _ _ hv (.inr (.inl ⟨_,_,_,_,rfl⟩)); simp only [Rep]at hu; subst hu; simpa using key none (some a) (.inl rfl)
    ·obtain⟨a,rfl⟩:=shp _ _ hu (.inr (.inl ⟨_,_,_,_,rfl⟩)); simp only [Rep]at hv; subst hv; simpa using key (some a) none (.inr rfl)
    ·obtain⟨a,rfl⟩:=shp _ _ hv (.inr (.inr ⟨_,_,rfl⟩)); simp only [Rep]at hu; subst hu; simpa using key none (some a) (.inl rfl)
    ·obtain⟨a,rfl⟩:=shp _ _ hu (.inr (.inr ⟨_,_,rfl⟩)); simp only [Rep]at hv; subst hv; simpa using key (some a) none (.inr rfl)
   ·cases h
  ·rename_i ms hun
   simp only [Option.some.injEq]at h; subst h
   simp only [eqT]at he
   split at he
   ·split at he
    ·cases he; simp only [Rep]at hu hv; subst hu hv; simp [Op.equalIn,run_underlying hun]
    ·cases he
   ·cases he; simp only [Rep]at hu hv; subst hu; obtain ⟨_,rfl,_⟩:=hv; simp [Op.equalIn,run_underlying hun]
   ·cases he; simp only [Rep]at hu hv; subst hv; obtain ⟨_,rfl,_⟩:=hu; simp [Op.equalIn,run_underlying hun]
   ·split at he
    ·cases he
    ·rename_i hb
     cases he
     simp only [Rep]at hu hv
     obtain⟨_,rfl,_⟩:=hu
     obtain⟨_,rfl,_⟩:=hv
     have hne:=Nat.ne_of_beq_eq_false hb
     simp [Op.equalIn,run_underlying hun,hne]
   ·cases he
  ·rename_i e hun
   simp only [Option.some.injEq]at h; subst h
   have nilv:∀(nl:Bool) (sz:Nat) (l:List D) (q:Value),Rep ρ w (.vs nl sz l) q→∃a n c,q= .slice a n c∧a.isNone=nl:=by
    intro nl sz l q hq
    simp only [Rep]at hq
    rcases hq with ⟨h1,_,rfl⟩ | ⟨h1,ad,c,rfl,_⟩
    ·exact⟨_,_,_,rfl,by simp [h1]⟩
    ·exact⟨_,_,_,rfl,by simp [h1]⟩
   have key:∀(a b:Option Addr) (n c n' c' :Nat),(a=none∨b=none)→(Op.equalIn (d+1) t (.slice a n c) (.slice b n' c')).run P w= .ok (a.isNone && b.isNone) w:=by
    intro a b n c n' c' hab
    cases a <;> cases b <;> simp_all [Op.equalIn,run_underlying hun]
   simp only [eqT]at he
   split at he <;> (try cases he)
   ·obtain⟨a,n1,c1,rfl,ha⟩:=nilv _ _ _ _ hu
    obtain⟨b,n2,c2,rfl,hb⟩:=nilv _ _ _ _ hv
    rw [key a b _ _ _ _ (.inr (by simpa using hb)),ha,hb]; simp
   ·obtain⟨a,n1,c1,rfl,ha⟩:=nilv _ _ _ _ hu
    obtain⟨b,n2,c2,rfl,hb⟩:=nilv _ _ _ _ hv
    rw [key a b _ _ _ _ (.inl (by simpa using ha)),ha,hb]; simp
   ·obtain⟨b,n2,c2,rfl,hb⟩:=nilv _ _ _ _ hv
    simp only [Rep]at hu
    obtain⟨a,c,rfl⟩:=Gh.at_any hu fun _ _ ⟨_,_,_,_,_,q,_⟩=>⟨_,_,q⟩
    rw [key _ b _ _ _ _ (.inr (by simpa using hb))]; simp
   ·obtain⟨b,n2,c2,rfl,hb⟩:=nilv _ _ _ _ hu
    simp only [Rep]at hv
    obtain⟨a,c,rfl⟩:=Gh.at_any hv fun _ _ ⟨_,_,_,_,_,q,_⟩=>⟨_,_,q⟩
    rw [key b _ _ _ _ _ (.inl (by simpa using hb))]; simp
  ·rename_i q e hun
   simp only [Option.some.injEq]at h; subst h
   simp only [eqT]at he
   split at he <;> (try cases he)
   ·simp only [Rep]at hu hv; subst hu hv; simp [Op.equalIn,run_underlying hun]
   ·simp only [Rep]at hu hv; subst hu; obtain ⟨b,rfl⟩:=Gh.at_any hv fun _ _ q=>⟨_,q⟩; simp [Op.equalIn,run_underlying hun]
   ·simp only [Rep]at hu hv; subst hv; obtain ⟨b,rfl⟩:=Gh.at_any hu fun _ _ q=>⟨_,q⟩; simp [Op.equalIn,run_underlying hun]
  ·rename_i ps rs vr hun
   simp only [Option.some.injEq]at h; subst h
   simp only [eqT]at he
   split at he <;> (try cases he)
   ·simp only [Rep]at hu hv; subst hu hv; simp [Op.equalIn,run_underlying hun]
   ·simp only [Rep]at hu hv; subst hu; obtain ⟨_,_,rfl,_⟩:=hv; simp [Op.equalIn,run_underlying hun]
   ·simp only [Rep]at hu hv; subst hv; obtain ⟨_,_,rfl,_⟩:=hu; simp [Op.equalIn,run_underlying hun]
  ·rename_i fs hun
   split at h
   ·cases h
   ·rename_i hst
    simp only [Option.map_eq_some_iff]at h
    obtain⟨l,hl,rfl⟩:=h
    simp only [eqT]at he
    split at he
    ·simp only [Rep]at hu hv
     obtain⟨xs,rfl,hx1,hx2⟩:=hu
     obtain⟨ys,rfl,hy1,hy2⟩:=hv
     have hfo:=zUi hun
     rw [run_equalIn_struct w d t xs ys (by rw [hfo]; exact hun) hst,hfo]
     exact zKz hx1 hy1 hx2 hy2 (fun t' e' h' x' y' r' u' v' he' hu' hv' =>ih false t' e' h' d (by omega) x' y' r' u' v' he' hu' hv') fs.toList l hl r he
    ·cases he
  ·cases h
end Go.Ab
