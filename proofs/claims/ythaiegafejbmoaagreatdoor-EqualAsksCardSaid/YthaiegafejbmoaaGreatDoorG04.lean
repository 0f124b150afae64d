/- Part. -/
import Derived.Test.YthaiegafejbmoaaGreatDoorG03
import Derived.Laws.StructEq
import Derived.Laws.Concat
import Derived.Laws.Strings
set_option linter.unusedSectionVars false
set_option linter.unusedSimpArgs false
set_option linter.unusedVariables false
namespace Go.Ab
open Go
variable [eh]
variable {ρ:Gh}{w:World}{P:Program}
theorem oY:∀(a b:List UInt8),Op.bytesLess a b=nQ a b
 | _,[]=>by simp [Op.bytesLess,nQ]
 | [],_::_=>by simp [Op.bytesLess,nQ]
 | a::x,b::y=>by simp [Op.bytesLess,nQ,oY x y]
theorem nV (op:BinOp)(t:TypeId)(px py:Operand)(k j:IntKind)(a b:Int):(eqGuard op t px py (.int k a) (.int j b)).run P w= .ok () w:=by
 cases op <;> simp [eqGuard]
theorem Bg (op:BinOp)(t:TypeId)(px py:Operand)(a b:ByteArray):(eqGuard op t px py (.string a) (.string b)).run P w= .ok () w:=by
 cases op <;> simp [eqGuard]
theorem AU {op:BinOp}{k:IntKind}{a b:Int}{d:D}(h:vx op k a b=some d)(t:TypeId):∃r,(binOp op t (.int k a) (.int k b)).run P w= .ok r w/\aR ρ w d r:=by
 cases op <;> simp only [vx,aa]at h
 case add=>subst h; exact ⟨_,by simp [binOp,Op.intArith]; rfl,by simp [aR]⟩
 case sub=>subst h; exact ⟨_,by simp [binOp,Op.intArith]; rfl,by simp [aR]⟩
 case mul=>subst h; exact ⟨_,by simp [binOp,Op.intArith]; rfl,by simp [aR]⟩
 case quo=>
  split at h
  ·cases h
  ·rename_i hb;simp only [aa]at h; subst h;exact⟨_,by simp [binOp,Op.intDiv,hb]; rfl,by simp [aR]⟩
 case rem=>
  split at h
  ·cases h
  ·rename_i hb;simp only [aa]at h; subst h;exact⟨_,by simp [binOp,Op.intDiv,hb]; rfl,by simp [aR]⟩
 case and=>subst h; exact ⟨_,by simp only [binOp,ne_eq,iU,gS,Op.intBits,Sem.run_pure]; rfl,by simp [aR]⟩
 case or=>subst h; exact ⟨_,by simp only [binOp,ne_eq,iU,gS,Op.intBits,Sem.run_pure]; rfl,by simp [aR]⟩
 case xor=>subst h; exact ⟨_,by simp only [binOp,ne_eq,iU,gS,Op.intBits,Sem.run_pure]; rfl,by simp [aR]⟩
 case andNot=>subst h; exact ⟨_,by simp only [binOp,ne_eq,iU,gS,Op.intBits,Sem.run_pure]; rfl,by simp [aR]⟩
 case eql=>subst h; exact ⟨_,by simp [binOp,Op.intCmp]; rfl,by simp [aR]⟩
 case neq=>subst h; exact ⟨_,by simp [binOp,Op.intCmp]; rfl,by simp [aR]⟩
 case lss=>subst h; exact ⟨_,by simp [binOp,Op.intCmp]; rfl,by simp [aR]⟩
 case leq=>subst h; exact ⟨_,by simp [binOp,Op.intCmp]; rfl,by simp [aR]⟩
 case gtr=>subst h; exact ⟨_,by simp [binOp,Op.intCmp]; rfl,by simp [aR]⟩
 case geq=>subst h; exact ⟨_,by simp [binOp,Op.intCmp]; rfl,by simp [aR]⟩
 all_goals cases h
theorem AV {op:BinOp}{a b:List UInt8}{d:D}(h:yk op a b=some d)(t:TypeId):∃r,(binOp op t (.string ⟨⟨a⟩⟩) (.string ⟨⟨b⟩⟩)).run P w= .ok r w/\aR ρ w d r:=by
 have ha:(⟨⟨a⟩⟩:ByteArray).toList=a:=ByteArray.toList_mk a;have hb:(⟨⟨b⟩⟩:ByteArray).toList=b:=ByteArray.toList_mk b;cases op <;> simp only [yk,aa]at h
 case add=>
  split at h
  ·rename_i hl;simp only [aa]at h; subst h;have hle:=az hl;refine⟨.string (⟨⟨a⟩⟩++⟨⟨b⟩⟩), ?_, ?_⟩
   ·have:=run_string_add_sum (P:=P) (w:=w) ⟨⟨a⟩⟩ ⟨⟨b⟩⟩ (by simp only [ByteArray.size_mk',jV]; omega);simpa [binOp] using this
   ·simp only [aR];exact congrArg Value.string (ByteArray.mk_append_mk a b)
  ·cases h
 case eql=>subst h; exact ⟨_,by simp [binOp,Op.stringOp,ha,hb]; rfl,by simp [aR]⟩
 case neq=>subst h; exact ⟨_,by simp [binOp,Op.stringOp,ha,hb]; rfl,by simp [aR]⟩
 case lss=>subst h; exact ⟨_,by simp only [binOp,Op.stringOp,ha,hb,oY,Sem.run_pure]; rfl,by simp [aR]⟩
 case leq=>subst h; exact ⟨_,by simp only [binOp,Op.stringOp,ha,hb,oY,Sem.run_pure]; rfl,by simp [aR]⟩
 case gtr=>subst h; exact ⟨_,by simp only [binOp,Op.stringOp,ha,hb,oY,Sem.run_pure]; rfl,by simp [aR]⟩
 case geq=>subst h; exact ⟨_,by simp only [binOp,Op.stringOp,ha,hb,oY,Sem.run_pure]; rfl,by simp [aR]⟩
 all_goals cases h
theorem IM {lo hi c n:Int}(h:Tv lo hi c=true)(h1:lo<=n)(h2:n<=hi):(n==c)=false/\(c==n)=false:=by
 simp only [Tv,ey,bf]at h;have:n≠c:=by omega
 exact⟨by simpa using this,by simpa using fun e=>this e.symm⟩
theorem IN {ex:List (List UInt8)}{lo hi:Nat}{c n:List UInt8}(h:Tw ex lo hi c=true)(h0:n ∉ ex)(h1:lo<=n.length)(h2:n.length<=hi):(n==c)=false/\(c==n)=false:=by
 have:n≠c:=by
  rintro rfl;simp only [Tw,ey,List.any_eq_true]at h;rcases h with h | h | ⟨z,hz,h⟩
  ·have:=az h; omega
  ·have:=az h; omega
  ·exact h0 ((eq_of_beq h) ▸ hz)
 exact⟨by simpa using this,by simpa using fun e=>this e.symm⟩
theorem iV {c b r:Bool}(h:lT c b=some r):c=true/\r=b:=by
 unfold lT at h;split at h
 ·simp only [aa]at h; exact ⟨rfl,h.symm⟩
 ·cases h
theorem yG {x y:D}{r:Bool}{u v:Value}(h:Yp x y=some r)(hu:aR ρ w x u)(hv:aR ρ w y v):∃k a b,u= .int k a/\v= .int k b/\r=(a==b):=by
 unfold Yp at h;split at h
 ·obtain⟨h1,h2⟩:=iV h;obtain rfl:=bL h1;simp only [aR]at hu hv;exact⟨_,_,_,hu,hv,h2⟩
 ·obtain⟨h1,h2⟩:=iV h;simp only [aB]at h1;obtain rfl:=bL h1.1;simp only [aR]at hu hv;exact⟨_,_,_,hu.1,hv,by rw [(IM h1.2 hu.2.1 hu.2.2).1]; exact h2⟩
 ·obtain⟨h1,h2⟩:=iV h;simp only [aB]at h1;obtain rfl:=bL h1.1;simp only [aR]at hu hv;exact⟨_,_,_,hu,hv.1,by rw [(IM h1.2 hv.2.1 hv.2.2).2]; exact h2⟩
 ·obtain⟨h1,h2⟩:=iV h;simp only [aB]at h1;obtain rfl:=bL h1.1;obtain rfl:=bL h1.2;simp only [aR]at hu hv;exact⟨_,_,_,hu.1,hv.1,by simpa using h2⟩
 ·cases h
theorem yH {x y:D}{r:Bool}{u v:Value}(h:Yq x y=some r)(hu:aR ρ w x u)(hv:aR ρ w y v):∃a b:List UInt8,u= .string ⟨⟨a⟩⟩/\v= .string ⟨⟨b⟩⟩/\r=(a==b):=by
 unfold Yq at h;split at h
 ·simp only [aa]at h;simp only [aR]at hu hv;exact⟨_,_,hu,hv,h.symm⟩
 ·obtain⟨h1,h2⟩:=iV h;simp only [aR]at hu hv;exact⟨_,_,hu.1,hv,by rw [(IN h1 hu.2.1 hu.2.2.1 hu.2.2.2).1]; exact h2⟩
 ·obtain⟨h1,h2⟩:=iV h;simp only [aR]at hu hv;exact⟨_,_,hu,hv.1,by rw [(IN h1 hv.2.1 hv.2.2.1 hv.2.2.2).2]; exact h2⟩
 ·obtain⟨h1,h2⟩:=iV h;obtain rfl:=ay h1;simp only [aR]at hu hv;exact⟨_,_,hu.1,hv.1,by simpa using h2⟩
 ·cases h
theorem vF {x y:D}{r:Bool}{u v:Value}(h:N2 x y=some r)(hu:aR ρ w x u)(hv:aR ρ w y v):∃a b,u= .bool a/\v= .bool b/\r=(a==b):=by
 unfold N2 at h;split at h
 ·simp only [aa]at h;simp only [aR]at hu hv;exact⟨_,_,hu,hv,h.symm⟩
 ·obtain⟨h1,h2⟩:=iV h;obtain rfl:=ay h1;simp only [aR]at hu hv;exact⟨_,_,hu,hv,by simpa using h2⟩
 ·cases h
theorem qN {x y d:D}{u v:Value}(h:BW x y=some d)(hu:aR ρ w x u)(hv:aR ρ w y v):∃k a b,u= .int k a/\v= .int k b/\d= .bool (decide (a < b)):=by
 unfold BW at h;split at h
 ·split at h
  ·rename_i hk;obtain rfl:=bL hk;simp only [aR]at hu hv;split at h
   ·rename_i h1;have:=bL h1;simp only [aa]at h; subst h;exact⟨_,_,_,hu.1,hv,congrArg D.bool (du (by omega)).symm⟩
   ·rename_i h1 _;have:=bL h1;simp only [aa]at h; subst h;exact⟨_,_,_,hu.1,hv,congrArg D.bool (cP (by omega)).symm⟩
   ·cases h
  ·cases h
 ·split at h
  ·rename_i hk;obtain rfl:=bL hk;simp only [aR]at hu hv;split at h
   ·rename_i h1;have:=bL h1;simp only [aa]at h; subst h;exact⟨_,_,_,hu,hv.1,congrArg D.bool (du (by omega)).symm⟩
   ·rename_i h1 _;have:=bL h1;simp only [aa]at h; subst h;exact⟨_,_,_,hu,hv.1,congrArg D.bool (cP (by omega)).symm⟩
   ·cases h
  ·cases h
 ·cases h
theorem Ad {x y d:D}{u v:Value}(h:I2 x y=some d)(hu:aR ρ w x u)(hv:aR ρ w y v):
  (∃k a b,u= .int k a/\v= .int k b/\d= .bool (a==b))\/∃a b:List UInt8,u= .string ⟨⟨a⟩⟩/\v= .string ⟨⟨b⟩⟩/\d= .bool (a==b):=by
 unfold I2 at h;split at h
 ·rename_i r hr;obtain⟨k,a,b,h1,h2,rfl⟩:=yG hr hu hv;simp only [aa]at h; subst h;exact .inl ⟨k,a,b,h1,h2,rfl⟩
 ·split at h
  ·rename_i r hr;obtain⟨a,b,h1,h2,rfl⟩:=yH hr hu hv;simp only [aa]at h; subst h;exact .inr ⟨a,b,h1,h2,rfl⟩
  ·cases h
theorem Ko {m c:Int}:∀ {a:Sym},(Pw m c a).val=m * a.val+c
 | .i _=>rfl
 | .len _=>rfl
 | .lin m' c' a=>by simp only [Pw,Sym.val,Int.mul_add,Int.mul_assoc,Int.add_assoc]
theorem wrap64 {n:Int}(h1: -9223372036854775808<=n)(h2:n<=9223372036854775807):IntKind.wrap .i64 n=n:=by
 simp only [IntKind.wrap,IntKind.signed,IntKind.bits,fO,bf,ge_iff_le];rw [show ((2:Int) ^ (64 - 1))=9223372036854775808 from rfl,show ((2:Int) ^ 64)=18446744073709551616 from rfl];split <;> omega
theorem pB {k:IntKind}{m c lo hi n:Int}{a:Sym}{d:D}(h:wz k m c a lo hi=some d)(hn:n=m * a.val+c)(h1:lo<=n)(h2:n<=hi):aR ρ w d (.int k (k.wrap n)):=by
 unfold wz at h;split at h
 ·rename_i hk hl hh;have hk:=bL hk;have hl:=bL hl;have hh:=bL hh;simp only [aa]at h; subst h;subst hk;simp only [aR,Ko];rw [wrap64 (by omega) (by omega),← hn];exact⟨rfl,h1,h2⟩
 ·cases h
theorem Fo {x y d:D}{u v:Value}(h:Hm x y=some d)(hu:aR ρ w x u)(hv:aR ρ w y v):∃k a b,u= .int k a/\v= .int k b/\aR ρ w d (.int k (k.wrap (a+b))):=by
 unfold Hm at h;split at h
 ·split at h
  ·rename_i hk;obtain rfl:=bL hk;simp only [aR]at hu hv;exact⟨_,_,_,hu.1,hv,pB h (by omega) (by omega) (by omega)⟩
  ·cases h
 ·split at h
  ·rename_i hk;obtain rfl:=bL hk;simp only [aR]at hu hv;exact⟨_,_,_,hu,hv.1,pB h (by omega) (by omega) (by omega)⟩
  ·cases h
 ·cases h
theorem Fq {x y d:D}{u v:Value}(h:Hn x y=some d)(hu:aR ρ w x u)(hv:aR ρ w y v):∃k a b,u= .int k a/\v= .int k b/\aR ρ w d (.int k (k.wrap (a - b))):=by
 unfold Hn at h;split at h
 ·split at h
  ·rename_i hk;obtain rfl:=bL hk;simp only [aR]at hu hv;exact⟨_,_,_,hu.1,hv,pB h (by omega) (by omega) (by omega)⟩
  ·cases h
 ·split at h
  ·rename_i hk;obtain rfl:=bL hk;simp only [aR]at hu hv;exact⟨_,_,_,hu,hv.1,pB h (by omega) (by omega) (by omega)⟩
  ·cases h
 ·cases h
theorem Rz (t:TypeId)(k:IntKind)(a b:Int):(binOp .add t (.int k a) (.int k b)).run P w= .ok (.int k (k.wrap (a+b))) w:=by
 simp [binOp,Op.intArith]
theorem TN (t:TypeId)(k:IntKind)(a b:Int):(binOp .sub t (.int k a) (.int k b)).run P w= .ok (.int k (k.wrap (a - b))) w:=by
 simp [binOp,Op.intArith]
theorem VC {op:BinOp}{x y d:D}{u v:Value}(hu:aR ρ w x u)(hv:aR ρ w y v)(h:Me op x y=some d)(t:TypeId)(px py:Operand):
  ∃r,(do eqGuard op t px py u v; binOp op t u v:Sem Value).run P w= .ok r w/\aR ρ w d r:=by
 unfold Me at h;split at h
 ·simp only [aR]at hu hv; subst hu hv;split at h
  ·cases h
  ·rename_i hb;simp only [aa]at h; subst h;exact⟨_,by simp only [Sem.run_bind,nV,Result.andThen_ok]; simp [binOp,Op.shift,hb]; rfl,by simp [aR]⟩
 ·simp only [aR]at hu hv; subst hu hv;split at h
  ·cases h
  ·rename_i hb;simp only [aa]at h; subst h;exact⟨_,by simp only [Sem.run_bind,nV,Result.andThen_ok]; simp [binOp,Op.shift,hb]; rfl,by simp [aR]⟩
 ·simp only [aR]at hu hv; subst hu hv;split at h
  ·rename_i hk;have Az :=bL hk;subst Az;obtain⟨r,h1,h2⟩:=AU (P:=P) (ρ:=ρ) (w:=w) h t;exact⟨r,by simp only [Sem.run_bind,nV,Result.andThen_ok]; exact h1,h2⟩
  ·cases h
 ·simp only [aR]at hu hv; subst hu hv;obtain⟨r,h1,h2⟩:=AV (P:=P) (ρ:=ρ) (w:=w) h t;exact⟨r,by simp only [Sem.run_bind,Bg,Result.andThen_ok]; exact h1,h2⟩
 all_goals
  have int:∀(op:BinOp) (k:IntKind) (a b:Int) (d:D),vx op k a b=some d->∃r,(do eqGuard op t px py (.int k a) (.int k b); binOp op t (.int k a) (.int k b):Sem Value).run P w= .ok r w/\aR ρ w d r:=fun op k a b d h=>by
   obtain⟨r,h1,h2⟩:=AU (P:=P) (ρ:=ρ) (w:=w) h t;exact⟨r,by simp only [Sem.run_bind,nV,Result.andThen_ok]; exact h1,h2⟩
  have str:∀(op:BinOp) (a b:List UInt8) (d:D),yk op a b=some d->∃r,(do eqGuard op t px py (.string ⟨⟨a⟩⟩) (.string ⟨⟨b⟩⟩); binOp op t (.string ⟨⟨a⟩⟩) (.string ⟨⟨b⟩⟩):Sem Value).run P w= .ok r w/\aR ρ w d r:=fun op a b d h=>by
   obtain⟨r,h1,h2⟩:=AV (P:=P) (ρ:=ρ) (w:=w) h t;exact⟨r,by simp only [Sem.run_bind,Bg,Result.andThen_ok]; exact h1,h2⟩
 ·rcases Ad h hu hv with ⟨k,a,b,rfl,rfl,rfl⟩ | ⟨a,b,rfl,rfl,rfl⟩
  ·exact int _ _ _ _ _ rfl
  ·exact str _ _ _ _ rfl
 ·split at h
  ·rename_i b0 yO;simp only [aa]at h; subst h;rcases Ad yO hu hv with ⟨k,a,b,rfl,rfl,hd⟩ | ⟨a,b,rfl,rfl,hd⟩
   ·simp only [D.bool.injEq]at hd; subst hd;exact int _ _ _ _ _ rfl
   ·simp only [D.bool.injEq]at hd; subst hd;exact str _ _ _ _ rfl
  ·cases h
 ·obtain⟨k,a,b,rfl,rfl,rfl⟩:=qN h hu hv;exact int _ _ _ _ _ rfl
 ·obtain⟨k,a,b,rfl,rfl,rfl⟩:=qN h hv hu;exact int _ _ _ _ _ rfl
 ·unfold CT at h;split at h
  ·rename_i b0 yO;simp only [aa]at h; subst h;obtain⟨k,a,b,rfl,rfl,hd⟩:=qN yO hu hv;simp only [D.bool.injEq]at hd; subst hd;refine int _ _ _ _ _ ?_;simp only [vx,aa,D.bool.injEq];by_cases hh:a < b
   ·rw [du hh,cP (by omega)]; rfl
   ·rw [cP hh,du (by omega)]; rfl
  ·cases h
 ·unfold CT at h;split at h
  ·rename_i b0 yO;simp only [aa]at h; subst h;obtain⟨k,a,b,rfl,rfl,hd⟩:=qN yO hv hu;simp only [D.bool.injEq]at hd; subst hd;refine int _ _ _ _ _ ?_;simp only [vx,aa,D.bool.injEq];by_cases hh:a < b
   ·rw [du hh,cP (by omega)]; rfl
   ·rw [cP hh,du (by omega)]; rfl
  ·cases h
 ·obtain⟨k,a,b,rfl,rfl,hd⟩:=Fo h hu hv;exact⟨_,by simp only [Sem.run_bind,nV,Result.andThen_ok]; exact Rz t k a b,hd⟩
 ·obtain⟨k,a,b,rfl,rfl,hd⟩:=Fq h hu hv;exact⟨_,by simp only [Sem.run_bind,nV,Result.andThen_ok]; exact TN t k a b,hd⟩
 ·cases h
theorem aaU {op:UnOp}{x d:D}{u:Value}(hu:aR ρ w x u)(h:unD op x=some d):∃r,(Op.unary op u).run P w= .ok r w/\aR ρ w d r:=by
 unfold unD at h;split at h
 ·simp only [aR]at hu; subst hu;simp only [aa]at h; subst h;exact⟨_,by simp [Op.unary,Op.intArith]; rfl,by simp [aR]⟩
 ·simp only [aR]at hu; subst hu;simp only [aa]at h; subst h;exact⟨_,by simp only [Op.unary,Op.intBits,Sem.run_pure]; rfl,by simp [aR]⟩
 ·simp only [aR]at hu; subst hu;simp only [aa]at h; subst h;exact⟨_,by simp [Op.unary]; rfl,by simp [aR]⟩
 ·cases h
theorem qc {t:TypeId}{cs:Array Value}{l:List D}{off:Nat}{sz:Option Nat}{d:D}(hl:bu ρ w l cs.toList)(hs:l.all D.sc=true)(iC:iH P t=some sz)(hp:part l off sz=some d):
  ∃v,(Go.part t cs off).run P w= .ok v w/\aR ρ w d v:=by
 have hr:=rX hl hs hp;cases hu:P.underlying t with
 | none=>simp [iH,oQ,hu]at iC
 | some e=>
  by_cases hd:e.isRow=true
  ·have ha:oQ P t=some true:=by cases e <;> simp_all [oQ,TypeDesc.isRow]
   cases hz:dC P t with
   | none=>simp [iH,hz]at iC
   | some s=>
    simp only [iH,ha,hz,aa]at iC;subst iC;simp only at hr;obtain⟨h1,h2⟩:=hr;have Ot:(isAgg t).run P w= .ok true w:=by
     unfold isAgg;rw [Sem.run_bind,run_underlying hu w];cases e <;> simp_all [TypeDesc.isRow]
    cases hq:P.info? t with
    | none=>simp [dC,hq]at hz
    | some i=>
     have hi:i.size=s:=by simpa [dC,hq] using hz
     refine⟨.agg (cs.extract off (off+s)), ?_, ?_⟩
     ·simp [Go.part,Ot,sizeOf,typeInfo,hq,hi]
     ·have e1:cs.extract off (off+s)=((cs.toList.drop off).take s).toArray:=by
       apply Array.toList_inj.1;simp [Array.toList_extract]
      rw [e1]; exact h2
  ·have ha:oQ P t=some false:=by cases e <;> simp_all [oQ,TypeDesc.isRow]
   have h1:sz=none:=by
    simp only [iH,ha]at iC;split at iC
    ·simp_all
    ·simpa using iC.symm
    ·cases iC
   subst h1;simp only at hr;obtain⟨v,h1,h2,_⟩:=hr;have hd:e.isRow=false:=by simpa using hd
   have Ot:(isAgg t).run P w= .ok false w:=by
    unfold isAgg;rw [Sem.run_bind,run_underlying hu w];cases e <;> simp_all [TypeDesc.isRow]
   have D7 :cs[off]? =some v:=by simpa using h1
   exact⟨v,by simp [Go.part,Ot,D7],h2⟩
theorem DZ {t:TypeId}{fs:Array Field}(h:P.underlying t=some (.struct fs)):P.fieldsOf t=fs:=by
 simp [Program.fieldsOf,h]
theorem wR {d:Nat}{f:TypeId->Option ET}{xs ys:Array Value}{lx ly:List D}(hx:bu ρ w lx xs.toList)(hy:bu ρ w ly ys.toList)(SG:lx.all D.sc=true)(Rh:ly.all D.sc=true)
  (ih:∀t e,f t=some e->∀x y r u v,sC false e x y=some r->aR ρ w x u->aR ρ w y v->(Op.equalIn d t u v).run P w= .ok r w):
  ∀(fs:List Field) (l:Vq),sR.fieldsB P f fs=some l->∀r,JG l lx ly=some r->(Op.eqFields d xs ys fs).run P w= .ok r w
 | [],l,h,r,hr=>by
  simp only [sR.fieldsB,aa]at h; subst h;simp only [JG,aa]at hr; subst hr;simp [Op.eqFields]
 | x::fs,l,h,r,hr=>by
  simp only [sR.fieldsB]at h;split at h
  ·cases h
  ·rename_i hn;split at h
   ·rename_i s e l' h1 h2 h3;simp only [aa]at h; subst h;simp only [JG]at hr;split at hr
    ·rename_i p q hp hq;obtain⟨u,hu1,hu2⟩:=qc (P:=P) hx SG h1 hp;obtain⟨v,ql,hv2⟩:=qc (P:=P) hy Rh h1 hq;have dn : x.name ≠ "_" := by simpa using hn
     split at hr
     ·rename_i hb;have hi:=ih x.type e h2 p q true u v hb hu2 hv2;have OV:=wR hx hy SG Rh ih fs l' h3 r hr;simp only [Op.eqFields,dn,ne_eq,cT,ei,Sem.run_bind,hu1,ql,hi,Result.andThen_ok];simpa using OV
     ·rename_i hb;simp only [aa]at hr; subst hr;have hi:=ih x.type e h2 p q false u v hb hu2 hv2;simp only [Op.eqFields,dn,ne_eq,cT,ei,Sem.run_bind,hu1,ql,hi,Result.andThen_ok];simp
     ·cases hr
    ·cases hr
   ·cases h
set_option maxHeartbeats 2000000 in
theorem N4 (oc:Bool):∀(n:Nat) (t:TypeId) (et:ET),sR P n t=some et->∀(d:Nat),n<=d->∀(x y:D) (r:Bool) (u v:Value),sC oc et x y=some r->aR ρ w x u->aR ρ w y v->(Op.equalIn d t u v).run P w= .ok r w:=by
 intro n;induction n generalizing oc with
 | zero=>intro t et h; simp [sR]at h
 | succ n ih=>
  intro t et h d hd x y r u v he hu hv;obtain⟨d,rfl⟩:∃k,d=k+1:=⟨d - 1,by omega⟩;simp only [sR]at h;split at h
  ·rename_i qk;simp only [aa]at h; subst h;simp only [sC]at he;obtain⟨p,q,rfl,rfl,rfl⟩:=vF he hu hv;exact run_equalIn_bool w d t _ _ qk
  ·rename_i k qk;simp only [aa]at h; subst h;simp only [sC]at he;obtain⟨_,p,q,rfl,rfl,rfl⟩:=yG he hu hv;exact run_equalIn_int w d t _ _ _ _ qk
  ·rename_i qk;simp only [aa]at h; subst h;simp only [sC]at he;obtain⟨p,q,rfl,rfl,rfl⟩:=yH he hu hv;rw [run_equalIn_string w d t _ _ qk,ByteArray.toList_eq,ByteArray.toList_eq]
  ·rename_i e qk;split at h
   ·rename_i m hm;simp only [aa]at h; subst h;have key:∀(a b:Option Addr),(a=none\/b=none)->(Op.equalIn (d+1) t (.pointer a) (.pointer b)).run P w= .ok (a.isNone && b.isNone) w:=by
     intro a b ZT;cases a <;> cases b <;> simp_all [Op.equalIn,run_underlying qk]
    have shp:∀(z:D) (q:Value),aR ρ w z q->(∃o c,z= .ptr o c)\/(∃o i c e,z= .jN o i c e)\/(∃e c,z= .jJ e c)->∃a,q= .pointer (some a):=by
     intro z q hz hs;rcases hs with ⟨o,c,rfl⟩ | ⟨o,i,c,e,rfl⟩ | ⟨e,c,rfl⟩ <;> simp only [aR]at hz
     ·exact Gh.jF hz fun _ _ q=>⟨_,q⟩
     ·exact Gh.jF hz fun _ _ q=>⟨_,q.2.2.2⟩
     ·obtain⟨_,_,_,_,_,_,_,rfl⟩:=hz; exact ⟨_,rfl⟩
    simp only [sC]at he;split at he <;> (try cases he)
    ·simp only [aR]at hu hv; subst hu hv; simpa using key none none (.inl rfl)
    ·obtain⟨a,rfl⟩:=shp _ _ hv (.inl ⟨_,_,rfl⟩); simp only [aR]at hu; subst hu; simpa using key none (some a) (.inl rfl)
    ·obtain⟨a,rfl⟩:=shp _ _ hu (.inl ⟨_,_,rfl⟩); simp only [aR]at hv; subst hv; simpa using key (some a) none (.inr rfl)
    ·obtain⟨a,rfl⟩:=shp _ _ hv (.inr (.inl ⟨_,_,_,_,rfl⟩)); simp only [aR]at hu; subst hu; simpa using key none (some a) (.inl rfl)
    ·obtain⟨a,rfl⟩:=shp _ _ hu (.inr (.inl ⟨_,_,_,_,rfl⟩)); simp only [aR]at hv; subst hv; simpa using key (some a) none (.inr rfl)
    ·obtain⟨a,rfl⟩:=shp _ _ hv (.inr (.inr ⟨_,_,rfl⟩)); simp only [aR]at hu; subst hu; simpa using key none (some a) (.inl rfl)
    ·obtain⟨a,rfl⟩:=shp _ _ hu (.inr (.inr ⟨_,_,rfl⟩)); simp only [aR]at hv; subst hv; simpa using key (some a) none (.inr rfl)
   ·cases h
  ·rename_i ms qk;simp only [aa]at h; subst h;simp only [sC]at he;split at he
   ·split at he
    ·cases he; simp only [aR]at hu hv; subst hu hv; simp [Op.equalIn,run_underlying qk]
    ·cases he
   ·cases he; simp only [aR]at hu hv; subst hu; obtain ⟨_,rfl,_⟩:=hv; simp [Op.equalIn,run_underlying qk]
   ·cases he; simp only [aR]at hu hv; subst hv; obtain ⟨_,rfl,_⟩:=hu; simp [Op.equalIn,run_underlying qk]
   ·split at he
    ·cases he
    ·rename_i hb;cases he;simp only [aR]at hu hv;obtain⟨_,rfl,_⟩:=hu;obtain⟨_,rfl,_⟩:=hv;have dn:=Nat.ne_of_beq_eq_false hb;simp [Op.equalIn,run_underlying qk,dn]
   ·cases he
  ·rename_i e qk;simp only [aa]at h; subst h;have nilv:∀(nl:Bool) (sz:Nat) (l:List D) (q:Value),aR ρ w (.vs nl sz l) q->∃a n c,q= .slice a n c/\a.isNone=nl:=by
    intro nl sz l q hq;simp only [aR]at hq;rcases hq with ⟨h1,_,rfl⟩ | ⟨h1,ad,c,rfl,_⟩
    ·exact⟨_,_,_,rfl,by simp [h1]⟩
    ·exact⟨_,_,_,rfl,by simp [h1]⟩
   have key:∀(a b:Option Addr) (n c n' c' :Nat),(a=none\/b=none)->(Op.equalIn (d+1) t (.slice a n c) (.slice b n' c')).run P w= .ok (a.isNone && b.isNone) w:=by
    intro a b n c n' c' ZT;cases a <;> cases b <;> simp_all [Op.equalIn,run_underlying qk]
   simp only [sC]at he;split at he <;> (try cases he)
   ·obtain⟨a,n1,c1,rfl,ha⟩:=nilv _ _ _ _ hu;obtain⟨b,n2,c2,rfl,hb⟩:=nilv _ _ _ _ hv;rw [key a b _ _ _ _ (.inr (by simpa using hb)),ha,hb]; simp
   ·obtain⟨a,n1,c1,rfl,ha⟩:=nilv _ _ _ _ hu;obtain⟨b,n2,c2,rfl,hb⟩:=nilv _ _ _ _ hv;rw [key a b _ _ _ _ (.inl (by simpa using ha)),ha,hb]; simp
   ·obtain⟨b,n2,c2,rfl,hb⟩:=nilv _ _ _ _ hv;simp only [aR]at hu;obtain⟨a,c,rfl⟩:=Gh.jF hu fun _ _ ⟨_,_,_,_,_,q,_⟩=>⟨_,_,q⟩;rw [key _ b _ _ _ _ (.inr (by simpa using hb))]; simp
   ·obtain⟨b,n2,c2,rfl,hb⟩:=nilv _ _ _ _ hu;simp only [aR]at hv;obtain⟨a,c,rfl⟩:=Gh.jF hv fun _ _ ⟨_,_,_,_,_,q,_⟩=>⟨_,_,q⟩;rw [key b _ _ _ _ _ (.inl (by simpa using hb))]; simp
  ·rename_i q e qk;simp only [aa]at h; subst h;simp only [sC]at he;split at he <;> (try cases he)
   ·simp only [aR]at hu hv; subst hu hv; simp [Op.equalIn,run_underlying qk]
   ·simp only [aR]at hu hv; subst hu; obtain ⟨b,rfl⟩:=Gh.jF hv fun _ _ q=>⟨_,q⟩; simp [Op.equalIn,run_underlying qk]
   ·simp only [aR]at hu hv; subst hv; obtain ⟨b,rfl⟩:=Gh.jF hu fun _ _ q=>⟨_,q⟩; simp [Op.equalIn,run_underlying qk]
  ·rename_i ps rs vr qk;simp only [aa]at h; subst h;simp only [sC]at he;split at he <;> (try cases he)
   ·simp only [aR]at hu hv; subst hu hv; simp [Op.equalIn,run_underlying qk]
   ·simp only [aR]at hu hv; subst hu; obtain ⟨_,_,rfl,_⟩:=hv; simp [Op.equalIn,run_underlying qk]
   ·simp only [aR]at hu hv; subst hv; obtain ⟨_,_,rfl,_⟩:=hu; simp [Op.equalIn,run_underlying qk]
  ·rename_i fs qk;split at h
   ·cases h
   ·rename_i cG;simp only [aW]at h;obtain⟨l,hl,rfl⟩:=h;simp only [sC]at he;split at he
    ·simp only [aR]at hu hv;obtain⟨xs,rfl,vS,vT⟩:=hu;obtain⟨ys,rfl,AD,y9⟩:=hv;have UH:=DZ qk;rw [run_equalIn_struct w d t xs ys (by rw [UH]; exact qk) cG,UH];exact wR vS AD vT y9 (fun t' e' h' x' y' r' u' v' he' O0 Xz =>ih false t' e' h' d (by omega) x' y' r' u' v' he' O0 Xz) fs.toList l hl r he
    ·cases he
  ·cases h
end Go.Ab
namespace Go.Ab
open Go
variable [eh]
variable {ρ:Gh}{w:World}{P:Program}{pn:gY}{G:Gl}{X:ig}{A:mT} {s s' :St}{env:Env}{a:Act}{lo:Nat}{d:D}{C:au}{al:Option Nat}
def jg (ρ:Gh)(w:World) (s' :St)(d:D):Ending->World->Prop
 | .returned v,w' =>∃ρ',Kp ρ w ρ' w' /\bK ρ' s' w' /\aR ρ' w' d v
 | .panicked _,_=>False
 | .outgrown,_=>False
def eP (P:Program)(ρ:Gh)(w:World)(env:Env)(tmps:Array Value)(d:D) (s' :St):Result Next->Prop
 | .ok (.value v) w' =>∃ρ',Kp ρ w ρ' w' /\bK ρ' s' w' /\fe ρ' w' env tmps d v
 | .ok .skip w' =>∃ρ',Kp ρ w ρ' w' /\bK ρ' s' w' /\d= .gW []
 | .ok (.enter f args) w' =>w' =w/\Calls P f args w (jg ρ w s' d)
 | .ok (.round l fn tmps assign body) w' =>w' =w/\RoundIn Fence.wide 0 P l fn tmps assign body w (jg ρ w s' d)
 | _=>False
theorem eP.pure {v:Value}{tmps:Array Value}(hs:bK ρ s w)(h:fe ρ w env tmps d v):eP P ρ w env tmps d s (.ok (.value v) w):=⟨ρ,Kp.refl _ _,hs,h⟩
theorem eP.rep {v:Value}{tmps:Array Value}(hs:bK ρ s w)(h:aR ρ w d v):eP P ρ w env tmps d s (.ok (.value v) w):= .pure hs (.zC h)
theorem js {o:Option D}(h:pw s o=some (d,s')):o=some d/\s' =s:=by
 cases o with
 | none=>simp [pw]at h
 | some x=>simp only [pw,aa,ab]at h; exact ⟨by rw [h.1],h.2.symm⟩
theorem gT {x:D}{o:Option St}(h:nY x o=some (d,s')):o=some s' /\d=x:=by
 cases o with
 | none=>simp [nY]at h
 | some y=>simp only [nY,aa,ab]at h; exact ⟨by rw [h.2],h.1.symm⟩
section
variable (he:dW ρ w lo env a.tmps)(hg:gn pn G ρ w)(hs:bK ρ s w)
include he hg hs
theorem U6 {x' :Operand}{x:bO}(hx:ew G x' =some x)(h:cg C env s al (.mv x)=some (d,s')){o:Oper}(ho:o.op= .move x' \/o.op= .assign x'):
  eP P ρ w env a.tmps d s' ((execOp a.eval o).run P w):=by
 simp only [cg]at h;obtain⟨h1,rfl⟩:=js h;have hr:(execOp a.eval o).run P w= .ok (.value (a.eval x')) w:=by rcases ho with ho | ho <;> simp [execOp,ho]
 rw [hr];exact .pure hs (kP hx he hg h1)
theorem Tl {c' x' y' :Operand}{c x y:bO}(hc:ew G c' =some c)(hx:ew G x' =some x)(hy:ew G y' =some y)(h:cg C env s al (.pick c x y)=some (d,s')){o:Oper}(ho:o.op= .pick c' x' y'):
  eP P ρ w env a.tmps d s' ((execOp a.eval o).run P w):=by
 simp only [cg]at h;split at h
 ·rename_i t ht;have h1:=bc hc he hg ht;simp only [aR]at h1;split at h
  ·obtain⟨h2,rfl⟩:=js h;have hr:(execOp a.eval o).run P w= .ok (.value (a.eval x')) w:=by simp [execOp,ho,h1,asBool]
   rw [hr]; exact .rep hs (bc hx he hg h2)
  ·obtain⟨h2,rfl⟩:=js h;have hr:(execOp a.eval o).run P w= .ok (.value (a.eval y')) w:=by simp [execOp,ho,h1,asBool]
   rw [hr]; exact .rep hs (bc hy he hg h2)
 ·cases h
omit he hg hs in
theorem vU {b:Nat}(h:env.ke b=true):∃x,env.get b=some (.lv x):=by
 unfold Env.ke at h;split at h
 ·rename_i x hx; exact ⟨x,hx⟩
 ·cases h
theorem KH {x' :Operand}{x:bO}(hx:ew G x' =some x)(h:cg C env s al (.rU x)=some (d,s')){o:Oper}(ho:o.op= .nilCheck x'):
  eP P ρ w env a.tmps d s' ((execOp a.eval o).run P w):=by
 have key:∀(v:Value),a.eval x' =v->(match v with | .pointer (some _)=>true | .iface _ _=>true | .func (.func _) _ _=>true | _=>false)=true->
   (execOp a.eval o).run P w= .ok (.value (a.eval x')) w:=by
  intro v hv hm;cases v with
  | pointer p=>cases p with
   | none=>simp at hm
   | some q=>simp [execOp,ho,hv]
  | iface t u=>simp [execOp,ho,hv]
  | func f x y=>cases f with
   | func f=>simp [execOp,ho,hv]
   | _=>simp at hm
  | _=>simp at hm
 simp only [cg]at h;have hr:=fun e=>kP (d:=e) hx he hg;split at h
 ·rename_i b c hp;have h1:=hr _ hp;split at h
  ·rename_i mM;simp only [aa,ab]at h;obtain⟨rfl,rfl⟩:=h;obtain⟨y,hy⟩:=vU mM;obtain⟨bb,_,h3⟩:=h1 y hy;rw [key _ h3 rfl];exact .pure hs h1
  ·cases h
 ·rename_i b c hp;simp only [aa,ab]at h;obtain⟨rfl,rfl⟩:=h;have h1:=hr _ hp;have h2:=h1;simp only [fe,aR]at h2;obtain⟨q,hq⟩:=Gh.jF h2 fun _ _ q=>⟨_,q⟩;rw [key _ hq rfl];exact .pure hs h1
 ·rename_i b i c e hp;simp only [aa,ab]at h;obtain⟨rfl,rfl⟩:=h;have h1:=hr _ hp;have h2:=h1;simp only [fe,aR]at h2;obtain⟨q,hq⟩:=Gh.jF h2 fun _ _ q=>⟨_,q.2.2.2⟩;rw [key _ hq rfl];exact .pure hs h1
 ·rename_i e c hp;simp only [aa,ab]at h;obtain⟨rfl,rfl⟩:=h;have h1:=hr _ hp;have h2:=h1;simp only [fe,aR]at h2;obtain⟨_,_,_,_,_,_,_,hq⟩:=h2;rw [key _ hq rfl];exact .pure hs h1
 ·rename_i t v hp;simp only [aa,ab]at h;obtain⟨rfl,rfl⟩:=h;have h1:=hr _ hp;have h2:=h1;simp only [fe,aR]at h2;obtain⟨_,hq,_⟩:=h2;rw [key _ hq rfl];exact .pure hs h1
 ·rename_i f x y hp;simp only [aa,ab]at h;obtain⟨rfl,rfl⟩:=h;have h1:=hr _ hp;have h2:=h1;simp only [fe,aR]at h2;obtain⟨_,_,hq,_⟩:=h2;rw [key _ hq rfl];exact .pure hs h1
 ·cases h
theorem PG {op:BinOp}{t u:TypeId} {x' y' :Operand}{x y:bO}(hx:ew G x' =some x)(hy:ew G y' =some y)(h:cg C env s al (.bin op x y)=some (d,s')){o:Oper}(ho:o.op= .binOp op t x' y' u):
  eP P ρ w env a.tmps d s' ((execOp a.eval o).run P w):=by
 simp only [cg]at h;split at h
 ·rename_i p q hp hq;obtain⟨h1,rfl⟩:=js h;obtain⟨r,h2,h3⟩:=VC (P:=P) (bc hx he hg hp) (bc hy he hg hq) h1 t x' y';have hr:(execOp a.eval o).run P w= .ok (.value r) w:=by
   simp only [execOp,ho];rw [Sem.run_bind,h2]; rfl
  rw [hr]; exact .rep hs h3
 ·cases h
theorem U7 {op:UnOp}{t:TypeId} {x' :Operand}{x:bO}(hx:ew G x' =some x)(h:cg C env s al (.un op x)=some (d,s')){o:Oper}(ho:o.op= .unOp op t x'):
  eP P ρ w env a.tmps d s' ((execOp a.eval o).run P w):=by
 simp only [cg]at h;split at h
 ·rename_i p hp;obtain⟨h1,rfl⟩:=js h;obtain⟨r,h2,h3⟩:=aaU (P:=P) (bc hx he hg hp) h1;have hr:(execOp a.eval o).run P w= .ok (.value r) w:=by
   simp only [execOp,ho];rw [Sem.run_bind,h2]; rfl
  rw [hr]; exact .rep hs h3
 ·cases h
theorem Tk {t:TypeId} {x' :Operand}{x:bO}(hx:ew G x' =some x)(ht:∃e,P.underlying t=some e/\∀ms,e≠ .interface ms)(h:cg C env s al (.Py t x)=some (d,s')){o:Oper}(ho:o.op= .makeInterface t x'):
  eP P ρ w env a.tmps d s' ((execOp a.eval o).run P w):=by
 simp only [cg]at h;split at h
 ·rename_i p hp;simp only [aa,ab]at h;obtain⟨rfl,rfl⟩:=h;obtain⟨e,hu,dn⟩:=ht;have hr:(execOp a.eval o).run P w= .ok (.value (.iface t (a.eval x'))) w:=by
   simp only [execOp,ho,Instr.makeInterface];rw [Sem.run_bind,Sem.run_bind,run_underlying hu];cases e <;> simp_all
  rw [hr]; exact .rep hs (by simp only [aR]; exact ⟨_,rfl,bc hx he hg hp⟩)
 ·cases h
theorem Tj {f:Fn} {x' y' :Array Operand}{x y:List bO}(hx:rW G x' =some x)(hy:rW G y' =some y)(h:cg C env s al (.Kq f x y)=some (d,s')){o:Oper}(ho:o.op= .makeFunc f x' y'):
  eP P ρ w env a.tmps d s' ((execOp a.eval o).run P w):=by
 simp only [cg]at h;split at h
 ·rename_i p q hp hq;simp only [aa,ab]at h;obtain⟨rfl,rfl⟩:=h;have hr:(execOp a.eval o).run P w= .ok (.value (.func f (x'.map a.eval) (y'.map a.eval))) w:=by
   simp [execOp,ho,Instr.makeFunc]
  rw [hr]; exact .rep hs (by simp only [aR]; exact ⟨_,_,rfl,Bz he hg hx hp,Bz he hg hy hq⟩)
 ·cases h
theorem G0 {i:Nat} {x' :Operand}{x:bO}(hx:ew G x' =some x)(h:cg C env s al (.extract i x)=some (d,s')){o:Oper}(ho:o.op= .extract x' i):
  eP P ρ w env a.tmps d s' ((execOp a.eval o).run P w):=by
 simp only [cg]at h;split at h
 ·rename_i l hp;obtain⟨h1,rfl⟩:=js h;have h2:=bc hx he hg hp;simp only [aR]at h2;obtain⟨vs,hv,hl⟩:=h2;obtain⟨v,hi,hd⟩:=hl.get h1;have hi' :vs[i]? =some v:=by simpa using hi
  have hr:(execOp a.eval o).run P w= .ok (.value v) w:=by
   simp [execOp,ho,hv,Instr.extract,hi']
  rw [hr]; exact .rep hs hd
 ·cases h
theorem PK {t:TypeId}{i:Nat} {x' :Operand}{x:bO}{fs:Array Field}{f:Field}{sz:Option Nat}(hx:ew G x' =some x)(hu:P.underlying t=some (.struct fs))(hf:fs[i]? =some f)(iC:iH P f.type=some sz)
  (h:cg C env s al (.field f.offset sz x)=some (d,s')){o:Oper}(ho:o.op= .field t x' i):
  eP P ρ w env a.tmps d s' ((execOp a.eval o).run P w):=by
 simp only [cg]at h;split at h
 ·rename_i l hp;obtain⟨h1,rfl⟩:=js h;have h2:=bc hx he hg hp;simp only [aR]at h2;obtain⟨vs,hv,hl,J4⟩:=h2;obtain⟨v,Lk,hd⟩:=qc (P:=P) hl J4 iC h1;have hr:(execOp a.eval o).run P w= .ok (.value v) w:=by
   simp only [execOp,ho,Instr.field,hv,asAgg];simp [run_underlying hu,hf,Lk]
  rw [hr]; exact .rep hs hd
 ·cases h
theorem Tn {t:TypeId} {x' i' :Operand}{x i:bO}(hx:ew G x' =some x)(hi:ew G i' =some i)(hu:P.underlying t=some .string)(h:cg C env s al (.KR x i)=some (d,s')){o:Oper}(ho:o.op= .index t x' i'):
  eP P ρ w env a.tmps d s' ((execOp a.eval o).run P w):=by
 simp only [cg]at h;split at h
 ·rename_i l n hp hn;split at h
  ·rename_i k hk;split at h
   ·rename_i b hb;simp only [aa,ab]at h;obtain⟨rfl,rfl⟩:=h;have h1:=bc hx he hg hp;have h2:=bc hi he hg hn;cases n <;> simp only [idx]at hk <;> (try cases hk);rename_i kk m;split at hk
    ·rename_i hm;simp only [aa]at hk; subst hk;simp only [aR]at h1 h2;have iS :(⟨⟨l⟩⟩:ByteArray)[m.toNat]? =some b:=by
      have eW:m.toNat < l.length:=(aj.1 hb).1;rw [ByteArray.getElem?_lt' _ _ (by simpa [ByteArray.size_mk'] using eW)];have:=(aj.1 hb).2;exact congrArg some this
     have hr:(execOp a.eval o).run P w= .ok (.value (.int .u8 b.toNat)) w:=by
      simp only [execOp,ho,h1,h2,Instr.index,asIntOf];simp [run_underlying hu,hm,iS]
     rw [hr]; exact .rep hs (by simp [aR])
    ·cases hk
   ·cases h
  ·cases h
 ·cases h
theorem PU {t u:TypeId}{k j:IntKind} {x' :Operand}{x:bO}(hx:ew G x' =some x)(ht:P.underlying t=some (.int j))(hu:P.underlying u=some (.int k))(h:cg C env s al (.toInt k x)=some (d,s')){o:Oper}(ho:o.op= .convert t u x'):
  eP P ρ w env a.tmps d s' ((execOp a.eval o).run P w):=by
 simp only [cg]at h;split at h
 ·rename_i kk n hp;simp only [aa,ab]at h;obtain⟨rfl,rfl⟩:=h;have h1:=bc hx he hg hp;simp only [aR]at h1;have hr:(execOp a.eval o).run P w= .ok (.value (.int k (k.wrap n))) w:=by
   simp only [execOp,ho,h1,convert];simp [run_underlying ht,run_underlying hu,Conv.intToInt]
  rw [hr]; exact .rep hs (by simp [aR])
 ·cases h
theorem PT {t u:TypeId} {x' :Operand}{x:bO}(hx:ew G x' =some x)(ht:P.underlying t=some .string)(hu:P.underlying u=some .string)(h:cg C env s al (.Fm x)=some (d,s')){o:Oper}(ho:o.op= .convert t u x'):
  eP P ρ w env a.tmps d s' ((execOp a.eval o).run P w):=by
 simp only [cg]at h;split at h
 ·rename_i l hp;simp only [aa,ab]at h;obtain⟨rfl,rfl⟩:=h;have h1:=bc hx he hg hp;have h2:=h1;simp only [aR]at h1;have hr:(execOp a.eval o).run P w= .ok (.value (a.eval x')) w:=by
   simp only [execOp,ho,h1,convert];simp [run_underlying ht,run_underlying hu]
  rw [hr]; exact .rep hs h2
 ·cases h
theorem EG {t u:TypeId}{j:IntKind} {x' :Operand}{x:bO}(hx:ew G x' =some x)(ht:P.underlying t=some (.int j))(hu:P.underlying u=some .string)(h:cg C env s al (.rO x)=some (d,s')){o:Oper}(ho:o.op= .convert t u x'):
  eP P ρ w env a.tmps d s' ((execOp a.eval o).run P w):=by
 simp only [cg]at h;split at h
 ·rename_i kk n hp;simp only [aa,ab]at h;obtain⟨rfl,rfl⟩:=h;have h1:=bc hx he hg hp;simp only [aR]at h1;have hr:(execOp a.eval o).run P w= .ok (.value (.string (Utf8.encode n))) w:=by
   simp only [execOp,ho,h1,convert];simp [run_underlying ht,run_underlying hu,Conv.intToString]
  rw [hr]; exact .rep hs (by simp [aR])
 ·cases h
end
end Go.Ab
