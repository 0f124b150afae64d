/- Part. -/
import Derived.Test.YtdkejjahldkkoaaGreatDoorG22
import Init
set_option linter.unusedSectionVars false
set_option maxRecDepth 100000
set_option maxHeartbeats 2000000
set_option linter.unusedSimpArgs false
set_option linter.unusedVariables false
namespace Go.Proofs.Tab
open Go Go.Ab Go.Ab.Sm
theorem JC {log:Nat}(h:log<=20):IntKind.wrap .i64 (1 * 2 ^ min (Int.toNat (log:Int)) (IntKind.bits .i64))=((2 ^ log:Nat):Int):=by
 have e:min (Int.toNat (log:Int)) (IntKind.bits .i64)=log:=by
  show min (Int.toNat (log:Int)) 64=log;rw [cQ]; omega
 have h2:2 ^ log<=2 ^ 20:=cZ (by decide) h;have e2:(1:Int) * 2 ^ log=((2 ^ log:Nat):Int):=by rw [Int.one_mul]; norm_cast
 have key:∀N:Nat,N<=2 ^ 20->IntKind.wrap .i64 (N:Int)=(N:Int):=fun N h=>wrap_small (by omega) (by omega);rw [e,e2];exact key _ h2
section
variable {T:Nat->Option dS}{H:au}
theorem Oc (hT:TT T){s:St}{log:Nat}(hs:s.Ok)(h1:log<=7):
  cu T H 245 [.int .i64 (log:Nat)] s fun d s1=>d= .ig (Vz true) (.agg [.sl s.n 0 (2 ^ log) (2 ^ log),.int .i64 (Lq true)])/\s1=s.bc (.arr 1 (M9 true) (List.replicate (2 ^ log) (.int (xa true) 0)) 0):=by
 have hw:=JC (log:=log) (by omega);have h2:2 ^ log<=2 ^ 7:=cZ (by decide) h1;refine ay hT.t245 ?_;try refine go ?_
 rw [hw];refine sd (l1:=2 ^ log) (c1:=2 ^ log) (ju (kd:= .i64)) (ju (kd:= .i64)) (an _) (by omega) (by simp only [aL]; omega) ?_;try refine go ?_
 exact ai ⟨rfl,rfl⟩
theorem JN (hT:TT T){s:St}{log:Nat}(hs:s.Ok)(h0:7 < log)(h1:log<=15):
  cu T H 245 [.int .i64 (log:Nat)] s fun d s1=>d= .ig (Vz false) (.agg [.sl s.n 0 (2 ^ log) (2 ^ log),.int .i64 (Lq false)])/\s1=s.bc (.arr 1 (M9 false) (List.replicate (2 ^ log) (.int (xa false) 0)) 0):=by
 have hw:=JC (log:=log) (by omega);have h2:2 ^ log<=2 ^ 15:=cZ (by decide) h1;refine ay hT.t245 ?_;try refine go ?_
 rw [hw];refine sd (l1:=2 ^ log) (c1:=2 ^ log) (ju (kd:= .i64)) (ju (kd:= .i64)) (an _) (by omega) (by simp only [aL]; omega) ?_;try refine go ?_
 exact ai ⟨rfl,rfl⟩
def begun (N j:Nat):List Int:=List.replicate j (-1)++List.replicate (N - j) 0
theorem vA {N j:Nat}(h:j < N):(begun N j).set j (-1)=begun N (j+1):=by
 unfold begun;rw [mC _ _ (by simp),iV,eF,show N - j=(N - (j+1))+1 by omega,lu,jR,nD,ia];rfl
theorem AX {N j:Nat}(h:j<=N):(begun N j).length=N:=by simp [begun]; omega
theorem wh (N:Nat):begun N N=List.replicate N (-1):=by simp [begun]
theorem Iq (N:Nat):begun N 0=List.replicate N 0:=by simp [begun]
theorem Br {b:Bool}(hT:TT T){s:St}{log:Nat}(hs:s.Ok)(h3:3<=log)(hh:log<=if b then 7 else 15)
  (hm:cu T H 245 [.int .i64 (log:Nat)] s fun d s1=>d= .ig (Vz b) (.agg [.sl s.n 0 (2 ^ log) (2 ^ log),.int .i64 (Lq b)])/\s1=s.bc (.arr 1 (M9 b) (List.replicate (2 ^ log) (.int (xa b) 0)) 0)):
  cu T H 218 [.int .i64 (log:Nat)] s fun d s1=>d= .gJ [.ptr (s.n+1) 0,.int .i64 0]/\s.n+1 < s1.n/\(∃st,cl s1 (s.n+1) s.n log b st (List.replicate (2 ^ log) (-1)))/\aC Nil s s1:=by
 have acM:log<=15:=by cases b <;> simp at hh <;> omega
 have yq:aC Nil s (s.bc (.arr 1 (M9 b) (List.replicate (2 ^ log) (.int (xa b) 0)) 0)):=aC.push (aC.refl hs) _;have kL:=aC.push yq (.var 374 (.agg [.int .i64 (log:Nat),.ig (Vz b) (.agg [.sl s.n 0 (2 ^ log) (2 ^ log),.int .i64 (Lq b)])]));have JO:cl ((s.bc (.arr 1 (M9 b) (List.replicate (2 ^ log) (.int (xa b) 0)) 0)).bc (.var 374 (.agg [.int .i64 (log:Nat),.ig (Vz b) (.agg [.sl s.n 0 (2 ^ log) (2 ^ log),.int .i64 (Lq b)])]))) (s.n+1) s.n log b 0 (begun (2 ^ log) 0):=by
  refine⟨St.ba,St.fh ?_ (by rw [St.dN]; omega),AX (aR _),aR _,h3,hh,by omega⟩;rw [St.ba,Iq,pt]
 have zf:=HR (H:=H) hT (s:=(s.bc (.arr 1 (M9 b) (List.replicate (2 ^ log) (.int (xa b) 0)) 0)).bc (.var 374 (.agg [.int .i64 (log:Nat),.ig (Vz b) (.agg [.sl s.n 0 (2 ^ log) (2 ^ log),.int .i64 (Lq b)])]))) (ro:=s.n) (log:=log) (b:=b);have xB:=JO.go;have mc:(s.bc (.arr 1 (M9 b) (List.replicate (2 ^ log) (.int (xa b) 0)) 0)).Ok:=yq.ok;refine ay hT.t218 ?_;try refine go ?_
 refine ak hm ?_;rintro d s1 ⟨rfl,rfl⟩;cases b
 ·try refine go ?_
  refine ak zf ?_;rintro d s2 ⟨rfl,rfl⟩;try refine go ?_
  refine eT (2 ^ log) (fun j=> [(4,.ptr (s.n+1) 0),(21,.int .i64 (2 ^ log:Nat)),(22,.int .i64 (j:Nat))]) (fun j s' =>(∃st,cl s' (s.n+1) s.n log false st (begun (2 ^ log) j))/\aC Nil s s' /\s.n+1 < s'.n) ⟨⟨0,JO⟩,kL,by simp only [St.dN]; omega⟩ ?_;rintro j s' hj ⟨⟨st,hc⟩,hb,hn⟩;have xB:=hc.go;rcases aG j (2 ^ log) with hl | hl
  ·have gL:=A3 (H:=H) hT hb.ok hc hl (v:= -1) (by omega);rw [vA hl]at gL;have hp:=hc.pow;try refine go ?_
   refine ak gL ?_;rintro d s3 ⟨q1,q2⟩;have q3:=q2.n;try refine go ?_
   exact dO hl ⟨⟨_,q1⟩,hb.trans' q2 (by rintro o rfl ho; omega),by omega⟩
  ·have:j=2 ^ log:=by omega
   subst this;rw [wh]at hc;try refine go ?_
   exact ai ⟨rfl,hn,⟨st,hc⟩,hb⟩
 ·try refine go ?_
  refine ak zf ?_;rintro d s2 ⟨rfl,rfl⟩;try refine go ?_
  refine eT (2 ^ log) (fun j=> [(4,.ptr (s.n+1) 0),(21,.int .i64 (2 ^ log:Nat)),(22,.int .i64 (j:Nat))]) (fun j s' =>(∃st,cl s' (s.n+1) s.n log true st (begun (2 ^ log) j))/\aC Nil s s' /\s.n+1 < s'.n) ⟨⟨0,JO⟩,kL,by simp only [St.dN]; omega⟩ ?_;rintro j s' hj ⟨⟨st,hc⟩,hb,hn⟩;have xB:=hc.go;rcases aG j (2 ^ log) with hl | hl
  ·have gL:=EV (H:=H) hT hb.ok hc hl (v:= -1) (by omega);rw [vA hl]at gL;have hp:=hc.pow;try refine go ?_
   refine ak gL ?_;rintro d s3 ⟨q1,q2⟩;have q3:=q2.n;try refine go ?_
   exact dO hl ⟨⟨_,q1⟩,hb.trans' q2 (by rintro o rfl ho; omega),by omega⟩
  ·have:j=2 ^ log:=by omega
   subst this;rw [wh]at hc;try refine go ?_
   exact ai ⟨rfl,hn,⟨st,hc⟩,hb⟩
theorem QU (hT:TT T){s:St}{log:Nat}(hs:s.Ok)(h3:3<=log)(hh:log<=15):
  cu T H 218 [.int .i64 (log:Nat)] s fun d s1=>d= .gJ [.ptr (s.n+1) 0,.int .i64 0]/\s.n+1 < s1.n/\(∃b st,cl s1 (s.n+1) s.n log b st (List.replicate (2 ^ log) (-1)))/\aC Nil s s1:=by
 rcases aG 7 log with h | h
 ·exact (Br (b:=false) hT hs h3 (by simpa using hh) (JN hT hs h hh)).mono fun d s1 ⟨a1,a2,a3,a4⟩=>⟨a1,a2,⟨_,a3⟩,a4⟩
 ·exact (Br (b:=true) hT hs h3 (by simpa using h) (Oc hT hs h)).mono fun d s1 ⟨a1,a2,a3,a4⟩=>⟨a1,a2,⟨_,a3⟩,a4⟩
end
end Go.Proofs.Tab
namespace Go.Ab.Trail
def step (log:Nat)(x:Nat×Nat):Nat×Nat:=((5 * x.1+x.2 / 32+1) % 2 ^ log,x.2 / 32)
def iter {α:Type}(f:α->α):Nat->α->α
 | 0,x=>x
 | n+1,x=>iter f n (f x)
theorem qk {α:Type}(f:α->α):∀(m n:Nat) (x:α),iter f (m+n) x=iter f n (iter f m x)
 | 0,n,x=>by rw [aM]; rfl
 | m+1,n,x=>by rw [Nat.succ_add]; exact qk f m n (f x)
def st (log c:Nat):Nat:=(5 * c+1) % 2 ^ log
def g:Nat->Nat
 | 0=>0
 | n+1=>5 * g n+1
theorem Ik (m:Nat):∀n,g (m+n)=(4 * g n+1) * g m+g n
 | 0=>by simp [g]
 | n+1=>by
  show 5 * g (m+n)+1=_;rw [Ik m n,g];have:(4 * (5 * g n+1)+1) * g m=5 * ((4 * g n+1) * g m):=by rw [← Nat.mul_assoc]; congr 1; omega
  omega
theorem OQ:∀j,∃q,g (2 ^ j)=2 ^ j * (2 * q+1)
 | 0=>⟨0,rfl⟩
 | j+1=>by
  obtain⟨q,hq⟩:=OQ j;have e:2 ^ (j+1)=2 ^ j+2 ^ j:=by rw [jl]; omega
  refine⟨q+q * (2 * g (2 ^ j))+g (2 ^ j), ?_⟩;rw [e,Ik];generalize g (2 ^ j)=G at *;have h1:(4 * G+1) * G+G=(2 * G) * (2 * G+1):=by rw [bT,Nat.mul_add,Nat.one_mul,lU]; rw [show 4 * G * G=2 * G * (2 * G) by rw [Nat.mul_mul_mul_comm,gS]]; omega
  rw [h1,hq,← Nat.two_mul,gS 2 (2 ^ j),gS 2,gS]
  congr 1; congr 1
  rw [← hq];rw [bT,Nat.mul_add,Nat.one_mul,lU,gS];have:2 * (q * (2 * G))=2 * (q * (2 * G)):=rfl;omega
theorem lift:∀L b,∃k,k < 2 ^ L/\g k % 2 ^ L=b % 2 ^ L
 | 0,b=>⟨0,by decide,by simp [Nat.mod_one]⟩
 | L+1,b=>by
  obtain⟨k,hk,h⟩:=lift L b;obtain⟨q,hq⟩:=OQ L;have hp:2 ^ (L+1)=2 * 2 ^ L:=by rw [jl,jQ]
  have h0:0 < 2 ^ L:=jd L;generalize hP:2 ^ L=P at *;rw [hp];have a1:=Nat.mod_add_div (g k) P;have a2:=Nat.mod_add_div b P;have m1:∀x,x % (2 * P)=x % P+P * ((x / P) % 2):=fun x=>by rw [jQ 2 P,Nat.mod_mul]
  by_cases he:(g k / P) % 2=(b / P) % 2
  ·exact⟨k,by omega,by rw [m1,m1,h,he]⟩
  ·refine⟨P+k,by omega, ?_⟩;have e1:g (P+k)=g k+P * ((4 * g k+1) * (2 * q+1)):=by
    rw [Ik,hq,Nat.add_comm,← Nat.mul_assoc,jQ _ P,gS]
   rw [m1,m1,e1,Nat.add_mul_mod_self_left,h,Nat.add_mul_div_left _ _ h0]
   congr 2
   have e2:((4 * g k+1) * (2 * q+1)) % 2=1:=by
    rw [Nat.mul_mod];have:(4 * g k+1) % 2=1:=by omega
    have:(2 * q+1) % 2=1:=by omega
    simp [*]
   omega
theorem BR {L:Nat}:∀(n c:Nat),c < 2 ^ L->iter (st L) n c=((4 * g n+1) * c+g n) % 2 ^ L
 | 0,c,h=>by simp [iter,g,kQ h]
 | n+1,c,h=>by
  show iter (st L) n (st L c)=_;rw [BR n (st L c) (Nat.mod_lt _ (jd L))];unfold st;rw [Nat.add_mod,Nat.mul_mod,Nat.mod_mod,← Nat.mul_mod,← Nat.add_mod]
  congr 1
  rw [show n+1=1+n from Nat.add_comm _ _,Ik];show _=(4 * ((4 * g n+1) * 1+g n)+1) * c+((4 * g n+1) * 1+g n);rw [Nat.mul_add,lU,Nat.mul_left_comm];have:(4 * (4 * g n+1+g n)+1) * c=5 * ((4 * g n+1) * c):=by rw [← Nat.mul_assoc]; congr 1; omega
  omega
theorem xU {L b:Nat}(hb:b < 2 ^ L):∃k,k < 2 ^ L/\iter (st L) k 0=b:=by
 obtain⟨k,hk,h⟩:=lift L b;refine⟨k,hk, ?_⟩;rw [BR k 0 (jd L),Nat.mul_zero,aM,h,kQ hb]
theorem JD (L:Nat):iter (st L) (2 ^ L) 0=0:=by
 obtain⟨q,hq⟩:=OQ L;rw [BR _ 0 (jd L),Nat.mul_zero,aM,hq];exact Nat.mul_mod_right _ _
theorem OO {log a b:Nat}(ha:a < 2 ^ log)(hb:b < 2 ^ log):∃k,k < 2 ^ log/\iter (st log) k a=b:=by
 obtain⟨i,hi,rfl⟩:=xU ha;obtain⟨j,hj,rfl⟩:=xU hb;rcases aG j i with g | g
 ·refine⟨j+2 ^ log - i,by omega, ?_⟩;rw [← qk,show i+(j+2 ^ log - i)=2 ^ log+j from by omega,qk,JD log]
 ·refine⟨j - i,by omega, ?_⟩;rw [← qk,show i+(j - i)=j from by omega]
theorem AQ (log:Nat):∀(n c p:Nat),p < 32 ^ n->(iter (step log) n (c,p)).2=0
 | 0,c,p,h=>by simpa [iter] using h
 | n+1,c,p,h=>by
  show (iter (step log) n (step log (c,p))).2=0;refine AQ log n _ _ ?_;show p / 32 < 32 ^ n;rw [Nat.div_lt_iff_lt_mul (by decide),← Nat.pow_succ]; exact h
theorem Cn (log:Nat):∀(n c p:Nat),c < 2 ^ log->(iter (step log) n (c,p)).1 < 2 ^ log
 | 0,c,p,h=>h
 | n+1,c,p,h=>Cn log n _ _ (Nat.mod_lt _ (jd log))
theorem A9 (log:Nat):∀(n c:Nat),iter (step log) n (c,0)=(iter (st log) n c,0)
 | 0,c=>rfl
 | n+1,c=>by
  show iter (step log) n (step log (c,0))=_;have:step log (c,0)=(st log c,0):=by simp [step,st]
  rw [this,A9 log n]; rfl
theorem comes {log c p b:Nat}(hc:c < 2 ^ log)(hp:p < 2 ^ 64)(hb:b < 2 ^ log):∃k,k < 13+2 ^ log/\(iter (step log) k (c,p)).1=b:=by
 have h0:=AQ log 13 c p (by
  have:(2:Nat) ^ 64<=32 ^ 13:=by decide
  omega)
 have h1:=Cn log 13 c p hc;obtain⟨k,hk,e⟩:=OO h1 hb;refine⟨13+k,by omega, ?_⟩;rw [qk];have:iter (step log) 13 (c,p)=((iter (step log) 13 (c,p)).1,0):=by rw [← h0]
 rw [this,A9];exact e
end Go.Ab.Trail
namespace Go.Proofs.Tab
open Go Go.Ab Go.Ab.Sm
def hu (h:Int):Nat:=(h % 18446744073709551616).toNat
theorem NA (h:Int):hu h < 2 ^ 64:=by unfold hu; omega
theorem wrap_u64 (n:Int):IntKind.wrap .u64 n=n % 18446744073709551616:=by
 simp only [IntKind.wrap,IntKind.signed,IntKind.bits];rfl
theorem sn (h:Int):IntKind.wrap .u64 h=(hu h:Int):=by rw [wrap_u64]; unfold hu; omega
theorem kO {n:Int}(h1:0<=n)(h2:n < 18446744073709551616):IntKind.wrap .u64 n=n:=by rw [wrap_u64]; omega
def gA (log:Nat)(h:Int)(j:Nat):Nat×Nat:=Trail.iter (Trail.step log) j (hu h % 2 ^ log,hu h)
theorem AW {α:Type}(f:α->α):∀(n:Nat) (x:α),Trail.iter f (n+1) x=f (Trail.iter f n x)
 | 0,x=>rfl
 | n+1,x=>by
  show Trail.iter f (n+1) (f x)=_;rw [AW f n (f x)]; rfl
theorem uB (log:Nat)(h:Int)(j:Nat):gA log h (j+1)=Trail.step log (gA log h j):=AW _ _ _
theorem lM (log:Nat)(h:Int)(j:Nat):(gA log h j).1 < 2 ^ log:=Trail.Cn log j _ _ (Nat.mod_lt _ (jd log))
theorem rB (log:Nat)(h:Int):∀j,(gA log h j).2 < 2 ^ 64
 | 0=>NA h
 | j+1=>by
  rw [uB];exact Nat.lt_of_le_of_lt (Nat.div_le_self _ _) (rB log h j)
theorem mA {log:Nat}(h:log<=15):1<=2 ^ log/\2 ^ log<=32768:=⟨Nat.one_le_two_pow,(cZ (n:=2) (by decide) h:2 ^ log<=2 ^ 15)⟩
theorem DM {log:Nat}(h:log<=15):IntKind.wrap .u64 (1 * 2 ^ min (Int.toNat (log:Int)) (IntKind.bits .u64))=((2 ^ log:Nat):Int):=by
 have e:min (Int.toNat (log:Int)) (IntKind.bits .u64)=log:=by
  show min (Int.toNat (log:Int)) 64=log;rw [cQ]; omega
 have e2:(1:Int) * 2 ^ log=((2 ^ log:Nat):Int):=by rw [Int.one_mul]; norm_cast
 have key:∀N:Nat,N<=32768->IntKind.wrap .u64 (N:Int)=(N:Int):=fun N h=>kO (by omega) (by omega);rw [e,e2];exact key _ (mA h).2
theorem Ca {N:Nat}(h1:1<=N)(h2:N<=32768):IntKind.wrap .u64 ((N:Int) - 1)=((N - 1:Nat):Int):=by
 rw [kO (by omega) (by omega)]; omega
theorem ui {a log:Nat}(ha:a < 2 ^ 64)(h:log<=15):IntKind.wrap .u64 (((BitVec.ofInt (IntKind.bits .u64) (a:Int)) &&& (BitVec.ofInt (IntKind.bits .u64) ((2 ^ log - 1:Nat):Int))).toNat:Int)=((a % 2 ^ log:Nat):Int):=by
 have hp:=mA h;have e1:(BitVec.ofInt (IntKind.bits .u64) (a:Int)).toNat=a:=by
  show (BitVec.ofInt 64 (a:Int)).toNat=a;rw [BitVec.toNat_ofInt]; omega
 have e2:(BitVec.ofInt (IntKind.bits .u64) ((2 ^ log - 1:Nat):Int)).toNat=2 ^ log - 1:=by
  show (BitVec.ofInt 64 ((2 ^ log - 1:Nat):Int)).toNat=_;rw [BitVec.toNat_ofInt];have hm:2 ^ log - 1 < 18446744073709551616:=by omega
  clear e1;generalize 2 ^ log - 1=m at hm ⊢;omega
 rw [BitVec.toNat_and,e1,e2,Nat.and_two_pow_sub_one_eq_mod];have:=Nat.mod_lt a (jd log);generalize a % 2 ^ log=m at this ⊢;generalize 2 ^ log=N at this hp;exact kO (by omega) (by omega)
section
variable {T:Nat->Option dS}{H:au}
theorem LP (hT:TT T){s:St}{h:Int}{log:Nat}(hl:log<=15):cu T H 210 [.int .i64 h,.int .i64 (log:Nat)] s fun d s1=>s1=s/\d= .int .i64 ((gA log h 0).1:Nat):=by
 have hp:=mA hl;have e1:=DM hl;have e2:=Ca hp.1 hp.2;have e3:=ui (NA h) hl;have e4:=lM log h 0;have e5:IntKind.wrap .i64 ((hu h % 2 ^ log:Nat):Int)=((gA log h 0).1:Nat):=by
  show IntKind.wrap .i64 (((gA log h 0).1:Nat):Int)=_;generalize (gA log h 0).1=c at e4 ⊢;generalize 2 ^ log=N at e4 hp;exact wrap_small (by omega) (by omega)
 refine ay hT.t210 ?_;try refine go ?_
 rw [sn h,e1,e2,e3,e5];exact ai ⟨rfl,rfl⟩
end
theorem Wi {p:Nat}:Int.fdiv (p:Int) (2 ^ min (Int.toNat 5) (IntKind.bits .u64))=((p / 32:Nat):Int):=by
 have e:(2:Int) ^ min (Int.toNat 5) (IntKind.bits .u64)=32:=rfl;rw [e,kJ _ (by decide)];omega
theorem step_eq {c p N:Nat}(hc:c < N)(hp:p < 2 ^ 64)(hN:N<=32768):IntKind.wrap .u64 (IntKind.wrap .u64 (IntKind.wrap .u64 (5 * (c:Int))+((p / 32:Nat):Int))+1)=((5 * c+p / 32+1:Nat):Int):=by
 rw [kO (n:=5 * (c:Int)) (by omega) (by omega),kO (n:=5 * (c:Int)+((p / 32:Nat):Int)) (by omega) (by omega),kO (by omega) (by omega)];omega
section
variable {T:Nat->Option dS}{H Y:au}
theorem V7 (hT:TT T){s:St}{h:Int}{log:Nat}(hs:s.Ok):cu T H 232 [.int .i64 h,.int .i64 (log:Nat)] s fun d s1=>d= .fn (.func 253) [] [.ptr (s.n+1) 0,.ptr s.n 0]/\s1.get s.n=some (.var 3 (.int .i64 h))/\s1.get (s.n+1)=some (.var 3 (.int .i64 (log:Nat)))/\s1.n=s.n+2/\aC Nil s s1:=by
 have hb:=aC.push (aC.push (aC.refl (W:=Nil) hs) (.var 3 (.int .i64 h))) (.var 3 (.int .i64 (log:Nat)));refine ay hT.t232 ?_;try refine go ?_
 exact ai ⟨rfl,St.fh St.ba (by rw [St.dN]; omega),St.ba,rfl,hb⟩
theorem RW (hT:TT T){s:St}{k lb hb log:Nat}{h:Int}(I:Nat->St->Prop)(R:St->Prop)(uA:log<=15)(h0:I 0 s)
  (hI:∀j s,I j s->s.get lb=some (.var 3 (.int .i64 (log:Nat)))/\s.get hb=some (.var 3 (.int .i64 h)))
  (hY:∀j s,j < 2 ^ log+13->I j s->∃c s',Y 0 (.lv (.yl k)::[.int .i64 ((gA log h j).1:Nat)]) s=some (.bool c,s')/\(c=true->I (j+1) s')/\(c=false->R s'))
  (hR:∀s,I (2 ^ log+13) s->R s):
  cu T Y 253 [.yl k,.ptr lb 0,.ptr hb 0] s fun _ s1=>R s1:=by
 obtain⟨g1,g2⟩:=hI 0 s h0;have hp:=mA uA;have e1:=DM uA;have e2:=Ca hp.1 hp.2;have e3:=ui (NA h) uA;have e4:=JC (log:=log) (by omega);have e5:IntKind.wrap .i64 (((2 ^ log:Nat):Int)+13)=((2 ^ log+13:Nat):Int):=by
  generalize 2 ^ log=N at hp ⊢;rw [wrap_small (by omega) (by omega)]; omega
 refine ay hT.t253 ?_;try refine go ?_
 rw [sn h,e1,e2,e3,e4,e5];refine eT (2 ^ log+13) (fun j=> [(0,.yl k),(4,.int .u64 (2 ^ log - 1:Nat)),(5,.int .u64 ((gA log h j).2:Nat)),(6,.int .u64 ((gA log h j).1:Nat)),(23,.int .i64 (2 ^ log+13:Nat)),(24,.int .i64 (j:Nat))]) I h0 ?_;intro j s' hj PT;rcases aG j (2 ^ log+13) with hl | hl
 ·obtain⟨c,s2,y1,y2,y3⟩:=hY j s' hl PT;have q1:=lM log h j;have q2:=rB log h j;have q3:=uB log h j;have q4:IntKind.wrap .i64 ((gA log h j).1:Int)=((gA log h j).1:Int):=by
   generalize (gA log h j).1=c at q1 ⊢;generalize 2 ^ log=N at q1 hp;exact wrap_small (by omega) (by omega)
  have q5:=ui (a:=5 * (gA log h j).1+(gA log h j).2 / 32+1) (log:=log) (by
   generalize (gA log h j).1=c at q1 ⊢;generalize 2 ^ log=N at q1 hp;omega) uA
  have q6:=step_eq q1 q2 hp.2;have q7:(gA log h (j+1)).1=(5 * (gA log h j).1+(gA log h j).2 / 32+1) % 2 ^ log:=by rw [q3]; rfl
  have q8:(gA log h (j+1)).2=(gA log h j).2 / 32:=by rw [q3]; rfl
  generalize (gA log h j).1=cc at y1 q1 q4 q5 q6 q7 ⊢;generalize (gA log h j).2=pp at q2 q5 q6 q7 q8 ⊢;try refine go ?_
  rw [q4];refine v8 ?_;refine ak (R:=fun d s1=>d= .bool c/\s1=s2) ⟨_,_,Ev.yield y1,rfl,rfl⟩ ?_;rintro d s3 ⟨rfl,rfl⟩;cases c
  ·try refine go ?_
   exact ai (y3 rfl)
  ·try refine go ?_
   rw [Wi,q6,q5,← q7,← q8];exact dO hl (y2 rfl)
 ·have:j=2 ^ log+13:=by omega
  subst this;try refine go ?_
  exact gU (hR _ PT)
end
structure eS where
 h:Int
 k:Int
 v:Int
 b:Int
@[reducible] def cF (x:eS):D:= .agg [.bool true,.int .i64 x.h,.int .i64 x.k,.int .i64 x.v,.int .i64 x.b]
inductive vV (s:St):D->Nat->List eS->Prop
 | nil (eo:Nat):vV s (.vs true 0 []) eo []
 | sl (eo cp st:Nat) (E:List eS) (h:s.get eo=some (.arr 5 270 (E.map cF) st)) (hs:st<=E.length) (hc:E.length<=cp):vV s (.sl eo 0 E.length cp) eo E
theorem vV.dU {W:Nat->Prop}{s s1:St}{x:D}{eo:Nat}{E:List eS}(h:vV s x eo E)(hs:s.Ok)(hb:aC W s s1)(PK:∀es st,s.get eo=some (.arr 5 270 es st)-> ¬ W eo):vV s1 x eo E:=by
 rcases h with _ | ⟨_,cp,st,E,h,h1,h2⟩
 ·exact .nil eo
 ·exact .sl eo cp st E (hb.get hs h (PK _ _ h)) h1 h2
section
variable {T:Nat->Option dS}{H Y:au}
noncomputable def RP:AC:=match O3.1.body with
 | .seq _ (.seq _ r)=>r
 | _=> .skip
noncomputable def G6:AC:=match RP with
 | .seq _ (.block _ r)=>r
 | _=> .skip
noncomputable def aah:AC:=match G6 with
 | .iA _ _ _ a _=>a
 | _=> .skip
noncomputable def ZY:AC:=match G6 with
 | .iA _ _ _ _ b=>b
 | _=> .skip
def Laid (log:Nat)(h:Int)(v:Int) (C C' :List Int):Prop:=
 (∃j,j < 2 ^ log+13/\C[(gA log h j).1]? =some (-1)/\(∀i,i < j->C[(gA log h i).1]? ≠some (-1))/\C' =C.set (gA log h j).1 v)\/((∀i,i < 2 ^ log+13->C[(gA log h i).1]? ≠some (-1))/\C' =C)
theorem KT (hT:TT T){s:St}{y b2 b3 to co ro log st i c:Nat}{x n1 n2 n3 n4:D}{b:Bool}{C:List Int}(hY:mW T H y [21] [(2,.ptr b2 0),(3,.ptr b3 0)] aah ZY Y)(hs:s.Ok)(hl:s.get (y+1)=some (.loop y .ready))
  (g2:s.get b2=some (.var 235 (.ptr to 0)))(g3:s.get b3=some (.var 3 (.int .i64 (i:Nat))))(gt:s.get to=some (.var 317 (.agg [.cT,x,.ptr co 0,n1,n2,n3,n4])))
  (hc:cl s co ro log b st C)(CR:∀v∈C, -1<=v/\v < 32768)(Vq:c < 2 ^ log)(hi:i < 2 * 2 ^ log / 3):
  ∃c' s',Y 0 (.lv (.yl y)::[.int .i64 (c:Nat)]) s=some (.bool c',s')/\((c' =true/\C[c]? ≠some (-1)/\cl s' co ro log b st C/\s'.get (y+1)=some (.loop y .ready))\/(c' =false/\C[c]? =some (-1)/\cl s' co ro log b (2 ^ log) (C.set c (i:Nat))/\s'.get (y+1)=some (.loop y (.exit 0))))/\aC (fun j=>j=y+1\/j=ro) s s' :=by
 have ly:=hs.lt hl;have n2:b2≠y+1:=by rintro rfl; rw [hl]at g2; cases g2
 have n3:b3≠y+1:=by rintro rfl; rw [hl]at g3; cases g3
 have nt:to≠y+1:=by rintro rfl; rw [hl]at gt; cases gt
 have nc:co≠y+1:=by rintro rfl; have:=hc.go; rw [hl]at this; cases this
 have nr:ro≠y+1:=by rintro rfl; have:=hc.gr; rw [hl]at this; cases this
 have kL:aC (fun j=>j=y+1) s (s.bD (y+1) (.loop y .busy)):=aC.set (aC.refl hs) _ ly (fun _=>rfl);have zI:=hc.dU hs kL nc nr;have k2:=kL.get hs g2 n2;have k3:=kL.get hs g3 n3;have kt:=kL.get hs gt nt;have kM:=HQ (H:=H) hT zI Vq CR;have gL:=Sr (H:=H) hT kL.ok zI Vq (v:=(i:Nat)) (.inr ⟨by omega,by omega⟩);have XK:y+1 < (s.bD (y+1) (.loop y .busy)).n:=ly;have mc:=kL.ok;refine si (e:=[(21,.int .i64 (c:Nat)),(2,.ptr b2 0),(3,.ptr b3 0)]) hY _ rfl hl hs ?_;show eI T H (.Aa _) [] _ s _;try refine go ?_
 refine qB ⟨rfl,rfl, ?_⟩;generalize tZ:s.bD (y+1) (.loop y .busy)=s1 at kL zI k2 k3 kt kM gL XK mc ⊢;have sv:s1.get (y+1)=some (.loop y .busy):=by rw [← tZ]; exact St.aN
 show eI T H (.block _ _) [] _ s1 _;try refine go ?_
 refine ak kM ?_;rintro d s2 ⟨rfl,v,hv,rfl⟩;have W9:∀st',aC (fun j=>j=y+1) s2 (s2.bD (y+1) (.loop y st')):=fun st' =>aC.set (aC.refl mc) _ XK (fun _=>rfl);by_cases qw:v= -1
 ·subst qw;try refine go ?_
  refine bf gL ?_;rintro d s3 ⟨rfl,q1,q2⟩;have m2:b2≠ro:=by rintro rfl; have:=zI.gr; rw [k2]at this; cases this
  have m3:b3≠ro:=by rintro rfl; have:=zI.gr; rw [k3]at this; cases this
  have mt:to≠ro:=by rintro rfl; have:=zI.gr; rw [kt]at this; cases this
  have w2:=q2.get mc k2 m2;have w3:=q2.get mc k3 m3;have wt:=q2.get mc kt mt;refine⟨rfl,by simp [lost,eN.kind,cJ,dE,cE,aI,bz,bz.cV,fZ,bP.ev,Env.get,cP,D.flat,D.isAgg,cL,D.fv,D.beq,az,Obj.aV,bC,bu,D.bV,D.aV,k2,k3,kt,w2,w3,wt], ?_⟩;try refine go ?_
  have l3:=q2.get mc sv nr.symm;have ly3:=q2.ok.lt l3;have hb5:aC (fun j=>j=y+1) s3 (s3.bD (y+1) (.loop y (.exit 0))):=aC.set (aC.refl q2.ok) _ ly3 (fun _=>rfl);refine qB ⟨rfl,l3,q2.ok,.inr ⟨rfl,hv,q1.dU q2.ok hb5 nc nr,St.aN⟩, ?_⟩;exact (kL.mono fun j hj=> .inl hj).trans' ((q2.mono fun j hj=> .inr hj).trans (hb5.mono fun j hj=> .inl hj)) fun j hj _=>hj
 ·try refine go ?_
  refine qB ⟨rfl,sv,mc,.inl ⟨rfl,by rw [hv]; simpa using qw,zI.dU mc (W9 .ready) nc nr,St.aN⟩, ?_⟩;exact (kL.mono fun j hj=> .inl hj).trans' ((W9 .ready).mono fun j hj=> .inl hj) fun j hj _=>hj
end
section
variable {T:Nat->Option dS}{H Y:au}
theorem Q6 (hT:TT T){s:St}{b2 b3 to co ro log st i lb hb:Nat}{x n1 n2 n3 n4:D}{b:Bool}{C:List Int}{h:Int}{E:Env}{k:List je}{Q:QP}(hs:s.Ok)
  (g2:s.get b2=some (.var 235 (.ptr to 0)))(g3:s.get b3=some (.var 3 (.int .i64 (i:Nat))))(gt:s.get to=some (.var 317 (.agg [.cT,x,.ptr co 0,n1,n2,n3,n4])))
  (hc:cl s co ro log b st C)(CR:∀v∈C, -1<=v/\v < 32768)(hi:i < 2 * 2 ^ log / 3)
  (gl:s.get lb=some (.var 3 (.int .i64 (log:Nat))))(gh:s.get hb=some (.var 3 (.int .i64 h)))(uA:log<=15)
  (hg:bP.ev E (.t 20)=some (.fn (.func 253) [] [.ptr lb 0,.ptr hb 0]))(hk:E.bR [2,3,4]=[(2,.ptr b2 0),(3,.ptr b3 0)])
  (hq:∀s1 C',Laid log h (i:Nat) C C' ->(∃st',cl s1 co ro log b st' C')->aC (fun j=>j=ro) s s1->∀e,(e= .normal\/e= .exit 0)->kZ T H e k ⟨E,[(.mf,[])]⟩ s1 Q):
  eI T H G6 k ⟨E,[]⟩ s Q:=by
 show eI T H (.iA _ _ _ _ _) k ⟨E,[]⟩ s Q;refine qU (gf:=253) (caps:=[.ptr lb 0,.ptr hb 0]) (fun Y hY=> ?_) hg hs.ro (by rw [hk]; rfl);have hY' :mW T H s.n [21] [(2,.ptr b2 0),(3,.ptr b3 0)] aah ZY Y:=by
  have:=hY;simp only at this;rw [hk]at this;exact this
 clear hY;have yq:aC (fun j=>j=s.n+1\/j=ro) s ((s.bc .dead).bc (.loop s.n .ready)):=aC.push (aC.push (aC.refl hs) _) _;have lr:=hs.lt hc.gr;have lco:=hs.lt hc.go;have lb2:=hs.lt g2; have lb3:=hs.lt g3; have lto:=hs.lt gt; have llb:=hs.lt gl; have lhb:=hs.lt gh;have nl:∀ {o ty d},s.get o=some (.var ty d)->o≠ro:=by
  rintro o ty d ho rfl;have:=hc.gr;rw [ho]at this; cases this
 have fin:∀ {s2:St} {st' :QC} {C' :List Int} {q:Nat},aC (fun j=>j=s.n+1\/j=ro) s s2->s2.get (s.n+1)=some (.loop s.n st')->cl s2 co ro log b q C' ->Laid log h (i:Nat) C C' ->(CF st' =some .normal\/CF st' =some (.exit 0))->
   ∃st x s3,s2.get (s.n+1)=some (.loop s.n st)/\CF st=some x/\s2.set (s.n+1) .dead=some s3/\kZ T H x k { (⟨E,[]⟩:Fr) with defers:=(.mf,[])::[]} s3 Q:=by
  intro s2 st' C' q jJ hl qd hL hx;have xd:aC (fun j=>j=s.n+1) s2 (s2.bD (s.n+1) .dead):=aC.set (aC.refl jJ.ok) _ (jJ.ok.lt hl) (fun _=>rfl);have W9:aC (fun j=>j=ro) s (s2.bD (s.n+1) .dead):=(jJ.trans (xd.mono fun j hj=> .inl hj)).trans' (aC.refl xd.ok) (fun j hj _=>hj) |> fun q=>⟨q.n,q.ok,fun o ho hw=>q.same o ho (by rintro (rfl | rfl); omega; exact hw rfl)⟩
  have hc3:=qd.dU jJ.ok xd (by omega) (by omega);rcases hx with hx | hx
  ·exact⟨st',.normal,_,hl,hx,jJ.ok.set _ _,hq _ _ hL ⟨_,hc3⟩ W9 _ (.inl rfl)⟩
  ·exact⟨st',.exit 0,_,hl,hx,jJ.ok.set _ _,hq _ _ hL ⟨_,hc3⟩ W9 _ (.inr rfl)⟩
 refine RW hT (h:=h) (log:=log) (fun j s' =>aC (fun j=>j=s.n+1\/j=ro) s s' /\s'.get (s.n+1)=some (.loop s.n .ready)/\cl s' co ro log b st C/\∀i,i < j->C[(gA log h i).1]? ≠some (-1)) _ uA ?_ ?_ ?_ ?_
 ·exact⟨yq,St.ba,hc.dU hs (aC.push (aC.push (aC.refl (W:=fun _=>False) hs) _) _) (fun h=>h) (fun h=>h),fun i hi=>absurd hi (lJ _)⟩
 ·rintro j s' ⟨q1,q2,q3,q4⟩;have:=nl gl; have:=nl gh;exact⟨q1.get hs gl (by omega),q1.get hs gh (by omega)⟩
 ·rintro j s' hj ⟨q1,q2,q3,q4⟩;have e2:=nl g2; have e3:=nl g3; have et:=nl gt;obtain⟨c',s2,y1,y2,y3⟩:=KT (H:=H) (i:=i) (c:=(gA log h j).1) hT hY' q1.ok q2 (q1.get hs g2 (by omega)) (q1.get hs g3 (by omega)) (q1.get hs gt (by omega)) q3 CR (lM _ _ _) hi;refine⟨c',s2,y1, ?_, ?_⟩
  ·rintro rfl;rcases y2 with ⟨-,z1,z2,z3⟩ | ⟨z0, -⟩
   ·refine⟨q1.trans y3,z3,z2,fun i hi=> ?_⟩;rcases aG i j with nO | nO
    ·exact q4 i nO
    ·rw [show i=j by omega]; exact z1
   ·cases z0
  ·rintro rfl;rcases y2 with ⟨z0, -⟩ | ⟨-,z1,z2,z3⟩
   ·cases z0
   ·exact fin (q1.trans y3) z3 z2 (.inl ⟨j,hj,z1,q4,rfl⟩) (.inr rfl)
 ·rintro s' ⟨q1,q2,q3,q4⟩;exact fin q1 q2 q3 (.inr ⟨q4,rfl⟩) (.inl rfl)
theorem BC:∀E:List eS,D.fv (E.map cF) (E.map cF)=true
 | []=>rfl
 | x::E=>by
  simp only [bG,D.fv,BC E,lG];simp [cF,D.beq,D.fv]
theorem MR (ty st:Nat)(E:List eS):Obj.beq (.arr 5 ty (E.map cF) st) (.arr 5 ty (E.map cF) st)=true:=by
 simp [Obj.beq,BC]
theorem Cf (hT:TT T){s:St}{to co ro eo log st st' i cp n:Nat}{n1 n2 n3 n4:D}{b:Bool}{C:List Int}{E:List eS}{en:eS}(hs:s.Ok)
  (gt:s.get to=some (.var 317 (.agg [.cT,.sl eo 0 n cp,.ptr co 0,n1,n2,n3,n4])))(ge:s.get eo=some (.arr 5 270 (E.map cF) st'))(he:E[i]? =some en)(mr:i < n)(cC:n<=E.length)(dT:st' <=cp)
  (hc:cl s co ro log b st C)(CR:∀v∈C, -1<=v/\v < 32768)(hi:i < 2 * 2 ^ log / 3):
  cu T H 239 [.ptr to 0,.int .i64 (i:Nat)] s fun _ s1=>∃C',Laid log en.h (i:Nat) C C' /\(∃st',cl s1 co ro log b st' C')/\aC (fun j=>j=ro) s s1:=by
 have uA:log<=15:=by have:=hc.hi; split at this <;> omega
 have l1:=hs.lt gt; have l2:=hs.lt ge; have l3:=hs.lt hc.go; have l4:=hs.lt hc.gr;have lS:aC (fun j=>j=ro) s ((s.bc (.var 235 (.ptr to 0))).bc (.var 3 (.int .i64 (i:Nat)))):=aC.push (aC.push (aC.refl hs) _) _;have LQ:aC (fun _=>False) s ((s.bc (.var 235 (.ptr to 0))).bc (.var 3 (.int .i64 (i:Nat)))):=aC.push (aC.push (aC.refl hs) _) _;have k1:=LQ.get hs gt (fun h=>h);have k2:=LQ.get hs ge (fun h=>h);have k3:=hc.dU hs LQ (fun h=>h) (fun h=>h);have g2:((s.bc (.var 235 (.ptr to 0))).bc (.var 3 (.int .i64 (i:Nat)))).get s.n=some (.var 235 (.ptr to 0)):=St.fh St.ba (by rw [St.dN]; omega);have g3:((s.bc (.var 235 (.ptr to 0))).bc (.var 3 (.int .i64 (i:Nat)))).get (s.n+1)=some (.var 3 (.int .i64 (i:Nat))):=St.ba;have Ol :(E.map cF)[0+i]? =some (cF en):=by rw [aM,aE,he]; rfl
 have tJ :n<=(E.map cF).length:=by rw [aH]; exact cC
 refine ay hT.t239 ?_;try refine go ?_
 generalize tZ:(s.bc (.var 235 (.ptr to 0))).bc (.var 3 (.int .i64 (i:Nat)))=s1 at lS k1 k2 k3 g2 g3 ⊢;have mc:=lS.ok;have YH:=Gb (H:=H) hT k3;have gw:=k3.go;refine bf YH ?_;rintro d s2 ⟨rfl,rfl⟩;have g3' :s2.get (s.bc (.var 235 (.ptr to 0))).n=some (.var 3 (.int .i64 (i:Nat))):=g3;have hbr:=MR 270 st' E;refine⟨rfl,by simp [lost,eN.kind,cJ,dE,cE,aI,bz,bz.cV,fZ,bP.ev,Env.get,cP,D.flat,D.isAgg,cL,D.fv,D.beq,az,Obj.aV,bC,bu,D.bV,D.aV,g2,g3',k1,k2,gw,hbr], ?_⟩;try refine go ?_
 refine bf (V7 hT mc) ?_;rintro d s2 ⟨rfl,q1,q2,q3,q4⟩;have w1:=q4.get mc k1 (fun h=>h);have w2:=q4.get mc k2 (fun h=>h);have w3:=q4.get mc g2 (fun h=>h);have w4:=q4.get mc g3 (fun h=>h);have w5:=q4.get mc gw (fun h=>h);have k4:=k3.dU mc q4 (fun h=>h) (fun h=>h);have w4' :s2.get (s.bc (.var 235 (.ptr to 0))).n=some (.var 3 (.int .i64 (i:Nat))):=w4;refine⟨rfl,by simp [lost,eN.kind,cJ,dE,cE,aI,bz,bz.cV,fZ,bP.ev,Env.get,cP,D.flat,D.isAgg,cL,D.fv,D.beq,az,Obj.aV,bC,bu,D.bV,D.aV,g2,g3',k1,k2,gw,w1,w2,w3,w4',w5,hbr], ?_⟩;try refine go ?_
 refine Q6 (b2:=s.n) (b3:=s.n+1) (i:=i) hT q4.ok w3 w4 w1 k4 CR hi q2 q1 uA rfl rfl ?_;intro s3 C' r1 r2 r3 e re;have jr:aC (fun j=>j=ro) s s3:=lS.trans ((q4.mono fun j hj=>hj.elim).trans r3);rcases re with rfl | rfl
 ·try refine go ?_
  exact gU ⟨C',r1,r2,jr⟩
 ·try refine go ?_
  exact gU ⟨C',r1,r2,jr⟩
end
inductive ff (log:Nat):List Int->List Int->Prop
 | nil:ff log [] (List.replicate (2 ^ log) (-1))
 | snoc {hs C C' :List Int} {h:Int} (h0:ff log hs C) (h1:Laid log h (hs.length:Nat) C C'):ff log (hs++ [h]) C'
theorem ff.len {log:Nat}{hs C:List Int}(h:ff log hs C):C.length=2 ^ log:=by
 induction h with
 | nil=>simp
 | snoc h0 h1 ih=>
  rcases h1 with ⟨j,_,_,_,rfl⟩ | ⟨_,rfl⟩
  ·rw [gE]; exact ih
  ·exact ih
theorem ff.MN {log:Nat}{hs C:List Int}(h:ff log hs C):∀v∈C, -1<=v/\v < (hs.length:Int):=by
 induction h with
 | nil=>intro v hv; rw [List.mem_replicate]at hv; simp [hv.2]
 | snoc h0 h1 ih=>
  intro v hv;rw [aB,aW];rcases h1 with ⟨j,_,_,_,rfl⟩ | ⟨_,rfl⟩
  ·rcases List.mem_or_eq_of_mem_set hv with hv | rfl
   ·have:=ih v hv; omega
   ·omega
  ·have:=ih v hv; omega
def full (C:List Int):Nat:=C.countP (fun v=> !(v== -1))
theorem OJ {C:List Int}{i:Nat}{v:Int}:full (C.set i v)<=full C+1:=by
 unfold full;induction C generalizing i with
 | nil=>simp
 | cons c C ih=>
  cases i with
  | zero=>simp only [jR,mS]; split <;> split <;> omega
  | succ i=>
   simp only [List.set_cons_succ,mS];have:=ih (i:=i);omega
theorem ff.full {log:Nat}{hs C:List Int}(h:ff log hs C):full C<=hs.length:=by
 induction h with
 | nil=>simp [Tab.full,List.countP_replicate]
 | snoc h0 h1 ih=>
  rw [aB,aW];rcases h1 with ⟨j,_,_,_,rfl⟩ | ⟨_,rfl⟩
  ·exact cU OJ (Nat.succ_le_succ ih)
  ·omega
theorem OZ {C:List Int}(h:full C < C.length):∃i,i < C.length/\C[i]? =some (-1):=by
 unfold full at h;induction C with
 | nil=>simp at h
 | cons c C ih=>
  by_cases hc:c= -1
  ·exact⟨0,by simp,by simp [hc]⟩
  ·have e:(!(c== -1))=true:=by simp [hc]
   rw [mS,bJ e,aU]at h;obtain⟨i,h1,h2⟩:=ih (by omega);exact⟨i+1,by simpa using h1,by simpa using h2⟩
theorem ff.empty {log:Nat}{hs C:List Int}(h:ff log hs C)(hn:hs.length < 2 ^ log)(g:Int)(J:Nat):∃i,J<=i/\i < J+(13+2 ^ log)/\C[(gA log g i).1]? =some (-1):=by
 obtain⟨b,hb,jJ⟩:=OZ (C:=C) (by rw [h.len]; exact Nat.lt_of_le_of_lt h.full hn);rw [h.len]at hb;obtain⟨k,hk,e⟩:=Trail.comes (log:=log) (c:=(gA log g J).1) (p:=(gA log g J).2) (lM _ _ _) (rB _ _ _) hb;refine⟨J+k,by omega,by omega, ?_⟩;have:gA log g (J+k)=Trail.iter (Trail.step log) k (gA log g J):=Trail.qk _ _ _ _;rw [this];rw [show ((gA log g J).1,(gA log g J).2)=gA log g J from rfl]at e;rw [e]; exact jJ
abbrev gZ (E:List eS):List Int:=E.map eS.h
theorem ff.take {log j:Nat}{E:List eS} {C C' :List Int}{e:eS}(h:ff log ((gZ E).take j) C)(he:E[j]? =some e)(h1:Laid log e.h (j:Nat) C C'):ff log ((gZ E).take (j+1)) C' :=by
 have hl:j < E.length:=(af.mp he).1;have e1:(gZ E).take (j+1)=(gZ E).take j++ [e.h]:=by
  rw [gz,aE,he]; rfl
 have e2:((gZ E).take j).length=j:=by simp; omega
 rw [e1];refine .snoc h ?_;rw [e2]; exact h1
section
variable {T:Nat->Option dS}{H Y:au}
theorem Jv (hT:TT T){s:St}{to co ro eo log st:Nat}{x n1 n2 n3 n4:D}{b:Bool}{C:List Int}{E:List eS}(hs:s.Ok)
  (gt:s.get to=some (.var 317 (.agg [.cT,x,.ptr co 0,n1,n2,n3,n4])))(he:vV s x eo E)(hc:cl s co ro log b st C)(hC:ff log [] C)(hE:E.length<=2 * 2 ^ log / 3)(Rw:E.length<=32000):
  cu T H 238 [.ptr to 0] s fun _ s1=>∃C' st',ff log (gZ E) C' /\cl s1 co ro log b st' C' /\aC (fun j=>j=ro) s s1:=by
 rcases he with _ | ⟨_,cp,st',E,ge,h1,h2⟩
 ·refine ay hT.t238 ?_;try refine go ?_
  refine lQ ?_;try refine go ?_
  exact gU ⟨C,st,hC,hc,aC.refl hs⟩
 ·refine ay hT.t238 ?_;have nro:to≠ro:=by rintro rfl; have:=hc.gr; rw [gt]at this; cases this
  have nre:eo≠ro:=by rintro rfl; have:=hc.gr; rw [ge]at this; cases this
  try refine go ?_
  refine eT E.length (fun j=> [(0,.ptr to 0),(7,.int .i64 (E.length:Nat)),(8,.int .i64 (j:Nat))]) (fun j s' =>∃C' st',ff log ((gZ E).take j) C' /\cl s' co ro log b st' C' /\aC (fun j=>j=ro) s s') ⟨C,st,hC,hc,aC.refl hs⟩ ?_;rintro j s' hj ⟨C',tR,q1,q2,q3⟩;rcases aG j E.length with hl | hl
  ·have hej:E[j]? =some E[j]:=ae hl;generalize E[j]=en at hej
   have CR:∀v∈C', -1<=v/\v < 32768:=fun v hv=>by
    have:=q1.MN v hv;rw [cR,aH]at this;omega
   have zS:=Cf (H:=H) hT q3.ok (q3.get hs gt nro) (q3.get hs ge nre) hej hl (an _) (cU h1 h2) q2 CR (by omega);try refine go ?_
   refine ak zS ?_;rintro d s2 ⟨C2,z1,⟨XV,z2⟩,z3⟩;try refine go ?_
   exact dO hl ⟨C2,XV,q1.take hej z1,z2,q3.trans z3⟩
  ·have:j=E.length:=by omega
   subst this;try refine go ?_
   refine gU ⟨C',tR, ?_,q2,q3⟩;rw [eY (by simp)]at q1;exact q1
theorem KK (hT:TT T){s:St}:cu T H 219 [.cT] s fun _ s1=>s1=s:=by
 refine ay hT.t219 ?_
 repeat' first | refine go ?_ | refine gP hT.t244 ?_
 exact gU rfl
theorem Ki (hT:TT T){s:St}:cu T H 213 [.cT,.int .i64 1] s fun _ s1=>s1=s:=by
 refine ay hT.t213 ?_
 repeat' first | refine go ?_ | refine gP hT.t244 ?_
 exact gU rfl
theorem CU (hT:TT T){s:St}{to log:Nat}{x c n1 n2 n4:D}{m:Int}(hs:s.Ok)(gt:s.get to=some (.var 317 (.agg [.cT,x,c,n1,n2,.int .i64 m,n4])))(hm:0<=m/\m < 1000000)(h3:3<=log)(hh:log<=15):
  cu T H 174 [.ptr to 0,.int .i64 (log:Nat)] s fun _ s1=>∃co ro b st C,s.n<=co/\s.n<=ro/\s1.get to=some (.var 317 (.agg [.cT,x,.ptr co 0,n1,n2,.int .i64 (m+1),n4]))/\cl s1 co ro log b st C/\ff log [] C/\aC (fun j=>j=to) s s1:=by
 have hn:=QU (H:=H) hT hs h3 hh;have lt:=hs.lt gt;have hw:IntKind.wrap .i64 (m+1)=m+1:=wrap_small (by omega) (by omega);refine ay hT.t174 ?_;try refine go ?_
 refine ak hn ?_;rintro d s1 ⟨rfl,q1,⟨b,st,q2⟩,q3⟩;have g1:=q3.get hs gt (fun h=>h);have l1:=q3.ok.lt g1;have fK:=q3.ok;try refine go ?_
 refine ak (KK hT) ?_;rintro d s2 rfl;try refine go ?_
 rw [hw];have b1:∀d1 d2:D,aC (fun j=>j=to) s1 ((s1.bD to (.var 317 d1)).bD to (.var 317 d2)):=fun d1 d2=>aC.set (W:=fun j=>j=to) (aC.set (W:=fun j=>j=to) (aC.refl fK) _ l1 (fun _=>rfl)) _ l1 (fun _=>rfl);exact gU ⟨s.n+1,s.n,b,st,_,by omega,by omega,St.aN,q2.dU fK (b1 _ _) (by omega) (by omega),.nil,(q3.mono fun j hj=>hj.elim).trans (b1 _ _)⟩
theorem IH (hT:TT T){s:St}(hs:s.Ok):
  cu T H 130 [.cT] s fun d s1=>d= .ptr s.n 0/\∃co ro b st C,s.n < co/\s.n < ro/\s1.get s.n=some (.var 317 (.agg [.cT,.vs true 0 [],.ptr co 0,.int .i64 0,.int .i64 0,.int .i64 1,.int .i64 0]))/\cl s1 co ro 3 b st C/\ff 3 [] C/\aC Nil s s1:=by
 have hb:=aC.push (aC.refl (W:=Nil) hs) (.var 317 (.agg [.cT,.vs true 0 [],.cT,.int .i64 0,.int .i64 0,.int .i64 0,.int .i64 0]));have hi:=CU (H:=H) (log:=3) hT hb.ok St.ba (m:=0) (by omega) (by omega) (by omega);refine ay hT.t130 ?_;try refine go ?_
 refine ak hi ?_;rintro d s1 ⟨co,ro,b,st,C,q1,q2,q3,q4,q5,q6⟩;simp only [St.dN]at q1 q2;try refine go ?_
 exact ai ⟨rfl,co,ro,b,st,C,q1,q2,q3,q4,q5,hb.trans' q6 (by rintro j rfl hj; omega)⟩
end
end Go.Proofs.Tab
