/- Part. -/
import Derived.Test.YtjaldhgmboeffaaGreatDoorG23
import Init
set_option linter.unusedSimpArgs false
set_option linter.unusedVariables false
set_option linter.unusedSectionVars false
set_option maxRecDepth 100000
set_option maxHeartbeats 2000000
namespace Go.Proofs.Tab
open Go Go.Ab Go.Ab.Sm
theorem J7 {log:Nat}(h:log<=20):IntKind.wrap .i64 (1 * 2 ^ min (Int.toNat (log:Int)) (IntKind.bits .i64))=((2 ^ log:Nat):Int):=by
 have e:min (Int.toNat (log:Int)) (IntKind.bits .i64)=log:=by
  show min (Int.toNat (log:Int)) 64=log;rw [cZ]; omega
 have h2:2 ^ log<=2 ^ 20:=c9 (by decide) h;have e2:(1:Int) * 2 ^ log=((2 ^ log:Nat):Int):=by rw [Int.one_mul]; norm_cast
 have key:∀N:Nat,N<=2 ^ 20->IntKind.wrap .i64 (N:Int)=(N:Int):=fun N h=>wrap_small (by omega) (by omega);rw [e,e2];exact key _ h2
section
variable {T:Nat->Option dU}{H:ay}
theorem Ph (hT:TT T){s:St}{log:Nat}(hs:s.Ok)(h1:log<=7):
  cu T H 306 [.int .i64 (log:Nat)] s fun d s1=>d= .ia (VY true) (.agg [.sl s.n 0 (2 ^ log) (2 ^ log),.int .i64 (K6 true)])/\s1=s.bz (.arr 1 (Ow true) (List.replicate (2 ^ log) (.int (w9 true) 0)) 0):=by
 have hw:=J7 (log:=log) (by omega);have h2:2 ^ log<=2 ^ 7:=c9 (by decide) h1;refine ax hT.t306 ?_;try refine go ?_
 rw [hw];refine rT (l1:=2 ^ log) (c1:=2 ^ log) (jz (kd:= .i64)) (jz (kd:= .i64)) (aq _) (by omega) (by simp only [aL]; omega) ?_;try refine go ?_
 exact ai ⟨rfl,rfl⟩
theorem KJ (hT:TT T){s:St}{log:Nat}(hs:s.Ok)(h0:7 < log)(h1:log<=15):
  cu T H 306 [.int .i64 (log:Nat)] s fun d s1=>d= .ia (VY false) (.agg [.sl s.n 0 (2 ^ log) (2 ^ log),.int .i64 (K6 false)])/\s1=s.bz (.arr 1 (Ow false) (List.replicate (2 ^ log) (.int (w9 false) 0)) 0):=by
 have hw:=J7 (log:=log) (by omega);have h2:2 ^ log<=2 ^ 15:=c9 (by decide) h1;refine ax hT.t306 ?_;try refine go ?_
 rw [hw];refine rT (l1:=2 ^ log) (c1:=2 ^ log) (jz (kd:= .i64)) (jz (kd:= .i64)) (aq _) (by omega) (by simp only [aL]; omega) ?_;try refine go ?_
 exact ai ⟨rfl,rfl⟩
def begun (N j:Nat):List Int:=List.replicate j (-1)++List.replicate (N - j) 0
theorem vd {N j:Nat}(h:j < N):(begun N j).set j (-1)=begun N (j+1):=by
 unfold begun;rw [mG _ _ (by simp),iS,eG,show N - j=(N - (j+1))+1 by omega,lA,jR,nF,hZ];rfl
theorem AB {N j:Nat}(h:j<=N):(begun N j).length=N:=by simp [begun]; omega
theorem vV (N:Nat):begun N N=List.replicate N (-1):=by simp [begun]
theorem IG (N:Nat):begun N 0=List.replicate N 0:=by simp [begun]
theorem At {b:Bool}(hT:TT T){s:St}{log:Nat}(hs:s.Ok)(h3:3<=log)(hh:log<=if b then 7 else 15)
  (hm:cu T H 306 [.int .i64 (log:Nat)] s fun d s1=>d= .ia (VY b) (.agg [.sl s.n 0 (2 ^ log) (2 ^ log),.int .i64 (K6 b)])/\s1=s.bz (.arr 1 (Ow b) (List.replicate (2 ^ log) (.int (w9 b) 0)) 0)):
  cu T H 286 [.int .i64 (log:Nat)] s fun d s1=>d= .gK [.ptr (s.n+1) 0,.int .i64 0]/\s.n+1 < s1.n/\(∃st,cr s1 (s.n+1) s.n log b st (List.replicate (2 ^ log) (-1)))/\aF Nil s s1:=by
 have acB:log<=15:=by cases b <;> simp at hh <;> omega
 have ya:aF Nil s (s.bz (.arr 1 (Ow b) (List.replicate (2 ^ log) (.int (w9 b) 0)) 0)):=aF.push (aF.refl hs) _;have kO:=aF.push ya (.var 377 (.agg [.int .i64 (log:Nat),.ia (VY b) (.agg [.sl s.n 0 (2 ^ log) (2 ^ log),.int .i64 (K6 b)])]));have JW:cr ((s.bz (.arr 1 (Ow b) (List.replicate (2 ^ log) (.int (w9 b) 0)) 0)).bz (.var 377 (.agg [.int .i64 (log:Nat),.ia (VY b) (.agg [.sl s.n 0 (2 ^ log) (2 ^ log),.int .i64 (K6 b)])]))) (s.n+1) s.n log b 0 (begun (2 ^ log) 0):=by
  refine⟨St.bu,St.fV ?_ (by rw [St.dV]; omega),AB (aS _),aS _,h3,hh,by omega⟩;rw [St.bu,IG,pz]
 have yh:=IP (H:=H) hT (s:=(s.bz (.arr 1 (Ow b) (List.replicate (2 ^ log) (.int (w9 b) 0)) 0)).bz (.var 377 (.agg [.int .i64 (log:Nat),.ia (VY b) (.agg [.sl s.n 0 (2 ^ log) (2 ^ log),.int .i64 (K6 b)])]))) (ro:=s.n) (log:=log) (b:=b);have xo:=JW.go;have mc:(s.bz (.arr 1 (Ow b) (List.replicate (2 ^ log) (.int (w9 b) 0)) 0)).Ok:=ya.ok;refine ax hT.t286 ?_;try refine go ?_
 refine ak hm ?_;rintro d s1 ⟨rfl,rfl⟩;cases b
 ·try refine go ?_
  refine ak yh ?_;rintro d s2 ⟨rfl,rfl⟩;try refine go ?_
  refine ee (2 ^ log) (fun j=> [(4,.ptr (s.n+1) 0),(21,.int .i64 (2 ^ log:Nat)),(22,.int .i64 (j:Nat))]) (fun j s' =>(∃st,cr s' (s.n+1) s.n log false st (begun (2 ^ log) j))/\aF Nil s s' /\s.n+1 < s'.n) ⟨⟨0,JW⟩,kO,by simp only [St.dV]; omega⟩ ?_;rintro j s' hj ⟨⟨st,hc⟩,hb,hn⟩;have xo:=hc.go;rcases aH j (2 ^ log) with hl | hl
  ·have gO:=AX (H:=H) hT hb.ok hc hl (v:= -1) (by omega);rw [vd hl]at gO;have hp:=hc.pow;try refine go ?_
   refine ak gO ?_;rintro d s3 ⟨q1,q2⟩;have q3:=q2.n;try refine go ?_
   exact dw hl ⟨⟨_,q1⟩,hb.trans' q2 (by rintro o rfl ho; omega),by omega⟩
  ·have:j=2 ^ log:=by omega
   subst this;rw [vV]at hc;try refine go ?_
   exact ai ⟨rfl,hn,⟨st,hc⟩,hb⟩
 ·try refine go ?_
  refine ak yh ?_;rintro d s2 ⟨rfl,rfl⟩;try refine go ?_
  refine ee (2 ^ log) (fun j=> [(4,.ptr (s.n+1) 0),(21,.int .i64 (2 ^ log:Nat)),(22,.int .i64 (j:Nat))]) (fun j s' =>(∃st,cr s' (s.n+1) s.n log true st (begun (2 ^ log) j))/\aF Nil s s' /\s.n+1 < s'.n) ⟨⟨0,JW⟩,kO,by simp only [St.dV]; omega⟩ ?_;rintro j s' hj ⟨⟨st,hc⟩,hb,hn⟩;have xo:=hc.go;rcases aH j (2 ^ log) with hl | hl
  ·have gO:=DN (H:=H) hT hb.ok hc hl (v:= -1) (by omega);rw [vd hl]at gO;have hp:=hc.pow;try refine go ?_
   refine ak gO ?_;rintro d s3 ⟨q1,q2⟩;have q3:=q2.n;try refine go ?_
   exact dw hl ⟨⟨_,q1⟩,hb.trans' q2 (by rintro o rfl ho; omega),by omega⟩
  ·have:j=2 ^ log:=by omega
   subst this;rw [vV]at hc;try refine go ?_
   exact ai ⟨rfl,hn,⟨st,hc⟩,hb⟩
theorem QM (hT:TT T){s:St}{log:Nat}(hs:s.Ok)(h3:3<=log)(hh:log<=15):
  cu T H 286 [.int .i64 (log:Nat)] s fun d s1=>d= .gK [.ptr (s.n+1) 0,.int .i64 0]/\s.n+1 < s1.n/\(∃b st,cr s1 (s.n+1) s.n log b st (List.replicate (2 ^ log) (-1)))/\aF Nil s s1:=by
 rcases aH 7 log with h | h
 ·exact (At (b:=false) hT hs h3 (by simpa using hh) (KJ hT hs h hh)).mono fun d s1 ⟨a1,a2,a3,a4⟩=>⟨a1,a2,⟨_,a3⟩,a4⟩
 ·exact (At (b:=true) hT hs h3 (by simpa using h) (Ph hT hs h)).mono fun d s1 ⟨a1,a2,a3,a4⟩=>⟨a1,a2,⟨_,a3⟩,a4⟩
end
end Go.Proofs.Tab
namespace Go.Ab.Trail
def step (log:Nat)(x:Nat×Nat):Nat×Nat:=((5 * x.1+x.2 / 32+1) % 2 ^ log,x.2 / 32)
def iter {α:Type}(f:α->α):Nat->α->α
 | 0,x=>x
 | n+1,x=>iter f n (f x)
theorem qg {α:Type}(f:α->α):∀(m n:Nat) (x:α),iter f (m+n) x=iter f n (iter f m x)
 | 0,n,x=>by rw [aN]; rfl
 | m+1,n,x=>by rw [Nat.succ_add]; exact qg f m n (f x)
def st (log c:Nat):Nat:=(5 * c+1) % 2 ^ log
def g:Nat->Nat
 | 0=>0
 | n+1=>5 * g n+1
theorem Hn (m:Nat):∀n,g (m+n)=(4 * g n+1) * g m+g n
 | 0=>by simp [g]
 | n+1=>by
  show 5 * g (m+n)+1=_;rw [Hn m n,g];have:(4 * (5 * g n+1)+1) * g m=5 * ((4 * g n+1) * g m):=by rw [← Nat.mul_assoc]; congr 1; omega
  omega
theorem M6:∀j,∃q,g (2 ^ j)=2 ^ j * (2 * q+1)
 | 0=>⟨0,rfl⟩
 | j+1=>by
  obtain⟨q,hq⟩:=M6 j;have e:2 ^ (j+1)=2 ^ j+2 ^ j:=by rw [jk]; omega
  refine⟨q+q * (2 * g (2 ^ j))+g (2 ^ j), ?_⟩;rw [e,Hn];generalize g (2 ^ j)=G at *;have h1:(4 * G+1) * G+G=(2 * G) * (2 * G+1):=by rw [bS,Nat.mul_add,Nat.one_mul,lX]; rw [show 4 * G * G=2 * G * (2 * G) by rw [Nat.mul_mul_mul_comm,gS]]; omega
  rw [h1,hq,← Nat.two_mul,gS 2 (2 ^ j),gS 2,gS]
  congr 1; congr 1
  rw [← hq];rw [bS,Nat.mul_add,Nat.one_mul,lX,gS];have:2 * (q * (2 * G))=2 * (q * (2 * G)):=rfl;omega
theorem lift:∀L b,∃k,k < 2 ^ L/\g k % 2 ^ L=b % 2 ^ L
 | 0,b=>⟨0,by decide,by simp [Nat.mod_one]⟩
 | L+1,b=>by
  obtain⟨k,hk,h⟩:=lift L b;obtain⟨q,hq⟩:=M6 L;have hp:2 ^ (L+1)=2 * 2 ^ L:=by rw [jk,jQ]
  have h0:0 < 2 ^ L:=jc L;generalize hP:2 ^ L=P at *;rw [hp];have a1:=Nat.mod_add_div (g k) P;have a2:=Nat.mod_add_div b P;have m1:∀x,x % (2 * P)=x % P+P * ((x / P) % 2):=fun x=>by rw [jQ 2 P,Nat.mod_mul]
  by_cases he:(g k / P) % 2=(b / P) % 2
  ·exact⟨k,by omega,by rw [m1,m1,h,he]⟩
  ·refine⟨P+k,by omega, ?_⟩;have e1:g (P+k)=g k+P * ((4 * g k+1) * (2 * q+1)):=by
    rw [Hn,hq,Nat.add_comm,← Nat.mul_assoc,jQ _ P,gS]
   rw [m1,m1,e1,Nat.add_mul_mod_self_left,h,Nat.add_mul_div_left _ _ h0]
   congr 2
   have e2:((4 * g k+1) * (2 * q+1)) % 2=1:=by
    rw [Nat.mul_mod];have:(4 * g k+1) % 2=1:=by omega
    have:(2 * q+1) % 2=1:=by omega
    simp [*]
   omega
theorem Bx {L:Nat}:∀(n c:Nat),c < 2 ^ L->iter (st L) n c=((4 * g n+1) * c+g n) % 2 ^ L
 | 0,c,h=>by simp [iter,g,kT h]
 | n+1,c,h=>by
  show iter (st L) n (st L c)=_;rw [Bx n (st L c) (Nat.mod_lt _ (jc L))];unfold st;rw [Nat.add_mod,Nat.mul_mod,Nat.mod_mod,← Nat.mul_mod,← Nat.add_mod]
  congr 1
  rw [show n+1=1+n from Nat.add_comm _ _,Hn];show _=(4 * ((4 * g n+1) * 1+g n)+1) * c+((4 * g n+1) * 1+g n);rw [Nat.mul_add,lX,Nat.mul_left_comm];have:(4 * (4 * g n+1+g n)+1) * c=5 * ((4 * g n+1) * c):=by rw [← Nat.mul_assoc]; congr 1; omega
  omega
theorem xX {L b:Nat}(hb:b < 2 ^ L):∃k,k < 2 ^ L/\iter (st L) k 0=b:=by
 obtain⟨k,hk,h⟩:=lift L b;refine⟨k,hk, ?_⟩;rw [Bx k 0 (jc L),Nat.mul_zero,aN,h,kT hb]
theorem Jx (L:Nat):iter (st L) (2 ^ L) 0=0:=by
 obtain⟨q,hq⟩:=M6 L;rw [Bx _ 0 (jc L),Nat.mul_zero,aN,hq];exact Nat.mul_mod_right _ _
theorem Lm {log a b:Nat}(ha:a < 2 ^ log)(hb:b < 2 ^ log):∃k,k < 2 ^ log/\iter (st log) k a=b:=by
 obtain⟨i,hi,rfl⟩:=xX ha;obtain⟨j,hj,rfl⟩:=xX hb;rcases aH j i with g | g
 ·refine⟨j+2 ^ log - i,by omega, ?_⟩;rw [← qg,show i+(j+2 ^ log - i)=2 ^ log+j from by omega,qg,Jx log]
 ·refine⟨j - i,by omega, ?_⟩;rw [← qg,show i+(j - i)=j from by omega]
theorem Aa (log:Nat):∀(n c p:Nat),p < 32 ^ n->(iter (step log) n (c,p)).2=0
 | 0,c,p,h=>by simpa [iter] using h
 | n+1,c,p,h=>by
  show (iter (step log) n (step log (c,p))).2=0;refine Aa log n _ _ ?_;show p / 32 < 32 ^ n;rw [Nat.div_lt_iff_lt_mul (by decide),← Nat.pow_succ]; exact h
theorem Bp (log:Nat):∀(n c p:Nat),c < 2 ^ log->(iter (step log) n (c,p)).1 < 2 ^ log
 | 0,c,p,h=>h
 | n+1,c,p,h=>Bp log n _ _ (Nat.mod_lt _ (jc log))
theorem Aj (log:Nat):∀(n c:Nat),iter (step log) n (c,0)=(iter (st log) n c,0)
 | 0,c=>rfl
 | n+1,c=>by
  show iter (step log) n (step log (c,0))=_;have:step log (c,0)=(st log c,0):=by simp [step,st]
  rw [this,Aj log n]; rfl
theorem comes {log c p b:Nat}(hc:c < 2 ^ log)(hp:p < 2 ^ 64)(hb:b < 2 ^ log):∃k,k < 13+2 ^ log/\(iter (step log) k (c,p)).1=b:=by
 have h0:=Aa log 13 c p (by
  have:(2:Nat) ^ 64<=32 ^ 13:=by decide
  omega)
 have h1:=Bp log 13 c p hc;obtain⟨k,hk,e⟩:=Lm h1 hb;refine⟨13+k,by omega, ?_⟩;rw [qg];have:iter (step log) 13 (c,p)=((iter (step log) 13 (c,p)).1,0):=by rw [← h0]
 rw [this,Aj];exact e
end Go.Ab.Trail
namespace Go.Proofs.Tab
open Go Go.Ab Go.Ab.Sm
def hu (h:Int):Nat:=(h % 18446744073709551616).toNat
theorem Oy (h:Int):hu h < 2 ^ 64:=by unfold hu; omega
theorem wrap_u64 (n:Int):IntKind.wrap .u64 n=n % 18446744073709551616:=by
 simp only [IntKind.wrap,IntKind.signed,IntKind.bits];rfl
theorem sA (h:Int):IntKind.wrap .u64 h=(hu h:Int):=by rw [wrap_u64]; unfold hu; omega
theorem kP {n:Int}(h1:0<=n)(h2:n < 18446744073709551616):IntKind.wrap .u64 n=n:=by rw [wrap_u64]; omega
def gC (log:Nat)(h:Int)(j:Nat):Nat×Nat:=Trail.iter (Trail.step log) j (hu h % 2 ^ log,hu h)
theorem AP {α:Type}(f:α->α):∀(n:Nat) (x:α),Trail.iter f (n+1) x=f (Trail.iter f n x)
 | 0,x=>rfl
 | n+1,x=>by
  show Trail.iter f (n+1) (f x)=_;rw [AP f n (f x)]; rfl
theorem um (log:Nat)(h:Int)(j:Nat):gC log h (j+1)=Trail.step log (gC log h j):=AP _ _ _
theorem lQ (log:Nat)(h:Int)(j:Nat):(gC log h j).1 < 2 ^ log:=Trail.Bp log j _ _ (Nat.mod_lt _ (jc log))
theorem rV (log:Nat)(h:Int):∀j,(gC log h j).2 < 2 ^ 64
 | 0=>Oy h
 | j+1=>by
  rw [um];exact Nat.lt_of_le_of_lt (Nat.div_le_self _ _) (rV log h j)
theorem my {log:Nat}(h:log<=15):1<=2 ^ log/\2 ^ log<=32768:=⟨Nat.one_le_two_pow,(c9 (n:=2) (by decide) h:2 ^ log<=2 ^ 15)⟩
theorem CP {log:Nat}(h:log<=15):IntKind.wrap .u64 (1 * 2 ^ min (Int.toNat (log:Int)) (IntKind.bits .u64))=((2 ^ log:Nat):Int):=by
 have e:min (Int.toNat (log:Int)) (IntKind.bits .u64)=log:=by
  show min (Int.toNat (log:Int)) 64=log;rw [cZ]; omega
 have e2:(1:Int) * 2 ^ log=((2 ^ log:Nat):Int):=by rw [Int.one_mul]; norm_cast
 have key:∀N:Nat,N<=32768->IntKind.wrap .u64 (N:Int)=(N:Int):=fun N h=>kP (by omega) (by omega);rw [e,e2];exact key _ (my h).2
theorem Ck {N:Nat}(h1:1<=N)(h2:N<=32768):IntKind.wrap .u64 ((N:Int) - 1)=((N - 1:Nat):Int):=by
 rw [kP (by omega) (by omega)]; omega
theorem uH {a log:Nat}(ha:a < 2 ^ 64)(h:log<=15):IntKind.wrap .u64 (((BitVec.ofInt (IntKind.bits .u64) (a:Int)) &&& (BitVec.ofInt (IntKind.bits .u64) ((2 ^ log - 1:Nat):Int))).toNat:Int)=((a % 2 ^ log:Nat):Int):=by
 have hp:=my h;have e1:(BitVec.ofInt (IntKind.bits .u64) (a:Int)).toNat=a:=by
  show (BitVec.ofInt 64 (a:Int)).toNat=a;rw [BitVec.toNat_ofInt]; omega
 have e2:(BitVec.ofInt (IntKind.bits .u64) ((2 ^ log - 1:Nat):Int)).toNat=2 ^ log - 1:=by
  show (BitVec.ofInt 64 ((2 ^ log - 1:Nat):Int)).toNat=_;rw [BitVec.toNat_ofInt];have hm:2 ^ log - 1 < 18446744073709551616:=by omega
  clear e1;generalize 2 ^ log - 1=m at hm ⊢;omega
 rw [BitVec.toNat_and,e1,e2,Nat.and_two_pow_sub_one_eq_mod];have:=Nat.mod_lt a (jc log);generalize a % 2 ^ log=m at this ⊢;generalize 2 ^ log=N at this hp;exact kP (by omega) (by omega)
section
variable {T:Nat->Option dU}{H:ay}
theorem NW (hT:TT T){s:St}{h:Int}{log:Nat}(hl:log<=15):cu T H 228 [.int .i64 h,.int .i64 (log:Nat)] s fun d s1=>s1=s/\d= .int .i64 ((gC log h 0).1:Nat):=by
 have hp:=my hl;have e1:=CP hl;have e2:=Ck hp.1 hp.2;have e3:=uH (Oy h) hl;have e4:=lQ log h 0;have e5:IntKind.wrap .i64 ((hu h % 2 ^ log:Nat):Int)=((gC log h 0).1:Nat):=by
  show IntKind.wrap .i64 (((gC log h 0).1:Nat):Int)=_;generalize (gC log h 0).1=c at e4 ⊢;generalize 2 ^ log=N at e4 hp;exact wrap_small (by omega) (by omega)
 refine ax hT.t228 ?_;try refine go ?_
 rw [sA h,e1,e2,e3,e5];exact ai ⟨rfl,rfl⟩
end
theorem WV {p:Nat}:Int.fdiv (p:Int) (2 ^ min (Int.toNat 5) (IntKind.bits .u64))=((p / 32:Nat):Int):=by
 have e:(2:Int) ^ min (Int.toNat 5) (IntKind.bits .u64)=32:=rfl;rw [e,kM _ (by decide)];omega
theorem step_eq {c p N:Nat}(hc:c < N)(hp:p < 2 ^ 64)(hN:N<=32768):IntKind.wrap .u64 (IntKind.wrap .u64 (IntKind.wrap .u64 (5 * (c:Int))+((p / 32:Nat):Int))+1)=((5 * c+p / 32+1:Nat):Int):=by
 rw [kP (n:=5 * (c:Int)) (by omega) (by omega),kP (n:=5 * (c:Int)+((p / 32:Nat):Int)) (by omega) (by omega),kP (by omega) (by omega)];omega
section
variable {T:Nat->Option dU}{H Y:ay}
theorem Wq (hT:TT T){s:St}{h:Int}{log:Nat}(hs:s.Ok):cu T H 260 [.int .i64 h,.int .i64 (log:Nat)] s fun d s1=>d= .fn (.func 289) [] [.ptr (s.n+1) 0,.ptr s.n 0]/\s1.get s.n=some (.var 3 (.int .i64 h))/\s1.get (s.n+1)=some (.var 3 (.int .i64 (log:Nat)))/\s1.n=s.n+2/\aF Nil s s1:=by
 have hb:=aF.push (aF.push (aF.refl (W:=Nil) hs) (.var 3 (.int .i64 h))) (.var 3 (.int .i64 (log:Nat)));refine ax hT.t260 ?_;try refine go ?_
 exact ai ⟨rfl,St.fV St.bu (by rw [St.dV]; omega),St.bu,rfl,hb⟩
theorem Qv (hT:TT T){s:St}{k lb hb log:Nat}{h:Int}(I:Nat->St->Prop)(R:St->Prop)(uk:log<=15)(h0:I 0 s)
  (hI:∀j s,I j s->s.get lb=some (.var 3 (.int .i64 (log:Nat)))/\s.get hb=some (.var 3 (.int .i64 h)))
  (hY:∀j s,j < 2 ^ log+13->I j s->∃c s',Y 0 (.lv (.yl k)::[.int .i64 ((gC log h j).1:Nat)]) s=some (.bool c,s')/\(c=true->I (j+1) s')/\(c=false->R s'))
  (hR:∀s,I (2 ^ log+13) s->R s):
  cu T Y 289 [.yl k,.ptr lb 0,.ptr hb 0] s fun _ s1=>R s1:=by
 obtain⟨g1,g2⟩:=hI 0 s h0;have hp:=my uk;have e1:=CP uk;have e2:=Ck hp.1 hp.2;have e3:=uH (Oy h) uk;have e4:=J7 (log:=log) (by omega);have e5:IntKind.wrap .i64 (((2 ^ log:Nat):Int)+13)=((2 ^ log+13:Nat):Int):=by
  generalize 2 ^ log=N at hp ⊢;rw [wrap_small (by omega) (by omega)]; omega
 refine ax hT.t289 ?_;try refine go ?_
 rw [sA h,e1,e2,e3,e4,e5];refine ee (2 ^ log+13) (fun j=> [(0,.yl k),(4,.int .u64 (2 ^ log - 1:Nat)),(5,.int .u64 ((gC log h j).2:Nat)),(6,.int .u64 ((gC log h j).1:Nat)),(23,.int .i64 (2 ^ log+13:Nat)),(24,.int .i64 (j:Nat))]) I h0 ?_;intro j s' hj PA;rcases aH j (2 ^ log+13) with hl | hl
 ·obtain⟨c,s2,y1,y2,y3⟩:=hY j s' hl PA;have q1:=lQ log h j;have q2:=rV log h j;have q3:=um log h j;have q4:IntKind.wrap .i64 ((gC log h j).1:Int)=((gC log h j).1:Int):=by
   generalize (gC log h j).1=c at q1 ⊢;generalize 2 ^ log=N at q1 hp;exact wrap_small (by omega) (by omega)
  have q5:=uH (a:=5 * (gC log h j).1+(gC log h j).2 / 32+1) (log:=log) (by
   generalize (gC log h j).1=c at q1 ⊢;generalize 2 ^ log=N at q1 hp;omega) uk
  have q6:=step_eq q1 q2 hp.2;have q7:(gC log h (j+1)).1=(5 * (gC log h j).1+(gC log h j).2 / 32+1) % 2 ^ log:=by rw [q3]; rfl
  have q8:(gC log h (j+1)).2=(gC log h j).2 / 32:=by rw [q3]; rfl
  generalize (gC log h j).1=cc at y1 q1 q4 q5 q6 q7 ⊢;generalize (gC log h j).2=pp at q2 q5 q6 q7 q8 ⊢;try refine go ?_
  rw [q4];refine vN ?_;refine ak (R:=fun d s1=>d= .bool c/\s1=s2) ⟨_,_,Ev.yield y1,rfl,rfl⟩ ?_;rintro d s3 ⟨rfl,rfl⟩;cases c
  ·try refine go ?_
   exact ai (y3 rfl)
  ·try refine go ?_
   rw [WV,q6,q5,← q7,← q8];exact dw hl (y2 rfl)
 ·have:j=2 ^ log+13:=by omega
  subst this;try refine go ?_
  exact iu (hR _ PA)
end
structure eU where
 h:Int
 k:Int
 v:Int
 b:Int
@[reducible] def cG (x:eU):D:= .agg [.bool true,.int .i64 x.h,.int .i64 x.k,.int .i64 x.v,.int .i64 x.b]
inductive vD (s:St):D->Nat->List eU->Prop
 | nil (eo:Nat):vD s (.vs true 0 []) eo []
 | sl (eo cp st:Nat) (E:List eU) (h:s.get eo=some (.arr 5 232 (E.map cG) st)) (hs:st<=E.length) (hc:E.length<=cp):vD s (.sl eo 0 E.length cp) eo E
theorem vD.dK {W:Nat->Prop}{s s1:St}{x:D}{eo:Nat}{E:List eU}(h:vD s x eo E)(hs:s.Ok)(hb:aF W s s1)(Pu:∀es st,s.get eo=some (.arr 5 232 es st)-> ¬ W eo):vD s1 x eo E:=by
 rcases h with _ | ⟨_,cp,st,E,h,h1,h2⟩
 ·exact .nil eo
 ·exact .sl eo cp st E (hb.get hs h (Pu _ _ h)) h1 h2
section
variable {T:Nat->Option dU}{H Y:ay}
noncomputable def QD:AC:=match Mp.1.body with
 | .seq _ (.seq _ r)=>r
 | _=> .skip
noncomputable def G2:AC:=match QD with
 | .seq _ (.block _ r)=>r
 | _=> .skip
noncomputable def aaT:AC:=match G2 with
 | .iK _ _ _ a _=>a
 | _=> .skip
noncomputable def aam:AC:=match G2 with
 | .iK _ _ _ _ b=>b
 | _=> .skip
def Laid (log:Nat)(h:Int)(v:Int) (C C' :List Int):Prop:=
 (∃j,j < 2 ^ log+13/\C[(gC log h j).1]? =some (-1)/\(∀i,i < j->C[(gC log h i).1]? ≠some (-1))/\C' =C.set (gC log h j).1 v)\/((∀i,i < 2 ^ log+13->C[(gC log h i).1]? ≠some (-1))/\C' =C)
theorem KP (hT:TT T){s:St}{y b2 b3 to co ro log st i c:Nat}{x n1 n2 n3 n4:D}{b:Bool}{C:List Int}(hY:m9 T H y [21] [(2,.ptr b2 0),(3,.ptr b3 0)] aaT aam Y)(hs:s.Ok)(hl:s.get (y+1)=some (.loop y .ready))
  (g2:s.get b2=some (.var 278 (.ptr to 0)))(g3:s.get b3=some (.var 3 (.int .i64 (i:Nat))))(gt:s.get to=some (.var 328 (.agg [.cz,x,.ptr co 0,n1,n2,n3,n4])))
  (hc:cr s co ro log b st C)(Cv:∀v∈C, -1<=v/\v < 32768)(Ug:c < 2 ^ log)(hi:i < 2 * 2 ^ log / 3):
  ∃c' s',Y 0 (.lv (.yl y)::[.int .i64 (c:Nat)]) s=some (.bool c',s')/\((c' =true/\C[c]? ≠some (-1)/\cr s' co ro log b st C/\s'.get (y+1)=some (.loop y .ready))\/(c' =false/\C[c]? =some (-1)/\cr s' co ro log b (2 ^ log) (C.set c (i:Nat))/\s'.get (y+1)=some (.loop y (.exit 0))))/\aF (fun j=>j=y+1\/j=ro) s s' :=by
 have ly:=hs.lt hl;have n2:b2≠y+1:=by rintro rfl; rw [hl]at g2; cases g2
 have n3:b3≠y+1:=by rintro rfl; rw [hl]at g3; cases g3
 have nt:to≠y+1:=by rintro rfl; rw [hl]at gt; cases gt
 have nc:co≠y+1:=by rintro rfl; have:=hc.go; rw [hl]at this; cases this
 have nr:ro≠y+1:=by rintro rfl; have:=hc.gr; rw [hl]at this; cases this
 have kO:aF (fun j=>j=y+1) s (s.bF (y+1) (.loop y .busy)):=aF.set (aF.refl hs) _ ly (fun _=>rfl);have zk:=hc.dK hs kO nc nr;have k2:=kO.get hs g2 n2;have k3:=kO.get hs g3 n3;have kt:=kO.get hs gt nt;have kQ:=HL (H:=H) hT zk Ug Cv;have gO:=PN (H:=H) hT kO.ok zk Ug (v:=(i:Nat)) (.inr ⟨by omega,by omega⟩);have Yj:y+1 < (s.bF (y+1) (.loop y .busy)).n:=ly;have mc:=kO.ok;refine rq (e:=[(21,.int .i64 (c:Nat)),(2,.ptr b2 0),(3,.ptr b3 0)]) hY _ rfl hl hs ?_;show eH T H (.sn _) [] _ s _;try refine go ?_
 refine qA ⟨rfl,rfl, ?_⟩;generalize uL:s.bF (y+1) (.loop y .busy)=s1 at kO zk k2 k3 kt kQ gO Yj mc ⊢;have sq:s1.get (y+1)=some (.loop y .busy):=by rw [← uL]; exact St.aO
 show eH T H (.block _ _) [] _ s1 _;try refine go ?_
 refine ak kQ ?_;rintro d s2 ⟨rfl,v,hv,rfl⟩;have Wg:∀st',aF (fun j=>j=y+1) s2 (s2.bF (y+1) (.loop y st')):=fun st' =>aF.set (aF.refl mc) _ Yj (fun _=>rfl);by_cases qq:v= -1
 ·subst qq;try refine go ?_
  refine aX gO ?_;rintro d s3 ⟨rfl,q1,q2⟩;have m2:b2≠ro:=by rintro rfl; have:=zk.gr; rw [k2]at this; cases this
  have m3:b3≠ro:=by rintro rfl; have:=zk.gr; rw [k3]at this; cases this
  have mt:to≠ro:=by rintro rfl; have:=zk.gr; rw [kt]at this; cases this
  have w2:=q2.get mc k2 m2;have w3:=q2.get mc k3 m3;have wt:=q2.get mc kt mt;refine⟨rfl,by simp [lost,eQ.kind,cK,dE,cF,aI,bC,bC.cW,gk,bP.ev,Env.get,cS,D.flat,D.isAgg,cP,D.fw,D.beq,aA,Obj.aW,bE,br,D.bW,D.aW,k2,k3,kt,w2,w3,wt], ?_⟩;try refine go ?_
  have l3:=q2.get mc sq nr.symm;have ly3:=q2.ok.lt l3;have hb5:aF (fun j=>j=y+1) s3 (s3.bF (y+1) (.loop y (.exit 0))):=aF.set (aF.refl q2.ok) _ ly3 (fun _=>rfl);refine qA ⟨rfl,l3,q2.ok,.inr ⟨rfl,hv,q1.dK q2.ok hb5 nc nr,St.aO⟩, ?_⟩;exact (kO.mono fun j hj=> .inl hj).trans' ((q2.mono fun j hj=> .inr hj).trans (hb5.mono fun j hj=> .inl hj)) fun j hj _=>hj
 ·try refine go ?_
  refine qA ⟨rfl,sq,mc,.inl ⟨rfl,by rw [hv]; simpa using qq,zk.dK mc (Wg .ready) nc nr,St.aO⟩, ?_⟩;exact (kO.mono fun j hj=> .inl hj).trans' ((Wg .ready).mono fun j hj=> .inl hj) fun j hj _=>hj
end
section
variable {T:Nat->Option dU}{H Y:ay}
theorem Qn (hT:TT T){s:St}{b2 b3 to co ro log st i lb hb:Nat}{x n1 n2 n3 n4:D}{b:Bool}{C:List Int}{h:Int}{E:Env}{k:List iT}{Q:QP}(hs:s.Ok)
  (g2:s.get b2=some (.var 278 (.ptr to 0)))(g3:s.get b3=some (.var 3 (.int .i64 (i:Nat))))(gt:s.get to=some (.var 328 (.agg [.cz,x,.ptr co 0,n1,n2,n3,n4])))
  (hc:cr s co ro log b st C)(Cv:∀v∈C, -1<=v/\v < 32768)(hi:i < 2 * 2 ^ log / 3)
  (gl:s.get lb=some (.var 3 (.int .i64 (log:Nat))))(gh:s.get hb=some (.var 3 (.int .i64 h)))(uk:log<=15)
  (hg:bP.ev E (.t 20)=some (.fn (.func 289) [] [.ptr lb 0,.ptr hb 0]))(hk:E.bV [2,3,4]=[(2,.ptr b2 0),(3,.ptr b3 0)])
  (hq:∀s1 C',Laid log h (i:Nat) C C' ->(∃st',cr s1 co ro log b st' C')->aF (fun j=>j=ro) s s1->∀e,(e= .normal\/e= .exit 0)->lg T H e k ⟨E,[(.mw,[])]⟩ s1 Q):
  eH T H G2 k ⟨E,[]⟩ s Q:=by
 show eH T H (.iK _ _ _ _ _) k ⟨E,[]⟩ s Q;refine tK (gf:=289) (caps:=[.ptr lb 0,.ptr hb 0]) (fun Y hY=> ?_) hg hs.ro (by rw [hk]; rfl);have Y4 :m9 T H s.n [21] [(2,.ptr b2 0),(3,.ptr b3 0)] aaT aam Y:=by
  have:=hY;simp only at this;rw [hk]at this;exact this
 clear hY;have ya:aF (fun j=>j=s.n+1\/j=ro) s ((s.bz .dead).bz (.loop s.n .ready)):=aF.push (aF.push (aF.refl hs) _) _;have lr:=hs.lt hc.gr;have lco:=hs.lt hc.go;have lb2:=hs.lt g2; have lb3:=hs.lt g3; have lto:=hs.lt gt; have llb:=hs.lt gl; have lhb:=hs.lt gh;have nl:∀ {o ty d},s.get o=some (.var ty d)->o≠ro:=by
  rintro o ty d ho rfl;have:=hc.gr;rw [ho]at this; cases this
 have fin:∀ {s2:St} {st' :Qz} {C' :List Int} {q:Nat},aF (fun j=>j=s.n+1\/j=ro) s s2->s2.get (s.n+1)=some (.loop s.n st')->cr s2 co ro log b q C' ->Laid log h (i:Nat) C C' ->(BW st' =some .normal\/BW st' =some (.exit 0))->
   ∃st x s3,s2.get (s.n+1)=some (.loop s.n st)/\BW st=some x/\s2.set (s.n+1) .dead=some s3/\lg T H x k { (⟨E,[]⟩:Fr) with defers:=(.mw,[])::[]} s3 Q:=by
  intro s2 st' C' q jK hl uo hL hx;have wX:aF (fun j=>j=s.n+1) s2 (s2.bF (s.n+1) .dead):=aF.set (aF.refl jK.ok) _ (jK.ok.lt hl) (fun _=>rfl);have Wg:aF (fun j=>j=ro) s (s2.bF (s.n+1) .dead):=(jK.trans (wX.mono fun j hj=> .inl hj)).trans' (aF.refl wX.ok) (fun j hj _=>hj) |> fun q=>⟨q.n,q.ok,fun o ho hw=>q.same o ho (by rintro (rfl | rfl); omega; exact hw rfl)⟩
  have hc3:=uo.dK jK.ok wX (by omega) (by omega);rcases hx with hx | hx
  ·exact⟨st',.normal,_,hl,hx,jK.ok.set _ _,hq _ _ hL ⟨_,hc3⟩ Wg _ (.inl rfl)⟩
  ·exact⟨st',.exit 0,_,hl,hx,jK.ok.set _ _,hq _ _ hL ⟨_,hc3⟩ Wg _ (.inr rfl)⟩
 refine Qv hT (h:=h) (log:=log) (fun j s' =>aF (fun j=>j=s.n+1\/j=ro) s s' /\s'.get (s.n+1)=some (.loop s.n .ready)/\cr s' co ro log b st C/\∀i,i < j->C[(gC log h i).1]? ≠some (-1)) _ uk ?_ ?_ ?_ ?_
 ·exact⟨ya,St.bu,hc.dK hs (aF.push (aF.push (aF.refl (W:=fun _=>False) hs) _) _) (fun h=>h) (fun h=>h),fun i hi=>absurd hi (lM _)⟩
 ·rintro j s' ⟨q1,q2,q3,q4⟩;have:=nl gl; have:=nl gh;exact⟨q1.get hs gl (by omega),q1.get hs gh (by omega)⟩
 ·rintro j s' hj ⟨q1,q2,q3,q4⟩;have e2:=nl g2; have e3:=nl g3; have et:=nl gt;obtain⟨c',s2,y1,y2,y3⟩:=KP (H:=H) (i:=i) (c:=(gC log h j).1) hT Y4 q1.ok q2 (q1.get hs g2 (by omega)) (q1.get hs g3 (by omega)) (q1.get hs gt (by omega)) q3 Cv (lQ _ _ _) hi;refine⟨c',s2,y1, ?_, ?_⟩
  ·rintro rfl;rcases y2 with ⟨-,z1,z2,z3⟩ | ⟨z0, -⟩
   ·refine⟨q1.trans y3,z3,z2,fun i hi=> ?_⟩;rcases aH i j with nO | nO
    ·exact q4 i nO
    ·rw [show i=j by omega]; exact z1
   ·cases z0
  ·rintro rfl;rcases y2 with ⟨z0, -⟩ | ⟨-,z1,z2,z3⟩
   ·cases z0
   ·exact fin (q1.trans y3) z3 z2 (.inl ⟨j,hj,z1,q4,rfl⟩) (.inr rfl)
 ·rintro s' ⟨q1,q2,q3,q4⟩;exact fin q1 q2 q3 (.inr ⟨q4,rfl⟩) (.inl rfl)
theorem zZ:∀E:List eU,D.fw (E.map cG) (E.map cG)=true
 | []=>rfl
 | x::E=>by
  simp only [bG,D.fw,zZ E,lJ];simp [cG,D.beq,D.fw]
theorem Oc (ty st:Nat)(E:List eU):Obj.beq (.arr 5 ty (E.map cG) st) (.arr 5 ty (E.map cG) st)=true:=by
 simp [Obj.beq,zZ]
theorem Bt (hT:TT T){s:St}{to co ro eo log st st' i cp n:Nat}{n1 n2 n3 n4:D}{b:Bool}{C:List Int}{E:List eU}{en:eU}(hs:s.Ok)
  (gt:s.get to=some (.var 328 (.agg [.cz,.sl eo 0 n cp,.ptr co 0,n1,n2,n3,n4])))(ge:s.get eo=some (.arr 5 232 (E.map cG) st'))(he:E[i]? =some en)(mD:i < n)(cE:n<=E.length)(dN:st' <=cp)
  (hc:cr s co ro log b st C)(Cv:∀v∈C, -1<=v/\v < 32768)(hi:i < 2 * 2 ^ log / 3):
  cu T H 267 [.ptr to 0,.int .i64 (i:Nat)] s fun _ s1=>∃C',Laid log en.h (i:Nat) C C' /\(∃st',cr s1 co ro log b st' C')/\aF (fun j=>j=ro) s s1:=by
 have uk:log<=15:=by have:=hc.hi; split at this <;> omega
 have l1:=hs.lt gt; have l2:=hs.lt ge; have l3:=hs.lt hc.go; have l4:=hs.lt hc.gr;have lT:aF (fun j=>j=ro) s ((s.bz (.var 278 (.ptr to 0))).bz (.var 3 (.int .i64 (i:Nat)))):=aF.push (aF.push (aF.refl hs) _) _;have LJ:aF (fun _=>False) s ((s.bz (.var 278 (.ptr to 0))).bz (.var 3 (.int .i64 (i:Nat)))):=aF.push (aF.push (aF.refl hs) _) _;have k1:=LJ.get hs gt (fun h=>h);have k2:=LJ.get hs ge (fun h=>h);have k3:=hc.dK hs LJ (fun h=>h) (fun h=>h);have g2:((s.bz (.var 278 (.ptr to 0))).bz (.var 3 (.int .i64 (i:Nat)))).get s.n=some (.var 278 (.ptr to 0)):=St.fV St.bu (by rw [St.dV]; omega);have g3:((s.bz (.var 278 (.ptr to 0))).bz (.var 3 (.int .i64 (i:Nat)))).get (s.n+1)=some (.var 3 (.int .i64 (i:Nat))):=St.bu;have Pp :(E.map cG)[0+i]? =some (cG en):=by rw [aN,aC,he]; rfl
 have tz :n<=(E.map cG).length:=by rw [aJ]; exact cE
 refine ax hT.t267 ?_;try refine go ?_
 generalize uL:(s.bz (.var 278 (.ptr to 0))).bz (.var 3 (.int .i64 (i:Nat)))=s1 at lT k1 k2 k3 g2 g3 ⊢;have mc:=lT.ok;have ZB:=Gs (H:=H) hT k3;have gw:=k3.go;refine aX ZB ?_;rintro d s2 ⟨rfl,rfl⟩;have g3' :s2.get (s.bz (.var 278 (.ptr to 0))).n=some (.var 3 (.int .i64 (i:Nat))):=g3;have hbr:=Oc 232 st' E;refine⟨rfl,by simp [lost,eQ.kind,cK,dE,cF,aI,bC,bC.cW,gk,bP.ev,Env.get,cS,D.flat,D.isAgg,cP,D.fw,D.beq,aA,Obj.aW,bE,br,D.bW,D.aW,g2,g3',k1,k2,gw,hbr], ?_⟩;try refine go ?_
 refine aX (Wq hT mc) ?_;rintro d s2 ⟨rfl,q1,q2,q3,q4⟩;have w1:=q4.get mc k1 (fun h=>h);have w2:=q4.get mc k2 (fun h=>h);have w3:=q4.get mc g2 (fun h=>h);have w4:=q4.get mc g3 (fun h=>h);have w5:=q4.get mc gw (fun h=>h);have k4:=k3.dK mc q4 (fun h=>h) (fun h=>h);have w4' :s2.get (s.bz (.var 278 (.ptr to 0))).n=some (.var 3 (.int .i64 (i:Nat))):=w4;refine⟨rfl,by simp [lost,eQ.kind,cK,dE,cF,aI,bC,bC.cW,gk,bP.ev,Env.get,cS,D.flat,D.isAgg,cP,D.fw,D.beq,aA,Obj.aW,bE,br,D.bW,D.aW,g2,g3',k1,k2,gw,w1,w2,w3,w4',w5,hbr], ?_⟩;try refine go ?_
 refine Qn (b2:=s.n) (b3:=s.n+1) (i:=i) hT q4.ok w3 w4 w1 k4 Cv hi q2 q1 uk rfl rfl ?_;intro s3 C' r1 r2 r3 e re;have jr:aF (fun j=>j=ro) s s3:=lT.trans ((q4.mono fun j hj=>hj.elim).trans r3);rcases re with rfl | rfl
 ·try refine go ?_
  exact iu ⟨C',r1,r2,jr⟩
 ·try refine go ?_
  exact iu ⟨C',r1,r2,jr⟩
end
inductive fg (log:Nat):List Int->List Int->Prop
 | nil:fg log [] (List.replicate (2 ^ log) (-1))
 | snoc {hs C C' :List Int} {h:Int} (h0:fg log hs C) (h1:Laid log h (hs.length:Nat) C C'):fg log (hs++ [h]) C'
theorem fg.len {log:Nat}{hs C:List Int}(h:fg log hs C):C.length=2 ^ log:=by
 induction h with
 | nil=>simp
 | snoc h0 h1 ih=>
  rcases h1 with ⟨j,_,_,_,rfl⟩ | ⟨_,rfl⟩
  ·rw [ic]; exact ih
  ·exact ih
theorem fg.zS {log:Nat}{hs C:List Int}(h:fg log hs C):∀v∈C, -1<=v/\v < (hs.length:Int):=by
 induction h with
 | nil=>intro v hv; rw [List.mem_replicate]at hv; simp [hv.2]
 | snoc h0 h1 ih=>
  intro v hv;rw [aG,aZ];rcases h1 with ⟨j,_,_,_,rfl⟩ | ⟨_,rfl⟩
  ·rcases List.mem_or_eq_of_mem_set hv with hv | rfl
   ·have:=ih v hv; omega
   ·omega
  ·have:=ih v hv; omega
def full (C:List Int):Nat:=C.countP (fun v=> !(v== -1))
theorem N8 {C:List Int}{i:Nat}{v:Int}:full (C.set i v)<=full C+1:=by
 unfold full;induction C generalizing i with
 | nil=>simp
 | cons c C ih=>
  cases i with
  | zero=>simp only [jR,mW]; split <;> split <;> omega
  | succ i=>
   simp only [List.set_cons_succ,mW];have:=ih (i:=i);omega
theorem fg.full {log:Nat}{hs C:List Int}(h:fg log hs C):full C<=hs.length:=by
 induction h with
 | nil=>simp [Tab.full,List.countP_replicate]
 | snoc h0 h1 ih=>
  rw [aG,aZ];rcases h1 with ⟨j,_,_,_,rfl⟩ | ⟨_,rfl⟩
  ·exact cU N8 (Nat.succ_le_succ ih)
  ·omega
theorem Pf {C:List Int}(h:full C < C.length):∃i,i < C.length/\C[i]? =some (-1):=by
 unfold full at h;induction C with
 | nil=>simp at h
 | cons c C ih=>
  by_cases hc:c= -1
  ·exact⟨0,by simp,by simp [hc]⟩
  ·have e:(!(c== -1))=true:=by simp [hc]
   rw [mW,bT e,aV]at h;obtain⟨i,h1,h2⟩:=ih (by omega);exact⟨i+1,by simpa using h1,by simpa using h2⟩
theorem fg.empty {log:Nat}{hs C:List Int}(h:fg log hs C)(hn:hs.length < 2 ^ log)(g:Int)(J:Nat):∃i,J<=i/\i < J+(13+2 ^ log)/\C[(gC log g i).1]? =some (-1):=by
 obtain⟨b,hb,jK⟩:=Pf (C:=C) (by rw [h.len]; exact Nat.lt_of_le_of_lt h.full hn);rw [h.len]at hb;obtain⟨k,hk,e⟩:=Trail.comes (log:=log) (c:=(gC log g J).1) (p:=(gC log g J).2) (lQ _ _ _) (rV _ _ _) hb;refine⟨J+k,by omega,by omega, ?_⟩;have:gC log g (J+k)=Trail.iter (Trail.step log) k (gC log g J):=Trail.qg _ _ _ _;rw [this];rw [show ((gC log g J).1,(gC log g J).2)=gC log g J from rfl]at e;rw [e]; exact jK
abbrev gX (E:List eU):List Int:=E.map eU.h
theorem fg.take {log j:Nat}{E:List eU} {C C' :List Int}{e:eU}(h:fg log ((gX E).take j) C)(he:E[j]? =some e)(h1:Laid log e.h (j:Nat) C C'):fg log ((gX E).take (j+1)) C' :=by
 have hl:j < E.length:=(aj.mp he).1;have e1:(gX E).take (j+1)=(gX E).take j++ [e.h]:=by
  rw [ji,aC,he]; rfl
 have e2:((gX E).take j).length=j:=by simp; omega
 rw [e1];refine .snoc h ?_;rw [e2]; exact h1
section
variable {T:Nat->Option dU}{H Y:ay}
theorem Jt (hT:TT T){s:St}{to co ro eo log st:Nat}{x n1 n2 n3 n4:D}{b:Bool}{C:List Int}{E:List eU}(hs:s.Ok)
  (gt:s.get to=some (.var 328 (.agg [.cz,x,.ptr co 0,n1,n2,n3,n4])))(he:vD s x eo E)(hc:cr s co ro log b st C)(hC:fg log [] C)(hE:E.length<=2 * 2 ^ log / 3)(P4:E.length<=32000):
  cu T H 266 [.ptr to 0] s fun _ s1=>∃C' st',fg log (gX E) C' /\cr s1 co ro log b st' C' /\aF (fun j=>j=ro) s s1:=by
 rcases he with _ | ⟨_,cp,st',E,ge,h1,h2⟩
 ·refine ax hT.t266 ?_;try refine go ?_
  refine lU ?_;try refine go ?_
  exact iu ⟨C,st,hC,hc,aF.refl hs⟩
 ·refine ax hT.t266 ?_;have nro:to≠ro:=by rintro rfl; have:=hc.gr; rw [gt]at this; cases this
  have nre:eo≠ro:=by rintro rfl; have:=hc.gr; rw [ge]at this; cases this
  try refine go ?_
  refine ee E.length (fun j=> [(0,.ptr to 0),(7,.int .i64 (E.length:Nat)),(8,.int .i64 (j:Nat))]) (fun j s' =>∃C' st',fg log ((gX E).take j) C' /\cr s' co ro log b st' C' /\aF (fun j=>j=ro) s s') ⟨C,st,hC,hc,aF.refl hs⟩ ?_;rintro j s' hj ⟨C',tJ,q1,q2,q3⟩;rcases aH j E.length with hl | hl
  ·have hej:E[j]? =some E[j]:=ab hl;generalize E[j]=en at hej
   have Cv:∀v∈C', -1<=v/\v < 32768:=fun v hv=>by
    have:=q1.zS v hv;rw [cM,aJ]at this;omega
   have zL:=Bt (H:=H) hT q3.ok (q3.get hs gt nro) (q3.get hs ge nre) hej hl (aq _) (cU h1 h2) q2 Cv (by omega);try refine go ?_
   refine ak zL ?_;rintro d s2 ⟨C2,z1,⟨Yi,z2⟩,z3⟩;try refine go ?_
   exact dw hl ⟨C2,Yi,q1.take hej z1,z2,q3.trans z3⟩
  ·have:j=E.length:=by omega
   subst this;try refine go ?_
   refine iu ⟨C',tJ, ?_,q2,q3⟩;rw [eX (by simp)]at q1;exact q1
theorem Js (hT:TT T){s:St}:cu T H 287 [.cz] s fun _ s1=>s1=s:=by
 refine ax hT.t287 ?_
 repeat' first | refine go ?_ | refine eW hT.t270 ?_
 exact iu rfl
theorem JI (hT:TT T){s:St}:cu T H 231 [.cz,.int .i64 1] s fun _ s1=>s1=s:=by
 refine ax hT.t231 ?_
 repeat' first | refine go ?_ | refine eW hT.t270 ?_
 exact iu rfl
theorem Ey (hT:TT T){s:St}{to log:Nat}{x c n1 n2 n4:D}{m:Int}(hs:s.Ok)(gt:s.get to=some (.var 328 (.agg [.cz,x,c,n1,n2,.int .i64 m,n4])))(hm:0<=m/\m < 1000000)(h3:3<=log)(hh:log<=15):
  cu T H 253 [.ptr to 0,.int .i64 (log:Nat)] s fun _ s1=>∃co ro b st C,s.n<=co/\s.n<=ro/\s1.get to=some (.var 328 (.agg [.cz,x,.ptr co 0,n1,n2,.int .i64 (m+1),n4]))/\cr s1 co ro log b st C/\fg log [] C/\aF (fun j=>j=to) s s1:=by
 have hn:=QM (H:=H) hT hs h3 hh;have lt:=hs.lt gt;have hw:IntKind.wrap .i64 (m+1)=m+1:=wrap_small (by omega) (by omega);refine ax hT.t253 ?_;try refine go ?_
 refine ak hn ?_;rintro d s1 ⟨rfl,q1,⟨b,st,q2⟩,q3⟩;have g1:=q3.get hs gt (fun h=>h);have l1:=q3.ok.lt g1;have fK:=q3.ok;try refine go ?_
 refine ak (Js hT) ?_;rintro d s2 rfl;try refine go ?_
 rw [hw];have b1:∀d1 d2:D,aF (fun j=>j=to) s1 ((s1.bF to (.var 328 d1)).bF to (.var 328 d2)):=fun d1 d2=>aF.set (W:=fun j=>j=to) (aF.set (W:=fun j=>j=to) (aF.refl fK) _ l1 (fun _=>rfl)) _ l1 (fun _=>rfl);exact iu ⟨s.n+1,s.n,b,st,_,by omega,by omega,St.aO,q2.dK fK (b1 _ _) (by omega) (by omega),.nil,(q3.mono fun j hj=>hj.elim).trans (b1 _ _)⟩
theorem Hz (hT:TT T){s:St}(hs:s.Ok):
  cu T H 204 [.cz] s fun d s1=>d= .ptr s.n 0/\∃co ro b st C,s.n < co/\s.n < ro/\s1.get s.n=some (.var 328 (.agg [.cz,.vs true 0 [],.ptr co 0,.int .i64 0,.int .i64 0,.int .i64 1,.int .i64 0]))/\cr s1 co ro 3 b st C/\fg 3 [] C/\aF Nil s s1:=by
 have hb:=aF.push (aF.refl (W:=Nil) hs) (.var 328 (.agg [.cz,.vs true 0 [],.cz,.int .i64 0,.int .i64 0,.int .i64 0,.int .i64 0]));have hi:=Ey (H:=H) (log:=3) hT hb.ok St.bu (m:=0) (by omega) (by omega) (by omega);refine ax hT.t204 ?_;try refine go ?_
 refine ak hi ?_;rintro d s1 ⟨co,ro,b,st,C,q1,q2,q3,q4,q5,q6⟩;simp only [St.dV]at q1 q2;try refine go ?_
 exact ai ⟨rfl,co,ro,b,st,C,q1,q2,q3,q4,q5,hb.trans' q6 (by rintro j rfl hj; omega)⟩
end
end Go.Proofs.Tab
