/- Part. -/
import Derived.Test.YthaiegafejbmoaaGreatDoorG25
import Init
set_option linter.unusedSectionVars false
set_option maxRecDepth 100000
set_option maxHeartbeats 2000000
set_option linter.unusedSimpArgs false
set_option linter.unusedVariables false
namespace Go.Proofs.Tab
open Go Go.Ab Go.Ab.Sm
theorem Ub {n:Int}(h1: -128<=n)(h2:n < 128):IntKind.wrap .i8 n=n:=by
 simp only [IntKind.wrap,IntKind.signed,IntKind.bits,fO,bf,ge_iff_le];rw [show ((2:Int) ^ (8 - 1))=128 from rfl,show ((2:Int) ^ 8)=256 from rfl];split <;> omega
theorem QS {n:Int}(h1: -32768<=n)(h2:n < 32768):IntKind.wrap .i16 n=n:=by
 simp only [IntKind.wrap,IntKind.signed,IntKind.bits,fO,bf,ge_iff_le];rw [show ((2:Int) ^ (16 - 1))=32768 from rfl,show ((2:Int) ^ 16)=65536 from rfl];split <;> omega
section
variable {T:Nat->Option dJ}{H:au}
theorem ND (hT:TT T){s:St}{ro st i:Nat}{N:Nat}{C:List Int}(hg:s.get ro=some (.arr 1 (QL true) (C.map fun v=>D.int (xy true) v) st))(hl:C.length=N)(cG:st<=N)(hi:i < N)(hb:∀v∈C, -1<=v/\v < 32768):
  bY T H 305 [.agg [.sl ro 0 N N,.int .i64 (Lu true)],.int .i64 (i:Nat)] s fun d s1=>s1=s/\∃v,C[i]? =some v/\d= .int .i64 v:=by
 have hn:(C.map fun v=>D.int (xy true) v).length=N:=by simp [hl]
 have hi' :i < C.length:=by omega
 have he:(C.map fun v=>D.int (xy true) v)[0+i]? =some (.int (xy true) C[i]):=by simp [hi']
 have hv:=hb C[i] (cA hi');have UD:C[i]? =some C[i]:=ak hi';generalize C[i]=v at he hv UD;have hw:IntKind.wrap .i64 v=v:=wrap_small (by omega) (by omega);refine aD hT.t305 ?_;try refine go ?_
 rw [hw];exact ai ⟨rfl,v,UD,rfl⟩
theorem Jo (hT:TT T){s:St}{ro st i:Nat}{N:Nat}{C:List Int}(hg:s.get ro=some (.arr 1 (QL false) (C.map fun v=>D.int (xy false) v) st))(hl:C.length=N)(cG:st<=N)(hi:i < N)(hb:∀v∈C, -1<=v/\v < 32768):
  bY T H 309 [.agg [.sl ro 0 N N,.int .i64 (Lu false)],.int .i64 (i:Nat)] s fun d s1=>s1=s/\∃v,C[i]? =some v/\d= .int .i64 v:=by
 have hn:(C.map fun v=>D.int (xy false) v).length=N:=by simp [hl]
 have hi' :i < C.length:=by omega
 have he:(C.map fun v=>D.int (xy false) v)[0+i]? =some (.int (xy false) C[i]):=by simp [hi']
 have hv:=hb C[i] (cA hi');have UD:C[i]? =some C[i]:=ak hi';generalize C[i]=v at he hv UD;have hw:IntKind.wrap .i64 v=v:=wrap_small (by omega) (by omega);refine aD hT.t309 ?_;try refine go ?_
 rw [hw];exact ai ⟨rfl,v,UD,rfl⟩
theorem HJ (hT:TT T){s:St}{co ro log st i:Nat}{b:Bool}{C:List Int}(h:bS s co ro log b st C)(hi:i < 2 ^ log)(hb:∀v∈C, -1<=v/\v < 32768):
  bY T H 172 [.ptr co 0,.int .i64 (i:Nat)] s fun d s1=>s1=s/\∃v,C[i]? =some v/\d= .gW [.int .i64 v,.int .i64 0]:=by
 have hw:=A0 (H:=H) hT h hi;have h1:=h.go;cases b
 ·have hg:=Jo (H:=H) hT h.gr h.ln h.st hi hb;refine aD hT.t172 ?_;try refine go ?_
  refine af hw ?_;rintro d s1 ⟨rfl,rfl⟩;try refine go ?_
  refine af hg ?_;rintro d s1 ⟨rfl,v,hv,rfl⟩;try refine go ?_
  exact ai ⟨rfl,v,hv,rfl⟩
 ·have hg:=ND (H:=H) hT h.gr h.ln h.st hi hb;refine aD hT.t172 ?_;try refine go ?_
  refine af hw ?_;rintro d s1 ⟨rfl,rfl⟩;try refine go ?_
  refine af hg ?_;rintro d s1 ⟨rfl,v,hv,rfl⟩;try refine go ?_
  exact ai ⟨rfl,v,hv,rfl⟩
theorem bS.put {s:St}{co ro log st i:Nat}{b:Bool}{C:List Int}{v:Int}(h:bS s co ro log b st C):bS (s.bn ro (.arr 1 (QL b) (((C.map fun v=>D.int (xy b) v)).set i (.int (xy b) v)) (C.map fun v=>D.int (xy b) v).length)) co ro log b (2 ^ log) (C.set i v):=by
 refine⟨St.cu h.go h.ne, ?_,by rw [iL]; exact h.ln,aq _,h.lo,h.hi,h.ne⟩;rw [St.aG,aY,h.ln,List.map_set]
theorem DE (hT:TT T){s:St}{co ro log st i:Nat}{C:List Int}{v:Int}(hs:s.Ok)(h:bS s co ro log true st C)(hi:i < 2 ^ log)(hv: -1<=v/\v < 128):
  bY T H 307 [.agg [.sl ro 0 (2 ^ log) (2 ^ log),.int .i64 (Lu true)],.int .i64 (i:Nat),.int .i64 v] s fun d s1=>bS s1 co ro log true (2 ^ log) (C.set i v)/\aH (fun j=>j=ro) s s1:=by
 have hg:=h.gr;have lr:=hs.lt hg;have hn:(C.map fun v=>D.int (xy true) v).length=2 ^ log:=by simp [h.ln]
 have cG:=h.st;have hi' :i < C.length:=by rw [h.ln]; exact hi
 have he:(C.map fun v=>D.int (xy true) v)[0+i]? =some (.int (xy true) C[i]):=by simp [hi']
 have hw:IntKind.wrap .i8 v=v:=Ub (by omega) (by omega);have uB:=h.put (i:=0+i) (v:=v);rw [aU]at uB;refine aD hT.t307 ?_;try refine go ?_
 rw [hw];refine iG ⟨?_,aH.set (aH.refl hs) _ lr (fun _=>rfl)⟩;rw [aU];exact uB
theorem AZ (hT:TT T){s:St}{co ro log st i:Nat}{C:List Int}{v:Int}(hs:s.Ok)(h:bS s co ro log false st C)(hi:i < 2 ^ log)(hv: -1<=v/\v < 32768):
  bY T H 311 [.agg [.sl ro 0 (2 ^ log) (2 ^ log),.int .i64 (Lu false)],.int .i64 (i:Nat),.int .i64 v] s fun d s1=>bS s1 co ro log false (2 ^ log) (C.set i v)/\aH (fun j=>j=ro) s s1:=by
 have hg:=h.gr;have lr:=hs.lt hg;have hn:(C.map fun v=>D.int (xy false) v).length=2 ^ log:=by simp [h.ln]
 have cG:=h.st;have hi' :i < C.length:=by rw [h.ln]; exact hi
 have he:(C.map fun v=>D.int (xy false) v)[0+i]? =some (.int (xy false) C[i]):=by simp [hi']
 have hw:IntKind.wrap .i16 v=v:=QS (by omega) (by omega);have uB:=h.put (i:=0+i) (v:=v);rw [aU]at uB;refine aD hT.t311 ?_;try refine go ?_
 rw [hw];refine iG ⟨?_,aH.set (aH.refl hs) _ lr (fun _=>rfl)⟩;rw [aU];exact uB
theorem RQ (hT:TT T){s:St}{co ro log st i:Nat}{b:Bool}{C:List Int}{v:Int}(hs:s.Ok)(h:bS s co ro log b st C)(hi:i < 2 ^ log)(hv:v= -1\/0<=v/\v < (2 * 2 ^ log / 3:Nat)):
  bY T H 197 [.ptr co 0,.int .i64 (i:Nat),.int .i64 v] s fun d s1=>d= .int .i64 0/\bS s1 co ro log b (2 ^ log) (C.set i v)/\aH (fun j=>j=ro) s s1:=by
 have hw:=A0 (H:=H) hT h hi;have hm:=XI (H:=H) hT h hv;have h1:=h.go;have hp:=h.pow;have hh:=h.hi;have hl:=h.lo;cases b
 ·have hg:=AZ (H:=H) hT hs h hi (v:=v) (by omega);refine aD hT.t197 ?_;try refine go ?_
  refine af hw ?_;rintro d s1 ⟨rfl,rfl⟩;try refine go ?_
  refine af hm ?_;rintro d s1 ⟨rfl,rfl⟩;try refine go ?_
  refine af hg ?_;rintro d s1 ⟨q1,q2⟩;try refine go ?_
  exact ai ⟨rfl,q1,q2⟩
 ·have hp7:2 ^ log<=128:=by
   have e2:2 ^ log<=2 ^ 7:=ee (by decide) (by simpa using hh);exact e2
  have hg:=DE (H:=H) hT hs h hi (v:=v) (by omega);refine aD hT.t197 ?_;try refine go ?_
  refine af hw ?_;rintro d s1 ⟨rfl,rfl⟩;try refine go ?_
  refine af hm ?_;rintro d s1 ⟨rfl,rfl⟩;try refine go ?_
  refine af hg ?_;rintro d s1 ⟨q1,q2⟩;try refine go ?_
  exact ai ⟨rfl,q1,q2⟩
end
theorem TG {log:Nat}(h:log<=20):IntKind.wrap .i64 (1 * 2 ^ min (Int.toNat (log:Int)) (IntKind.bits .i64))=((2 ^ log:Nat):Int):=by
 have e:min (Int.toNat (log:Int)) (IntKind.bits .i64)=log:=by
  show min (Int.toNat (log:Int)) 64=log;rw [aQ]; omega
 have h2:2 ^ log<=2 ^ 20:=ee (by decide) h;have e2:(1:Int) * 2 ^ log=((2 ^ log:Nat):Int):=by rw [Int.one_mul]; norm_cast
 have key:∀N:Nat,N<=2 ^ 20->IntKind.wrap .i64 (N:Int)=(N:Int):=fun N h=>wrap_small (by omega) (by omega);rw [e,e2];exact key _ h2
section
variable {T:Nat->Option dJ}{H:au}
theorem Pq (hT:TT T){s:St}{log:Nat}(hs:s.Ok)(h1:log<=7):
  bY T H 233 [.int .i64 (log:Nat)] s fun d s1=>d= .eM (Yf true) (.agg [.sl s.n 0 (2 ^ log) (2 ^ log),.int .i64 (Lu true)])/\s1=s.aZ (.arr 1 (QL true) (List.replicate (2 ^ log) (.int (xy true) 0)) 0):=by
 have hw:=TG (log:=log) (by omega);have h2:2 ^ log<=2 ^ 7:=ee (by decide) h1;refine aD hT.t233 ?_;try refine go ?_
 rw [hw];refine w9 (l1:=2 ^ log) (c1:=2 ^ log) (ll (kd:= .i64)) (ll (kd:= .i64)) (aq _) (by omega) (by simp only [aM]; omega) ?_;try refine go ?_
 exact ai ⟨rfl,rfl⟩
theorem Kn (hT:TT T){s:St}{log:Nat}(hs:s.Ok)(h0:7 < log)(h1:log<=15):
  bY T H 233 [.int .i64 (log:Nat)] s fun d s1=>d= .eM (Yf false) (.agg [.sl s.n 0 (2 ^ log) (2 ^ log),.int .i64 (Lu false)])/\s1=s.aZ (.arr 1 (QL false) (List.replicate (2 ^ log) (.int (xy false) 0)) 0):=by
 have hw:=TG (log:=log) (by omega);have h2:2 ^ log<=2 ^ 15:=ee (by decide) h1;refine aD hT.t233 ?_;try refine go ?_
 rw [hw];refine w9 (l1:=2 ^ log) (c1:=2 ^ log) (ll (kd:= .i64)) (ll (kd:= .i64)) (aq _) (by omega) (by simp only [aM]; omega) ?_;try refine go ?_
 exact ai ⟨rfl,rfl⟩
def begun (N j:Nat):List Int:=List.replicate j (-1)++List.replicate (N - j) 0
theorem AS {N j:Nat}(h:j < N):(begun N j).set j (-1)=begun N (j+1):=by
 unfold begun;rw [l7 _ _ (by simp),cM,ef,show N - j=(N - (j+1))+1 by omega,je,jD,j7,fS];rfl
theorem Jj {N j:Nat}(h:j<=N):(begun N j).length=N:=by simp [begun]; omega
theorem AR (N:Nat):begun N N=List.replicate N (-1):=by simp [begun]
theorem RE (N:Nat):begun N 0=List.replicate N 0:=by simp [begun]
theorem AY {b:Bool}(hT:TT T){s:St}{log:Nat}(hs:s.Ok)(h3:3<=log)(hh:log<=if b then 7 else 15)
  (hm:bY T H 233 [.int .i64 (log:Nat)] s fun d s1=>d= .eM (Yf b) (.agg [.sl s.n 0 (2 ^ log) (2 ^ log),.int .i64 (Lu b)])/\s1=s.aZ (.arr 1 (QL b) (List.replicate (2 ^ log) (.int (xy b) 0)) 0)):
  bY T H 213 [.int .i64 (log:Nat)] s fun d s1=>d= .gW [.ptr (s.n+1) 0,.int .i64 0]/\s.n+1 < s1.n/\(∃st,bS s1 (s.n+1) s.n log b st (List.replicate (2 ^ log) (-1)))/\aH Nil s s1:=by
 have acp:log<=15:=by cases b <;> simp at hh <;> omega
 have yO:aH Nil s (s.aZ (.arr 1 (QL b) (List.replicate (2 ^ log) (.int (xy b) 0)) 0)):=aH.push (aH.refl hs) _;have kv:=aH.push yO (.var 310 (.agg [.int .i64 (log:Nat),.eM (Yf b) (.agg [.sl s.n 0 (2 ^ log) (2 ^ log),.int .i64 (Lu b)])]));have UA:bS ((s.aZ (.arr 1 (QL b) (List.replicate (2 ^ log) (.int (xy b) 0)) 0)).aZ (.var 310 (.agg [.int .i64 (log:Nat),.eM (Yf b) (.agg [.sl s.n 0 (2 ^ log) (2 ^ log),.int .i64 (Lu b)])]))) (s.n+1) s.n log b 0 (begun (2 ^ log) 0):=by
  refine⟨St.bq,St.dN ?_ (by rw [St.ck]; omega),Jj (cH _),cH _,h3,hh,by omega⟩;rw [St.bq,RE,kR]
 have Oy:=HQ (H:=H) hT (s:=(s.aZ (.arr 1 (QL b) (List.replicate (2 ^ log) (.int (xy b) 0)) 0)).aZ (.var 310 (.agg [.int .i64 (log:Nat),.eM (Yf b) (.agg [.sl s.n 0 (2 ^ log) (2 ^ log),.int .i64 (Lu b)])]))) (ro:=s.n) (log:=log) (b:=b);have Ay:=UA.go;have lO:(s.aZ (.arr 1 (QL b) (List.replicate (2 ^ log) (.int (xy b) 0)) 0)).Ok:=yO.ok;refine aD hT.t213 ?_;try refine go ?_
 refine af hm ?_;rintro d s1 ⟨rfl,rfl⟩;cases b
 ·try refine go ?_
  refine af Oy ?_;rintro d s2 ⟨rfl,rfl⟩;try refine go ?_
  refine fw (2 ^ log) (fun j=> [(4,.ptr (s.n+1) 0),(21,.int .i64 (2 ^ log:Nat)),(22,.int .i64 (j:Nat))]) (fun j s' =>(∃st,bS s' (s.n+1) s.n log false st (begun (2 ^ log) j))/\aH Nil s s' /\s.n+1 < s'.n) ⟨⟨0,UA⟩,kv,by simp only [St.ck]; omega⟩ ?_;rintro j s' hj ⟨⟨st,hc⟩,hb,hn⟩;have Ay:=hc.go;rcases aP j (2 ^ log) with hl | hl
  ·have iB:=AZ (H:=H) hT hb.ok hc hl (v:= -1) (by omega);rw [AS hl]at iB;have hp:=hc.pow;try refine go ?_
   refine af iB ?_;rintro d s3 ⟨q1,q2⟩;have q3:=q2.n;try refine go ?_
   exact dI hl ⟨⟨_,q1⟩,hb.trans' q2 (by rintro o rfl ho; omega),by omega⟩
  ·have:j=2 ^ log:=by omega
   subst this;rw [AR]at hc;try refine go ?_
   exact ai ⟨rfl,hn,⟨st,hc⟩,hb⟩
 ·try refine go ?_
  refine af Oy ?_;rintro d s2 ⟨rfl,rfl⟩;try refine go ?_
  refine fw (2 ^ log) (fun j=> [(4,.ptr (s.n+1) 0),(21,.int .i64 (2 ^ log:Nat)),(22,.int .i64 (j:Nat))]) (fun j s' =>(∃st,bS s' (s.n+1) s.n log true st (begun (2 ^ log) j))/\aH Nil s s' /\s.n+1 < s'.n) ⟨⟨0,UA⟩,kv,by simp only [St.ck]; omega⟩ ?_;rintro j s' hj ⟨⟨st,hc⟩,hb,hn⟩;have Ay:=hc.go;rcases aP j (2 ^ log) with hl | hl
  ·have iB:=DE (H:=H) hT hb.ok hc hl (v:= -1) (by omega);rw [AS hl]at iB;have hp:=hc.pow;try refine go ?_
   refine af iB ?_;rintro d s3 ⟨q1,q2⟩;have q3:=q2.n;try refine go ?_
   exact dI hl ⟨⟨_,q1⟩,hb.trans' q2 (by rintro o rfl ho; omega),by omega⟩
  ·have:j=2 ^ log:=by omega
   subst this;rw [AR]at hc;try refine go ?_
   exact ai ⟨rfl,hn,⟨st,hc⟩,hb⟩
theorem RP (hT:TT T){s:St}{log:Nat}(hs:s.Ok)(h3:3<=log)(hh:log<=15):
  bY T H 213 [.int .i64 (log:Nat)] s fun d s1=>d= .gW [.ptr (s.n+1) 0,.int .i64 0]/\s.n+1 < s1.n/\(∃b st,bS s1 (s.n+1) s.n log b st (List.replicate (2 ^ log) (-1)))/\aH Nil s s1:=by
 rcases aP 7 log with h | h
 ·exact (AY (b:=false) hT hs h3 (by simpa using hh) (Kn hT hs h hh)).mono fun d s1 ⟨a1,a2,a3,a4⟩=>⟨a1,a2,⟨_,a3⟩,a4⟩
 ·exact (AY (b:=true) hT hs h3 (by simpa using h) (Pq hT hs h)).mono fun d s1 ⟨a1,a2,a3,a4⟩=>⟨a1,a2,⟨_,a3⟩,a4⟩
end
end Go.Proofs.Tab
namespace Go.Ab.Trail
def step (log:Nat)(x:Nat×Nat):Nat×Nat:=((5 * x.1+x.2 / 32+1) % 2 ^ log,x.2 / 32)
def iter {α:Type}(f:α->α):Nat->α->α
 | 0,x=>x
 | n+1,x=>iter f n (f x)
theorem pY {α:Type}(f:α->α):∀(m n:Nat) (x:α),iter f (m+n) x=iter f n (iter f m x)
 | 0,n,x=>by rw [aU]; rfl
 | m+1,n,x=>by rw [Nat.succ_add]; exact pY f m n (f x)
def st (log c:Nat):Nat:=(5 * c+1) % 2 ^ log
def g:Nat->Nat
 | 0=>0
 | n+1=>5 * g n+1
theorem H2 (m:Nat):∀n,g (m+n)=(4 * g n+1) * g m+g n
 | 0=>by simp [g]
 | n+1=>by
  show 5 * g (m+n)+1=_;rw [H2 m n,g];have:(4 * (5 * g n+1)+1) * g m=5 * ((4 * g n+1) * g m):=by rw [← Nat.mul_assoc]; congr 1; omega
  omega
theorem Oi:∀j,∃q,g (2 ^ j)=2 ^ j * (2 * q+1)
 | 0=>⟨0,rfl⟩
 | j+1=>by
  obtain⟨q,hq⟩:=Oi j;have e:2 ^ (j+1)=2 ^ j+2 ^ j:=by rw [jE]; omega
  refine⟨q+q * (2 * g (2 ^ j))+g (2 ^ j), ?_⟩;rw [e,H2];generalize g (2 ^ j)=G at *;have h1:(4 * G+1) * G+G=(2 * G) * (2 * G+1):=by rw [bJ,Nat.mul_add,Nat.one_mul,lf]; rw [show 4 * G * G=2 * G * (2 * G) by rw [Nat.mul_mul_mul_comm,gE]]; omega
  rw [h1,hq,← Nat.two_mul,gE 2 (2 ^ j),gE 2,gE]
  congr 1; congr 1
  rw [← hq];rw [bJ,Nat.mul_add,Nat.one_mul,lf,gE];have:2 * (q * (2 * G))=2 * (q * (2 * G)):=rfl;omega
theorem lift:∀L b,∃k,k < 2 ^ L/\g k % 2 ^ L=b % 2 ^ L
 | 0,b=>⟨0,by decide,by simp [Nat.mod_one]⟩
 | L+1,b=>by
  obtain⟨k,hk,h⟩:=lift L b;obtain⟨q,hq⟩:=Oi L;have hp:2 ^ (L+1)=2 * 2 ^ L:=by rw [jE,kr]
  have h0:0 < 2 ^ L:=iM L;generalize hP:2 ^ L=P at *;rw [hp];have a1:=Nat.mod_add_div (g k) P;have a2:=Nat.mod_add_div b P;have m1:∀x,x % (2 * P)=x % P+P * ((x / P) % 2):=fun x=>by rw [kr 2 P,Nat.mod_mul]
  by_cases he:(g k / P) % 2=(b / P) % 2
  ·exact⟨k,by omega,by rw [m1,m1,h,he]⟩
  ·refine⟨P+k,by omega, ?_⟩;have e1:g (P+k)=g k+P * ((4 * g k+1) * (2 * q+1)):=by
    rw [H2,hq,Nat.add_comm,← Nat.mul_assoc,kr _ P,gE]
   rw [m1,m1,e1,Nat.add_mul_mod_self_left,h,Nat.add_mul_div_left _ _ h0]
   congr 2
   have e2:((4 * g k+1) * (2 * q+1)) % 2=1:=by
    rw [Nat.mul_mod];have:(4 * g k+1) % 2=1:=by omega
    have:(2 * q+1) % 2=1:=by omega
    simp [*]
   omega
theorem Co {L:Nat}:∀(n c:Nat),c < 2 ^ L->iter (st L) n c=((4 * g n+1) * c+g n) % 2 ^ L
 | 0,c,h=>by simp [iter,g,kq h]
 | n+1,c,h=>by
  show iter (st L) n (st L c)=_;rw [Co n (st L c) (Nat.mod_lt _ (iM L))];unfold st;rw [Nat.add_mod,Nat.mul_mod,Nat.mod_mod,← Nat.mul_mod,← Nat.add_mod]
  congr 1
  rw [show n+1=1+n from Nat.add_comm _ _,H2];show _=(4 * ((4 * g n+1) * 1+g n)+1) * c+((4 * g n+1) * 1+g n);rw [Nat.mul_add,lf,Nat.mul_left_comm];have:(4 * (4 * g n+1+g n)+1) * c=5 * ((4 * g n+1) * c):=by rw [← Nat.mul_assoc]; congr 1; omega
  omega
theorem yM {L b:Nat}(hb:b < 2 ^ L):∃k,k < 2 ^ L/\iter (st L) k 0=b:=by
 obtain⟨k,hk,h⟩:=lift L b;refine⟨k,hk, ?_⟩;rw [Co k 0 (iM L),Nat.mul_zero,aU,h,kq hb]
theorem JP (L:Nat):iter (st L) (2 ^ L) 0=0:=by
 obtain⟨q,hq⟩:=Oi L;rw [Co _ 0 (iM L),Nat.mul_zero,aU,hq];exact Nat.mul_mod_right _ _
theorem Oc {log a b:Nat}(ha:a < 2 ^ log)(hb:b < 2 ^ log):∃k,k < 2 ^ log/\iter (st log) k a=b:=by
 obtain⟨i,hi,rfl⟩:=yM ha;obtain⟨j,hj,rfl⟩:=yM hb;rcases aP j i with g | g
 ·refine⟨j+2 ^ log - i,by omega, ?_⟩;rw [← pY,show i+(j+2 ^ log - i)=2 ^ log+j from by omega,pY,JP log]
 ·refine⟨j - i,by omega, ?_⟩;rw [← pY,show i+(j - i)=j from by omega]
theorem BJ (log:Nat):∀(n c p:Nat),p < 32 ^ n->(iter (step log) n (c,p)).2=0
 | 0,c,p,h=>by simpa [iter] using h
 | n+1,c,p,h=>by
  show (iter (step log) n (step log (c,p))).2=0;refine BJ log n _ _ ?_;show p / 32 < 32 ^ n;rw [Nat.div_lt_iff_lt_mul (by decide),← Nat.pow_succ]; exact h
theorem B8 (log:Nat):∀(n c p:Nat),c < 2 ^ log->(iter (step log) n (c,p)).1 < 2 ^ log
 | 0,c,p,h=>h
 | n+1,c,p,h=>B8 log n _ _ (Nat.mod_lt _ (iM log))
theorem Bm (log:Nat):∀(n c:Nat),iter (step log) n (c,0)=(iter (st log) n c,0)
 | 0,c=>rfl
 | n+1,c=>by
  show iter (step log) n (step log (c,0))=_;have:step log (c,0)=(st log c,0):=by simp [step,st]
  rw [this,Bm log n]; rfl
theorem comes {log c p b:Nat}(hc:c < 2 ^ log)(hp:p < 2 ^ 64)(hb:b < 2 ^ log):∃k,k < 13+2 ^ log/\(iter (step log) k (c,p)).1=b:=by
 have h0:=BJ log 13 c p (by
  have:(2:Nat) ^ 64<=32 ^ 13:=by decide
  omega)
 have h1:=B8 log 13 c p hc;obtain⟨k,hk,e⟩:=Oc h1 hb;refine⟨13+k,by omega, ?_⟩;rw [pY];have:iter (step log) 13 (c,p)=((iter (step log) 13 (c,p)).1,0):=by rw [← h0]
 rw [this,Bm];exact e
end Go.Ab.Trail
namespace Go.Proofs.Tab
open Go Go.Ab Go.Ab.Sm
def hu (h:Int):Nat:=(h % 18446744073709551616).toNat
theorem O1 (h:Int):hu h < 2 ^ 64:=by unfold hu; omega
theorem wrap_u64 (n:Int):IntKind.wrap .u64 n=n % 18446744073709551616:=by
 simp only [IntKind.wrap,IntKind.signed,IntKind.bits];rfl
theorem CY (h:Int):IntKind.wrap .u64 h=(hu h:Int):=by rw [wrap_u64]; unfold hu; omega
theorem kQ {n:Int}(h1:0<=n)(h2:n < 18446744073709551616):IntKind.wrap .u64 n=n:=by rw [wrap_u64]; omega
def kj (log:Nat)(h:Int)(j:Nat):Nat×Nat:=Trail.iter (Trail.step log) j (hu h % 2 ^ log,hu h)
theorem Bl {α:Type}(f:α->α):∀(n:Nat) (x:α),Trail.iter f (n+1) x=f (Trail.iter f n x)
 | 0,x=>rfl
 | n+1,x=>by
  show Trail.iter f (n+1) (f x)=_;rw [Bl f n (f x)]; rfl
theorem Ag (log:Nat)(h:Int)(j:Nat):kj log h (j+1)=Trail.step log (kj log h j):=Bl _ _ _
theorem pO (log:Nat)(h:Int)(j:Nat):(kj log h j).1 < 2 ^ log:=Trail.B8 log j _ _ (Nat.mod_lt _ (iM log))
theorem vg (log:Nat)(h:Int):∀j,(kj log h j).2 < 2 ^ 64
 | 0=>O1 h
 | j+1=>by
  rw [Ag];exact Nat.lt_of_le_of_lt (Nat.div_le_self _ _) (vg log h j)
theorem EW {log:Nat}(h:log<=15):1<=2 ^ log/\2 ^ log<=32768:=⟨Nat.one_le_two_pow,(ee (n:=2) (by decide) h:2 ^ log<=2 ^ 15)⟩
theorem QN {log:Nat}(h:log<=15):IntKind.wrap .u64 (1 * 2 ^ min (Int.toNat (log:Int)) (IntKind.bits .u64))=((2 ^ log:Nat):Int):=by
 have e:min (Int.toNat (log:Int)) (IntKind.bits .u64)=log:=by
  show min (Int.toNat (log:Int)) 64=log;rw [aQ]; omega
 have e2:(1:Int) * 2 ^ log=((2 ^ log:Nat):Int):=by rw [Int.one_mul]; norm_cast
 have key:∀N:Nat,N<=32768->IntKind.wrap .u64 (N:Int)=(N:Int):=fun N h=>kQ (by omega) (by omega);rw [e,e2];exact key _ (EW h).2
theorem CA {N:Nat}(h1:1<=N)(h2:N<=32768):IntKind.wrap .u64 ((N:Int) - 1)=((N - 1:Nat):Int):=by
 rw [kQ (by omega) (by omega)]; omega
theorem ug {a log:Nat}(ha:a < 2 ^ 64)(h:log<=15):IntKind.wrap .u64 (((BitVec.ofInt (IntKind.bits .u64) (a:Int)) &&& (BitVec.ofInt (IntKind.bits .u64) ((2 ^ log - 1:Nat):Int))).toNat:Int)=((a % 2 ^ log:Nat):Int):=by
 have hp:=EW h;have e1:(BitVec.ofInt (IntKind.bits .u64) (a:Int)).toNat=a:=by
  show (BitVec.ofInt 64 (a:Int)).toNat=a;rw [BitVec.toNat_ofInt]; omega
 have e2:(BitVec.ofInt (IntKind.bits .u64) ((2 ^ log - 1:Nat):Int)).toNat=2 ^ log - 1:=by
  show (BitVec.ofInt 64 ((2 ^ log - 1:Nat):Int)).toNat=_;rw [BitVec.toNat_ofInt];have hm:2 ^ log - 1 < 18446744073709551616:=by omega
  clear e1;generalize 2 ^ log - 1=m at hm ⊢;omega
 rw [BitVec.toNat_and,e1,e2,Nat.and_two_pow_sub_one_eq_mod];have:=Nat.mod_lt a (iM log);generalize a % 2 ^ log=m at this ⊢;generalize 2 ^ log=N at this hp;exact kQ (by omega) (by omega)
section
variable {T:Nat->Option dJ}{H:au}
theorem N8 (hT:TT T){s:St}{h:Int}{log:Nat}(hl:log<=15):bY T H 170 [.int .i64 h,.int .i64 (log:Nat)] s fun d s1=>s1=s/\d= .int .i64 ((kj log h 0).1:Nat):=by
 have hp:=EW hl;have e1:=QN hl;have e2:=CA hp.1 hp.2;have e3:=ug (O1 h) hl;have e4:=pO log h 0;have e5:IntKind.wrap .i64 ((hu h % 2 ^ log:Nat):Int)=((kj log h 0).1:Nat):=by
  show IntKind.wrap .i64 (((kj log h 0).1:Nat):Int)=_;generalize (kj log h 0).1=c at e4 ⊢;generalize 2 ^ log=N at e4 hp;exact wrap_small (by omega) (by omega)
 refine aD hT.t170 ?_;try refine go ?_
 rw [CY h,e1,e2,e3,e5];exact ai ⟨rfl,rfl⟩
end
theorem aaQ {p:Nat}:Int.fdiv (p:Int) (2 ^ min (Int.toNat 5) (IntKind.bits .u64))=((p / 32:Nat):Int):=by
 have e:(2:Int) ^ min (Int.toNat 5) (IntKind.bits .u64)=32:=rfl;rw [e,j6 _ (by decide)];omega
theorem step_eq {c p N:Nat}(hc:c < N)(hp:p < 2 ^ 64)(hN:N<=32768):IntKind.wrap .u64 (IntKind.wrap .u64 (IntKind.wrap .u64 (5 * (c:Int))+((p / 32:Nat):Int))+1)=((5 * c+p / 32+1:Nat):Int):=by
 rw [kQ (n:=5 * (c:Int)) (by omega) (by omega),kQ (n:=5 * (c:Int)+((p / 32:Nat):Int)) (by omega) (by omega),kQ (by omega) (by omega)];omega
section
variable {T:Nat->Option dJ}{H Y:au}
theorem VB (hT:TT T){s:St}{h:Int}{log:Nat}(hs:s.Ok):bY T H 196 [.int .i64 h,.int .i64 (log:Nat)] s fun d s1=>d= .fn (.func 221) [] [.ptr (s.n+1) 0,.ptr s.n 0]/\s1.get s.n=some (.var 3 (.int .i64 h))/\s1.get (s.n+1)=some (.var 3 (.int .i64 (log:Nat)))/\s1.n=s.n+2/\aH Nil s s1:=by
 have hb:=aH.push (aH.push (aH.refl (W:=Nil) hs) (.var 3 (.int .i64 h))) (.var 3 (.int .i64 (log:Nat)));refine aD hT.t196 ?_;try refine go ?_
 exact ai ⟨rfl,St.dN St.bq (by rw [St.ck]; omega),St.bq,rfl,hb⟩
theorem RA (hT:TT T){s:St}{k lb hb log:Nat}{h:Int}(I:Nat->St->Prop)(R:St->Prop)(uA:log<=15)(h0:I 0 s)
  (hI:∀j s,I j s->s.get lb=some (.var 3 (.int .i64 (log:Nat)))/\s.get hb=some (.var 3 (.int .i64 h)))
  (hY:∀j s,j < 2 ^ log+13->I j s->∃c s',Y 0 (.lv (.yl k)::[.int .i64 ((kj log h j).1:Nat)]) s=some (.bool c,s')/\(c=true->I (j+1) s')/\(c=false->R s'))
  (hR:∀s,I (2 ^ log+13) s->R s):
  bY T Y 221 [.yl k,.ptr lb 0,.ptr hb 0] s fun _ s1=>R s1:=by
 obtain⟨g1,g2⟩:=hI 0 s h0;have hp:=EW uA;have e1:=QN uA;have e2:=CA hp.1 hp.2;have e3:=ug (O1 h) uA;have e4:=TG (log:=log) (by omega);have e5:IntKind.wrap .i64 (((2 ^ log:Nat):Int)+13)=((2 ^ log+13:Nat):Int):=by
  generalize 2 ^ log=N at hp ⊢;rw [wrap_small (by omega) (by omega)]; omega
 refine aD hT.t221 ?_;try refine go ?_
 rw [CY h,e1,e2,e3,e4,e5];refine fw (2 ^ log+13) (fun j=> [(0,.yl k),(4,.int .u64 (2 ^ log - 1:Nat)),(5,.int .u64 ((kj log h j).2:Nat)),(6,.int .u64 ((kj log h j).1:Nat)),(23,.int .i64 (2 ^ log+13:Nat)),(24,.int .i64 (j:Nat))]) I h0 ?_;intro j s' hj Q3;rcases aP j (2 ^ log+13) with hl | hl
 ·obtain⟨c,s2,y1,y2,y3⟩:=hY j s' hl Q3;have q1:=pO log h j;have q2:=vg log h j;have q3:=Ag log h j;have q4:IntKind.wrap .i64 ((kj log h j).1:Int)=((kj log h j).1:Int):=by
   generalize (kj log h j).1=c at q1 ⊢;generalize 2 ^ log=N at q1 hp;exact wrap_small (by omega) (by omega)
  have q5:=ug (a:=5 * (kj log h j).1+(kj log h j).2 / 32+1) (log:=log) (by
   generalize (kj log h j).1=c at q1 ⊢;generalize 2 ^ log=N at q1 hp;omega) uA
  have q6:=step_eq q1 q2 hp.2;have q7:(kj log h (j+1)).1=(5 * (kj log h j).1+(kj log h j).2 / 32+1) % 2 ^ log:=by rw [q3]; rfl
  have q8:(kj log h (j+1)).2=(kj log h j).2 / 32:=by rw [q3]; rfl
  generalize (kj log h j).1=cc at y1 q1 q4 q5 q6 q7 ⊢;generalize (kj log h j).2=pp at q2 q5 q6 q7 q8 ⊢;try refine go ?_
  rw [q4];refine vZ ?_;refine af (R:=fun d s1=>d= .bool c/\s1=s2) ⟨_,_,Ev.yield y1,rfl,rfl⟩ ?_;rintro d s3 ⟨rfl,rfl⟩;cases c
  ·try refine go ?_
   exact ai (y3 rfl)
  ·try refine go ?_
   rw [aaQ,q6,q5,← q7,← q8];exact dI hl (y2 rfl)
 ·have:j=2 ^ log+13:=by omega
  subst this;try refine go ?_
  exact iG (hR _ Q3)
end
structure dY where
 h:Int
 k:Int
 v:Int
 b:Int
@[reducible] def dw (x:dY):D:= .agg [.bool true,.int .i64 x.h,.int .i64 x.k,.int .i64 x.v,.int .i64 x.b]
inductive vq (s:St):D->Nat->List dY->Prop
 | nil (eo:Nat):vq s (.vs true 0 []) eo []
 | sl (eo cp st:Nat) (E:List dY) (h:s.get eo=some (.arr 5 236 (E.map dw) st)) (hs:st<=E.length) (hc:E.length<=cp):vq s (.sl eo 0 E.length cp) eo E
theorem vq.dT {W:Nat->Prop}{s s1:St}{x:D}{eo:Nat}{E:List dY}(h:vq s x eo E)(hs:s.Ok)(hb:aH W s s1)(Rl:∀es st,s.get eo=some (.arr 5 236 es st)-> ¬ W eo):vq s1 x eo E:=by
 rcases h with _ | ⟨_,cp,st,E,h,h1,h2⟩
 ·exact .nil eo
 ·exact .sl eo cp st E (hb.get hs h (Rl _ _ h)) h1 h2
section
variable {T:Nat->Option dJ}{H Y:au}
noncomputable def SU:AC:=match HP.1.body with
 | .seq _ (.seq _ r)=>r
 | _=> .skip
noncomputable def GQ:AC:=match SU with
 | .seq _ (.block _ r)=>r
 | _=> .skip
noncomputable def aaF:AC:=match GQ with
 | .iF _ _ _ a _=>a
 | _=> .skip
noncomputable def aaG:AC:=match GQ with
 | .iF _ _ _ _ b=>b
 | _=> .skip
def Laid (log:Nat)(h:Int)(v:Int) (C C' :List Int):Prop:=
 (∃j,j < 2 ^ log+13/\C[(kj log h j).1]? =some (-1)/\(∀i,i < j->C[(kj log h i).1]? ≠some (-1))/\C' =C.set (kj log h j).1 v)\/((∀i,i < 2 ^ log+13->C[(kj log h i).1]? ≠some (-1))/\C' =C)
theorem Kh (hT:TT T){s:St}{y b2 b3 to co ro log st i c:Nat}{x n1 n2 n3 n4:D}{b:Bool}{C:List Int}(hY:mF T H y [21] [(2,.ptr b2 0),(3,.ptr b3 0)] aaF aaG Y)(hs:s.Ok)(hl:s.get (y+1)=some (.loop y .ready))
  (g2:s.get b2=some (.var 227 (.ptr to 0)))(g3:s.get b3=some (.var 3 (.int .i64 (i:Nat))))(gt:s.get to=some (.var 279 (.agg [.dU,x,.ptr co 0,n1,n2,n3,n4])))
  (hc:bS s co ro log b st C)(C5:∀v∈C, -1<=v/\v < 32768)(UD:c < 2 ^ log)(hi:i < 2 * 2 ^ log / 3):
  ∃c' s',Y 0 (.lv (.yl y)::[.int .i64 (c:Nat)]) s=some (.bool c',s')/\((c' =true/\C[c]? ≠some (-1)/\bS s' co ro log b st C/\s'.get (y+1)=some (.loop y .ready))\/(c' =false/\C[c]? =some (-1)/\bS s' co ro log b (2 ^ log) (C.set c (i:Nat))/\s'.get (y+1)=some (.loop y (.exit 0))))/\aH (fun j=>j=y+1\/j=ro) s s' :=by
 have ly:=hs.lt hl;have n2:b2≠y+1:=by rintro rfl; rw [hl]at g2; cases g2
 have n3:b3≠y+1:=by rintro rfl; rw [hl]at g3; cases g3
 have nt:to≠y+1:=by rintro rfl; rw [hl]at gt; cases gt
 have nc:co≠y+1:=by rintro rfl; have:=hc.go; rw [hl]at this; cases this
 have nr:ro≠y+1:=by rintro rfl; have:=hc.gr; rw [hl]at this; cases this
 have kv:aH (fun j=>j=y+1) s (s.bn (y+1) (.loop y .busy)):=aH.set (aH.refl hs) _ ly (fun _=>rfl);have xr:=hc.dT hs kv nc nr;have k2:=kv.get hs g2 n2;have k3:=kv.get hs g3 n3;have kt:=kv.get hs gt nt;have jn:=HJ (H:=H) hT xr UD C5;have iB:=RQ (H:=H) hT kv.ok xr UD (v:=(i:Nat)) (.inr ⟨by omega,by omega⟩);have YO:y+1 < (s.bn (y+1) (.loop y .busy)).n:=ly;have lO:=kv.ok;refine se (e:=[(21,.int .i64 (c:Nat)),(2,.ptr b2 0),(3,.ptr b3 0)]) hY _ rfl hl hs ?_;show dR T H (.AL _) [] _ s _;try refine go ?_
 refine qK ⟨rfl,rfl, ?_⟩;generalize qz:s.bn (y+1) (.loop y .busy)=s1 at kv xr k2 k3 kt jn iB YO lO ⊢;have sS:s1.get (y+1)=some (.loop y .busy):=by rw [← qz]; exact St.aG
 show dR T H (.block _ _) [] _ s1 _;try refine go ?_
 refine af jn ?_;rintro d s2 ⟨rfl,v,hv,rfl⟩;have W6:∀st',aH (fun j=>j=y+1) s2 (s2.bn (y+1) (.loop y st')):=fun st' =>aH.set (aH.refl lO) _ YO (fun _=>rfl);by_cases ql:v= -1
 ·subst ql;try refine go ?_
  refine aV iB ?_;rintro d s3 ⟨rfl,q1,q2⟩;have m2:b2≠ro:=by rintro rfl; have:=xr.gr; rw [k2]at this; cases this
  have m3:b3≠ro:=by rintro rfl; have:=xr.gr; rw [k3]at this; cases this
  have mt:to≠ro:=by rintro rfl; have:=xr.gr; rw [kt]at this; cases this
  have w2:=q2.get lO k2 m2;have w3:=q2.get lO k3 m3;have wt:=q2.get lO kt mt;refine⟨rfl,by simp [lost,eE.kind,cF,dG,cl,aJ,bD,bD.cL,gF,bO.ev,Env.get,cQ,D.flat,D.isAgg,cK,D.fC,D.beq,aA,Obj.a8,bH,bC,D.bU,D.a8,k2,k3,kt,w2,w3,wt], ?_⟩;try refine go ?_
  have l3:=q2.get lO sS nr.symm;have ly3:=q2.ok.lt l3;have hb5:aH (fun j=>j=y+1) s3 (s3.bn (y+1) (.loop y (.exit 0))):=aH.set (aH.refl q2.ok) _ ly3 (fun _=>rfl);refine qK ⟨rfl,l3,q2.ok,.inr ⟨rfl,hv,q1.dT q2.ok hb5 nc nr,St.aG⟩, ?_⟩;exact (kv.mono fun j hj=> .inl hj).trans' ((q2.mono fun j hj=> .inr hj).trans (hb5.mono fun j hj=> .inl hj)) fun j hj _=>hj
 ·try refine go ?_
  refine qK ⟨rfl,sS,lO,.inl ⟨rfl,by rw [hv]; simpa using ql,xr.dT lO (W6 .ready) nc nr,St.aG⟩, ?_⟩;exact (kv.mono fun j hj=> .inl hj).trans' ((W6 .ready).mono fun j hj=> .inl hj) fun j hj _=>hj
end
section
variable {T:Nat->Option dJ}{H Y:au}
theorem SV (hT:TT T){s:St}{b2 b3 to co ro log st i lb hb:Nat}{x n1 n2 n3 n4:D}{b:Bool}{C:List Int}{h:Int}{E:Env}{k:List iI}{Q:QP}(hs:s.Ok)
  (g2:s.get b2=some (.var 227 (.ptr to 0)))(g3:s.get b3=some (.var 3 (.int .i64 (i:Nat))))(gt:s.get to=some (.var 279 (.agg [.dU,x,.ptr co 0,n1,n2,n3,n4])))
  (hc:bS s co ro log b st C)(C5:∀v∈C, -1<=v/\v < 32768)(hi:i < 2 * 2 ^ log / 3)
  (gl:s.get lb=some (.var 3 (.int .i64 (log:Nat))))(gh:s.get hb=some (.var 3 (.int .i64 h)))(uA:log<=15)
  (hg:bO.ev E (.t 20)=some (.fn (.func 221) [] [.ptr lb 0,.ptr hb 0]))(hk:E.bM [2,3,4]=[(2,.ptr b2 0),(3,.ptr b3 0)])
  (hq:∀s1 C',Laid log h (i:Nat) C C' ->(∃st',bS s1 co ro log b st' C')->aH (fun j=>j=ro) s s1->∀e,(e= .normal\/e= .exit 0)->lB T H e k ⟨E,[(.lX,[])]⟩ s1 Q):
  dR T H GQ k ⟨E,[]⟩ s Q:=by
 show dR T H (.iF _ _ _ _ _) k ⟨E,[]⟩ s Q;refine tV (gf:=221) (caps:=[.ptr lb 0,.ptr hb 0]) (fun Y hY=> ?_) hg hs.ro (by rw [hk]; rfl);have ZR :mF T H s.n [21] [(2,.ptr b2 0),(3,.ptr b3 0)] aaF aaG Y:=by
  have:=hY;simp only at this;rw [hk]at this;exact this
 clear hY;have yO:aH (fun j=>j=s.n+1\/j=ro) s ((s.aZ .dead).aZ (.loop s.n .ready)):=aH.push (aH.push (aH.refl hs) _) _;have lr:=hs.lt hc.gr;have lco:=hs.lt hc.go;have lb2:=hs.lt g2; have lb3:=hs.lt g3; have lto:=hs.lt gt; have llb:=hs.lt gl; have lhb:=hs.lt gh;have nl:∀ {o ty d},s.get o=some (.var ty d)->o≠ro:=by
  rintro o ty d ho rfl;have:=hc.gr;rw [ho]at this; cases this
 have fin:∀ {s2:St} {st' :Rq} {C' :List Int} {q:Nat},aH (fun j=>j=s.n+1\/j=ro) s s2->s2.get (s.n+1)=some (.loop s.n st')->bS s2 co ro log b q C' ->Laid log h (i:Nat) C C' ->(Ch st' =some .normal\/Ch st' =some (.exit 0))->
   ∃st x s3,s2.get (s.n+1)=some (.loop s.n st)/\Ch st=some x/\s2.set (s.n+1) .dead=some s3/\lB T H x k { (⟨E,[]⟩:Fr) with defers:=(.lX,[])::[]} s3 Q:=by
  intro s2 st' C' q jb hl oN hL hx;have yP:aH (fun j=>j=s.n+1) s2 (s2.bn (s.n+1) .dead):=aH.set (aH.refl jb.ok) _ (jb.ok.lt hl) (fun _=>rfl);have W6:aH (fun j=>j=ro) s (s2.bn (s.n+1) .dead):=(jb.trans (yP.mono fun j hj=> .inl hj)).trans' (aH.refl yP.ok) (fun j hj _=>hj) |> fun q=>⟨q.n,q.ok,fun o ho hw=>q.same o ho (by rintro (rfl | rfl); omega; exact hw rfl)⟩
  have hc3:=oN.dT jb.ok yP (by omega) (by omega);rcases hx with hx | hx
  ·exact⟨st',.normal,_,hl,hx,jb.ok.set _ _,hq _ _ hL ⟨_,hc3⟩ W6 _ (.inl rfl)⟩
  ·exact⟨st',.exit 0,_,hl,hx,jb.ok.set _ _,hq _ _ hL ⟨_,hc3⟩ W6 _ (.inr rfl)⟩
 refine RA hT (h:=h) (log:=log) (fun j s' =>aH (fun j=>j=s.n+1\/j=ro) s s' /\s'.get (s.n+1)=some (.loop s.n .ready)/\bS s' co ro log b st C/\∀i,i < j->C[(kj log h i).1]? ≠some (-1)) _ uA ?_ ?_ ?_ ?_
 ·exact⟨yO,St.bq,hc.dT hs (aH.push (aH.push (aH.refl (W:=fun _=>False) hs) _) _) (fun h=>h) (fun h=>h),fun i hi=>absurd hi (jM _)⟩
 ·rintro j s' ⟨q1,q2,q3,q4⟩;have:=nl gl; have:=nl gh;exact⟨q1.get hs gl (by omega),q1.get hs gh (by omega)⟩
 ·rintro j s' hj ⟨q1,q2,q3,q4⟩;have e2:=nl g2; have e3:=nl g3; have et:=nl gt;obtain⟨c',s2,y1,y2,y3⟩:=Kh (H:=H) (i:=i) (c:=(kj log h j).1) hT ZR q1.ok q2 (q1.get hs g2 (by omega)) (q1.get hs g3 (by omega)) (q1.get hs gt (by omega)) q3 C5 (pO _ _ _) hi;refine⟨c',s2,y1, ?_, ?_⟩
  ·rintro rfl;rcases y2 with ⟨-,z1,z2,z3⟩ | ⟨z0, -⟩
   ·refine⟨q1.trans y3,z3,z2,fun i hi=> ?_⟩;rcases aP i j with uz | uz
    ·exact q4 i uz
    ·rw [show i=j by omega]; exact z1
   ·cases z0
  ·rintro rfl;rcases y2 with ⟨z0, -⟩ | ⟨-,z1,z2,z3⟩
   ·cases z0
   ·exact fin (q1.trans y3) z3 z2 (.inl ⟨j,hj,z1,q4,rfl⟩) (.inr rfl)
 ·rintro s' ⟨q1,q2,q3,q4⟩;exact fin q1 q2 q3 (.inr ⟨q4,rfl⟩) (.inl rfl)
theorem AT:∀E:List dY,D.fC (E.map dw) (E.map dw)=true
 | []=>rfl
 | x::E=>by
  simp only [bT,D.fC,AT E,mD];simp [dw,D.beq,D.fC]
theorem PF (ty st:Nat)(E:List dY):Obj.beq (.arr 5 ty (E.map dw) st) (.arr 5 ty (E.map dw) st)=true:=by
 simp [Obj.beq,AT]
theorem Cu (hT:TT T){s:St}{to co ro eo log st st' i cp n:Nat}{n1 n2 n3 n4:D}{b:Bool}{C:List Int}{E:List dY}{en:dY}(hs:s.Ok)
  (gt:s.get to=some (.var 279 (.agg [.dU,.sl eo 0 n cp,.ptr co 0,n1,n2,n3,n4])))(ge:s.get eo=some (.arr 5 236 (E.map dw) st'))(he:E[i]? =some en)(qY:i < n)(dn:n<=E.length)(cG:st' <=cp)
  (hc:bS s co ro log b st C)(C5:∀v∈C, -1<=v/\v < 32768)(hi:i < 2 * 2 ^ log / 3):
  bY T H 203 [.ptr to 0,.int .i64 (i:Nat)] s fun _ s1=>∃C',Laid log en.h (i:Nat) C C' /\(∃st',bS s1 co ro log b st' C')/\aH (fun j=>j=ro) s s1:=by
 have uA:log<=15:=by have:=hc.hi; split at this <;> omega
 have l1:=hs.lt gt; have l2:=hs.lt ge; have l3:=hs.lt hc.go; have l4:=hs.lt hc.gr;have lh:aH (fun j=>j=ro) s ((s.aZ (.var 227 (.ptr to 0))).aZ (.var 3 (.int .i64 (i:Nat)))):=aH.push (aH.push (aH.refl hs) _) _;have GC:aH (fun _=>False) s ((s.aZ (.var 227 (.ptr to 0))).aZ (.var 3 (.int .i64 (i:Nat)))):=aH.push (aH.push (aH.refl hs) _) _;have k1:=GC.get hs gt (fun h=>h);have k2:=GC.get hs ge (fun h=>h);have k3:=hc.dT hs GC (fun h=>h) (fun h=>h);have g2:((s.aZ (.var 227 (.ptr to 0))).aZ (.var 3 (.int .i64 (i:Nat)))).get s.n=some (.var 227 (.ptr to 0)):=St.dN St.bq (by rw [St.ck]; omega);have g3:((s.aZ (.var 227 (.ptr to 0))).aZ (.var 3 (.int .i64 (i:Nat)))).get (s.n+1)=some (.var 3 (.int .i64 (i:Nat))):=St.bq;have he' :(E.map dw)[0+i]? =some (dw en):=by rw [aU,aO,he]; rfl
 have tJ :n<=(E.map dw).length:=by rw [aY]; exact dn
 refine aD hT.t203 ?_;try refine go ?_
 generalize qz:(s.aZ (.var 227 (.ptr to 0))).aZ (.var 3 (.int .i64 (i:Nat)))=s1 at lh k1 k2 k3 g2 g3 ⊢;have lO:=lh.ok;have hlg:=GW (H:=H) hT k3;have gw:=k3.go;refine aV hlg ?_;rintro d s2 ⟨rfl,rfl⟩;have g3' :s2.get (s.aZ (.var 227 (.ptr to 0))).n=some (.var 3 (.int .i64 (i:Nat))):=g3;have hbr:=PF 236 st' E;refine⟨rfl,by simp [lost,eE.kind,cF,dG,cl,aJ,bD,bD.cL,gF,bO.ev,Env.get,cQ,D.flat,D.isAgg,cK,D.fC,D.beq,aA,Obj.a8,bH,bC,D.bU,D.a8,g2,g3',k1,k2,gw,hbr], ?_⟩;try refine go ?_
 refine aV (VB hT lO) ?_;rintro d s2 ⟨rfl,q1,q2,q3,q4⟩;have w1:=q4.get lO k1 (fun h=>h);have w2:=q4.get lO k2 (fun h=>h);have w3:=q4.get lO g2 (fun h=>h);have w4:=q4.get lO g3 (fun h=>h);have w5:=q4.get lO gw (fun h=>h);have k4:=k3.dT lO q4 (fun h=>h) (fun h=>h);have w4' :s2.get (s.aZ (.var 227 (.ptr to 0))).n=some (.var 3 (.int .i64 (i:Nat))):=w4;refine⟨rfl,by simp [lost,eE.kind,cF,dG,cl,aJ,bD,bD.cL,gF,bO.ev,Env.get,cQ,D.flat,D.isAgg,cK,D.fC,D.beq,aA,Obj.a8,bH,bC,D.bU,D.a8,g2,g3',k1,k2,gw,w1,w2,w3,w4',w5,hbr], ?_⟩;try refine go ?_
 refine SV (b2:=s.n) (b3:=s.n+1) (i:=i) hT q4.ok w3 w4 w1 k4 C5 hi q2 q1 uA rfl rfl ?_;intro s3 C' r1 r2 r3 e re;have kU:aH (fun j=>j=ro) s s3:=lh.trans ((q4.mono fun j hj=>hj.elim).trans r3);rcases re with rfl | rfl
 ·try refine go ?_
  exact iG ⟨C',r1,r2,kU⟩
 ·try refine go ?_
  exact iG ⟨C',r1,r2,kU⟩
end
end Go.Proofs.Tab
