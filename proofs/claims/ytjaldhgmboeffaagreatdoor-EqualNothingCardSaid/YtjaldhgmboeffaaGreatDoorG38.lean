/- Part. -/
import Derived.Test.YtjaldhgmboeffaaGreatDoorG37
set_option linter.unusedSimpArgs false
set_option linter.unusedVariables false
set_option linter.unusedSectionVars false
set_option maxRecDepth 100000
set_option maxHeartbeats 1000000
namespace Go.Proofs.Tab
open Go Go.Ab Go.Ab.Sm
section
variable {T:Nat->Option dU}{H:ay}{s:St}
theorem M4 (hT:nB T){a b:D}{V W:List Nat}(hx:Row s 1 a (dz V))(hy:Row s 1 b (dz W))(hV:V.length<=aL)(hW:W.length<=aL):cu T H 271 [a,b] s fun d s1=>s1=s/\iy d:=by
 have lZ:aL=2147483648:=rfl;have hl:=cQ V;have zH:=cQ W;refine ax hT.t271 ?_ (hx.yS _);by_cases hlen:V.length=W.length
 ·have hd:(((dz V).length:Int) !=((dz W).length:Nat))=false:=by simp [hlen]
  have hw:IntKind.wrap .i64 (((dz V).length:Int) - 1)=(((dz V).length:Nat):Int) - 1:=wrap_small (by omega) (by omega);try refine tw ?_
  rw [hw];refine Wf (x:=a) (y:=b) (dz V).length (fun a b m=> [(0,a),(1,b),(5,.int .i64 ((m:Nat) - 1))]) (fun m s' =>s' =s) rfl ?_;rintro m s' hm rfl;cases m with
  | zero=>
   try refine tw ?_
   exact ai ⟨rfl,_,rfl⟩
  | succ m=>
   have h1:m < V.length:=by omega
   have h2:m < W.length:=by omega
   have e1:(((m+1:Nat):Int) - 1)=(m:Nat):=by omega
   have e2:=eJ ((m:Int) >= 0);have e3:(dz V)[m]? =some (.int .u32 (V[m]:Nat)):=pH h1;have e4:(dz W)[m]? =some (.int .u32 (W[m]:Nat)):=pH h2;have e5:IntKind.wrap .i64 ((m:Int) - 1)=(m:Nat) - 1:=wrap_small (by omega) (by omega);rw [e1];generalize V[m]=v at e3;generalize W[m]=w at e4;try refine tw ?_
   refine uJ hx e3 fun _ _ _=> ?_;try refine tw ?_
   refine uJ hy e4 fun _ _ _=> ?_;try refine tw ?_
   refine cV (fun _=> ?_) (fun _=> ?_)
   ·try refine tw ?_
    exact ai ⟨rfl,_,rfl⟩
   ·try refine tw ?_
    refine uJ hx e3 fun _ _ _=> ?_;try refine tw ?_
    refine uJ hy e4 fun _ _ _=> ?_;try refine tw ?_
    refine cV (fun _=> ?_) (fun _=> ?_)
    ·try refine tw ?_
     exact ai ⟨rfl,_,rfl⟩
    ·try refine tw ?_
     rw [e5];exact XB hm rfl
 ·have hd:(((dz V).length:Int) !=((dz W).length:Nat))=true:=by simp; omega
  try refine tw ?_
  refine cV (fun _=> ?_) (fun _=> ?_)
  ·try refine tw ?_
   exact ai ⟨rfl,_,rfl⟩
  ·try refine tw ?_
   exact ai ⟨rfl,_,rfl⟩
theorem qD.st {d:D}{n:Bool×List Nat}(h:qD s d n):d.st=true:=by
 obtain⟨y,rfl,hy⟩:=h;simp only [D.st,gQ,List.all_nil,hy.row.sc]; rfl
theorem wT (hT:nB T){d e:D}{n m:Bool×List Nat}(hs:s.Ok)(hx:qD s d n)(hy:qD s e m)(hn:n.2.length<=aL)(hm:m.2.length<=aL):cu T H 235 [d,e] s fun d s1=>iy d/\aF Nil s s1:=by
 have fx:=uB (H:=H) hT hs hx hn;have mE:=hx.st; have tJ:=hy.st;obtain⟨y,rfl,h1⟩:=hx;obtain⟨y',rfl,h2⟩:=hy;refine ax hT.t235 ?_;refine run_seq ?_;refine mb ?_;refine j8 mE ?_;refine j8 tJ ?_;try refine go ?_
 refine ak fx ?_;rintro d s1 ⟨CC,b1⟩;have Yi:=CC.st;obtain⟨y2,rfl,k1⟩:=CC;refine fJ Yi ?_;try refine go ?_
 refine ak (uB hT b1.ok ⟨y',rfl,h2.dK hs b1 fun _ _ _ _ h=>h⟩ hm) ?_;rintro d s2 ⟨ym,b2⟩;have Ft:=ym.st;obtain⟨y3,rfl,k2⟩:=ym;refine fJ Ft ?_;have k1:=k1.dK b1.ok b2 fun _ _ _ _ h=>h;have fS:=M4 (H:=H) hT k1.row k2.row (cU (mh _ _) hn) (cU (mh _ _) hm);try refine go ?_
 refine cV (fun _=> ?_) (fun _=> ?_)
 ·try refine go ?_
  refine cV (fun _=> ?_) (fun _=> ?_)
  ·try refine go ?_
   exact ai ⟨⟨_,rfl⟩,b1.trans b2⟩
  ·try refine go ?_
   exact ai ⟨⟨_,rfl⟩,b1.trans b2⟩
 ·try refine go ?_
  refine Ky (Dx (k1.row.ev rfl) (Dx (k2.row.ev rfl))) ?_;refine ak fS ?_;rintro d s3 ⟨rfl,c,rfl⟩;try refine go ?_
  refine cV (fun _=> ?_) (fun _=> ?_)
  ·try refine go ?_
   exact ai ⟨⟨_,rfl⟩,b1.trans b2⟩
  ·try refine go ?_
   exact ai ⟨⟨_,rfl⟩,b1.trans b2⟩
theorem Nn (hT:nB T){y:D}{ng:Bool}{V:List Nat}(hy:Ws s y V)(hV:V.length<=60000):cu T H 237 [.agg [.bool ng,y],.int .i64 2305843009213693951] s fun d s1=>s1=s/\∃r:Int,d= .gK [.int .i64 r,.int .i64 0]:=by
 have mE:(D.agg [.bool ng,y]).st=true:=qD.st (n:=(ng,V)) ⟨y,rfl,hy⟩;have hr:=hy.row;have hl:=cQ V;have w0:IntKind.wrap .i64 (32 * ((dz V).length:Int))=((32 * V.length:Nat):Int):=by rw [wrap_small (by omega) (by omega)]; omega
 have w1:IntKind.wrap .i64 (((32 * V.length:Nat):Int) - 1)=((32 * V.length:Nat):Int) - 1:=wrap_small (by omega) (by omega);refine ax hT.t237 ?_;refine run_seq ?_;refine mb ?_;refine j8 mE ?_;try refine tw ?_
 rw [w0,w1];refine cg (fun m env s' =>s' =s/\m<=32 * V.length/\∃r:Int,env=[(1,.int .i64 2305843009213693951),(2,.lv (.agg [.bool ng,y])),(6,.int .u64 r),(7,.int .i64 ((m:Nat) - 1))]) (32 * V.length) rfl ⟨rfl,aq _,0,rfl⟩ ?_;rintro m env s' ⟨rfl,hm,r,rfl⟩;cases m with
 | zero=>
  cases ng
  ·try refine tw ?_
   exact ai ⟨rfl,_,rfl⟩
  ·try refine tw ?_
   refine cV (fun _=> ?_) (fun _=> ?_)
   ·try refine tw ?_
    exact ai ⟨rfl,_,rfl⟩
   ·try refine tw ?_
    exact ai ⟨rfl,_,rfl⟩
 | succ m=>
  have e1:(((m+1:Nat):Int) - 1)=(m:Nat):=by omega
  have e2:=eJ ((m:Int) >= 0);have h1:m / 32 < V.length:=by omega
  have e3:(dz V)[m / 32]? =some (.int .u32 (V[m / 32]:Nat)):=pH h1;have e4:IntKind.wrap .i64 ((m:Int).tdiv 32)=((m / 32:Nat):Int):=by rw [fk (by omega),wrap_small (by omega) (by omega)]; omega
  have e5:(m:Int).tmod 32=((m % 32:Nat):Int):=by rw [bZ (by omega)]; omega
  have e6:IntKind.wrap .i64 ((m:Int) - 1)=(m:Nat) - 1:=wrap_small (by omega) (by omega);generalize V[m / 32]=v at e3;rw [e1];try refine tw ?_
  simp only [e4];refine B0 hr e3 fun _=> ?_;try refine tw ?_
  simp only [e5];try refine tw ?_
  refine cV (fun _=> ?_) (fun _=> ?_)
  ·try refine tw ?_
   simp only [e6];exact bf m (by omega) rfl ⟨rfl,by omega,_,rfl⟩
  ·try refine tw ?_
   simp only [e6];exact bf m (by omega) rfl ⟨rfl,by omega,_,rfl⟩
theorem qv (hT:nB T){n m:Int}:cu T H 238 [.int .u64 n,.int .i64 m] s fun d s1=>s1=s/\iy d:=by
 refine ax hT.t238 ?_;try refine go ?_
 refine cV (fun _=> ?_) (fun _=> ?_)
 ·try refine go ?_
  exact ai ⟨rfl,_,rfl⟩
 ·try refine go ?_
  exact ai ⟨rfl,_,rfl⟩
theorem vE (hT:nB T){d:D}{n:Bool×List Nat}(hx:qD s d n)(hn:n.2.length<=60000):cu T H 188 [d] s fun d s1=>s1=s/\iy d:=by
 have mE:=hx.st;obtain⟨y,rfl,hy⟩:=hx;have hR:=Nn (H:=H) (ng:=false) hT hy hn;rcases hy.row.sh with ⟨nl,z,rfl⟩ | ⟨o,off,cp,rfl⟩
 all_goals
  refine ax hT.t188 ?_;try refine go ?_
  refine ak hR ?_;rintro d s1 ⟨rfl,r,rfl⟩;try refine go ?_
  refine cV (fun _=> ?_) (fun _=> ?_)
  ·try refine go ?_
   refine ak (qv hT) ?_;rintro d s2 ⟨rfl,c,rfl⟩;try refine go ?_
   exact ai ⟨rfl,_,rfl⟩
  ·try refine go ?_
   refine ak (qv hT) ?_;rintro d s2 ⟨rfl,c,rfl⟩;try refine go ?_
   exact ai ⟨rfl,_,rfl⟩
theorem OS (hT:nB T){l:List UInt8}(hl:l.length<=1000000000):cu T H 191 [.str l] s fun d s1=>s1=s/\iy d:=by
 refine ax hT.t191 ?_;try refine go ?_
 refine cg (fun m env s' =>s' =s/\∃(i:Nat) (r:Int),m=l.length - i/\i<=l.length/\env=[(0,.str l),(3,.int .u64 r),(4,.int .i64 (i:Nat))]) l.length rfl ⟨rfl,0,14695981039346656037,rfl,aS _,rfl⟩ ?_;rintro m env s' ⟨rfl,i,r,rfl,hi,rfl⟩;by_cases dM:i < l.length
 ·have hd:=eJ ((i:Int) < (l.length:Nat));have he:l[i]? =some l[i]:=ab dM;generalize l[i]=c at he;try refine go ?_
  refine iV (d:= .int .u8 (c.toNat:Nat)) ?_ rfl (Ix rfl rfl he);try refine go ?_
  exact bf (l.length - (i+1)) (by omega) rfl ⟨rfl,i+1,_,rfl,by omega,rfl⟩
 ·have hd:=cN ((i:Int) < (l.length:Nat));try refine go ?_
  refine ak (qv hT) ?_;rintro d s2 ⟨rfl,c,rfl⟩;try refine go ?_
  exact ai ⟨rfl,_,rfl⟩
theorem Gr (hT:nB T){n:Int}:cu T H 192 [.int .i64 n] s fun d s1=>s1=s/\iy d:=by
 refine ax hT.t192 ?_;try refine go ?_
 refine ak (qv hT) ?_;rintro d s2 ⟨rfl,c,rfl⟩;try refine go ?_
 exact ai ⟨rfl,_,rfl⟩
end
theorem Oj {s:St}{e:Env}{x y:bP}{kd:IntKind}{a b:Nat}(hb:0 < b)(hx:x.ev e=some (.int kd (a:Nat)))(hy:y.ev e=some (.int kd (b:Nat))):cC fF e s none (.bin .rem x y)=some (.int kd ((a % b:Nat):Int),s):=by
 have h0: ¬ ((b:Int)=0):=by omega
 have h1:(a:Int).tmod (b:Int)=((a % b:Nat):Int):=by rw [bZ (by omega)]; rfl
 simp only [cC,hx,hy,KE,te,decide_true,aK h0,h1,nj]
def jF (s:St)(cm:Nat):Prop:=∃a b c d:Int,s.get cm=some (.var 149 (.agg [.int .i64 a,.int .i64 b,.int .i64 c,.int .i64 d]))
theorem jF.dK {W:Nat->Prop}{s s1:St}{cm:Nat}(h:jF s cm)(hs:s.Ok)(hb:aF W s s1)(hw: ¬ W cm):jF s1 cm:=by
 obtain⟨a,b,c,d,h⟩:=h;exact⟨a,b,c,d,hb.get hs h hw⟩
section
variable {T:Nat->Option dU}{H:ay}{s:St}
theorem Ao (hT:nK T){h:Int}{log:Nat}(hl:log<=15):cu T H 273 [.int .i64 h,.int .i64 (log:Nat)] s fun d s1=>s1=s/\d= .int .i64 ((gC log h 0).1:Nat):=by
 have hp:=my hl;have e1:=CP hl;have e4:=lQ log h 0;have e5:IntKind.wrap .i64 ((hu h % 2 ^ log:Nat):Int)=((gC log h 0).1:Nat):=by
  show IntKind.wrap .i64 (((gC log h 0).1:Nat):Int)=_;generalize (gC log h 0).1=c at e4 ⊢;generalize 2 ^ log=N at e4 hp;exact wrap_small (by omega) (by omega)
 have d1:=cN ((log:Int) < 0);have d2:=cN ((log:Int) > 20);refine ax hT.t273 ?_;try refine go ?_
 rw [sA h,e1];refine iV ?_ rfl (Oj hp.1 rfl rfl);try refine go ?_
 rw [e5];exact ai ⟨rfl,rfl⟩
theorem En (hT:nK T){h:Int}{log j:Nat}(hl:log<=15):cu T H 277 [.int .i64 ((gC log h j).1:Nat),.int .u64 ((gC log h j).2:Nat),.int .i64 (log:Nat)] s fun d s1=>s1=s/\d= .gK [.int .i64 ((gC log h (j+1)).1:Nat),.int .u64 ((gC log h (j+1)).2:Nat)]:=by
 have hp:=my hl;have e1:=CP hl;have q1:=lQ log h j;have q2:=rV log h j;have q3:=um log h j;have q4:IntKind.wrap .u64 ((gC log h j).1:Int)=((gC log h j).1:Int):=by
  generalize (gC log h j).1=c at q1 ⊢;generalize 2 ^ log=N at q1 hp;exact kP (by omega) (by omega)
 have q6:=step_eq q1 q2 hp.2;have q7:(gC log h (j+1)).1=(5 * (gC log h j).1+(gC log h j).2 / 32+1) % 2 ^ log:=by rw [q3]; rfl
 have q8:(gC log h (j+1)).2=(gC log h j).2 / 32:=by rw [q3]; rfl
 have Z9:=lQ log h (j+1);have q9:IntKind.wrap .i64 ((gC log h (j+1)).1:Int)=((gC log h (j+1)).1:Int):=by
  generalize (gC log h (j+1)).1=c at Z9 ⊢;generalize 2 ^ log=N at Z9 hp;exact wrap_small (by omega) (by omega)
 rw [← q8]at q6 q7;refine ax hT.t277 ?_;try refine go ?_
 rw [WV,← q8];simp only [q4];rw [Int.mul_comm _ 5,q6,e1];refine iV ?_ rfl (Oj hp.1 rfl rfl);rw [← q7];try refine go ?_
 rw [q9];exact ai ⟨rfl,rfl⟩
theorem x6 (hT:nK T){log:Nat}(h3:3<=log)(hl:log<=15):cu T H 295 [.int .i64 (log:Nat)] s fun d s1=>s1=s/\d= .int .i64 ((2 * 2 ^ log / 3:Nat):Int):=by
 have hp:=my hl;have d1:=cN ((log:Int) < 3);have d2:=cN ((log:Int) > 20);have e1:IntKind.wrap .i64 (2 * 2 ^ min (Int.toNat (log:Int)) (IntKind.bits .i64))=((2 * 2 ^ log:Nat):Int):=by
  have e:min (Int.toNat (log:Int)) (IntKind.bits .i64)=log:=by
   show min (Int.toNat (log:Int)) 64=log;rw [cZ]; omega
  have e2:(2:Int) * 2 ^ log=((2 * 2 ^ log:Nat):Int):=by norm_cast
  rw [e,e2];generalize 2 ^ log=N at hp ⊢;exact wrap_small (by omega) (by omega)
 have e2:IntKind.wrap .i64 (((2 * 2 ^ log:Nat):Int).tdiv 3)=((2 * 2 ^ log / 3:Nat):Int):=by
  generalize 2 ^ log=N at hp ⊢;rw [fk (by omega),wrap_small (by omega) (by omega)]; omega
 refine ax hT.t295 ?_;try refine go ?_
 simp only [e1,e2];exact ai ⟨rfl,rfl⟩
theorem Jb (hT:nK T){log:Nat}(hs:s.Ok)(h3:3<=log)(hl:log<=15):cu T H 293 [.int .i64 (log:Nat)] s fun d s1=>d= .gK [.agg [.int .i64 (log:Nat),.sl s.n 0 (2 ^ log) (2 ^ log)],.int .i64 0]/\(∃st,s1.get s.n=some (.arr 1 3 (ints (List.replicate (2 ^ log) (-1))) st)/\st<=2 ^ log)/\s.n < s1.n/\aF Nil s s1:=by
 have hp:=my hl;have hw:=J7 (log:=log) (by omega);have d1:=cN ((log:Int) < 3);have d2:=cN ((log:Int) > 20);refine ax hT.t293 ?_;try refine go ?_
 rw [hw];generalize hN:2 ^ log=N at hp;refine rT (l1:=N) (c1:=N) (jz (kd:= .i64)) (jz (kd:= .i64)) (aq _) (by omega) (by simp only [aL]; omega) ?_;try refine go ?_
 refine ee N (fun j=> [(2,.lv (.agg [.int .i64 0,.vs true 0 []])),(4,.lv (.agg [.int .i64 (log:Nat),.sl s.n 0 N N])),(5,.int .i64 (j:Nat))]) (fun j s' =>aF Nil s s' /\s.n < s'.n/\∃st,s'.get s.n=some (.arr 1 3 (ints (begun N j)) st)/\st<=N) ⟨aF.push (aF.refl hs) _,by rw [St.dV]; omega,0,by rw [St.bu,IG,ints,pz],aS _⟩ ?_;rintro j s1 hj ⟨b1,n1,st,g1,dN⟩;have ok1:=b1.ok;rcases aH j N with dM | pW
 ·have hd:=eJ ((j:Int) < (N:Nat));have wU:=AB (N:=N) (j:=j) hj;have ja:=fB (begun N j);have oM:(ints (begun N j))[0+j]? =some (.int .i64 ((begun N j)[j]'(by omega))):=by rw [aN]; exact ints_at (ab (by omega))
  have gO:(ints (begun N j)).set (0+j) (.int .i64 (-1))=ints (begun N (j+1)):=by rw [aN,← vd dM,ints,ints,jj]
  try refine go ?_
  rw [gO];refine dw dM ⟨aF.set b1 _ n1 (fun h=>by omega),n1,_,St.aO,by omega⟩
 ·have:j=N:=by omega
  subst this;have hd:=cN ((j:Int) < (j:Nat));try refine go ?_
  rw [vV]at g1;exact ai ⟨rfl,⟨st,g1,dN⟩,n1,b1⟩
end
theorem Dy {P:Nat->Prop}:∀n,P n->∃k,k<=n/\P k/\∀i,i < k-> ¬ P i
 | 0,h=>⟨0,aq _,h,fun i hi=>absurd hi (lM _)⟩
 | n+1,h=>by
  by_cases he:∃i,i<=n/\P i
  ·obtain⟨i,h1,h2⟩:=he;obtain⟨k,h3,h4,h5⟩:=Dy i h2;exact⟨k,by omega,h4,h5⟩
  ·exact⟨n+1,aq _,h,fun i hi hp=>he ⟨i,by omega,hp⟩⟩
section
variable {T:Nat->Option dU}{H:ay}{s:St}{to lo cm log:Nat}{x l0 c0 n3 n4 n6:D}
theorem Am (hT:nK T){m:Int}(hs:s.Ok)(gt:s.get to=some (.var 349 (.agg [x,l0,c0,n3,n4,.int .i64 m,n6,.ptr cm 0])))(hc:jF s cm)(h3:3<=log)(hl:log<=15):
  cu T H 272 [.ptr to 0,.int .i64 (log:Nat)] s fun _ s1=>(∃m',s1.get to=some (.var 349 (.agg [x,.int .i64 (log:Nat),.sl s.n 0 (2 ^ log) (2 ^ log),n3,n4,.int .i64 m',n6,.ptr cm 0])))/\
   (∃st,s1.get s.n=some (.arr 1 3 (ints (List.replicate (2 ^ log) (-1))) st)/\st<=2 ^ log)/\jF s1 cm/\s.n < s1.n/\aF (fun j=>j=to\/j=cm) s s1:=by
 have lt:=hs.lt gt;obtain⟨a,b,c,d,gc⟩:=hc;have lc:=hs.lt gc;have ne:to≠cm:=by rintro rfl; rw [gt]at gc; simp at gc
 refine ax hT.t272 ?_;try refine go ?_
 refine ak (Jb hT hs h3 hl) ?_;rintro d s1 ⟨rfl,⟨st,g1,dN⟩,n1,b1⟩;have ok1:=b1.ok;have HX:=b1.get hs gt id;have gc1:=b1.get hs gc id;have nn:s.n≠to/\s.n≠cm:=by omega
 try refine go ?_
 refine iu ⟨⟨_,gI⟩,⟨st,gI,dN⟩,⟨_,_,_,_,gI⟩, ?_, ?_⟩
 ·exact n1
 ·have b2:aF (fun j=>j=to\/j=cm) s s1:=b1.mono fun _ h=>h.elim;refine aF.set (aF.set (aF.set b2 _ ?_ ?_) _ ?_ ?_) _ ?_ ?_
  all_goals first
   | (intro _; exact .inl rfl)
   | (intro _; exact .inr rfl)
   | omega
   | (simp only [St.fE]; omega)
theorem H3 (hT:nK T){h:Int}{n st:Nat}{C:List Int}(hs:s.Ok)(gt:s.get to=some (.var 349 (.agg [x,.int .i64 (log:Nat),.sl lo 0 (2 ^ log) (2 ^ log),n3,n4,l0,n6,.ptr cm 0])))(gl:s.get lo=some (.arr 1 3 (ints C) st))(dN:st<=2 ^ log)(hC:C.length=2 ^ log)(h3:3<=log)(hl:log<=15)
  (hem:∃i,i < 13+2 ^ log/\C[(gC log h i).1]? =some (-1)):
  cu T H 297 [.ptr to 0,.int .i64 h,.int .i64 (n:Nat)] s fun _ s1=>∃C',Laid log h (n:Nat) C C' /\(∃st,s1.get lo=some (.arr 1 3 (ints C') st)/\st<=2 ^ log)/\s1.n=s.n/\aF (fun j=>j=lo) s s1:=by
 have hp:=my hl;have lt:=hs.lt gt; have ll:=hs.lt gl;have ja:=fB C;obtain⟨i,hi,hi2⟩:=hem;obtain⟨K,hK,hK1,hK2⟩:=Dy (P:=fun i=>C[(gC log h i).1]? =some (-1)) i hi2;refine ax hT.t297 ?_;try refine go ?_
 refine ak (Ao hT hl) ?_;rintro d s1 ⟨rfl,rfl⟩;try refine go ?_
 rw [sA];refine ee K (fun j=> [(0,.ptr to 0),(2,.int .i64 (n:Nat)),(6,.int .i64 ((gC log h j).1:Nat)),(7,.int .u64 ((gC log h j).2:Nat))]) (fun j s' =>s' =s1) rfl ?_;rintro j s' hj rfl;have hc:=lQ log h j;have XG:=En (H:=H) (s:=s') (h:=h) (j:=j) hT hl;have yh:(gC log h j).1 < C.length:=by rw [hC]; exact hc
 have oM:(ints C)[0+(gC log h j).1]? =some (.int .i64 (C[(gC log h j).1])):=by rw [aN]; exact ints_at (ab yh)
 have u7:C[(gC log h j).1]? =some C[(gC log h j).1]:=ab yh;rcases aH j K with dM | pW
 ·have hv:=hK2 j dM;rw [u7]at hv;generalize C[(gC log h j).1]=v at oM u7 hv;have cE:(v != -1)=true:=by simpa using hv
  generalize (gC log h j).1=cc at hc yh oM u7 XG;generalize (gC log h j).2=pp at XG;generalize 2 ^ log=N at gt dN hC hp hc;try refine go ?_
  refine ak XG ?_;rintro d s2 ⟨rfl,rfl⟩;try refine go ?_
  exact dw dM rfl
 ·have:j=K:=by omega
  subst this;rw [u7]at hK1;have hv:C[(gC log h j).1]= -1:=by simpa using hK1
  rw [hv]at oM;have jr:Laid log h (n:Nat) C (C.set (gC log h j).1 (n:Nat)):= .inl ⟨j,by omega,by rw [u7,hv],fun i hi=>hK2 i hi,rfl⟩;have gO:(ints C).set (0+(gC log h j).1) (.int .i64 (n:Nat))=ints (C.set (gC log h j).1 (n:Nat)):=by rw [aN,ints,ints,jj]
  generalize (gC log h j).1=cc at hc yh oM jr gO;generalize (gC log h j).2=pp;have hN:∀N,N=2 ^ log->(0+N=(ints C).length):=fun N h=>by omega
  generalize 2 ^ log=N at gt dN hC hp hc hN;have hN:=hN N;try refine go ?_
  rw [gO];exact iu ⟨_,jr,⟨_,St.aO,by omega⟩,rfl,aF.set (aF.refl hs) _ ll (fun _=>rfl)⟩
end
structure uT (s:St)(to eo lo cm log:Nat)(x:D)(E:List eU)(C:List Int)(b m u:Int):Prop where
 go:s.get to=some (.var 349 (.agg [x,.int .i64 (log:Nat),.sl lo 0 (2 ^ log) (2 ^ log),.int .i64 (E.length:Nat),.int .i64 b,.int .i64 m,.int .i64 u,.ptr cm 0]))
 en:zK s x eo E
 ce:∃st,s.get lo=some (.arr 1 3 (ints C) st)/\st<=2 ^ log
 la:fg log (gX E) C
 l3:3<=log
 lh:log<=15
 rm:E.length<=2 * 2 ^ log / 3
 ct:jF s cm
 nn:E=[]->x= .vs true 0 []
theorem fg.room {log:Nat}{hs C:List Int}(h:fg log hs C)(hn:hs.length < 2 ^ log)(g:Int):∃i,i < 13+2 ^ log/\C[(gC log g i).1]? =some (-1):=by
 obtain⟨i,_,h2,h3⟩:=h.empty hn g 0;exact⟨i,by omega,h3⟩
section
variable {T:Nat->Option dU}{H:ay}{s:St}{to eo lo cm log:Nat}{x:D}{E:List eU}{C:List Int}{b m u:Int}
def Zf (s:St)(cb:List eU)(j:Nat)(l:D) (s' :St):Prop:=(j=0/\l= .vs true 0 []/\s' =s)\/(j≠0/\l= .sl s.n 0 j j/\s'.get s.n=some (.arr 5 232 ((cb.take j).map cG) 0)/\aF Nil s s')
theorem Hb (hT:nK T){cp st:Nat}{c0 n3 n4 n5 n6 n7:D}{k:List iT}{Q:QP}{Ev:Env}(hs:s.Ok)(gt:s.get to=some (.var 349 (.agg [.sl eo 0 E.length cp,c0,n3,n4,n5,n6,n7,.ptr cm 0])))(ge:s.get eo=some (.arr 5 232 (E.map cG) st))(dN:st<=E.length)(Px:E.length<=cp)(hE:E.length<=20000)(cE:E≠ [])
  (Ec:Ev.bV [0,4,5]=[(0,.ptr to 0),(4,.vs true 0 []),(5,.int .i64 0)])
  (h:∀z1 z2 z3 z4 z5 z6 z7 s1,s1.get s.n=some (.arr 5 232 (E.map cG) 0)->aF Nil s s1->lg T H (.exit 0) k ⟨[(16,z1),(15,z2),(14,z3),(13,z4),(12,z5),(11,z6),(10,z7),(0,.ptr to 0),(4,.sl s.n 0 E.length E.length),(5,.int .i64 (E.length:Nat))],[]⟩ s1 Q):
  eH T H (match Iy.1.body with | .seq _ (.seq _ (.seq (.seq _ (.block _ l)) _))=>l | _=> .skip) k ⟨Ev,[]⟩ s Q:=by
 have pQ:=eR E;have lt:=hs.lt gt; have le:=hs.lt ge;have KU:0 < E.length:=dT.2 cE;show eH T H (.loop _ _) k ⟨Ev,[]⟩ s Q;refine cg (fun m env s' =>∃j l,m=E.length - j/\j<=E.length/\env=[(0,.ptr to 0),(4,l),(5,.int .i64 (j:Nat))]/\Zf s E j l s') E.length rfl ⟨0,_,rfl,aS _,Ec,.inl ⟨rfl,rfl,rfl⟩⟩ ?_;rintro m env s1 ⟨j,l,rfl,hj,rfl,hI⟩;by_cases dM:j < E.length
 ·have hd:=eJ ((j:Int) < (E.length:Nat));have h0:E[j]? =some E[j]:=ab dM;have pW:(E.map cG)[0+j]? =some (cG E[j]):=by rw [aN,aC,h0]; rfl
  have zT:((E.take (j+1)).map cG)=(E.take j).map cG++ [cG E[j]]:=by rw [ji,h0,jb]; rfl
  have yr:((E.take j).map cG).length=j:=by rw [aJ,cM]; omega
  generalize E[j]=en at pW zT;rcases hI with ⟨rfl,rfl,rfl⟩ | ⟨R0,rfl,g1,b1⟩
  ·try refine go ?_
   refine bf (E.length - 1) (by omega) rfl ⟨1,_,rfl,by omega,rfl,.inr ⟨by decide,rfl, ?_,(aF.refl hs).push _⟩⟩;rw [St.bu,zT]; rfl
  ·have ok1:=b1.ok;have HX:=b1.get hs gt id;have CT:=b1.get hs ge id;have ln:=ok1.lt g1;try refine go ?_
   refine bf (E.length - (j+1)) (by omega) rfl ⟨j+1,_,rfl,by omega,rfl,.inr ⟨by omega,rfl, ?_,aF.set b1 _ ln (fun h=>by omega)⟩⟩;rw [St.aO,zT]; rfl
 ·have Cy:j=E.length:=by omega
  subst Cy;have hd:=cN ((E.length:Int) < (E.length:Nat));rcases hI with ⟨h0,_⟩ | ⟨R0,rfl,g1,b1⟩
  ·omega
  ·have ok1:=b1.ok;have HX:=b1.get hs gt id;rw [eE]at g1;try refine go ?_
   exact h _ _ _ _ _ _ _ s1 g1 b1
theorem fg.aaB {log:Nat}(hs:List Int):fg log (hs.take 0) (List.replicate (2 ^ log) (-1)):= .nil
theorem GI (hT:nK T){q st:Nat}{n3 n4 n5 n6:D}{k:List iT}{Q:QP}{Ev:Env}(hs:s.Ok)(gt:s.get to=some (.var 349 (.agg [x,.int .i64 (log:Nat),.sl lo 0 (2 ^ log) (2 ^ log),n3,n4,n5,n6,.ptr cm 0])))(gq:s.get q=some (.arr 5 232 (E.map cG) 0))(gl:s.get lo=some (.arr 1 3 (ints (List.replicate (2 ^ log) (-1))) st))(dN:st<=2 ^ log)
  (h3:3<=log)(hl:log<=15)(hE:E.length < 2 ^ log)
  (Ec:Ev.bV [0,4,6]=[(0,.ptr to 0),(4,.sl q 0 E.length E.length),(6,.int .i64 0)])
  (h:∀fr s1 C,fg log (gX E) C->(∃st,s1.get lo=some (.arr 1 3 (ints C) st)/\st<=2 ^ log)->aF (fun j=>j=lo) s s1->lg T H (.exit 2) k ⟨fr,[]⟩ s1 Q):
  eH T H (match Iy.1.body with | .seq _ (.seq _ (.seq _ (.seq _ (.seq _ (.block _ l)))))=>l | _=> .skip) k ⟨Ev,[]⟩ s Q:=by
 have hp:=my hl;have pQ:=eR E;have ntl:to≠lo:=by rintro rfl; rw [gt]at gl; cases gl
 have nql:q≠lo:=by rintro rfl; rw [gq]at gl; simp at gl
 show eH T H (.loop _ _) k ⟨Ev,[]⟩ s Q;refine ee E.length (fun j=> [(0,.ptr to 0),(4,.sl q 0 E.length E.length),(6,.int .i64 (j:Nat))]) (fun j s' =>∃C st,s'.get lo=some (.arr 1 3 (ints C) st)/\st<=2 ^ log/\fg log ((gX E).take j) C/\aF (fun j=>j=lo) s s') ⟨_,_,gl,dN,fg.aaB _,aF.refl hs⟩ ?_ rfl Ec;rintro j s1 hj ⟨C,mE,g1,zw,hL,b1⟩;have ok1:=b1.ok;have HX:=b1.get hs gt ntl;have gq1:=b1.get hs gq nql;rcases aH j E.length with dM | pW
 ·have hd:=eJ ((j:Int) < (E.length:Nat));have h0:E[j]? =some E[j]:=ab dM;have pW:(E.map cG)[0+j]? =some (cG E[j]):=by rw [aN,aC,h0]; rfl
  generalize E[j]=en at h0 pW;have tN:((gX E).take j).length=j:=by rw [cM,aJ]; omega
  have hly:=H3 (H:=H) (h:=en.h) (n:=j) hT ok1 HX g1 zw hL.len h3 hl (hL.room (by omega) en.h);try refine go ?_
  refine ak hly ?_;rintro d s2 ⟨C',q1,⟨tJ,q2,q3⟩,q4,q5⟩;try refine go ?_
  exact dw dM ⟨C',tJ,q2,q3,fg.take hL h0 q1,b1.trans q5⟩
 ·have Cy:j=E.length:=by omega
  subst Cy;have hd:=cN ((E.length:Int) < (E.length:Nat));rw [eX (by rw [aJ]; exact aq _)]at hL;try refine go ?_
  exact h _ s1 C hL ⟨mE,g1,zw⟩ b1
theorem PW (hT:nK T) {log' :Nat}(hs:s.Ok)(h:uT s to eo lo cm log x E C b m u)(cE:E≠ [])(hE:E.length<=20000)(h3:3<=log')(hl:log' <=15)(hr:E.length<=2 * 2 ^ log' / 3):
  cu T H 296 [.ptr to 0,.int .i64 (log' :Nat)] s fun _ s1=>∃eo' lo' C' m',uT s1 to eo' lo' cm log' (.sl eo' 0 E.length E.length) E C' b m' u/\s1.get eo' =some (.arr 5 232 (E.map cG) 0)/\s.n<=eo' /\s.n<=lo' /\aF (fun j=>j=to\/j=cm) s s1:=by
 have hp:=my hl;have gt:=h.go;have sG:=h.en;have L5:=h.ct;rcases sG with _ | ⟨_,st,E,ge,dN⟩
 ·exact absurd rfl cE
 have Px:=aq E.length;have lt:=hs.lt gt; have le:=hs.lt ge;obtain⟨a1,a2,a3,a4,gc⟩:=L5;have lc:=hs.lt gc;have nte:to≠eo:=by rintro rfl; rw [gt]at ge; cases ge
 have nce:cm≠eo:=by rintro rfl; rw [gc]at ge; cases ge
 have ntc:to≠cm:=by rintro rfl; rw [gt]at gc; simp at gc
 refine ax hT.t296 ?_;try refine go ?_
 refine ak (Am hT hs gt ⟨a1,a2,a3,a4,gc⟩ h3 hl) ?_;rintro d s1 ⟨⟨m',g1⟩,⟨mE,g2,zw⟩,c1,n1,b1⟩;have ok1:=b1.ok;have CT:=b1.get hs ge (by omega);have bn1:=b1.n;try refine go ?_
 refine Hb hT ok1 g1 CT dN Px hE cE rfl ?_;intro z1 z2 z3 z4 z5 z6 z7 s2 g3 b2;have ok2:=b2.ok;have g4:=b2.get ok1 g1 id;have g5:=b2.get ok1 g2 id;have c2:=c1.dK ok1 b2 id;have lq:=ok2.lt g3;have lt2:=ok2.lt g4;have bn2:=b2.n;try refine go ?_
 obtain⟨s3,Wx⟩:∃s3,s3=s2.bF to (.var 349 (.agg [.sl s1.n 0 E.length E.length,.int .i64 (log' :Nat),.sl s.n 0 (2 ^ log') (2 ^ log'),.int .i64 (E.length:Nat),.int .i64 b,.int .i64 m',.int .i64 u,.ptr cm 0])):=⟨_,rfl⟩;have b3:aF (fun j=>j=to) s2 s3:=by rw [Wx]; exact aF.set (W:=fun j=>j=to) (aF.refl ok2) _ lt2 (fun _=>rfl)
 have g6:s3.get to=some (.var 349 (.agg [.sl s1.n 0 E.length E.length,.int .i64 (log' :Nat),.sl s.n 0 (2 ^ log') (2 ^ log'),.int .i64 (E.length:Nat),.int .i64 b,.int .i64 m',.int .i64 u,.ptr cm 0])):=by rw [Wx]; exact St.aO
 have ok3:=b3.ok;have g7:=b3.get ok2 g3 (by omega);have g8:=b3.get ok2 g5 (by omega);have c3:=c2.dK ok2 b3 (bO ntc);have bn3:=b3.n;have P4:E.length < 2 ^ log' :=by
  have:=hp.1;generalize 2 ^ log' =N at hr this ⊢;omega
 show eH T H _ _ _ (s2.bF to (.var 349 (.agg [.sl s1.n 0 E.length E.length,.int .i64 (log' :Nat),.sl s.n 0 (2 ^ log') (2 ^ log'),.int .i64 (E.length:Nat),.int .i64 b,.int .i64 m',.int .i64 u,.ptr cm 0]))) _;rw [← Wx];refine GI hT ok3 g6 g7 g8 zw h3 hl P4 rfl ?_;rintro fr s4 C' hL ⟨Ft,g9,OJ⟩ b4;have g10:=b4.get ok3 g6 (by omega);have g11:=b4.get ok3 g7 (by omega);have c4:=c3.dK ok3 b4 (by omega);try refine go ?_
 refine iu ⟨s1.n,s.n,C',m',⟨g10,.sl _ 0 _ g11 (aS _),⟨Ft,g9,OJ⟩,hL,h3,hl,hr,c4,fun h=>absurd h cE⟩,g11,by omega,aq _, ?_⟩;exact ((b1.trans (b2.mono fun _ h=>h.elim)).trans (b3.mono fun j hj=> .inl hj)).trans' b4 (fun j hj hl=>by omega)
end
section
variable {T:Nat->Option dU}{H:ay}{s:St}{to eo lo cm log:Nat}{x:D}{E:List eU}{C:List Int}{b m u:Int}
def xS (s:St)(to eo lo cm:Nat)(E:List eU)(h k v:Int)(s1:St):Prop:=∃eo' lo' log' x' C' b' m' u' bb,uT s1 to eo' lo' cm log' x' (E++ [⟨h,k,v,bb⟩]) C' b' m' u' /\(E≠ []/\eo' =eo\/s.n<=eo')/\(lo' =lo\/s.n<=lo')/\aF (fun j=>j=to\/(E≠ []/\j=eo)\/j=lo\/j=cm) s s1
theorem Kw (E:List eU)(e:eU):(E++ [e]).map cG=E.map cG++ [cG e]:=by simp
theorem uT.ne (h:uT s to eo lo cm log x E C b m u):to≠lo/\to≠cm/\lo≠cm/\(E≠ []->eo≠to/\eo≠lo/\eo≠cm):=by
 obtain⟨st,g1,_⟩:=h.ce;obtain⟨a1,a2,a3,a4,g2⟩:=h.ct;have g3:=h.go;refine⟨?_, ?_, ?_,fun hE=> ?_⟩
 ·rintro rfl; rw [g3]at g1; cases g1
 ·rintro rfl; rw [g3]at g2; simp at g2
 ·rintro rfl; rw [g1]at g2; cases g2
 ·rcases h.en with _ | ⟨_,tJ,E,g4,_⟩
  ·exact absurd rfl hE
  ·refine⟨?_, ?_, ?_⟩
   ·rintro rfl; rw [g3]at g4; cases g4
   ·rintro rfl; rw [g1]at g4; simp at g4
   ·rintro rfl; rw [g2]at g4; cases g4
@[reducible] def sF (eo lo log cm n:Nat) (b m u:Int):D:= .agg [.sl eo 0 n n,.int .i64 (log:Nat),.sl lo 0 (2 ^ log) (2 ^ log),.int .i64 (n:Nat),.int .i64 b,.int .i64 m,.int .i64 u,.ptr cm 0]
theorem y8 (hT:nK T){p:St}{eo0 lo0 st0 st:Nat} {h ky v b0 b' m' u' :Int}(ht:fg log (gX E) C)(h3:3<=log)(hl:log<=15)(ct:jF p cm)(okp:p.Ok)(gt:p.get to=some (.var 349 (sF eo lo log cm (E.length+1) b' m' u')))(ge:p.get eo=some (.arr 5 232 (E.map cG++ [cG ⟨h,ky,v,b0⟩]) st0))(GJ:st0<=E.length)(gl:p.get lo=some (.arr 1 3 (ints C) st))(dN:st<=2 ^ log)(hr:E.length < 2 * 2 ^ log / 3)(he:E≠ []/\eo=eo0\/s.n<=eo)(J4:lo=lo0\/s.n<=lo)(bp:aF (fun j=>j=to\/(E≠ []/\j=eo0)\/j=lo0\/j=cm) s p):
  cu T H 297 [.ptr to 0,.int .i64 h,.int .i64 (E.length:Nat)] p fun _ s1=>xS s to eo0 lo0 cm E h ky v s1:=by
 have hp:=my hl;have P4:(gX E).length < 2 ^ log:=by
  rw [aJ];have:=hp.1;generalize 2 ^ log=N at hr this ⊢;omega
 have ntl:to≠lo:=by rintro rfl; rw [gt]at gl; cases gl
 have nel:eo≠lo:=by rintro rfl; rw [ge]at gl; simp at gl
 have ncl:cm≠lo:=by
  obtain⟨a1,a2,a3,a4,g⟩:=ct;rintro rfl; rw [g]at gl; cases gl
 refine (H3 (h:=h) (n:=E.length) hT okp gt gl dN ht.len h3 hl (ht.room P4 h)).mono ?_;rintro d s2 ⟨C',q1,⟨st',q2,q3⟩,q4,q5⟩;have hlen:(E++ [(⟨h,ky,v,b0⟩:eU)]).length=E.length+1:=by rw [aG,aZ]
 have sG:zK s2 (.sl eo 0 (E.length+1) (E.length+1)) eo (E++ [⟨h,ky,v,b0⟩]):=by
  have:=zK.sl (s:=s2) eo st0 (E++ [(⟨h,ky,v,b0⟩:eU)]) (by rw [Kw]; exact q5.get okp ge nel) (by omega);rwa [hlen]at this
 refine⟨eo,lo,log,_,C',b',m',u',b0,⟨by rw [hlen]; exact q5.get okp gt ntl,sG,⟨st',q2,q3⟩, ?_,h3,hl,by omega,ct.dK okp q5 ncl,fun h=>by simp at h⟩,he,J4,bp.trans' q5 fun j hj hn=> ?_⟩
 ·have:=fg.snoc ht (h:=h) (C' :=C') (by rw [aJ]; exact q1);rwa [show gX (E++ [(⟨h,ky,v,b0⟩:eU)])=gX E++ [h] by simp]
 ·rcases J4 with rfl | h'
  ·exact .inr (.inr (.inl hj))
  ·omega
theorem PU (hT:nK T){h ky v:Int}{st0:Nat}(hs:s.Ok)(ht:uT s to eo lo cm log (.sl eo 0 E.length E.length) E C b m u)(ge:s.get eo=some (.arr 5 232 (E.map cG) st0))(GJ:st0<=E.length)(cE:E≠ [])(hr:E.length < 2 * 2 ^ log / 3)(hE:E.length<=20000):
  cu T H 279 [.ptr to 0,.int .i64 h,.int .i64 ky,.int .i64 v] s fun d s1=>d= .gK [.int .i64 (E.length:Nat),.int .i64 0]/\xS s to eo lo cm E h ky v s1:=by
 have hp:=my ht.lh;have gt:=ht.go;obtain⟨st,gl,dN⟩:=ht.ce;obtain⟨n1,n2,n3,n4⟩:=ht.ne;obtain⟨n5,n6,n7⟩:=n4 cE;have lt:=hs.lt gt; have le:=hs.lt ge; have ll:=hs.lt gl;have pQ:=eR E;have hd:=cN ((E.length:Int) >= ((2 * 2 ^ log / 3:Nat):Int));have w1:IntKind.wrap .i64 ((E.length:Int)+1)=((E.length+1:Nat):Int):=by rw [wrap_small (by omega) (by omega)]; omega
 have P4:(gX E).length < 2 ^ log:=by
  rw [aJ];have:=hp.1;generalize 2 ^ log=N at hr this ⊢;omega
 refine ax hT.t279 ?_;try refine go ?_
 refine aX (x6 hT ht.l3 ht.lh) ?_;rintro d s1 ⟨rfl,rfl⟩;refine⟨rfl,by simp [lost,eQ.kind,cK,dE,cF,aI,bC,bC.cW,gk,bP.ev,Env.get,cS,D.flat,D.isAgg,cP,D.fw,D.beq,aA,Obj.aW,bE,br,D.bW,D.aW,gt,ge], ?_⟩;try refine go ?_
 simp only [hd];try refine go ?_
 refine jL (fun p=>p.Ok/\p.get to=some (.var 349 (sF eo lo log cm (E.length+1) (IntKind.wrap .i64 (b+1)) m (IntKind.wrap .i64 (u+1))))/\p.get eo=some (.arr 5 232 (E.map cG++ [cG ⟨h,ky,v,b⟩]) st0)/\p.get lo=some (.arr 1 3 (ints C) st)/\aF (fun j=>j=to\/j=eo) s1 p) ⟨oI,gI,gI,gI, ?_⟩ ?_
 ·refine aF.set (aF.set (aF.set (aF.set (aF.set (aF.up (aF.refl hs) 1) _ ?_ ?_) _ ?_ ?_) _ ?_ ?_) _ ?_ ?_) _ ?_ ?_
  all_goals first
   | (intro _; exact .inl rfl)
   | (intro _; exact .inr rfl)
   | (simp only [St.fE,St.jx]; omega)
 rintro p ⟨okp,HX,CT,QK,bq⟩
 have bp:aF (fun j=>j=to\/(E≠ []/\j=eo)\/j=lo\/j=cm) s1 p:=bq.mono fun j hj=>by
  rcases hj with hj | hj
  ·exact .inl hj
  ·exact .inr (.inl ⟨cE,hj⟩)
 refine ak (y8 hT ht.la ht.l3 ht.lh (ht.ct.dK hs bq (by omega)) okp HX CT GJ QK dN hr (.inl ⟨cE,rfl⟩) (.inl rfl) bp) ?_;rintro d s2 hA;try refine go ?_
 exact ai ⟨rfl,hA⟩
theorem LM (hT:nK T){h ky v:Int}(hs:s.Ok)(ht:uT s to eo lo cm log (.vs true 0 []) [] C b m u):
  cu T H 279 [.ptr to 0,.int .i64 h,.int .i64 ky,.int .i64 v] s fun d s1=>d= .gK [.int .i64 0,.int .i64 0]/\xS s to eo lo cm [] h ky v s1:=by
 have hp:=my ht.lh;have gt:=ht.go;obtain⟨st,gl,dN⟩:=ht.ce;obtain⟨n1,n2,n3,n4⟩:=ht.ne;have lt:=hs.lt gt; have ll:=hs.lt gl;have h8:8<=2 ^ log:=(c9 (by decide) ht.l3:2 ^ 3<=2 ^ log);have hd:decide ((([]:List D).length:Int) >= ((2 * 2 ^ log / 3:Nat):Int))=false:=bk (by simp only [bL]; omega);refine ax hT.t279 ?_;try refine go ?_
 refine aX (x6 hT ht.l3 ht.lh) ?_;rintro d s1 ⟨rfl,rfl⟩;refine⟨rfl,by simp [lost,eQ.kind,cK,dE,cF,aI,bC,bC.cW,gk,bP.ev,Env.get,cS,D.flat,D.isAgg,cP,D.fw,D.beq,aA,Obj.aW,bE,br,D.bW,D.aW,gt], ?_⟩;try refine go ?_
 simp only [hd];try refine go ?_
 refine jL (fun p=>p.Ok/\p.get to=some (.var 349 (sF s1.n lo log cm 1 (IntKind.wrap .i64 (b+1)) m (IntKind.wrap .i64 (u+1))))/\p.get s1.n=some (.arr 5 232 [cG ⟨h,ky,v,b⟩] 0)/\p.get lo=some (.arr 1 3 (ints C) st)/\aF (fun j=>j=to) s1 p) ⟨oI,gI,gI,gI, ?_⟩ ?_
 ·refine aF.set (aF.set (aF.set (aF.set (aF.set (aF.up (aF.refl hs) 1) _ ?_ ?_) _ ?_ ?_) _ ?_ ?_) _ ?_ ?_) _ ?_ ?_
  all_goals first
   | (intro _; rfl)
   | (simp only [St.fE,St.jx]; omega)
   | (intro h; exfalso; omega)
 rintro p ⟨okp,HX,CT,QK,bq⟩;refine ak (y8 (E:=[]) (eo:=s1.n) (eo0:=eo) (st0:=0) hT ht.la ht.l3 ht.lh (ht.ct.dK hs bq (by omega)) okp HX CT (aS _) QK dN (by rw [bL]; omega) (.inr (aq _)) (.inl rfl) (bq.mono fun j hj=> .inl hj)) ?_;rintro d s2 hA;try refine go ?_
 exact ai ⟨rfl,hA⟩
theorem Kl {log n:Nat}(h3:3<=log)(h:n=2 * 2 ^ log / 3)(hE:n<=20000):log<=14/\3 * n<=2 ^ (log+1)/\(∀j,3<=j->j < log+1->2 ^ j < 3 * n)/\n < 2 * 2 ^ (log+1) / 3:=by
 have e8:8<=2 ^ log:=(c9 (by decide) h3:2 ^ 3<=2 ^ log);have e1:2 ^ (log+1)=2 * 2 ^ log:=by rw [jk,jQ]
 refine⟨?_,by omega,fun j hj hl=> ?_,by omega⟩
 ·rcases aH log 15 with h1 | h1
  ·omega
  ·have:2 ^ 15<=2 ^ log:=c9 (by decide) h1;omega
 ·have:2 ^ j<=2 ^ log:=c9 (by decide) (by omega);omega
theorem I1 (hT:nK T){h ky v:Int}{st0:Nat}(hs:s.Ok)(ht:uT s to eo lo cm log (.sl eo 0 E.length E.length) E C b m u)(ge:s.get eo=some (.arr 5 232 (E.map cG) st0))(GJ:st0<=E.length)(cE:E≠ [])(hr:E.length=2 * 2 ^ log / 3)(hE:E.length<=20000):
  cu T H 279 [.ptr to 0,.int .i64 h,.int .i64 ky,.int .i64 v] s fun d s1=>d= .gK [.int .i64 (E.length:Nat),.int .i64 0]/\xS s to eo lo cm E h ky v s1:=by
 have hp:=my ht.lh;have gt:=ht.go;obtain⟨acF,k1,k2,k3⟩:=Kl ht.l3 hr hE;have h3:=ht.l3;have pQ:=eR E;have hd:=eJ ((E.length:Int) >= ((2 * 2 ^ log / 3:Nat):Int));have w3:IntKind.wrap .i64 (3 * (E.length:Int))=((3 * E.length:Nat):Int):=by rw [wrap_small (by omega) (by omega)]; omega
 have dQ:=PW (H:=H) hT (log' :=log+1) hs ht cE hE (by omega) (by omega) (by omega);have d20:=cN (((log+1:Nat):Int) > 20);refine ax hT.t279 ?_;try refine go ?_
 refine aX (x6 hT ht.l3 ht.lh) ?_;rintro d s1 ⟨rfl,rfl⟩;refine⟨rfl,by simp [lost,eQ.kind,cK,dE,cF,aI,bC,bC.cW,gk,bP.ev,Env.get,cS,D.flat,D.isAgg,cP,D.fw,D.beq,aA,Obj.aW,bE,br,D.bW,D.aW,gt,ge], ?_⟩;try refine go ?_
 simp only [hd];try refine go ?_
 refine ee (log+1 - 3) (fun j=> [(0,.ptr to 0),(1,.int .i64 h),(2,.int .i64 ky),(3,.int .i64 v),(10,.int .i64 (3+j:Nat))]) (fun j s' =>s' =s1) rfl ?_;rintro j s' hj rfl;have w4:=J7 (log:=3+j) (by omega);rcases aH j (log+1 - 3) with dM | pW
 ·have GR:decide (((2 ^ (3+j):Nat):Int) < ((3 * E.length:Nat):Int))=true:=cO (by have:=k2 (3+j) (by omega) (by omega); omega);try refine go ?_
  simp only [w3,w4,GR];try refine go ?_
  exact dw dM rfl
 ·have Cy:3+j=log+1:=by omega
  rw [Cy]at w4;have GR:=cN (((2 ^ (log+1):Nat):Int) < ((3 * E.length:Nat):Int));rw [Cy];try refine go ?_
  simp only [w3,w4,GR];try refine go ?_
  refine ak dQ ?_;rintro d s2 ⟨eo',lo',C',m',sH,ge2,he,J4,b2⟩;have ok2:=b2.ok;have WI:=sH.go;obtain⟨st,gl,dN⟩:=sH.ce;obtain⟨n1,n2,n3,n4⟩:=sH.ne;obtain⟨n5,n6,n7⟩:=n4 cE;have lt:=ok2.lt WI; have le:=ok2.lt ge2; have ll:=ok2.lt gl;try refine go ?_
  refine jL (fun p=>p.Ok/\p.get to=some (.var 349 (sF eo' lo' (log+1) cm (E.length+1) (IntKind.wrap .i64 (b+1)) m' (IntKind.wrap .i64 (u+1))))/\p.get eo' =some (.arr 5 232 (E.map cG++ [cG ⟨h,ky,v,b⟩]) 0)/\p.get lo' =some (.arr 1 3 (ints C') st)/\aF (fun j=>j=to\/j=eo') s2 p) ⟨oI,gI,gI,gI, ?_⟩ ?_
  ·refine aF.set (aF.set (aF.set (aF.set (aF.set (aF.up (aF.refl ok2) 1) _ ?_ ?_) _ ?_ ?_) _ ?_ ?_) _ ?_ ?_) _ ?_ ?_
   all_goals first
    | (intro _; exact .inl rfl)
    | (intro _; exact .inr rfl)
    | (simp only [St.fE,St.jx]; omega)
  rintro p ⟨okp,HX,CT,QK,bq⟩
  have bp:aF (fun j=>j=to\/(E≠ []/\j=eo)\/j=lo\/j=cm) s' p:=(b2.trans' bq fun j hj hn=>by
   rcases hj with hj | hj
   ·exact .inl hj
   ·omega).mono fun j hj=>by
   rcases hj with hj | hj
   ·exact .inl hj
   ·exact .inr (.inr (.inr hj))
  refine ak (y8 (s:=s') hT sH.la sH.l3 sH.lh (sH.ct.dK ok2 bq (by omega)) okp HX CT (aS _) QK dN k3 (.inr he) (.inr J4) bp) ?_;rintro d s3 hA;try refine go ?_
  exact ai ⟨rfl,hA⟩
theorem Rj (hT:nK T){h ky v:Int}(hs:s.Ok)(ht:uT s to eo lo cm log x E C b m u)(hE:E.length<=20000):
  cu T H 279 [.ptr to 0,.int .i64 h,.int .i64 ky,.int .i64 v] s fun d s1=>d= .gK [.int .i64 (E.length:Nat),.int .i64 0]/\xS s to eo lo cm E h ky v s1:=by
 have sG:=ht.en;have hrm:=ht.rm;rcases sG with _ | ⟨_,st,E,ge,dN⟩
 ·exact LM hT hs ht
 ·by_cases cE:E=[]
  ·have:=ht.nn cE;cases this
  ·rcases aH E.length (2 * 2 ^ log / 3) with h1 | h1
   ·exact PU hT hs ht ge dN cE h1 hE
   ·exact I1 hT hs ht ge dN cE (by omega) hE
end
end Go.Proofs.Tab
