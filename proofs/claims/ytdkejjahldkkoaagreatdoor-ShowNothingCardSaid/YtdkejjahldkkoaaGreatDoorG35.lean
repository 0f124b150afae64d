/- Part. -/
import Derived.Test.YtdkejjahldkkoaaGreatDoorG34
set_option linter.unusedSectionVars false
set_option maxRecDepth 100000
set_option maxHeartbeats 1000000
set_option linter.unusedSimpArgs false
set_option linter.unusedVariables false
namespace Go.Proofs.Tab
open Go Go.Ab Go.Ab.Sm
def sC (d:D):Prop:=∃h:Int,d= .int .i64 h
section
variable {T:Nat->Option dS}{H:au}{s:St}
theorem Oy (hT:nB T){a b:D}{V W:List Nat}(hx:Row s 1 a (dz V))(hy:Row s 1 b (dz W))(hV:V.length<=aL)(hW:W.length<=aL):cu T H 175 [a,b] s fun d s1=>s1=s/\sC d:=by
 have lW:aL=2147483648:=rfl;have hl:=cN V;have Ae:=cN W;refine ay hT.t175 ?_ (hx.yS _);by_cases hlen:V.length=W.length
 ·have hd:(((dz V).length:Int) !=((dz W).length:Nat))=false:=by simp [hlen]
  have hw:IntKind.wrap .i64 (((dz V).length:Int) - 1)=(((dz V).length:Nat):Int) - 1:=wrap_small (by omega) (by omega);try refine tM ?_
  rw [hw];refine Vx (x:=a) (y:=b) (dz V).length (fun a b m=> [(0,a),(1,b),(5,.int .i64 ((m:Nat) - 1))]) (fun m s' =>s' =s) rfl ?_;rintro m s' hm rfl;cases m with
  | zero=>
   try refine tM ?_
   exact ai ⟨rfl,_,rfl⟩
  | succ m=>
   have h1:m < V.length:=by omega
   have h2:m < W.length:=by omega
   have e1:(((m+1:Nat):Int) - 1)=(m:Nat):=by omega
   have e2:=eR ((m:Int) >= 0);have e3:(dz V)[m]? =some (.int .u32 (V[m]:Nat)):=pG h1;have e4:(dz W)[m]? =some (.int .u32 (W[m]:Nat)):=pG h2;have e5:IntKind.wrap .i64 ((m:Int) - 1)=(m:Nat) - 1:=wrap_small (by omega) (by omega);rw [e1];generalize V[m]=v at e3;generalize W[m]=w at e4;try refine tM ?_
   refine uJ hx e3 fun _ _ _=> ?_;try refine tM ?_
   refine uJ hy e4 fun _ _ _=> ?_;try refine tM ?_
   refine cY (fun _=> ?_) (fun _=> ?_)
   ·try refine tM ?_
    exact ai ⟨rfl,_,rfl⟩
   ·try refine tM ?_
    refine uJ hx e3 fun _ _ _=> ?_;try refine tM ?_
    refine uJ hy e4 fun _ _ _=> ?_;try refine tM ?_
    refine cY (fun _=> ?_) (fun _=> ?_)
    ·try refine tM ?_
     exact ai ⟨rfl,_,rfl⟩
    ·try refine tM ?_
     rw [e5];exact W3 hm rfl
 ·have hd:(((dz V).length:Int) !=((dz W).length:Nat))=true:=by simp; omega
  try refine tM ?_
  refine cY (fun _=> ?_) (fun _=> ?_)
  ·try refine tM ?_
   exact ai ⟨rfl,_,rfl⟩
  ·try refine tM ?_
   exact ai ⟨rfl,_,rfl⟩
theorem qQ.st {d:D}{n:Bool×List Nat}(h:qQ s d n):d.st=true:=by
 obtain⟨y,rfl,hy⟩:=h;simp only [D.st,gQ,List.all_nil,hy.row.sc]; rfl
theorem wH (hT:nB T){d e:D}{n m:Bool×List Nat}(hs:s.Ok)(hx:qQ s d n)(hy:qQ s e m)(hn:n.2.length<=aL)(hm:m.2.length<=aL):cu T H 133 [d,e] s fun d s1=>sC d/\aC Nil s s1:=by
 have fx:=ud (H:=H) hT hs hx hn;have mu:=hx.st; have tR:=hy.st;obtain⟨y,rfl,h1⟩:=hx;obtain⟨y',rfl,h2⟩:=hy;refine ay hT.t133 ?_;refine run_seq ?_;refine ma ?_;refine j7 mu ?_;refine j7 tR ?_;try refine go ?_
 refine ak fx ?_;rintro d s1 ⟨vm,b1⟩;have XV:=vm.st;obtain⟨y2,rfl,k1⟩:=vm;refine fJ XV ?_;try refine go ?_
 refine ak (ud hT b1.ok ⟨y',rfl,h2.dU hs b1 fun _ _ _ _ h=>h⟩ hm) ?_;rintro d s2 ⟨zL,b2⟩;have FB:=zL.st;obtain⟨y3,rfl,k2⟩:=zL;refine fJ FB ?_;have k1:=k1.dU b1.ok b2 fun _ _ _ _ h=>h;have fR:=Oy (H:=H) hT k1.row k2.row (cU (l7 _ _) hn) (cU (l7 _ _) hm);try refine go ?_
 refine cY (fun _=> ?_) (fun _=> ?_)
 ·try refine go ?_
  refine cY (fun _=> ?_) (fun _=> ?_)
  ·try refine go ?_
   exact ai ⟨⟨_,rfl⟩,b1.trans b2⟩
  ·try refine go ?_
   exact ai ⟨⟨_,rfl⟩,b1.trans b2⟩
 ·try refine go ?_
  refine K1 (CW (k1.row.ev rfl) (CW (k2.row.ev rfl))) ?_;refine ak fR ?_;rintro d s3 ⟨rfl,c,rfl⟩;try refine go ?_
  refine cY (fun _=> ?_) (fun _=> ?_)
  ·try refine go ?_
   exact ai ⟨⟨_,rfl⟩,b1.trans b2⟩
  ·try refine go ?_
   exact ai ⟨⟨_,rfl⟩,b1.trans b2⟩
theorem NB (hT:nB T){y:D}{ng:Bool}{V:List Nat}(hy:Ws s y V)(hV:V.length<=60000):cu T H 135 [.agg [.bool ng,y],.int .i64 2305843009213693951] s fun d s1=>s1=s/\∃r:Int,d= .gJ [.int .i64 r,.int .i64 0]:=by
 have mu:(D.agg [.bool ng,y]).st=true:=qQ.st (n:=(ng,V)) ⟨y,rfl,hy⟩;have hr:=hy.row;have hl:=cN V;have w0:IntKind.wrap .i64 (32 * ((dz V).length:Int))=((32 * V.length:Nat):Int):=by rw [wrap_small (by omega) (by omega)]; omega
 have w1:IntKind.wrap .i64 (((32 * V.length:Nat):Int) - 1)=((32 * V.length:Nat):Int) - 1:=wrap_small (by omega) (by omega);refine ay hT.t135 ?_;refine run_seq ?_;refine ma ?_;refine j7 mu ?_;try refine tM ?_
 rw [w0,w1];refine cg (fun m env s' =>s' =s/\m<=32 * V.length/\∃r:Int,env=[(1,.int .i64 2305843009213693951),(2,.lv (.agg [.bool ng,y])),(6,.int .u64 r),(7,.int .i64 ((m:Nat) - 1))]) (32 * V.length) rfl ⟨rfl,an _,0,rfl⟩ ?_;rintro m env s' ⟨rfl,hm,r,rfl⟩;cases m with
 | zero=>
  cases ng
  ·try refine tM ?_
   exact ai ⟨rfl,_,rfl⟩
  ·try refine tM ?_
   refine cY (fun _=> ?_) (fun _=> ?_)
   ·try refine tM ?_
    exact ai ⟨rfl,_,rfl⟩
   ·try refine tM ?_
    exact ai ⟨rfl,_,rfl⟩
 | succ m=>
  have e1:(((m+1:Nat):Int) - 1)=(m:Nat):=by omega
  have e2:=eR ((m:Int) >= 0);have h1:m / 32 < V.length:=by omega
  have e3:(dz V)[m / 32]? =some (.int .u32 (V[m / 32]:Nat)):=pG h1;have e4:IntKind.wrap .i64 ((m:Int).tdiv 32)=((m / 32:Nat):Int):=by rw [fj (by omega),wrap_small (by omega) (by omega)]; omega
  have e5:(m:Int).tmod 32=((m % 32:Nat):Int):=by rw [bY (by omega)]; omega
  have e6:IntKind.wrap .i64 ((m:Int) - 1)=(m:Nat) - 1:=wrap_small (by omega) (by omega);generalize V[m / 32]=v at e3;rw [e1];try refine tM ?_
  simp only [e4];refine BY hr e3 fun _=> ?_;try refine tM ?_
  simp only [e5];try refine tM ?_
  refine cY (fun _=> ?_) (fun _=> ?_)
  ·try refine tM ?_
   simp only [e6];exact bg m (by omega) rfl ⟨rfl,by omega,_,rfl⟩
  ·try refine tM ?_
   simp only [e6];exact bg m (by omega) rfl ⟨rfl,by omega,_,rfl⟩
theorem qJ (hT:nB T){n m:Int}:cu T H 136 [.int .u64 n,.int .i64 m] s fun d s1=>s1=s/\sC d:=by
 refine ay hT.t136 ?_;try refine go ?_
 refine cY (fun _=> ?_) (fun _=> ?_)
 ·try refine go ?_
  exact ai ⟨rfl,_,rfl⟩
 ·try refine go ?_
  exact ai ⟨rfl,_,rfl⟩
theorem vJ (hT:nB T){d:D}{n:Bool×List Nat}(hx:qQ s d n)(hn:n.2.length<=60000):cu T H 91 [d] s fun d s1=>s1=s/\sC d:=by
 have mu:=hx.st;obtain⟨y,rfl,hy⟩:=hx;have hR:=NB (H:=H) (ng:=false) hT hy hn;rcases hy.row.sh with ⟨nl,z,rfl⟩ | ⟨o,off,cp,rfl⟩
 all_goals
  refine ay hT.t91 ?_;try refine go ?_
  refine ak hR ?_;rintro d s1 ⟨rfl,r,rfl⟩;try refine go ?_
  refine cY (fun _=> ?_) (fun _=> ?_)
  ·try refine go ?_
   refine ak (qJ hT) ?_;rintro d s2 ⟨rfl,c,rfl⟩;try refine go ?_
   exact ai ⟨rfl,_,rfl⟩
  ·try refine go ?_
   refine ak (qJ hT) ?_;rintro d s2 ⟨rfl,c,rfl⟩;try refine go ?_
   exact ai ⟨rfl,_,rfl⟩
theorem Ph (hT:nB T){l:List UInt8}(hl:l.length<=1000000000):cu T H 94 [.str l] s fun d s1=>s1=s/\sC d:=by
 refine ay hT.t94 ?_;try refine go ?_
 refine cg (fun m env s' =>s' =s/\∃(i:Nat) (r:Int),m=l.length - i/\i<=l.length/\env=[(0,.str l),(3,.int .u64 r),(4,.int .i64 (i:Nat))]) l.length rfl ⟨rfl,0,14695981039346656037,rfl,aR _,rfl⟩ ?_;rintro m env s' ⟨rfl,i,r,rfl,hi,rfl⟩;by_cases dQ:i < l.length
 ·have hd:=eR ((i:Int) < (l.length:Nat));have he:l[i]? =some l[i]:=ae dQ;generalize l[i]=c at he;try refine go ?_
  refine iZ (d:= .int .u8 (c.toNat:Nat)) ?_ rfl (Is rfl rfl he);try refine go ?_
  exact bg (l.length - (i+1)) (by omega) rfl ⟨rfl,i+1,_,rfl,by omega,rfl⟩
 ·have hd:=cM ((i:Int) < (l.length:Nat));try refine go ?_
  refine ak (qJ hT) ?_;rintro d s2 ⟨rfl,c,rfl⟩;try refine go ?_
  exact ai ⟨rfl,_,rfl⟩
theorem GK (hT:nB T){n:Int}:cu T H 95 [.int .i64 n] s fun d s1=>s1=s/\sC d:=by
 refine ay hT.t95 ?_;try refine go ?_
 refine ak (qJ hT) ?_;rintro d s2 ⟨rfl,c,rfl⟩;try refine go ?_
 exact ai ⟨rfl,_,rfl⟩
end
theorem Pw {s:St}{e:Env}{x y:bP}{kd:IntKind}{a b:Nat}(hb:0 < b)(hx:x.ev e=some (.int kd (a:Nat)))(hy:y.ev e=some (.int kd (b:Nat))):cB fD e s none (.bin .rem x y)=some (.int kd ((a % b:Nat):Int),s):=by
 have h0: ¬ ((b:Int)=0):=by omega
 have h1:(a:Int).tmod (b:Int)=((a % b:Nat):Int):=by rw [bY (by omega)]; rfl
 simp only [cB,hx,hy,JQ,tB,decide_true,aJ h0,h1,nk]
def jF (s:St)(cm:Nat):Prop:=∃a b c d:Int,s.get cm=some (.var 85 (.agg [.int .i64 a,.int .i64 b,.int .i64 c,.int .i64 d]))
theorem jF.dU {W:Nat->Prop}{s s1:St}{cm:Nat}(h:jF s cm)(hs:s.Ok)(hb:aC W s s1)(hw: ¬ W cm):jF s1 cm:=by
 obtain⟨a,b,c,d,h⟩:=h;exact⟨a,b,c,d,hb.get hs h hw⟩
section
variable {T:Nat->Option dS}{H:au}{s:St}
theorem AG (hT:nH T){h:Int}{log:Nat}(hl:log<=15):cu T H 177 [.int .i64 h,.int .i64 (log:Nat)] s fun d s1=>s1=s/\d= .int .i64 ((gA log h 0).1:Nat):=by
 have hp:=mA hl;have e1:=DM hl;have e4:=lM log h 0;have e5:IntKind.wrap .i64 ((hu h % 2 ^ log:Nat):Int)=((gA log h 0).1:Nat):=by
  show IntKind.wrap .i64 (((gA log h 0).1:Nat):Int)=_;generalize (gA log h 0).1=c at e4 ⊢;generalize 2 ^ log=N at e4 hp;exact wrap_small (by omega) (by omega)
 have d1:=cM ((log:Int) < 0);have d2:=cM ((log:Int) > 20);refine ay hT.t177 ?_;try refine go ?_
 rw [sn h,e1];refine iZ ?_ rfl (Pw hp.1 rfl rfl);try refine go ?_
 rw [e5];exact ai ⟨rfl,rfl⟩
theorem Fe (hT:nH T){h:Int}{log j:Nat}(hl:log<=15):cu T H 181 [.int .i64 ((gA log h j).1:Nat),.int .u64 ((gA log h j).2:Nat),.int .i64 (log:Nat)] s fun d s1=>s1=s/\d= .gJ [.int .i64 ((gA log h (j+1)).1:Nat),.int .u64 ((gA log h (j+1)).2:Nat)]:=by
 have hp:=mA hl;have e1:=DM hl;have q1:=lM log h j;have q2:=rB log h j;have q3:=uB log h j;have q4:IntKind.wrap .u64 ((gA log h j).1:Int)=((gA log h j).1:Int):=by
  generalize (gA log h j).1=c at q1 ⊢;generalize 2 ^ log=N at q1 hp;exact kO (by omega) (by omega)
 have q6:=step_eq q1 q2 hp.2;have q7:(gA log h (j+1)).1=(5 * (gA log h j).1+(gA log h j).2 / 32+1) % 2 ^ log:=by rw [q3]; rfl
 have q8:(gA log h (j+1)).2=(gA log h j).2 / 32:=by rw [q3]; rfl
 have q10:=lM log h (j+1);have q9:IntKind.wrap .i64 ((gA log h (j+1)).1:Int)=((gA log h (j+1)).1:Int):=by
  generalize (gA log h (j+1)).1=c at q10 ⊢;generalize 2 ^ log=N at q10 hp;exact wrap_small (by omega) (by omega)
 rw [← q8]at q6 q7;refine ay hT.t181 ?_;try refine go ?_
 rw [Wi,← q8];simp only [q4];rw [Int.mul_comm _ 5,q6,e1];refine iZ ?_ rfl (Pw hp.1 rfl rfl);rw [← q7];try refine go ?_
 rw [q9];exact ai ⟨rfl,rfl⟩
theorem yT (hT:nH T){log:Nat}(h3:3<=log)(hl:log<=15):cu T H 222 [.int .i64 (log:Nat)] s fun d s1=>s1=s/\d= .int .i64 ((2 * 2 ^ log / 3:Nat):Int):=by
 have hp:=mA hl;have d1:=cM ((log:Int) < 3);have d2:=cM ((log:Int) > 20);have e1:IntKind.wrap .i64 (2 * 2 ^ min (Int.toNat (log:Int)) (IntKind.bits .i64))=((2 * 2 ^ log:Nat):Int):=by
  have e:min (Int.toNat (log:Int)) (IntKind.bits .i64)=log:=by
   show min (Int.toNat (log:Int)) 64=log;rw [cQ]; omega
  have e2:(2:Int) * 2 ^ log=((2 * 2 ^ log:Nat):Int):=by norm_cast
  rw [e,e2];generalize 2 ^ log=N at hp ⊢;exact wrap_small (by omega) (by omega)
 have e2:IntKind.wrap .i64 (((2 * 2 ^ log:Nat):Int).tdiv 3)=((2 * 2 ^ log / 3:Nat):Int):=by
  generalize 2 ^ log=N at hp ⊢;rw [fj (by omega),wrap_small (by omega) (by omega)]; omega
 refine ay hT.t222 ?_;try refine go ?_
 simp only [e1,e2];exact ai ⟨rfl,rfl⟩
theorem Jp (hT:nH T){log:Nat}(hs:s.Ok)(h3:3<=log)(hl:log<=15):cu T H 220 [.int .i64 (log:Nat)] s fun d s1=>d= .gJ [.agg [.int .i64 (log:Nat),.sl s.n 0 (2 ^ log) (2 ^ log)],.int .i64 0]/\(∃st,s1.get s.n=some (.arr 1 3 (ints (List.replicate (2 ^ log) (-1))) st)/\st<=2 ^ log)/\s.n < s1.n/\aC Nil s s1:=by
 have hp:=mA hl;have hw:=JC (log:=log) (by omega);have d1:=cM ((log:Int) < 3);have d2:=cM ((log:Int) > 20);refine ay hT.t220 ?_;try refine go ?_
 rw [hw];generalize hN:2 ^ log=N at hp;refine sd (l1:=N) (c1:=N) (ju (kd:= .i64)) (ju (kd:= .i64)) (an _) (by omega) (by simp only [aL]; omega) ?_;try refine go ?_
 refine eT N (fun j=> [(2,.lv (.agg [.int .i64 0,.vs true 0 []])),(4,.lv (.agg [.int .i64 (log:Nat),.sl s.n 0 N N])),(5,.int .i64 (j:Nat))]) (fun j s' =>aC Nil s s' /\s.n < s'.n/\∃st,s'.get s.n=some (.arr 1 3 (ints (begun N j)) st)/\st<=N) ⟨aC.push (aC.refl hs) _,by rw [St.dN]; omega,0,by rw [St.ba,Iq,ints,pt],aR _⟩ ?_;rintro j s1 hj ⟨b1,n1,st,g1,dT⟩;have ok1:=b1.ok;rcases aG j N with dQ | qc
 ·have hd:=eR ((j:Int) < (N:Nat));have xh:=AX (N:=N) (j:=j) hj;have jg:=fw (begun N j);have oP:(ints (begun N j))[0+j]? =some (.int .i64 ((begun N j)[j]'(by omega))):=by rw [aM]; exact ints_at (ae (by omega))
  have gL:(ints (begun N j)).set (0+j) (.int .i64 (-1))=ints (begun N (j+1)):=by rw [aM,← vA dQ,ints,ints,jk]
  try refine go ?_
  rw [gL];refine dO dQ ⟨aC.set b1 _ n1 (fun h=>by omega),n1,_,St.aN,by omega⟩
 ·have:j=N:=by omega
  subst this;have hd:=cM ((j:Int) < (j:Nat));try refine go ?_
  rw [wh]at g1;exact ai ⟨rfl,⟨st,g1,dT⟩,n1,b1⟩
end
theorem Ep {P:Nat->Prop}:∀n,P n->∃k,k<=n/\P k/\∀i,i < k-> ¬ P i
 | 0,h=>⟨0,an _,h,fun i hi=>absurd hi (lJ _)⟩
 | n+1,h=>by
  by_cases he:∃i,i<=n/\P i
  ·obtain⟨i,h1,h2⟩:=he;obtain⟨k,h3,h4,h5⟩:=Ep i h2;exact⟨k,by omega,h4,h5⟩
  ·exact⟨n+1,an _,h,fun i hi hp=>he ⟨i,by omega,hp⟩⟩
section
variable {T:Nat->Option dS}{H:au}{s:St}{to lo cm log:Nat}{x l0 c0 n3 n4 n6:D}
theorem Bs (hT:nH T){m:Int}(hs:s.Ok)(gt:s.get to=some (.var 274 (.agg [x,l0,c0,n3,n4,.int .i64 m,n6,.ptr cm 0])))(hc:jF s cm)(h3:3<=log)(hl:log<=15):
  cu T H 176 [.ptr to 0,.int .i64 (log:Nat)] s fun _ s1=>(∃m',s1.get to=some (.var 274 (.agg [x,.int .i64 (log:Nat),.sl s.n 0 (2 ^ log) (2 ^ log),n3,n4,.int .i64 m',n6,.ptr cm 0])))/\
   (∃st,s1.get s.n=some (.arr 1 3 (ints (List.replicate (2 ^ log) (-1))) st)/\st<=2 ^ log)/\jF s1 cm/\s.n < s1.n/\aC (fun j=>j=to\/j=cm) s s1:=by
 have lt:=hs.lt gt;obtain⟨a,b,c,d,gc⟩:=hc;have lc:=hs.lt gc;have ne:to≠cm:=by rintro rfl; rw [gt]at gc; simp at gc
 refine ay hT.t176 ?_;try refine go ?_
 refine ak (Jp hT hs h3 hl) ?_;rintro d s1 ⟨rfl,⟨st,g1,dT⟩,n1,b1⟩;have ok1:=b1.ok;have H3:=b1.get hs gt id;have gc1:=b1.get hs gc id;have nn:s.n≠to/\s.n≠cm:=by omega
 try refine go ?_
 refine gU ⟨⟨_,gI⟩,⟨st,gI,dT⟩,⟨_,_,_,_,gI⟩, ?_, ?_⟩
 ·exact n1
 ·have b2:aC (fun j=>j=to\/j=cm) s s1:=b1.mono fun _ h=>h.elim;refine aC.set (aC.set (aC.set b2 _ ?_ ?_) _ ?_ ?_) _ ?_ ?_
  all_goals first
   | (intro _; exact .inl rfl)
   | (intro _; exact .inr rfl)
   | omega
   | (simp only [St.fE]; omega)
theorem H4 (hT:nH T){h:Int}{n st:Nat}{C:List Int}(hs:s.Ok)(gt:s.get to=some (.var 274 (.agg [x,.int .i64 (log:Nat),.sl lo 0 (2 ^ log) (2 ^ log),n3,n4,l0,n6,.ptr cm 0])))(gl:s.get lo=some (.arr 1 3 (ints C) st))(dT:st<=2 ^ log)(hC:C.length=2 ^ log)(h3:3<=log)(hl:log<=15)
  (hem:∃i,i < 13+2 ^ log/\C[(gA log h i).1]? =some (-1)):
  cu T H 224 [.ptr to 0,.int .i64 h,.int .i64 (n:Nat)] s fun _ s1=>∃C',Laid log h (n:Nat) C C' /\(∃st,s1.get lo=some (.arr 1 3 (ints C') st)/\st<=2 ^ log)/\s1.n=s.n/\aC (fun j=>j=lo) s s1:=by
 have hp:=mA hl;have lt:=hs.lt gt; have ll:=hs.lt gl;have jg:=fw C;obtain⟨i,hi,hi2⟩:=hem;obtain⟨K,hK,hK1,hK2⟩:=Ep (P:=fun i=>C[(gA log h i).1]? =some (-1)) i hi2;refine ay hT.t224 ?_;try refine go ?_
 refine ak (AG hT hl) ?_;rintro d s1 ⟨rfl,rfl⟩;try refine go ?_
 rw [sn];refine eT K (fun j=> [(0,.ptr to 0),(2,.int .i64 (n:Nat)),(6,.int .i64 ((gA log h j).1:Nat)),(7,.int .u64 ((gA log h j).2:Nat))]) (fun j s' =>s' =s1) rfl ?_;rintro j s' hj rfl;have hc:=lM log h j;have WN:=Fe (H:=H) (s:=s') (h:=h) (j:=j) hT hl;have zf:(gA log h j).1 < C.length:=by rw [hC]; exact hc
 have oP:(ints C)[0+(gA log h j).1]? =some (.int .i64 (C[(gA log h j).1])):=by rw [aM]; exact ints_at (ae zf)
 have vh:C[(gA log h j).1]? =some C[(gA log h j).1]:=ae zf;rcases aG j K with dQ | qc
 ·have hv:=hK2 j dQ;rw [vh]at hv;generalize C[(gA log h j).1]=v at oP vh hv;have cC:(v != -1)=true:=by simpa using hv
  generalize (gA log h j).1=cc at hc zf oP vh WN;generalize (gA log h j).2=pp at WN;generalize 2 ^ log=N at gt dT hC hp hc;try refine go ?_
  refine ak WN ?_;rintro d s2 ⟨rfl,rfl⟩;try refine go ?_
  exact dO dQ rfl
 ·have:j=K:=by omega
  subst this;rw [vh]at hK1;have hv:C[(gA log h j).1]= -1:=by simpa using hK1
  rw [hv]at oP;have jr:Laid log h (n:Nat) C (C.set (gA log h j).1 (n:Nat)):= .inl ⟨j,by omega,by rw [vh,hv],fun i hi=>hK2 i hi,rfl⟩;have gL:(ints C).set (0+(gA log h j).1) (.int .i64 (n:Nat))=ints (C.set (gA log h j).1 (n:Nat)):=by rw [aM,ints,ints,jk]
  generalize (gA log h j).1=cc at hc zf oP jr gL;generalize (gA log h j).2=pp;have hN:∀N,N=2 ^ log->(0+N=(ints C).length):=fun N h=>by omega
  generalize 2 ^ log=N at gt dT hC hp hc hN;have hN:=hN N;try refine go ?_
  rw [gL];exact gU ⟨_,jr,⟨_,St.aN,by omega⟩,rfl,aC.set (aC.refl hs) _ ll (fun _=>rfl)⟩
end
structure uN (s:St)(to eo lo cm log:Nat)(x:D)(E:List eS)(C:List Int)(b m u:Int):Prop where
 go:s.get to=some (.var 274 (.agg [x,.int .i64 (log:Nat),.sl lo 0 (2 ^ log) (2 ^ log),.int .i64 (E.length:Nat),.int .i64 b,.int .i64 m,.int .i64 u,.ptr cm 0]))
 en:Ad s x eo E
 ce:∃st,s.get lo=some (.arr 1 3 (ints C) st)/\st<=2 ^ log
 la:ff log (gZ E) C
 l3:3<=log
 lh:log<=15
 rm:E.length<=2 * 2 ^ log / 3
 ct:jF s cm
 nn:E=[]->x= .vs true 0 []
theorem ff.room {log:Nat}{hs C:List Int}(h:ff log hs C)(hn:hs.length < 2 ^ log)(g:Int):∃i,i < 13+2 ^ log/\C[(gA log g i).1]? =some (-1):=by
 obtain⟨i,_,h2,h3⟩:=h.empty hn g 0;exact⟨i,by omega,h3⟩
section
variable {T:Nat->Option dS}{H:au}{s:St}{to eo lo cm log:Nat}{x:D}{E:List eS}{C:List Int}{b m u:Int}
def ZA (s:St)(cb:List eS)(j:Nat)(l:D) (s' :St):Prop:=(j=0/\l= .vs true 0 []/\s' =s)\/(j≠0/\l= .sl s.n 0 j j/\s'.get s.n=some (.arr 5 270 ((cb.take j).map cF) 0)/\aC Nil s s')
theorem FQ (hT:nH T){cp st:Nat}{c0 n3 n4 n5 n6 n7:D}{k:List je}{Q:QP}{Ev:Env}(hs:s.Ok)(gt:s.get to=some (.var 274 (.agg [.sl eo 0 E.length cp,c0,n3,n4,n5,n6,n7,.ptr cm 0])))(ge:s.get eo=some (.arr 5 270 (E.map cF) st))(dT:st<=E.length)(PL:E.length<=cp)(hE:E.length<=20000)(cC:E≠ [])
  (C4:Ev.bR [0,4,5]=[(0,.ptr to 0),(4,.vs true 0 []),(5,.int .i64 0)])
  (h:∀z1 z2 z3 z4 z5 z6 z7 s1,s1.get s.n=some (.arr 5 270 (E.map cF) 0)->aC Nil s s1->kZ T H (.exit 0) k ⟨[(16,z1),(15,z2),(14,z3),(13,z4),(12,z5),(11,z6),(10,z7),(0,.ptr to 0),(4,.sl s.n 0 E.length E.length),(5,.int .i64 (E.length:Nat))],[]⟩ s1 Q):
  eI T H (match Ij.1.body with | .seq _ (.seq _ (.seq (.seq _ (.block _ l)) _))=>l | _=> .skip) k ⟨Ev,[]⟩ s Q:=by
 have pQ:=eO E;have lt:=hs.lt gt; have le:=hs.lt ge;have KH:0 < E.length:=dV.2 cC;show eI T H (.loop _ _) k ⟨Ev,[]⟩ s Q;refine cg (fun m env s' =>∃j l,m=E.length - j/\j<=E.length/\env=[(0,.ptr to 0),(4,l),(5,.int .i64 (j:Nat))]/\ZA s E j l s') E.length rfl ⟨0,_,rfl,aR _,C4,.inl ⟨rfl,rfl,rfl⟩⟩ ?_;rintro m env s1 ⟨j,l,rfl,hj,rfl,hI⟩;by_cases dQ:j < E.length
 ·have hd:=eR ((j:Int) < (E.length:Nat));have h0:E[j]? =some E[j]:=ae dQ;have qc:(E.map cF)[0+j]? =some (cF E[j]):=by rw [aM,aE,h0]; rfl
  have zP:((E.take (j+1)).map cF)=(E.take j).map cF++ [cF E[j]]:=by rw [gz,h0,jc]; rfl
  have zu:((E.take j).map cF).length=j:=by rw [aH,cR]; omega
  generalize E[j]=en at qc zP;rcases hI with ⟨rfl,rfl,rfl⟩ | ⟨QX,rfl,g1,b1⟩
  ·try refine go ?_
   refine bg (E.length - 1) (by omega) rfl ⟨1,_,rfl,by omega,rfl,.inr ⟨by decide,rfl, ?_,(aC.refl hs).push _⟩⟩;rw [St.ba,zP]; rfl
  ·have ok1:=b1.ok;have H3:=b1.get hs gt id;have DL:=b1.get hs ge id;have ln:=ok1.lt g1;try refine go ?_
   refine bg (E.length - (j+1)) (by omega) rfl ⟨j+1,_,rfl,by omega,rfl,.inr ⟨by omega,rfl, ?_,aC.set b1 _ ln (fun h=>by omega)⟩⟩;rw [St.aN,zP]; rfl
 ·have CP:j=E.length:=by omega
  subst CP;have hd:=cM ((E.length:Int) < (E.length:Nat));rcases hI with ⟨h0,_⟩ | ⟨QX,rfl,g1,b1⟩
  ·omega
  ·have ok1:=b1.ok;have H3:=b1.get hs gt id;rw [eD]at g1;try refine go ?_
   exact h _ _ _ _ _ _ _ s1 g1 b1
theorem ff.Zf {log:Nat}(hs:List Int):ff log (hs.take 0) (List.replicate (2 ^ log) (-1)):= .nil
theorem Hf (hT:nH T){q st:Nat}{n3 n4 n5 n6:D}{k:List je}{Q:QP}{Ev:Env}(hs:s.Ok)(gt:s.get to=some (.var 274 (.agg [x,.int .i64 (log:Nat),.sl lo 0 (2 ^ log) (2 ^ log),n3,n4,n5,n6,.ptr cm 0])))(gq:s.get q=some (.arr 5 270 (E.map cF) 0))(gl:s.get lo=some (.arr 1 3 (ints (List.replicate (2 ^ log) (-1))) st))(dT:st<=2 ^ log)
  (h3:3<=log)(hl:log<=15)(hE:E.length < 2 ^ log)
  (C4:Ev.bR [0,4,6]=[(0,.ptr to 0),(4,.sl q 0 E.length E.length),(6,.int .i64 0)])
  (h:∀fr s1 C,ff log (gZ E) C->(∃st,s1.get lo=some (.arr 1 3 (ints C) st)/\st<=2 ^ log)->aC (fun j=>j=lo) s s1->kZ T H (.exit 2) k ⟨fr,[]⟩ s1 Q):
  eI T H (match Ij.1.body with | .seq _ (.seq _ (.seq _ (.seq _ (.seq _ (.block _ l)))))=>l | _=> .skip) k ⟨Ev,[]⟩ s Q:=by
 have hp:=mA hl;have pQ:=eO E;have ntl:to≠lo:=by rintro rfl; rw [gt]at gl; cases gl
 have nql:q≠lo:=by rintro rfl; rw [gq]at gl; simp at gl
 show eI T H (.loop _ _) k ⟨Ev,[]⟩ s Q;refine eT E.length (fun j=> [(0,.ptr to 0),(4,.sl q 0 E.length E.length),(6,.int .i64 (j:Nat))]) (fun j s' =>∃C st,s'.get lo=some (.arr 1 3 (ints C) st)/\st<=2 ^ log/\ff log ((gZ E).take j) C/\aC (fun j=>j=lo) s s') ⟨_,_,gl,dT,ff.Zf _,aC.refl hs⟩ ?_ rfl C4;rintro j s1 hj ⟨C,mu,g1,zV,hL,b1⟩;have ok1:=b1.ok;have H3:=b1.get hs gt ntl;have gq1:=b1.get hs gq nql;rcases aG j E.length with dQ | qc
 ·have hd:=eR ((j:Int) < (E.length:Nat));have h0:E[j]? =some E[j]:=ae dQ;have qc:(E.map cF)[0+j]? =some (cF E[j]):=by rw [aM,aE,h0]; rfl
  generalize E[j]=en at h0 qc;have tV:((gZ E).take j).length=j:=by rw [cR,aH]; omega
  have hly:=H4 (H:=H) (h:=en.h) (n:=j) hT ok1 H3 g1 zV hL.len h3 hl (hL.room (by omega) en.h);try refine go ?_
  refine ak hly ?_;rintro d s2 ⟨C',q1,⟨tR,q2,q3⟩,q4,q5⟩;try refine go ?_
  exact dO dQ ⟨C',tR,q2,q3,ff.take hL h0 q1,b1.trans q5⟩
 ·have CP:j=E.length:=by omega
  subst CP;have hd:=cM ((E.length:Int) < (E.length:Nat));rw [eY (by rw [aH]; exact an _)]at hL;try refine go ?_
  exact h _ s1 C hL ⟨mu,g1,zV⟩ b1
theorem Qa (hT:nH T) {log' :Nat}(hs:s.Ok)(h:uN s to eo lo cm log x E C b m u)(cC:E≠ [])(hE:E.length<=20000)(h3:3<=log')(hl:log' <=15)(hr:E.length<=2 * 2 ^ log' / 3):
  cu T H 223 [.ptr to 0,.int .i64 (log' :Nat)] s fun _ s1=>∃eo' lo' C' m',uN s1 to eo' lo' cm log' (.sl eo' 0 E.length E.length) E C' b m' u/\s1.get eo' =some (.arr 5 270 (E.map cF) 0)/\s.n<=eo' /\s.n<=lo' /\aC (fun j=>j=to\/j=cm) s s1:=by
 have hp:=mA hl;have gt:=h.go;have sS:=h.en;have MA:=h.ct;rcases sS with _ | ⟨_,st,E,ge,dT⟩
 ·exact absurd rfl cC
 have PL:=an E.length;have lt:=hs.lt gt; have le:=hs.lt ge;obtain⟨a1,a2,a3,a4,gc⟩:=MA;have lc:=hs.lt gc;have nte:to≠eo:=by rintro rfl; rw [gt]at ge; cases ge
 have nce:cm≠eo:=by rintro rfl; rw [gc]at ge; cases ge
 have ntc:to≠cm:=by rintro rfl; rw [gt]at gc; simp at gc
 refine ay hT.t223 ?_;try refine go ?_
 refine ak (Bs hT hs gt ⟨a1,a2,a3,a4,gc⟩ h3 hl) ?_;rintro d s1 ⟨⟨m',g1⟩,⟨mu,g2,zV⟩,c1,n1,b1⟩;have ok1:=b1.ok;have DL:=b1.get hs ge (by omega);have bn1:=b1.n;try refine go ?_
 refine FQ hT ok1 g1 DL dT PL hE cC rfl ?_;intro z1 z2 z3 z4 z5 z6 z7 s2 g3 b2;have ok2:=b2.ok;have g4:=b2.get ok1 g1 id;have g5:=b2.get ok1 g2 id;have c2:=c1.dU ok1 b2 id;have lq:=ok2.lt g3;have lt2:=ok2.lt g4;have bn2:=b2.n;try refine go ?_
 obtain⟨s3,V3⟩:∃s3,s3=s2.bD to (.var 274 (.agg [.sl s1.n 0 E.length E.length,.int .i64 (log' :Nat),.sl s.n 0 (2 ^ log') (2 ^ log'),.int .i64 (E.length:Nat),.int .i64 b,.int .i64 m',.int .i64 u,.ptr cm 0])):=⟨_,rfl⟩;have b3:aC (fun j=>j=to) s2 s3:=by rw [V3]; exact aC.set (W:=fun j=>j=to) (aC.refl ok2) _ lt2 (fun _=>rfl)
 have g6:s3.get to=some (.var 274 (.agg [.sl s1.n 0 E.length E.length,.int .i64 (log' :Nat),.sl s.n 0 (2 ^ log') (2 ^ log'),.int .i64 (E.length:Nat),.int .i64 b,.int .i64 m',.int .i64 u,.ptr cm 0])):=by rw [V3]; exact St.aN
 have ok3:=b3.ok;have g7:=b3.get ok2 g3 (by omega);have g8:=b3.get ok2 g5 (by omega);have c3:=c2.dU ok2 b3 (bO ntc);have bn3:=b3.n;have Rw:E.length < 2 ^ log' :=by
  have:=hp.1;generalize 2 ^ log' =N at hr this ⊢;omega
 show eI T H _ _ _ (s2.bD to (.var 274 (.agg [.sl s1.n 0 E.length E.length,.int .i64 (log' :Nat),.sl s.n 0 (2 ^ log') (2 ^ log'),.int .i64 (E.length:Nat),.int .i64 b,.int .i64 m',.int .i64 u,.ptr cm 0]))) _;rw [← V3];refine Hf hT ok3 g6 g7 g8 zV h3 hl Rw rfl ?_;rintro fr s4 C' hL ⟨FB,g9,Wf⟩ b4;have g10:=b4.get ok3 g6 (by omega);have g11:=b4.get ok3 g7 (by omega);have c4:=c3.dU ok3 b4 (by omega);try refine go ?_
 refine gU ⟨s1.n,s.n,C',m',⟨g10,.sl _ 0 _ g11 (aR _),⟨FB,g9,Wf⟩,hL,h3,hl,hr,c4,fun h=>absurd h cC⟩,g11,by omega,an _, ?_⟩;exact ((b1.trans (b2.mono fun _ h=>h.elim)).trans (b3.mono fun j hj=> .inl hj)).trans' b4 (fun j hj hl=>by omega)
end
section
variable {T:Nat->Option dS}{H:au}{s:St}{to eo lo cm log:Nat}{x:D}{E:List eS}{C:List Int}{b m u:Int}
def yf (s:St)(to eo lo cm:Nat)(E:List eS)(h k v:Int)(s1:St):Prop:=∃eo' lo' log' x' C' b' m' u' bb,uN s1 to eo' lo' cm log' x' (E++ [⟨h,k,v,bb⟩]) C' b' m' u' /\(E≠ []/\eo' =eo\/s.n<=eo')/\(lo' =lo\/s.n<=lo')/\aC (fun j=>j=to\/(E≠ []/\j=eo)\/j=lo\/j=cm) s s1
theorem Je (E:List eS)(e:eS):(E++ [e]).map cF=E.map cF++ [cF e]:=by simp
theorem uN.ne (h:uN s to eo lo cm log x E C b m u):to≠lo/\to≠cm/\lo≠cm/\(E≠ []->eo≠to/\eo≠lo/\eo≠cm):=by
 obtain⟨st,g1,_⟩:=h.ce;obtain⟨a1,a2,a3,a4,g2⟩:=h.ct;have g3:=h.go;refine⟨?_, ?_, ?_,fun hE=> ?_⟩
 ·rintro rfl; rw [g3]at g1; cases g1
 ·rintro rfl; rw [g3]at g2; simp at g2
 ·rintro rfl; rw [g1]at g2; cases g2
 ·rcases h.en with _ | ⟨_,tR,E,g4,_⟩
  ·exact absurd rfl hE
  ·refine⟨?_, ?_, ?_⟩
   ·rintro rfl; rw [g3]at g4; cases g4
   ·rintro rfl; rw [g1]at g4; simp at g4
   ·rintro rfl; rw [g2]at g4; cases g4
@[reducible] def sR (eo lo log cm n:Nat) (b m u:Int):D:= .agg [.sl eo 0 n n,.int .i64 (log:Nat),.sl lo 0 (2 ^ log) (2 ^ log),.int .i64 (n:Nat),.int .i64 b,.int .i64 m,.int .i64 u,.ptr cm 0]
theorem x7 (hT:nH T){p:St}{eo0 lo0 st0 st:Nat} {h ky v b0 b' m' u' :Int}(ht:ff log (gZ E) C)(h3:3<=log)(hl:log<=15)(ct:jF p cm)(okp:p.Ok)(gt:p.get to=some (.var 274 (sR eo lo log cm (E.length+1) b' m' u')))(ge:p.get eo=some (.arr 5 270 (E.map cF++ [cF ⟨h,ky,v,b0⟩]) st0))(GQ:st0<=E.length)(gl:p.get lo=some (.arr 1 3 (ints C) st))(dT:st<=2 ^ log)(hr:E.length < 2 * 2 ^ log / 3)(he:E≠ []/\eo=eo0\/s.n<=eo)(Kx:lo=lo0\/s.n<=lo)(bp:aC (fun j=>j=to\/(E≠ []/\j=eo0)\/j=lo0\/j=cm) s p):
  cu T H 224 [.ptr to 0,.int .i64 h,.int .i64 (E.length:Nat)] p fun _ s1=>yf s to eo0 lo0 cm E h ky v s1:=by
 have hp:=mA hl;have Rw:(gZ E).length < 2 ^ log:=by
  rw [aH];have:=hp.1;generalize 2 ^ log=N at hr this ⊢;omega
 have ntl:to≠lo:=by rintro rfl; rw [gt]at gl; cases gl
 have nel:eo≠lo:=by rintro rfl; rw [ge]at gl; simp at gl
 have ncl:cm≠lo:=by
  obtain⟨a1,a2,a3,a4,g⟩:=ct;rintro rfl; rw [g]at gl; cases gl
 refine (H4 (h:=h) (n:=E.length) hT okp gt gl dT ht.len h3 hl (ht.room Rw h)).mono ?_;rintro d s2 ⟨C',q1,⟨st',q2,q3⟩,q4,q5⟩;have hlen:(E++ [(⟨h,ky,v,b0⟩:eS)]).length=E.length+1:=by rw [aB,aW]
 have sS:Ad s2 (.sl eo 0 (E.length+1) (E.length+1)) eo (E++ [⟨h,ky,v,b0⟩]):=by
  have:=Ad.sl (s:=s2) eo st0 (E++ [(⟨h,ky,v,b0⟩:eS)]) (by rw [Je]; exact q5.get okp ge nel) (by omega);rwa [hlen]at this
 refine⟨eo,lo,log,_,C',b',m',u',b0,⟨by rw [hlen]; exact q5.get okp gt ntl,sS,⟨st',q2,q3⟩, ?_,h3,hl,by omega,ct.dU okp q5 ncl,fun h=>by simp at h⟩,he,Kx,bp.trans' q5 fun j hj hn=> ?_⟩
 ·have:=ff.snoc ht (h:=h) (C' :=C') (by rw [aH]; exact q1);rwa [show gZ (E++ [(⟨h,ky,v,b0⟩:eS)])=gZ E++ [h] by simp]
 ·rcases Kx with rfl | h'
  ·exact .inr (.inr (.inl hj))
  ·omega
theorem R7 (hT:nH T){h ky v:Int}{st0:Nat}(hs:s.Ok)(ht:uN s to eo lo cm log (.sl eo 0 E.length E.length) E C b m u)(ge:s.get eo=some (.arr 5 270 (E.map cF) st0))(GQ:st0<=E.length)(cC:E≠ [])(hr:E.length < 2 * 2 ^ log / 3)(hE:E.length<=20000):
  cu T H 183 [.ptr to 0,.int .i64 h,.int .i64 ky,.int .i64 v] s fun d s1=>d= .gJ [.int .i64 (E.length:Nat),.int .i64 0]/\yf s to eo lo cm E h ky v s1:=by
 have hp:=mA ht.lh;have gt:=ht.go;obtain⟨st,gl,dT⟩:=ht.ce;obtain⟨n1,n2,n3,n4⟩:=ht.ne;obtain⟨n5,n6,n7⟩:=n4 cC;have lt:=hs.lt gt; have le:=hs.lt ge; have ll:=hs.lt gl;have pQ:=eO E;have hd:=cM ((E.length:Int) >= ((2 * 2 ^ log / 3:Nat):Int));have w1:IntKind.wrap .i64 ((E.length:Int)+1)=((E.length+1:Nat):Int):=by rw [wrap_small (by omega) (by omega)]; omega
 have Rw:(gZ E).length < 2 ^ log:=by
  rw [aH];have:=hp.1;generalize 2 ^ log=N at hr this ⊢;omega
 refine ay hT.t183 ?_;try refine go ?_
 refine bf (yT hT ht.l3 ht.lh) ?_;rintro d s1 ⟨rfl,rfl⟩;refine⟨rfl,by simp [lost,eN.kind,cJ,dE,cE,aI,bz,bz.cV,fZ,bP.ev,Env.get,cP,D.flat,D.isAgg,cL,D.fv,D.beq,az,Obj.aV,bC,bu,D.bV,D.aV,gt,ge], ?_⟩;try refine go ?_
 simp only [hd];try refine go ?_
 refine pD (fun p=>p.Ok/\p.get to=some (.var 274 (sR eo lo log cm (E.length+1) (IntKind.wrap .i64 (b+1)) m (IntKind.wrap .i64 (u+1))))/\p.get eo=some (.arr 5 270 (E.map cF++ [cF ⟨h,ky,v,b⟩]) st0)/\p.get lo=some (.arr 1 3 (ints C) st)/\aC (fun j=>j=to\/j=eo) s1 p) ⟨oI,gI,gI,gI, ?_⟩ ?_
 ·refine aC.set (aC.set (aC.set (aC.set (aC.set (aC.up (aC.refl hs) 1) _ ?_ ?_) _ ?_ ?_) _ ?_ ?_) _ ?_ ?_) _ ?_ ?_
  all_goals first
   | (intro _; exact .inl rfl)
   | (intro _; exact .inr rfl)
   | (simp only [St.fE,St.jw]; omega)
 rintro p ⟨okp,H3,DL,Qv,bq⟩
 have bp:aC (fun j=>j=to\/(E≠ []/\j=eo)\/j=lo\/j=cm) s1 p:=bq.mono fun j hj=>by
  rcases hj with hj | hj
  ·exact .inl hj
  ·exact .inr (.inl ⟨cC,hj⟩)
 refine ak (x7 hT ht.la ht.l3 ht.lh (ht.ct.dU hs bq (by omega)) okp H3 DL GQ Qv dT hr (.inl ⟨cC,rfl⟩) (.inl rfl) bp) ?_;rintro d s2 hA;try refine go ?_
 exact ai ⟨rfl,hA⟩
theorem Mb (hT:nH T){h ky v:Int}(hs:s.Ok)(ht:uN s to eo lo cm log (.vs true 0 []) [] C b m u):
  cu T H 183 [.ptr to 0,.int .i64 h,.int .i64 ky,.int .i64 v] s fun d s1=>d= .gJ [.int .i64 0,.int .i64 0]/\yf s to eo lo cm [] h ky v s1:=by
 have hp:=mA ht.lh;have gt:=ht.go;obtain⟨st,gl,dT⟩:=ht.ce;obtain⟨n1,n2,n3,n4⟩:=ht.ne;have lt:=hs.lt gt; have ll:=hs.lt gl;have h8:8<=2 ^ log:=(cZ (by decide) ht.l3:2 ^ 3<=2 ^ log);have hd:decide ((([]:List D).length:Int) >= ((2 * 2 ^ log / 3:Nat):Int))=false:=bk (by simp only [bL]; omega);refine ay hT.t183 ?_;try refine go ?_
 refine bf (yT hT ht.l3 ht.lh) ?_;rintro d s1 ⟨rfl,rfl⟩;refine⟨rfl,by simp [lost,eN.kind,cJ,dE,cE,aI,bz,bz.cV,fZ,bP.ev,Env.get,cP,D.flat,D.isAgg,cL,D.fv,D.beq,az,Obj.aV,bC,bu,D.bV,D.aV,gt], ?_⟩;try refine go ?_
 simp only [hd];try refine go ?_
 refine pD (fun p=>p.Ok/\p.get to=some (.var 274 (sR s1.n lo log cm 1 (IntKind.wrap .i64 (b+1)) m (IntKind.wrap .i64 (u+1))))/\p.get s1.n=some (.arr 5 270 [cF ⟨h,ky,v,b⟩] 0)/\p.get lo=some (.arr 1 3 (ints C) st)/\aC (fun j=>j=to) s1 p) ⟨oI,gI,gI,gI, ?_⟩ ?_
 ·refine aC.set (aC.set (aC.set (aC.set (aC.set (aC.up (aC.refl hs) 1) _ ?_ ?_) _ ?_ ?_) _ ?_ ?_) _ ?_ ?_) _ ?_ ?_
  all_goals first
   | (intro _; rfl)
   | (simp only [St.fE,St.jw]; omega)
   | (intro h; exfalso; omega)
 rintro p ⟨okp,H3,DL,Qv,bq⟩;refine ak (x7 (E:=[]) (eo:=s1.n) (eo0:=eo) (st0:=0) hT ht.la ht.l3 ht.lh (ht.ct.dU hs bq (by omega)) okp H3 DL (aR _) Qv dT (by rw [bL]; omega) (.inr (an _)) (.inl rfl) (bq.mono fun j hj=> .inl hj)) ?_;rintro d s2 hA;try refine go ?_
 exact ai ⟨rfl,hA⟩
theorem KZ {log n:Nat}(h3:3<=log)(h:n=2 * 2 ^ log / 3)(hE:n<=20000):log<=14/\3 * n<=2 ^ (log+1)/\(∀j,3<=j->j < log+1->2 ^ j < 3 * n)/\n < 2 * 2 ^ (log+1) / 3:=by
 have e8:8<=2 ^ log:=(cZ (by decide) h3:2 ^ 3<=2 ^ log);have e1:2 ^ (log+1)=2 * 2 ^ log:=by rw [jl,jQ]
 refine⟨?_,by omega,fun j hj hl=> ?_,by omega⟩
 ·rcases aG log 15 with h1 | h1
  ·omega
  ·have:2 ^ 15<=2 ^ log:=cZ (by decide) h1;omega
 ·have:2 ^ j<=2 ^ log:=cZ (by decide) (by omega);omega
theorem Jx (hT:nH T){h ky v:Int}{st0:Nat}(hs:s.Ok)(ht:uN s to eo lo cm log (.sl eo 0 E.length E.length) E C b m u)(ge:s.get eo=some (.arr 5 270 (E.map cF) st0))(GQ:st0<=E.length)(cC:E≠ [])(hr:E.length=2 * 2 ^ log / 3)(hE:E.length<=20000):
  cu T H 183 [.ptr to 0,.int .i64 h,.int .i64 ky,.int .i64 v] s fun d s1=>d= .gJ [.int .i64 (E.length:Nat),.int .i64 0]/\yf s to eo lo cm E h ky v s1:=by
 have hp:=mA ht.lh;have gt:=ht.go;obtain⟨acW,k1,k2,k3⟩:=KZ ht.l3 hr hE;have h3:=ht.l3;have pQ:=eO E;have hd:=eR ((E.length:Int) >= ((2 * 2 ^ log / 3:Nat):Int));have w3:IntKind.wrap .i64 (3 * (E.length:Int))=((3 * E.length:Nat):Int):=by rw [wrap_small (by omega) (by omega)]; omega
 have dK:=Qa (H:=H) hT (log' :=log+1) hs ht cC hE (by omega) (by omega) (by omega);have d20:=cM (((log+1:Nat):Int) > 20);refine ay hT.t183 ?_;try refine go ?_
 refine bf (yT hT ht.l3 ht.lh) ?_;rintro d s1 ⟨rfl,rfl⟩;refine⟨rfl,by simp [lost,eN.kind,cJ,dE,cE,aI,bz,bz.cV,fZ,bP.ev,Env.get,cP,D.flat,D.isAgg,cL,D.fv,D.beq,az,Obj.aV,bC,bu,D.bV,D.aV,gt,ge], ?_⟩;try refine go ?_
 simp only [hd];try refine go ?_
 refine eT (log+1 - 3) (fun j=> [(0,.ptr to 0),(1,.int .i64 h),(2,.int .i64 ky),(3,.int .i64 v),(10,.int .i64 (3+j:Nat))]) (fun j s' =>s' =s1) rfl ?_;rintro j s' hj rfl;have w4:=JC (log:=3+j) (by omega);rcases aG j (log+1 - 3) with dQ | qc
 ·have Gn:decide (((2 ^ (3+j):Nat):Int) < ((3 * E.length:Nat):Int))=true:=cK (by have:=k2 (3+j) (by omega) (by omega); omega);try refine go ?_
  simp only [w3,w4,Gn];try refine go ?_
  exact dO dQ rfl
 ·have CP:3+j=log+1:=by omega
  rw [CP]at w4;have Gn:=cM (((2 ^ (log+1):Nat):Int) < ((3 * E.length:Nat):Int));rw [CP];try refine go ?_
  simp only [w3,w4,Gn];try refine go ?_
  refine ak dK ?_;rintro d s2 ⟨eo',lo',C',m',sO,ge2,he,Kx,b2⟩;have ok2:=b2.ok;have W4:=sO.go;obtain⟨st,gl,dT⟩:=sO.ce;obtain⟨n1,n2,n3,n4⟩:=sO.ne;obtain⟨n5,n6,n7⟩:=n4 cC;have lt:=ok2.lt W4; have le:=ok2.lt ge2; have ll:=ok2.lt gl;try refine go ?_
  refine pD (fun p=>p.Ok/\p.get to=some (.var 274 (sR eo' lo' (log+1) cm (E.length+1) (IntKind.wrap .i64 (b+1)) m' (IntKind.wrap .i64 (u+1))))/\p.get eo' =some (.arr 5 270 (E.map cF++ [cF ⟨h,ky,v,b⟩]) 0)/\p.get lo' =some (.arr 1 3 (ints C') st)/\aC (fun j=>j=to\/j=eo') s2 p) ⟨oI,gI,gI,gI, ?_⟩ ?_
  ·refine aC.set (aC.set (aC.set (aC.set (aC.set (aC.up (aC.refl ok2) 1) _ ?_ ?_) _ ?_ ?_) _ ?_ ?_) _ ?_ ?_) _ ?_ ?_
   all_goals first
    | (intro _; exact .inl rfl)
    | (intro _; exact .inr rfl)
    | (simp only [St.fE,St.jw]; omega)
  rintro p ⟨okp,H3,DL,Qv,bq⟩
  have bp:aC (fun j=>j=to\/(E≠ []/\j=eo)\/j=lo\/j=cm) s' p:=(b2.trans' bq fun j hj hn=>by
   rcases hj with hj | hj
   ·exact .inl hj
   ·omega).mono fun j hj=>by
   rcases hj with hj | hj
   ·exact .inl hj
   ·exact .inr (.inr (.inr hj))
  refine ak (x7 (s:=s') hT sO.la sO.l3 sO.lh (sO.ct.dU ok2 bq (by omega)) okp H3 DL (aR _) Qv dT k3 (.inr he) (.inr Kx) bp) ?_;rintro d s3 hA;try refine go ?_
  exact ai ⟨rfl,hA⟩
theorem PZ (hT:nH T){h ky v:Int}(hs:s.Ok)(ht:uN s to eo lo cm log x E C b m u)(hE:E.length<=20000):
  cu T H 183 [.ptr to 0,.int .i64 h,.int .i64 ky,.int .i64 v] s fun d s1=>d= .gJ [.int .i64 (E.length:Nat),.int .i64 0]/\yf s to eo lo cm E h ky v s1:=by
 have sS:=ht.en;have hrm:=ht.rm;rcases sS with _ | ⟨_,st,E,ge,dT⟩
 ·exact Mb hT hs ht
 ·by_cases cC:E=[]
  ·have:=ht.nn cC;cases this
  ·rcases aG E.length (2 * 2 ^ log / 3) with h1 | h1
   ·exact R7 hT hs ht ge dT cC h1 hE
   ·exact Jx hT hs ht ge dT cC (by omega) hE
end
@[reducible] def W0 (to:Nat) (h u:Int) (log J:Nat) (ov:Bool) (vi la:Int):D:= .agg [.ptr to 0,.int .i64 h,.int .i64 u,.int .i64 ((gA log h J).1:Nat),.int .u64 ((gA log h J).2:Nat),.bool ov,.int .i64 vi,.int .i64 la]
theorem _root_.List.set_getElem?_self' {α:Type}{L:List α}{n:Nat}{a:α}(h:L[n]? =some a):L.set n a=L:=by
 obtain⟨h1,rfl⟩:=af.mp h;exact List.set_getElem_self h1
section
variable {T:Nat->Option dS}{H:au}{s:St}{to eo lo cm log:Nat}{x:D}{E:List eS}{C:List Int}{b m u:Int}
theorem uN.dU {W:Nat->Prop}{s1:St}(h:uN s to eo lo cm log x E C b m u)(hs:s.Ok)(hb:aC W s s1)(h1: ¬ W to)(h2:E≠ []-> ¬ W eo)(h3: ¬ W lo)(h4:jF s1 cm):uN s1 to eo lo cm log x E C b m u:=by
 obtain⟨st,g1,g2⟩:=h.ce;refine⟨hb.get hs h.go h1, ?_,⟨st,hb.get hs g1 h3,g2⟩,h.la,h.l3,h.lh,h.rm,h4,h.nn⟩;have sS:=h.en; have PA:=h.nn;rcases sS with _ | ⟨_,st,E,ge,dT⟩
 ·exact .nil eo
 ·exact .sl eo st E (hb.get hs ge (h2 fun h0=>by have:=PA h0; cases this)) dT
theorem LG (hT:nH T){h:Int}(hs:s.Ok)(ht:uN s to eo lo cm log x E C b m u):
  cu T H 137 [.ptr to 0,.int .i64 h] s fun d s1=>d= .ptr s.n 0/\s1.get s.n=some (.var 320 (W0 to h u log 0 false 0 (-1)))/\s1.n=s.n+1/\aC Nil s s1:=by
 have gt:=ht.go;have lt:=hs.lt gt;refine ay hT.t137 ?_;try refine go ?_
 refine bf (AG hT ht.lh) ?_;rintro d s1 ⟨rfl,rfl⟩;have H3:(s.up 1).get to=_:=St.CA gt;refine⟨rfl,by simp [lost,eN.kind,cJ,dE,cE,aI,bz,bz.cV,fZ,bP.ev,Env.get,cP,D.flat,D.isAgg,cL,D.fv,D.beq,az,Obj.aV,bC,bu,D.bV,D.aV,H3], ?_⟩;have hb:aC Nil s ((s.up 1).bD (s.n+0) (.var 320 (W0 to h u log 0 false 0 (-1)))):=aC.set (W:=Nil) (aC.up (aC.refl hs) 1) _ (by rw [St.jw]; omega) (fun h=>by omega);try refine go ?_
 simp only [sn];exact ai ⟨rfl,St.aN,rfl,hb⟩
theorem JG (hT:nH T){n:Nat}(ht:uN s to eo lo cm log x E C b m u)(hn:n < E.length):cu T H 221 [.ptr to 0,.int .i64 (n:Nat)] s fun d s1=>d= .bool true/\s1=s:=by
 have gt:=ht.go;have sS:=ht.en;rcases sS with _ | ⟨_,st,E,ge,dT⟩
 ·cases hn
 have pQ:=eO E;have d1:=eR ((n:Int) >= 0);have d2:=eR ((n:Int) < (E.length:Nat));have qc:(E.map cF)[0+n]? =some (cF E[n]):=by rw [aM,aE,ae hn]; rfl
 generalize E[n]=en at qc;refine ay hT.t221 ?_;try refine go ?_
 exact ai ⟨rfl,rfl⟩
theorem Se (hT:nH T){n:Nat}{v:Int}(hs:s.Ok)(ht:uN s to eo lo cm log x E C b m u)(hn:n < E.length):
  cu T H 178 [.ptr to 0,.int .i64 (n:Nat),.int .i64 v] s fun d s1=>d= .int .i64 0/\(∃E',uN s1 to eo lo cm log x E' C b m u/\E'.length=E.length/\E'.map eS.k=E.map eS.k)/\aC (fun j=>E≠ []/\j=eo) s s1/\s1.n=s.n:=by
 have gt:=ht.go;have Z2:=JG (H:=H) hT ht hn;obtain⟨n1,n2,n3,n4⟩:=ht.ne;have sS:=ht.en;have MA:=ht.ct;obtain⟨stl,gl,Xz⟩:=ht.ce;rcases sS with _ | ⟨_,st,E,ge,dT⟩
 ·cases hn
 have le:=hs.lt ge;have pQ:=eO E;have cC:E≠ []:=by rintro rfl; cases hn
 obtain⟨n5,n6,n7⟩:=n4 cC;obtain⟨en,hE⟩:∃en,E[n]? =some en:=⟨_,ae hn⟩;have qc:(E.map cF)[0+n]? =some (cF en):=by rw [aM,aE,hE]; rfl
 obtain⟨E',hE'⟩:∃E',E' =E.set n ⟨en.h,en.k,v,en.b⟩:=⟨_,rfl⟩;have e1:(E.map cF).set (0+n) (cF ⟨en.h,en.k,v,en.b⟩)=E'.map cF:=by rw [aM,hE',jk]
 have e2:E'.length=E.length:=by rw [hE',gE]
 have e3:gZ E' =gZ E:=by
  rw [hE'];show (E.set n _).map eS.h=E.map eS.h;rw [jk];exact List.set_getElem?_self' (by rw [aE,hE]; rfl)
 have e4:E'.map eS.k=E.map eS.k:=by
  rw [hE',jk];exact List.set_getElem?_self' (by rw [aE,hE]; rfl)
 refine ay hT.t178 ?_;try refine go ?_
 refine ak Z2 ?_;rintro d s1 ⟨rfl,rfl⟩;try refine go ?_
 refine CB (fun p=>p.get eo=some (.arr 5 270 (E'.map cF) (E.map cF).length)/\aC (fun j=>E≠ []/\j=eo) s1 p/\p.n=s1.n) ⟨by rw [← e1]; exact St.aN,aC.set (aC.refl hs) _ le (fun _=>⟨cC,rfl⟩),rfl⟩ ?_;rintro p ⟨g1,b1,np⟩;refine ai ⟨rfl,⟨E',⟨?_, ?_,⟨stl,b1.get hs gl (fun h=>by omega),Xz⟩, ?_,ht.l3,ht.lh, ?_,MA.dU hs b1 (fun h=>by omega),fun h=> ?_⟩,e2,e4⟩,b1,np⟩
 ·rw [e2]; exact b1.get hs gt (fun h=>by omega)
 ·rw [← e2]; exact .sl eo _ E' g1 (by rw [e2,pQ]; exact an _)
 ·rw [e3]; exact ht.la
 ·rw [e2]; exact ht.rm
 ·rw [h]at e2; exact absurd (ib.mp e2.symm) cC
end
end Go.Proofs.Tab
