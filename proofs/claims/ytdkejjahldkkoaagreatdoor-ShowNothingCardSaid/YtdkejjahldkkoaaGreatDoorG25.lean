/- Part. -/
import Derived.Test.YtdkejjahldkkoaaGreatDoorG24
set_option linter.unusedSectionVars false
set_option maxRecDepth 100000
set_option maxHeartbeats 4000000
set_option linter.unusedSimpArgs false
set_option linter.unusedVariables false
namespace Go.Proofs.Tab
open Go Go.Ab Go.Ab.Sm
section
variable {T:Nat->Option dS}{H Y:au}
noncomputable def N7:AC:=match Md.1.body with
 | .seq _ (.seq _ (.seq _ (.seq (.block _ c) _)))=>c
 | _=> .skip
noncomputable def J2:AC:=match N7 with
 | .loop _ a=>a
 | _=> .skip
theorem FN (hT:TT T){s:St}{so to eo co ro log st J:Nat}{b:Bool}{x:D}{E:List eS}{C:List Int}{h told v:Int}{k:List je}{Q:QP}(hs:s.Ok)(ht:kA s to eo co ro log b st x E C)(hE:E.length<=30000)(wL: -1<=told/\told < 30000)
  (gs:s.get so=some (.var 349 (qZ to h log J (E.length:Nat) (J:Nat) told false)))(hJ:J<=100000)(hv:C[(gA log h J).1]? =some v)(neso:E≠ []->eo≠so)
  (hQ1:v= -1->∀s1 env,aC (fun j=>j=so) s s1->kZ T H (.exit 0) k ⟨env,[]⟩ s1 Q)
  (hQ2:0<=v-> ¬ (told < v/\∃e,E[v.toNat]? =some e/\e.h=h)->∀s1 env,env.bR [0,6]=[(0,.ptr so 0),(6,.ptr so 0)]->aC (fun j=>j=so) s s1->s1.get so=some (.var 349 (qZ to h log (J+1) (E.length:Nat) (J+1:Nat) told false))->kZ T H .normal k ⟨env,[]⟩ s1 Q)
  (hQ3:∀w:Nat,v=(w:Int)->told < v->(∃e,E[w]? =some e/\e.h=h)->∀s1 env,Env.get env 2=some (.int .i64 (w:Nat))->Env.get env 3=some (.bool true)->aC (fun j=>j=so) s s1->s1.get so=some (.var 349 (qZ to h log (J+1) (E.length:Nat) (J+1:Nat) (w:Nat) false))->kZ T H .ret k ⟨env,[]⟩ s1 Q):
  eI T H J2 k ⟨[(0,.ptr so 0),(6,.ptr so 0)],[]⟩ s Q:=by
 have gt:=ht.go;have hc:=ht.ce;have CR:∀v∈C, -1<=v/\v < 32768:=fun v hv=>by have:=ht.cv v hv; omega
 have SB:=ht.cv v (aK hv);have nst:to≠so:=by rintro rfl; rw [gt]at gs; simp at gs
 have ncs:co≠so:=by rintro rfl; have:=hc.go; rw [this]at gs; simp at gs
 have nrs:ro≠so:=by rintro rfl; have:=hc.gr; rw [this]at gs; cases gs
 have ls:=hs.lt gs;have kM:=HQ (H:=H) (i:=(gA log h J).1) hT hc (lM _ _ _) CR;have kL:∀d:D,aC (fun j=>j=so) s (s.bD so (.var 349 d)):=fun d=>aC.set (W:=fun j=>j=so) (aC.refl hs) _ ls (fun _=>rfl);have jJ:∀d d2:D,aC (fun j=>j=so) s ((s.bD so (.var 349 d)).bD so (.var 349 d2)):=fun d d2=>aC.set (W:=fun j=>j=so) (kL d) _ ls (fun _=>rfl);have hw:IntKind.wrap .i64 ((J:Int)+1)=((J+1:Nat):Int):=by rw [wrap_small (by omega) (by omega)]; omega
 have vh:∀d:D,(s.bD so (.var 349 d)).get to=_:=fun d=>(kL d).get hs gt nst;show eI T H (.seq _ _) _ _ s _;try refine go ?_
 refine bf kM ?_;rintro d s2 ⟨rfl,v',CL,rfl⟩;rw [hv]at CL;simp only [aa]at CL;subst CL;refine⟨rfl,by simp [lost,eN.kind,cJ,dE,cE,aI,bz,bz.cV,fZ,bP.ev,Env.get,cP,D.flat,D.isAgg,cL,D.fv,D.beq,az,Obj.aV,bC,bu,D.bV,D.aV,gs,gt], ?_⟩;try refine go ?_
 refine ak (Ki hT) ?_;rintro d s3 rfl;try refine go ?_
 refine cY (fun zI=> ?_) (fun zI=> ?_)
 ·have qw:v= -1:=by simpa using zI
  try refine go ?_
  exact hQ1 qw _ _ (jJ _ _)
 ·have kq:0<=v:=by
   have: ¬ v= -1:=by simpa using zI
   omega
  obtain⟨w,rfl⟩:=Int.eq_ofNat_of_zero_le kq;have J6:w < E.length:=by omega
  have hE0:E≠ []:=by rintro rfl; simp at J6
  have cC:=neso hE0;have PK:E[w]? =some E[w]:=ae J6;generalize E[w]=en at PK;have hon:cu T H 214 [.ptr so 0] (s2.bD so (.var 349 (qZ to h log J (E.length:Nat) (J+1:Nat) told false))) _:=Zz (H:=H) hT (kL _).ok (vh _) (hc.dU hs (kL _) ncs nrs) St.aN;have he:=ht.en;rcases he with _ | ⟨_,st0,E,g,dT⟩
  ·exact absurd rfl hE0
  have qc:(E.map cF)[0+w]? =some (cF en):=by rw [aM,aE,PK]; rfl
  have pQ:=eO E;try refine go ?_
  refine ak hon ?_;rintro d s4 ⟨g4,q4⟩;have kk:aC (fun j=>j=so) s2 s4:=(kL _).trans q4;have gt4:=kk.get hs gt nst;have ge4:=kk.get hs g cC;have ok4:=kk.ok;have ls4:=ok4.lt g4;clear hon kM;rcases kS told (w:Int) with Me | Me
  ·have hd:decide ((w:Int) > told)=true:=cK Me;try refine go ?_
   simp only [hd];try refine go ?_
   refine cY (fun qd=> ?_) (fun qd=> ?_)
   ·have hh:en.h=h:=by simpa using qd
    try refine go ?_
    have xd:∀d:D,aC (fun j=>j=so) s4 (s4.bD so (.var 349 d)):=fun d=>aC.set (W:=fun j=>j=so) (aC.refl ok4) _ ls4 (fun _=>rfl);exact hQ3 w rfl Me ⟨en,PK,hh⟩ _ _ rfl rfl (kk.trans (xd _)) St.aN
   ·have hh:en.h≠h:=by simpa using qd
    try refine go ?_
    exact hQ2 kq (fun ⟨_,e,Ua,hh2⟩=>by rw [cQ,PK]at Ua; simp only [aa]at Ua; subst Ua; exact hh hh2) _ _ rfl kk g4
  ·have hd:=cM ((w:Int) > told);try refine go ?_
   simp only [hd];try refine go ?_
   exact hQ2 kq (fun hx=>by omega) _ _ rfl kk g4
theorem QM (hT:TT T){s:St}{so to eo co ro log st J:Nat}{b:Bool}{x:D}{E:List eS}{C:List Int}{h told:Int}(hs:s.Ok)(ht:kA s to eo co ro log b st x E C)(hE:E.length<=30000)(wL: -1<=told/\told < 30000)
  (gs:s.get so=some (.var 349 (qZ to h log J (E.length:Nat) (J:Nat) told false)))(TD:Seen log h E C J told)(neso:E≠ []->eo≠so):
  cu T H 170 [.ptr so 0] s fun d s1=>aC (fun j=>j=so) s s1/\((∃v:Nat,d= .gJ [.int .i64 (v:Nat),.bool true]/\rU E h told (some v)/\∃J',s1.get so=some (.var 349 (qZ to h log J' (E.length:Nat) (J' :Nat) (v:Nat) false))/\Seen log h E C J' (v:Nat))\/
   (d= .gJ [.int .i64 (-1),.bool false]/\rU E h told none)):=by
 have gt:=ht.go;have hc:=ht.ce;have abn:=hc.pow;have nst:to≠so:=by rintro rfl; rw [gt]at gs; simp at gs
 have ls:=hs.lt gs;have hn:E.length < 2 ^ log:=by have:=ht.rm; omega
 obtain⟨i0,i1,i2,i3⟩:=ht.la.empty (by rw [aH]; exact hn) h 0;have kL:∀d:D,aC (fun j=>j=so) s (s.bD so (.var 349 d)):=fun d=>aC.set (W:=fun j=>j=so) (aC.refl hs) _ ls (fun _=>rfl)
 have hJ:∀ {s' :St} {J' :Nat},Seen log h E C J' told->J' <=i0:=fun hq=>by
  rcases aG i0 _ with h1 | h1
  ·exact absurd i3 (hq.1 i0 h1)
  ·exact h1
 have LQ:(((E.length:Nat):Int) !=((E.length:Nat):Int))=false:=bne_self_eq_false _;refine ay hT.t170 ?_;try refine go ?_
 simp only [LQ];refine cg (fun m env s' =>env=[(0,.ptr so 0),(6,.ptr so 0)]/\∃J',m=i0+1 - J' /\Seen log h E C J' told/\s'.get so=some (.var 349 (qZ to h log J' (E.length:Nat) (J' :Nat) told false))/\aC (fun j=>j=so) s s') (i0+1 - J) rfl ⟨rfl,J,rfl,TD,St.aN,kL _⟩ ?_;rintro m env s' ⟨rfl,J',rfl,w1,w2,w3⟩;have hJ' :=hJ (s' :=s') w1;have Rn :kA s' to eo co ro log b st x E C:=by
  refine⟨w3.get hs gt nst,ht.en.dU hs w3 (fun es st hq=> ?_),hc.dU hs w3 ?_ ?_,ht.la,ht.rm⟩
  ·rintro rfl; rw [gs]at hq; cases hq
  ·rintro rfl; have:=hc.go; rw [this]at gs; simp at gs
  ·rintro rfl; have:=hc.gr; rw [this]at gs; cases gs
 have mr:(gA log h J').1 < C.length:=by rw [hc.ln]; exact lM _ _ _
 refine FN hT w3.ok Rn hE wL w2 (by omega) (ae mr) neso ?_ ?_ ?_
 ·intro hv s1 env q1;try refine go ?_
  refine ai ⟨w3.trans q1,.inr ⟨rfl,w1.over ht.la (Nat.le_of_lt hn) ?_⟩⟩;rw [ae mr,hv]
 ·intro hv cC s1 env q1 q2 q3;have w4:=w1.pass (ae mr) hv cC;have hJ4:=hJ (s' :=s1) w4;try refine go ?_
  exact bg (i0+1 - (J' +1)) (by omega) rfl ⟨q1,J' +1,rfl,w4,q3,w3.trans q2⟩
 ·intro w hv Me he s1 env q1 q2 q3 q4;obtain⟨e,he,hh⟩:=he;have hvw:C[(gA log h J').1]? =some (w:Int):=by rw [ae mr,hv]
  have ⟨z1,z2⟩:=w1.tell ht.la (Nat.le_of_lt hn) hvw (by rw [← hv]; exact Me) he hh;try refine go ?_
  refine ai (r:=[.int .i64 (w:Nat),.bool true]) ⟨w3.trans q3,.inl ⟨w,rfl,z1,J' +1,q4,z2⟩⟩ rfl ?_ rfl;show kY env s1 [.tmp 2,.tmp 3]=_;simp only [kY,bP.ev,q1,q2]
end
section
variable {T:Nat->Option dS}{H Y:au}
theorem NJ {E:List eS}{i:Nat}{e:eS}{v:Int}(hi:E[i]? =some e):(E.map cF).set i (.agg [.bool true,.int .i64 e.h,.int .i64 e.k,.int .i64 v,.int .i64 e.b])=(E.set i { e with v:=v}).map cF:=by
 rw [jk]
theorem QJ {E:List eS}{i:Nat}{e:eS}{v:Int}(hi:E[i]? =some e):gZ (E.set i { e with v:=v})=gZ E:=by
 apply ki;intro j;simp only [gZ,aE,mj];split
 ·rename_i h;subst h;split
  ·rw [hi]; rfl
  ·rename_i h2;have:=(af.mp hi).1;omega
 ·rfl
theorem Wc (hT:TT T){s:St}{to eo co ro log st i:Nat}{b:Bool}{x:D}{E:List eS}{C:List Int}{e:eS}{v:Int}{W:Nat->Prop}(hs:s.Ok)(ht:kA s to eo co ro log b st x E C)(hi:E[i]? =some e)(hE:E.length<=30000)(we:W eo):
  cu T H 198 [.ptr to 0,.int .i64 (i:Nat),.int .i64 v] s fun d s1=>d= .int .i64 0/\kA s1 to eo co ro log b st x (E.set i { e with v:=v}) C/\aC W s s1:=by
 have hl:i < E.length:=(af.mp hi).1;have gt:=ht.go;have he:=ht.en;rcases he with _ | ⟨_,st0,E,g,dT⟩
 ·simp at hl
 have qc:(E.map cF)[0+i]? =some (cF e):=by rw [aM,aE,hi]; rfl
 have pQ:=eO E;have hE0:E≠ []:=by rintro rfl; simp at hl
 obtain⟨m1,m2,m3,m4⟩:=ht.nt;obtain⟨m5,m6,m7⟩:=m4 hE0;have le:=hs.lt g;have hw:=A0 (H:=H) hT gt g dT hl hE;refine ay hT.t198 ?_;try refine go ?_
 refine ak hw ?_;rintro d s1 ⟨rfl,rfl⟩;try refine go ?_
 have hb:∀es:List D,∀n:Nat,aC (fun j=>j=eo) s1 (s1.bD eo (.arr 5 270 es n)):=fun es n=>aC.set (W:=fun j=>j=eo) (aC.refl hs) _ le (fun _=>rfl);have Fs :(E.set i { e with v:=v}).length=E.length:=gE;have vj:=NJ (v:=v) hi;have FF:(s1.bD eo (.arr 5 270 ((E.map cF).set (0+i) (.agg [.bool true,.int .i64 e.h,.int .i64 e.k,.int .i64 v,.int .i64 e.b])) (E.map cF).length)).get eo=some (.arr 5 270 ((E.set i { e with v:=v}).map cF) (E.map cF).length):=by
  rw [aM,vj]; exact St.aN
 refine ai ⟨rfl,⟨?_, ?_,ht.ce.dU hs (hb _ _) (bO m6) (bO m7), ?_, ?_⟩,(hb _ _).mono fun j hj=>by subst hj; exact we⟩
 ·rw [Fs]; exact (hb _ _).get hs gt (bO m5)
 ·have:=Ad.sl eo _ _ FF (by rw [Fs,eO]; exact an _);rw [Fs]at this;exact this
 ·rw [QJ hi]; exact ht.la
 ·rw [Fs]; exact ht.rm
end
open Go Go.Ab
noncomputable section
def aaX:=RK.mk (a:=cf Tryz.f80 80)
def Tq:=RK.mk (a:=cf Tryz.f125 125)
def Lt:=RK.mk (a:=cf Tryz.f127 127)
def Ur:=RK.mk (a:=cf Tryz.f128 128)
def SP:=RK.mk (a:=cf Tryz.f145 145)
def TY:=RK.mk (a:=cf Tryz.f160 160)
def Uh:=RK.mk (a:=cf Tryz.f167 167)
def S8:=RK.mk (a:=cf Tryz.f169 169)
def To:=RK.mk (a:=cf Tryz.f171 171)
def Te:=RK.mk (a:=cf Tryz.f195 195)
def Ut:=RK.mk (a:=cf Tryz.f196 196)
def Uw:=RK.mk (a:=cf Tryz.f197 197)
def UW:=RK.mk (a:=cf Tryz.f199 199)
def Tp:=RK.mk (a:=cf Tryz.f202 202)
def TJ:=RK.mk (a:=cf Tryz.f203 203)
end
structure TP (T:Nat->Option dS):Prop where
 t80:T 80=some aaX.1
 t125:T 125=some Tq.1
 t127:T 127=some Lt.1
 t128:T 128=some Ur.1
 t145:T 145=some SP.1
 t160:T 160=some TY.1
 t167:T 167=some Uh.1
 t169:T 169=some S8.1
 t171:T 171=some To.1
 t195:T 195=some Te.1
 t196:T 196=some Ut.1
 t197:T 197=some Uw.1
 t199:T 199=some UW.1
 t202:T 202=some Tp.1
 t203:T 203=some TJ.1
@[reducible] def kV (kind ky:Int) (fnd:Bool) (v e:Int):D:= .agg [.int .i64 kind,.int .i64 ky,.bool fnd,.int .i64 v,.int .i64 e]
@[reducible] def wM (to:Nat) (most ver:Int):D:= .agg [.ptr to 0,.int .i64 most,.int .u64 ver]
section
variable {T:Nat->Option dS}{H Y:au}
theorem H2 (hT:TT T)(hP:TP T){s:St}{most:Nat}(hs:s.Ok)(hm:most<=65536):
  cu T H 80 [.int .i64 (most:Nat),.cT] s fun d s1=>∃to dv co ro b st C,d= .gJ [.ptr dv 0,.int .i64 0]/\s.n<=to/\s.n<=dv/\s.n<=co/\s.n<=ro/\dv≠to/\s1.get dv=some (.var 239 (wM to (most:Nat) 0))/\kA s1 to 0 co ro 3 b st (.vs true 0 []) [] C/\aC Nil s s1:=by
 have hn:=IH (H:=H) hT hs;refine ay hP.t80 ?_;try refine go ?_
 refine ak hn ?_;rintro d s1 ⟨rfl,co,ro,b,st,C,h1,h2,h3,h4,h5,h6⟩;have ok1:=h6.ok;try refine go ?_
 have hb:∀x,aC (fun _=>False) s1 (s1.bc x):=fun x=>aC.push (aC.refl ok1) x;have l1:=ok1.lt h3; have l2:=ok1.lt h4.go; have l3:=ok1.lt h4.gr;have zQ:=h6.n;refine ai ⟨s.n,s1.n,co,ro,b,st,C,rfl,an _,by omega,by omega,by omega,by omega,St.ba,⟨(hb _).get ok1 h3 (fun h=>h),.nil 0,h4.dU ok1 (hb _) (fun h=>h) (fun h=>h),h5,aR _⟩,h6.trans ((hb _).mono fun j hj=>hj.elim)⟩
theorem Qt (hT:TT T)(hP:TP T){s:St}{dv to n:Nat}{most ver:Int}{x c n2 n3 n4:D}(gd:s.get dv=some (.var 239 (wM to most ver)))(gt:s.get to=some (.var 317 (.agg [.cT,x,c,.int .i64 (n:Nat),n2,n3,n4]))):
  cu T H 145 [.ptr dv 0] s fun d s1=>d= .int .i64 (n:Nat)/\s1=s:=by
 have hl:=Sc (H:=H) hT gt;refine ay hP.t145 ?_;try refine go ?_
 refine ak hl ?_;rintro d s1 ⟨rfl,rfl⟩;try refine go ?_
 exact ai ⟨rfl,rfl⟩
theorem yP (hP:TP T){s:St}{dv to:Nat}{most ver:Int}(hs:s.Ok)(gd:s.get dv=some (.var 239 (wM to most ver))):
  cu T H 199 [.ptr dv 0] s fun _ s1=>(∃ver',s1.get dv=some (.var 239 (wM to most ver')))/\aC (fun j=>j=dv) s s1:=by
 have ld:=hs.lt gd;have hb:∀d:D,aC (fun j=>j=dv) s (s.bD dv (.var 239 d)):=fun d=>aC.set (W:=fun j=>j=dv) (aC.refl hs) _ ld (fun _=>rfl);refine ay hP.t199 ?_;try refine go ?_
 exact gU ⟨⟨_,St.aN⟩,hb _⟩
theorem JX (hP:TP T){s:St}{dv to:Nat}{most ver:Int}(gd:s.get dv=some (.var 239 (wM to most ver))):
  cu T H 167 [.ptr dv 0] s fun d s1=>d= .ptr to 0/\s1=s:=by
 refine ay hP.t167 ?_;try refine go ?_
 exact ai ⟨rfl,rfl⟩
theorem LD (hP:TP T){s:St}{n:Nat}{e:eS}:cu T H 196 [.int .i64 (n:Nat),cF e] s fun d s1=>d=kV 2 0 true e.v (n:Nat)/\s1=s:=by
 refine ay hP.t196 ?_;try refine go ?_
 exact ai ⟨rfl,rfl⟩
theorem xD {s:St}{o c:Nat}{es:List (Nat×D×D)}{env:Env}{m k v:bP}{n:Int}{d:D}(hs:s.Ok)(hg:s.get o=some (.map es c))(hm:m.ev env=some (.mp o))(hk:k.ev env=some (.int .i64 n))(hv:v.ev env=some d)(hf:findKey .int (.int .i64 n) es 0=some none):
  cB fD env s none (.Ac .int m k v)=some (.gJ [],s.bD o (.map (es++ [(c,.int .i64 n,d)]) (c+1))):=by
 have e1:oN .int (.int .i64 n)=true:=rfl;simp only [cB,hm,hk,hv,hg,e1,hf,hs.set,oC]
def aa3:List (Nat×D×D):=[(0,.int .i64 1,.agg [.fn (.func 195) [] [],.fn (.func 202) [] []]),(1,.int .i64 2,.agg [.fn (.func 197) [] [],.fn (.func 203) [] []]),
 (2,.int .i64 3,.agg [.fn (.func 200) [] [],.fn (.func 202) [] []]),(3,.int .i64 4,.agg [.fn (.func 195) [] [],.fn (.func 203) [] []])]
theorem Sk (hP:TP T){s:St}(hs:s.Ok):cu T H 160 [] s fun d s1=>d= .mp s.n/\s1.get s.n=some (.map aa3 4)/\aC Nil s s1:=by
 have yq:aC Nil s (s.bc (.map [] 0)):=aC.push (aC.refl hs) _;have step:∀ {t:St} (h:aC Nil s t/\s.n < t.n) (es:List (Nat×D×D)) (c:Nat),aC Nil s (t.bD s.n (.map es c))/\s.n < (t.bD s.n (.map es c)).n:=fun {t} h es c=>⟨aC.set (W:=Nil) h.1 _ h.2 (fun h=>by omega),h.2⟩;have k0:aC Nil s (s.bc (.map [] 0))/\s.n < (s.bc (.map [] 0)).n:=⟨yq,by rw [St.dN]; omega⟩;refine ay hP.t160 ?_;try refine go ?_
 refine qR ?_ rfl (xD k0.1.ok St.ba rfl rfl rfl rfl);try refine go ?_
 refine qR ?_ rfl (xD (step k0 _ _).1.ok St.aN rfl rfl rfl rfl);try refine go ?_
 refine qR ?_ rfl (xD (step (step k0 _ _) _ _).1.ok St.aN rfl rfl rfl rfl);try refine go ?_
 refine qR ?_ rfl (xD (step (step (step k0 _ _) _ _) _ _).1.ok St.aN rfl rfl rfl rfl);try refine go ?_
 exact ai ⟨rfl,St.aN,(step (step (step (step k0 _ _) _ _) _ _) _ _).1⟩
end
@[reducible] def s9 (sk:D) (dv:Nat) (h k v state entry scans ver t0 t1:Int) (t2:Bool) (t3 t4:Int):D:=
 .agg [sk,.ptr dv 0,.fn (.func 197) [] [],.fn (.func 203) [] [],.int .i64 h,.int .i64 k,.int .i64 v,.int .i64 state,.int .i64 entry,.int .i64 scans,.int .u64 ver,.int .i64 t0,.int .i64 t1,.bool t2,.int .i64 t3,.int .i64 t4]
section
variable {T:Nat->Option dS}{H Y:au}
theorem Oq (hP:TP T){s:St}{dv to:Nat}{h k v most ver:Int}(hs:s.Ok)(gd:s.get dv=some (.var 239 (wM to most ver))):
  cu T H 125 [.ptr dv 0,.int .i64 2,.int .i64 h,.int .i64 k,.int .i64 v] s fun d s1=>∃mo,d= .ptr mo 0/\s.n<=mo/\s1.get mo=some (.var 307 (s9 .cT dv h k v 0 0 0 0 0 0 false 0 0))/\aC Nil s s1:=by
 have hr:=Sk (H:=H) hP hs;refine ay hP.t125 ?_;try refine go ?_
 refine ak hr ?_;rintro d s1 ⟨rfl,g1,b1⟩;have ok1:=b1.ok;try refine go ?_
 have:=b1.n;exact ai ⟨s1.n,rfl,this,St.ba,aC.push b1 _⟩
theorem Re (hP:TP T){s:St}{mo:Nat}{sk:D}{dv:Nat}{h k v entry scans ver t0 t1 t3 t4:Int}{t2 same:Bool}(hs:s.Ok)(gm:s.get mo=some (.var 307 (s9 sk dv h k v 2 entry scans ver t0 t1 t2 t3 t4))):
  cu T H 128 [.ptr mo 0,.bool same] s fun d s1=>d= .int .i64 0/\s1.get mo=some (.var 307 (s9 sk dv h k v (if same then 3 else 1) entry scans ver t0 t1 t2 t3 t4))/\aC (fun j=>j=mo) s s1:=by
 have lm:=hs.lt gm;have hb:∀d:D,aC (fun j=>j=mo) s (s.bD mo (.var 307 d)):=fun d=>aC.set (W:=fun j=>j=mo) (aC.refl hs) _ lm (fun _=>rfl);cases same
 ·refine ay hP.t128 ?_;try refine go ?_
  exact ai ⟨rfl,St.aN,hb _⟩
 ·refine ay hP.t128 ?_;try refine go ?_
  exact ai ⟨rfl,St.aN,hb _⟩
theorem FU (hP:TP T){s:St}{mo:Nat}{sk:D}{dv:Nat}{h k v st entry scans ver t0 t1 t3 t4 u0 u1 u3 u4:Int}{t2 u2:Bool}(hs:s.Ok)(gm:s.get mo=some (.var 307 (s9 sk dv h k v st entry scans ver t0 t1 t2 t3 t4))):
  cu T H 171 [.ptr mo 0,kV u0 u1 u2 u3 u4] s fun d s1=>d=kV u0 u1 u2 u3 u4/\aC (fun j=>j=mo) s s1:=by
 have lm:=hs.lt gm;have hb:∀d:D,aC (fun j=>j=mo) s (s.bD mo (.var 307 d)):=fun d=>aC.set (W:=fun j=>j=mo) (aC.refl hs) _ lm (fun _=>rfl);have jJ:∀d e:D,aC (fun j=>j=mo) s ((s.bD mo (.var 307 d)).bD mo (.var 307 e)):=fun d e=>aC.set (W:=fun j=>j=mo) (hb d) _ lm (fun _=>rfl);refine ay hP.t171 ?_;try refine go ?_
 exact ai ⟨rfl,jJ _ _⟩
end
def fC (W:Nat->Prop)(s:St)(dv:Nat)(most:Nat)(E:List eS):Prop:=∃to eo co ro log b st x C ver,s.get dv=some (.var 239 (wM to (most:Nat) ver))/\kA s to eo co ro log b st x E C/\W dv/\W to/\W eo/\W co/\W ro/\E.length<=20000
def Own (n:Nat)(W:Nat->Prop)(o:Nat):Prop:=W o\/n<=o
section
variable {T:Nat->Option dS}{H Y:au}
theorem fC.dU {W W' :Nat->Prop}{s s1:St}{dv most:Nat}{E:List eS}(h:fC W s dv most E)(hs:s.Ok)(hb:aC W' s s1)(hd:∀o,o < s.n->W o-> ¬ W' o):fC W s1 dv most E:=by
 obtain⟨to,eo,co,ro,log,b,st,x,C,ver,h1,h2,w1,w2,w3,w4,w5,h3⟩:=h;refine⟨to,eo,co,ro,log,b,st,x,C,ver,hb.get hs h1 (hd _ (hs.lt h1) w1),⟨hb.get hs h2.go (hd _ (hs.lt h2.go) w2),h2.en.dU hs hb (fun es st hq=>hd _ (hs.lt hq) w3),h2.ce.dU hs hb (hd _ (hs.lt h2.ce.go) w4) (hd _ (hs.lt h2.ce.gr) w5),h2.la,h2.rm⟩,w1,w2,w3,w4,w5,h3⟩
theorem kA.dU {W:Nat->Prop}{s s1:St}{to eo co ro log st:Nat}{b:Bool}{x:D}{E:List eS}{C:List Int}(h2:kA s to eo co ro log b st x E C)(hs:s.Ok)(hb:aC W s s1)(n1: ¬ W to)(n2:∀es st,s.get eo=some (.arr 5 270 es st)-> ¬ W eo)(n3: ¬ W co)(n4: ¬ W ro):kA s1 to eo co ro log b st x E C:=
 ⟨hb.get hs h2.go n1,h2.en.dU hs hb n2,h2.ce.dU hs hb n3 n4,h2.la,h2.rm⟩
theorem Cm {s:St}{dv to eo co ro log st:Nat}{b:Bool}{x d:D}{E:List eS}{C:List Int}(h1:s.get dv=some (.var 239 d))(h2:kA s to eo co ro log b st x E C):to≠dv/\co≠dv/\ro≠dv/\∀es st,s.get eo=some (.arr 5 270 es st)->eo≠dv:=by
 refine⟨?_, ?_, ?_,fun es st hq=> ?_⟩
 ·rintro rfl; rw [h2.go]at h1; simp at h1
 ·rintro rfl; rw [h2.ce.go]at h1; simp at h1
 ·rintro rfl; rw [h2.ce.gr]at h1; cases h1
 ·rintro rfl; rw [hq]at h1; cases h1
theorem PX (hT:TT T)(hP:TP T){W:Nat->Prop}{s:St}{mo dv most n:Nat}{sk:D}{E:List eS}{e:eS}{h k v st entry scans ver t0 t1 t3 t4:Int}{t2:Bool}(hs:s.Ok)(gm:s.get mo=some (.var 307 (s9 sk dv h k v st entry scans ver t0 t1 t2 t3 t4)))(hm: ¬ W mo)(hd:fC W s dv most E)(hi:E[n]? =some e):
  cu T H 197 [.ptr mo 0,.int .i64 (n:Nat),cF e] s fun d s1=>d=kV 2 0 true e.v (n:Nat)/\fC W s1 dv most (E.set n { e with v:=v})/\aC W s s1:=by
 obtain⟨to,eo,co,ro,log,b,st',x,C,ver',h1,h2,w1,w2,w3,w4,w5,h3⟩:=hd;have uM:=Wc (H:=H) (v:=v) (W:=fun j=>j=eo) hT hs h2 hi (by omega) rfl;have nde:dv≠eo:=by
  rintro rfl;have:=h2.en;rcases this with _ | ⟨_,_,_,g,_⟩
  ·simp at hi
  ·rw [h1]at g; cases g
 refine ay hP.t197 ?_;try refine go ?_
 refine bf uM ?_;rintro d s1 ⟨rfl,z1,z2⟩;refine⟨rfl,by simp [lost,eN.kind,cJ,dE,cE,aI,bz,bz.cV,fZ,bP.ev,Env.get,cP,D.flat,D.isAgg,cL,D.fv,D.beq,az,Obj.aV,bC,bu,D.bV,D.aV,z1], ?_⟩;have ok1:=z2.ok;have Ig:=z2.get hs gm (by rintro rfl; exact hm w3);have Ed:=z2.get hs h1 nde;have Z0:=yP (H:=H) hP ok1 Ed;try refine go ?_
 refine ak Z0 ?_;rintro d s2 ⟨⟨VK,Q3⟩,y2⟩;have ok2:=y2.ok;obtain⟨m1,m2,m3,m4⟩:=Cm Ed z1;have z3:=z1.dU ok1 y2 m1 m4 m2 m3;try refine go ?_
 refine ak (LD hP) ?_;rintro d s3 ⟨rfl,rfl⟩;try refine go ?_
 refine ai ⟨rfl,⟨to,eo,co,ro,log,b,st',x,C,VK,Q3,z3,w1,w2,w3,w4,w5, ?_⟩,(z2.mono fun j hj=>by subst hj; exact w3).trans (y2.mono fun j hj=>by subst hj; exact w1)⟩;rw [gE]; exact h3
end
section
variable {T:Nat->Option dS}{H Y:au}
theorem QE (hT:TT T)(hP:TP T){W:Nat->Prop}{s:St}{mo dv most:Nat}{sk:D}{E:List eS}{h k v st entry scans ver t0 t1 t3 t4:Int}{t2:Bool}(hs:s.Ok)(gm:s.get mo=some (.var 307 (s9 sk dv h k v st entry scans ver t0 t1 t2 t3 t4)))(hm: ¬ W mo)(hd:fC W s dv most E)(uL:E.length < 20000):
  cu T H 203 [.ptr mo 0] s fun d s1=>aC W s s1/\((E.length < most/\d=kV 2 0 false v (E.length:Nat)/\fC (Own s.n W) s1 dv most (E++ [eS.mk h k v (E.length:Nat)]))\/(most<=E.length/\d=kV 3 0 false 0 0/\s1=s)):=by
 have lm:=hs.lt gm;obtain⟨to,eo',co,ro,log,b,st',x,C,ver',h1,xo,w1,w2,w3',w4,w5,h3⟩:=hd;obtain⟨m1,m2,m3,m4'⟩:=Cm h1 xo
 obtain⟨eo,h2,w3,m4⟩:∃eo,kA s to eo co ro log b st' x E C/\W eo/\eo≠dv:=by
  have he:=xo.en;rcases he with _ | ⟨_,st0,E,g,dT⟩
  ·exact⟨to,⟨xo.go,.nil to,xo.ce,xo.la,xo.rm⟩,w2,m1⟩
  ·exact⟨eo',xo,w3',m4' _ _ g⟩
 have gt:=h2.go;have hlen:=Qt (H:=H) (s:= { s with ro:=true}) hT hP h1 h2.go;by_cases ZV:most<=E.length
 ·refine ay hP.t203 ?_;try refine go ?_
  refine qy hlen ?_;rintro d s1 ⟨rfl,rfl⟩;refine⟨rfl, ?_⟩;try refine go ?_
  refine cY (fun hc=> ?_) (fun hc=> ?_)
  ·try refine go ?_
   exact ai ⟨aC.refl hs,.inr ⟨ZV,rfl,rfl⟩⟩
  ·exfalso;simp at hc;omega
 ·have Vv:=Xm (H:=H) (h:=h) (ky:=k) (v:=v) (W:=fun j=>j=to\/j=eo\/j=ro\/j=co) hT hs h2 h3 (.inl rfl) (.inr (.inl rfl)) (.inr (.inr (.inl rfl))) (.inr (.inr (.inr rfl)));refine ay hP.t203 ?_;try refine go ?_
  refine qy hlen ?_;rintro d s1 ⟨rfl,rfl⟩;refine⟨rfl, ?_⟩;try refine go ?_
  refine cY (fun hc=> ?_) (fun hc=> ?_)
  ·exfalso;simp at hc;omega
  ·try refine go ?_
   refine bf Vv ?_;rintro d s1 ⟨rfl,z1⟩;obtain⟨eo2,co2,ro2,log2,b2,tR,x2,C2,y1,y2,y3,y4,y5⟩:=z1;have ok1:=y5.ok;have nm: ¬ (mo=to\/mo=eo\/mo=ro\/mo=co):=by rintro (rfl | rfl | rfl | rfl) <;> exact hm (by assumption)
   have Ig:=y5.get hs gm nm;have Ed:=y5.get hs h1 (by rintro (rfl | rfl | rfl | rfl) <;> simp_all);have Z0:=yP (H:=H) hP ok1 Ed;have lo:∀o,(o=to\/o=eo\/o=ro\/o=co)\/s.n<=o->Own s.n W o:=by
    rintro o ((rfl | rfl | rfl | rfl) | h)
    ·exact .inl w2
    ·exact .inl w3
    ·exact .inl w5
    ·exact .inl w4
    ·exact .inr h
   refine⟨rfl,by rfl, ?_⟩;try refine go ?_
   refine ak Z0 ?_;rintro d s2 ⟨⟨VK,Q3⟩,q2⟩;obtain⟨p1,p2,p3,p4⟩:=Cm Ed y1;have Lg:=q2.get ok1 Ig (by rintro rfl; exact hm w1);have y6:=y1.dU ok1 q2 p1 p4 p2 p3;try refine go ?_
   refine ai ⟨?_,.inl ⟨by omega,rfl,⟨to,eo2,co2,ro2,log2,b2,tR,x2,C2,VK,Q3,y6,.inl w1,.inl w2,lo _ y2,lo _ y3,lo _ y4, ?_⟩⟩⟩
   ·exact (y5.mono (by rintro j (rfl | rfl | rfl | rfl) <;> assumption)).trans (q2.mono fun j hj=>by subst hj; exact w1)
   ·rw [aB,aW]; omega
end
section
variable {T:Nat->Option dS}{H:au}{b kk:Nat}{k:List je}{s:St}{Q:QP}{l:List (bj×List Nat)}{acc:List Fp}{q:List Nat}{t:Nat}{e:Env}{ds:List (D×List D)}{g:Option (Nat×Bool)}
theorem G0 {fp:Fp}{f:bP}{gf:Nat}{args:List bP}{x x1 x2 y:List D}{R:D->St->Prop}(hE:cu T H gf y s R)(h:∀d s1,R d s1->Env.cX ((t,d)::e) (some t)=false/\lost acc s s1 ⟨some t,.pe f args,g,none⟩ q=false/\fT T H b kk l (acc++ [fpC fp s s1]) k ⟨(t,d)::e,ds⟩ s1 Q)
  (hw:aI e g=some true:=by rfl)(hv:f.ev e=some (.fn (.func gf) x1 x2):=by rfl)(hx:sK e args=some x:=by rfl)(hy:x1++x++x2=y:=by rfl)(hf:cE b e ⟨some t,.pe f args,g,none⟩=fp:=by exact fI)(hc:fg acc fp q=true:=by exact cI)(kq:Env.cX e (some t)=false:=by rfl)(hs:s.Ok:=by exact oI):
  fT T H b kk ((⟨some t,.pe f args,g,none⟩,q)::l) acc k ⟨e,ds⟩ s Q:=by
 subst hf;subst hy;obtain⟨d,s1,h1,h2⟩:=hE;obtain⟨h3,h4,h5⟩:=h d s1 h2;exact⟨uf (r:=(d,s1)) hc kq ⟨s,h1,fun C hC=>iD (o:=⟨some t,.pe f args,g,none⟩) (fr:=⟨e,ds⟩) hw (by simp only [cB,hv,hx]; exact NM hs.ro hC)⟩ h3 h4 h5.out⟩
end
section
variable {T:Nat->Option dS}{H Y:au}
theorem Pc (hT:TT T)(hP:TP T){W:Nat->Prop}{s:St}{mo dv most n:Nat}{sk:D}{E:List eS}{e:eS}{h k v st entry scans ver t0 t1 t3 t4:Int}{t2:Bool}(hs:s.Ok)(gm:s.get mo=some (.var 307 (s9 sk dv h k v st entry scans ver t0 t1 t2 t3 t4)))(hm: ¬ W mo)(hd:fC W s dv most E)(hi:E[n]? =some e):
  cu T H 169 [.ptr mo 0,.int .i64 (n:Nat)] s fun d s1=>d=kV 2 0 true e.v (n:Nat)/\fC W s1 dv most (E.set n { e with v:=v})/\aC (fun j=>W j\/j=mo) s s1:=by
 have YS:=PX (H:=H) hT hP hs gm hm hd hi;have lm:=hs.lt gm;have Fz:=hd;obtain⟨to,eo,co,ro,log,b,st',x,C,ver',h1,h2,w1,w2,w3,w4,w5,h3⟩:=hd;have gt:=h2.go;have sS:∃st0,x= .sl eo 0 E.length E.length/\s.get eo=some (.arr 5 270 (E.map cF) st0)/\st0<=E.length:=by
  have he:=h2.en;rcases he with _ | ⟨_,st0,E,g,dT⟩
  ·simp at hi
  ·exact⟨st0,rfl,g,dT⟩
 obtain⟨st0,rfl,ge,dT⟩:=sS;have oP:=TB (H:=H) hT gt ge dT hi (by omega);refine ay hP.t169 ?_;try refine go ?_
 refine ak oP ?_;rintro d s1 ⟨rfl,rfl⟩;try refine go ?_
 refine G0 YS ?_;rintro d s2 ⟨rfl,y1,y2⟩;refine⟨rfl,by simp [lost,eN.kind,cJ,dE,cE,aI,bz,bz.cV,fZ,bP.ev,Env.get,cP,D.flat,D.isAgg,cL,D.fv,D.beq,az,Obj.aV,bC,bu,D.bV,D.aV,gm], ?_⟩;have ok2:=y2.ok;have Lg:=y2.get hs gm hm;have iX:=FU (H:=H) (u0:=2) (u1:=0) (u2:=true) (u3:=e.v) (u4:=(n:Nat)) hP ok2 Lg;try refine go ?_
 refine bf iX ?_;rintro d s3 ⟨rfl,z1⟩;refine⟨rfl,by simp [lost,eN.kind,cJ,dE,cE,aI,bz,bz.cV,fZ,bP.ev,Env.get,cP,D.flat,D.isAgg,cL,D.fv,D.beq,az,Obj.aV,bC,bu,D.bV,D.aV,Lg], ?_⟩;have y3:=y1.dU ok2 z1 (by rintro o ho hw rfl; exact hm hw)
 repeat' first | refine go ?_ | refine od ?_
 exact ai ⟨rfl,y3,(y2.mono fun j hj=> .inl hj).trans (z1.mono fun j hj=> .inr hj)⟩
end
structure pg (W:Nat->Prop)(s:St)(mo dv so most:Nat)(E:List eS)(h k v state entry told:Int):Prop where
 ex:∃to eo co ro log b st x C ver J scans t0 t1 t2 t3 t4,s.get dv=some (.var 239 (wM to (most:Nat) ver))/\kA s to eo co ro log b st x E C/\W dv/\W to/\W eo/\W co/\W ro/\E.length<=20000/\
  s.get mo=some (.var 307 (s9 (.ptr so 0) dv h k v state entry scans ver t0 t1 t2 t3 t4))/\s.get so=some (.var 349 (qZ to h log J (E.length:Nat) (J:Nat) told false))/\Seen log h E C J told
 nm: ¬ W mo
 ns: ¬ W so
 nq:mo≠so
theorem pg.abf {W:Nat->Prop}{s:St}{mo dv so most:Nat}{E:List eS}{h k v state entry told:Int}(hm:pg W s mo dv so most E h k v state entry told):fC W s dv most E:=by
 obtain⟨to,eo,co,ro,log,b,st,x,C,ver,J,scans,t0,t1,t2,t3,t4,h1,h2,w1,w2,w3,w4,w5,h3,_⟩:=hm.ex;exact⟨to,eo,co,ro,log,b,st,x,C,ver,h1,h2,w1,w2,w3,w4,w5,h3⟩
section
variable {T:Nat->Option dS}{H Y:au}
noncomputable def NO:AC:=match Lt.1.body with
 | .seq _ (.seq _ (.seq _ (.seq _ (.block _ c))))=>c
 | _=> .skip
noncomputable def KM:AC:=match NO with
 | .loop _ a=>a
 | _=> .skip
def Stepped (W:Nat->Prop)(s:St)(mo dv so most:Nat)(E:List eS)(h k v told:Int)(d:D)(s1:St):Prop:=
 (∃(n:Nat) (e:eS),rU E h told (some n)/\E[n]? =some e/\e.k≠k/\d=kV 1 e.k false 0 0/\pg W s1 mo dv so most E h k v 2 (n:Nat) (n:Nat)/\aC (fun j=>j=mo\/j=so) s s1)\/
 (∃(n:Nat) (e:eS),rU E h told (some n)/\E[n]? =some e/\e.k=k/\d=kV 2 0 true e.v (n:Nat)/\fC W s1 dv most (E.set n { e with v:=v})/\aC (fun j=>W j\/j=mo\/j=so) s s1)\/
 (rU E h told none/\E.length < most/\d=kV 2 0 false v (E.length:Nat)/\fC (Own s.n W) s1 dv most (E++ [eS.mk h k v (E.length:Nat)])/\aC (fun j=>W j\/j=mo\/j=so) s s1)\/
 (rU E h told none/\most<=E.length/\d=kV 3 0 false 0 0/\fC W s1 dv most E/\aC (fun j=>W j\/j=mo\/j=so) s s1)
theorem xN (hT:TT T)(hP:TP T){W:Nat->Prop}{s:St}{mo dv so most:Nat}{E:List eS}{h k v state entry told:Int}{z:D}{K:List je}{Q:QP}(hs:s.Ok)(uL:E.length < 20000)(wL: -1<=told/\told < 30000)(hm:pg W s mo dv so most E h k v state entry told)
  (hz:z= .agg [.int .i64 0,.int .i64 0,.bool false,.int .i64 0,.int .i64 0])
  (hQ:∀d s1 env,Stepped W s mo dv so most E h k v told d s1->Env.get env 2=some (.lv d)->kZ T H .ret K ⟨env,[]⟩ s1 Q):
  eI T H KM K ⟨[(0,.ptr mo 0),(2,.lv z)],[]⟩ s Q:=by
 subst hz;obtain⟨to,eo,co,ro,log,b,st,x,C,ver,J,scans,t0,t1,t2,t3,t4,h1,h2,w1,w2,w3,w4,w5,h3,gm,gs,TD⟩:=hm.ex;have lm:=hs.lt gm;have ls:=hs.lt gs;have ZN:=QM (H:=H) hT hs h2 (by omega) wL gs TD (fun _=>by rintro rfl; exact hm.ns w3);show eI T H (.block _ _) _ _ s _;try refine go ?_
 refine ak ZN ?_;rintro d s1 ⟨b1,pA⟩;have ok1:=b1.ok;have ne:∀o,W o->o≠so:=by rintro o ho rfl; exact hm.ns ho
 have Ig:=b1.get hs gm hm.nq;have Ed:=b1.get hs h1 (ne _ w1);have XY:=h2.dU hs b1 (ne _ w2) (fun _ _ _=>ne _ w3) (ne _ w4) (ne _ w5);have H3:=XY.go;have SY:=ok1.lt Ig;have HH:fC W s1 dv most E:=⟨to,eo,co,ro,log,b,st,x,C,ver,Ed,XY,w1,w2,w3,w4,w5,h3⟩;rcases pA with ⟨n,rfl,q1,J',g1,q2⟩ | ⟨rfl,q1⟩
 ·obtain⟨_,⟨e,he,heh⟩,_⟩:=id q1;have sS:∃st0,x= .sl eo 0 E.length E.length/\s1.get eo=some (.arr 5 270 (E.map cF) st0)/\st0<=E.length:=by
   have sS:=XY.en;rcases sS with _ | ⟨_,st0,E,g,dT⟩
   ·simp at he
   ·exact⟨st0,rfl,g,dT⟩
  obtain⟨st0,rfl,DL,dT⟩:=sS;have oP:=TB (H:=H) hT H3 DL dT he (by omega);have Od:=Pc (H:=H) hT hP ok1 Ig hm.nm HH he;have qX:n < E.length:=(af.mp he).1;try refine go ?_
  refine ak oP ?_;rintro d s2 ⟨rfl,rfl⟩
  repeat' first | refine go ?_ | refine od ?_
  refine cY (fun hc=> ?_) (fun hc=> ?_)
  ·have hk:e.k=k:=by simpa using hc
   try refine go ?_
   refine ak Od ?_;rintro d s3 ⟨rfl,y1,y2⟩;try refine go ?_
   exact hQ _ _ _ (.inr (.inl ⟨n,e,q1,he,hk,rfl,y1,(b1.mono fun j hj=> .inr (.inr hj)).trans (y2.mono fun j hj=>hj.imp id .inl)⟩)) rfl
  ·have hk:e.k≠k:=by simpa using hc
   try refine go ?_
   have bm:∀d1 d2 d3:D,aC (fun j=>j=mo) s2 (((s2.bD mo (.var 307 d1)).bD mo (.var 307 d2)).bD mo (.var 307 d3)):=fun d1 d2 d3=>
    aC.set (W:=fun j=>j=mo) (aC.set (W:=fun j=>j=mo) (aC.set (W:=fun j=>j=mo) (aC.refl ok1) _ SY (fun _=>rfl)) _ SY (fun _=>rfl)) _ SY (fun _=>rfl)
   have nm:∀o,W o->o≠mo:=by rintro o ho rfl; exact hm.nm ho
   refine hQ (kV 1 e.k false 0 0) _ _ (.inl ⟨n,e,q1,he,hk,rfl,⟨⟨to,eo,co,ro,log,b,st,_,C,ver,J',scans,1,e.k,false,0,0,(bm _ _ _).get ok1 Ed (nm _ w1),XY.dU ok1 (bm _ _ _) (nm _ w2) (fun _ _ _=>nm _ w3) (nm _ w4) (nm _ w5),w1,w2,w3,w4,w5,h3,St.aN,(bm _ _ _).get ok1 g1 (bO hm.nq),q2⟩,hm.nm,hm.ns,hm.nq⟩,(b1.mono fun j hj=> .inr hj).trans ((bm _ _ _).mono fun j hj=> .inl hj)⟩) rfl
 ·have Vv:=QE (H:=H) hT hP ok1 Ig hm.nm HH uL;try refine go ?_
  refine ak Vv ?_;rintro d s3 ⟨y5,hy⟩;have K9:=y5.get ok1 Ig hm.nm;have nmW:∀o,o < s3.n->Own s1.n W o->o≠mo:=by
   rintro o ho (hw | hw) rfl
   ·exact hm.nm hw
   ·exact absurd SY (by omega)
  rcases hy with ⟨u1,rfl,u2⟩ | ⟨u1,rfl,u2⟩
  ·have iX:=FU (H:=H) (u0:=2) (u1:=0) (u2:=false) (u3:=v) (u4:=(E.length:Nat)) hP y5.ok K9;try refine go ?_
   refine ak iX ?_;rintro d s4 ⟨rfl,y6⟩;try refine go ?_
   refine hQ _ _ _ (.inr (.inr (.inl ⟨q1,u1,rfl, ?_,((b1.mono fun j hj=> .inr (.inr hj)).trans (y5.mono fun j hj=> .inl hj)).trans (y6.mono fun j hj=> .inr (.inl hj))⟩))) rfl;have u3:=u2.dU y5.ok y6 nmW;have zQ:=b1.n;obtain⟨to',eo',co',ro',log',b',st',x',C',ver',p1,p2,v1,v2,v3,v4,v5,p3⟩:=u3;have up:∀o,Own s1.n W o->Own s.n W o:=fun o ho=>ho.imp id fun h=>cU zQ h;exact⟨to',eo',co',ro',log',b',st',x',C',ver',p1,p2,up _ v1,up _ v2,up _ v3,up _ v4,up _ v5,p3⟩
  ·subst u2;have iX:=FU (H:=H) (u0:=3) (u1:=0) (u2:=false) (u3:=0) (u4:=0) hP ok1 Ig;try refine go ?_
   refine ak iX ?_;rintro d s4 ⟨rfl,y6⟩;try refine go ?_
   exact hQ _ _ _ (.inr (.inr (.inr ⟨q1,u1,rfl,HH.dU ok1 y6 (by rintro o ho hw rfl; exact hm.nm hw),(b1.mono fun j hj=> .inr (.inr hj)).trans (y6.mono fun j hj=> .inr (.inl hj))⟩))) rfl
end
section
variable {T:Nat->Option dS}{H Y:au}
@[reducible] def Vj:D:= .agg [.int .i64 0,.int .i64 0,.bool false,.int .i64 0,.int .i64 0]
theorem KC (hT:TT T)(hP:TP T){W:Nat->Prop}{s:St}{mo dv so most:Nat}{E:List eS}{h k v entry told:Int}(hs:s.Ok)(uL:E.length < 20000)(wL: -1<=told/\told < 30000)(hm:pg W s mo dv so most E h k v 1 entry told):
  cu T H 127 [.ptr mo 0] s fun d s1=>Stepped W s mo dv so most E h k v told d s1:=by
 have hr:=fun K Q hQ=>xN (H:=H) (z:=Vj) (K:=K) (Q:=Q) hT hP hs uL wL hm rfl hQ;obtain⟨to,eo,co,ro,log,b,st,x,C,ver,J,scans,t0,t1,t2,t3,t4,h1,h2,w1,w2,w3,w4,w5,h3,gm,gs,TD⟩:=hm.ex;have LQ:(ver !=ver)=false:=bne_self_eq_false _;refine ay hP.t127 ?_;try refine go ?_
 simp only [LQ];try refine go ?_
 refine lQ ?_;refine hr _ _ fun d s1 env hS he=> ?_;try refine go ?_
 have RF:∃x0 x1 x2 x3 x4,d=kV x0 x1 x2 x3 x4:=by
  rcases hS with ⟨n,e,_,_,_,rfl,_⟩ | ⟨n,e,_,_,_,rfl,_⟩ | ⟨_,_,rfl,_⟩ | ⟨_,_,rfl,_⟩ <;> exact ⟨_,_,_,_,_,rfl⟩
 obtain⟨x0,x1,x2,x3,x4,rfl⟩:=RF;refine ai (r:=[kV x0 x1 x2 x3 x4]) hS rfl ?_ rfl;show kY env s1 [.cell 2 (some 5)]=_;simp only [kY,he];rfl
theorem J9 (hT:TT T)(hP:TP T){W:Nat->Prop}{s:St}{mo dv so most n:Nat}{E:List eS}{e:eS}{h k v told:Int}(hs:s.Ok)(hm:pg W s mo dv so most E h k v 3 (n:Nat) told)(he:E[n]? =some e):
  cu T H 127 [.ptr mo 0] s fun d s1=>d=kV 2 0 true e.v (n:Nat)/\fC W s1 dv most (E.set n { e with v:=v})/\aC (fun j=>W j\/j=mo) s s1:=by
 have hd:=hm.abf;obtain⟨to,eo,co,ro,log,b,st,x,C,ver,J,scans,t0,t1,t2,t3,t4,h1,h2,w1,w2,w3,w4,w5,h3,gm,gs,TD⟩:=hm.ex;have Od:=Pc (H:=H) hT hP hs gm hm.nm hd he;have LQ:(ver !=ver)=false:=bne_self_eq_false _;refine ay hP.t127 ?_;try refine go ?_
 simp only [LQ];try refine go ?_
 refine ak Od ?_;rintro d s1 ⟨rfl,y1,y2⟩;try refine go ?_
 exact ai ⟨rfl,y1,y2⟩
theorem D2 (hT:TT T)(hP:TP T){W:Nat->Prop}{s:St}{mo dv most:Nat}{E:List eS}{h k v:Int}(hs:s.Ok)(uL:E.length < 20000)(hd:fC W s dv most E)(Yd: ¬ W mo)(hW: ¬ W s.n)
  (gm:s.get mo=some (.var 307 (s9 .cT dv h k v 0 0 0 0 0 0 false 0 0))):
  cu T H 127 [.ptr mo 0] s fun d s1=>∃s0,aC (fun j=>j=mo) s s0/\s.n < s0.n/\Stepped W s0 mo dv s.n most E h k v (-1) d s1:=by
 have lm:=hs.lt gm;obtain⟨to,eo,co,ro,log,b,st,x,C,ver,h1,h2,w1,w2,w3,w4,w5,h3⟩:=hd;have gt:=h2.go;have Mo :∀o,W o->o≠mo:=by rintro o ho rfl; exact Yd ho
 have abc:=JX (H:=H) (s:= { s with ro:=true}) hP h1;have YM:=Sf (H:=H) (h:=h) hT hs h2;refine ay hP.t127 ?_;try refine go ?_
 refine qy abc ?_;rintro d s1 ⟨rfl,rfl⟩;refine⟨rfl, ?_⟩;try refine go ?_
 refine bf YM ?_;rintro d s1 ⟨rfl,g1,b1⟩;have ok1:=b1.ok;have Ig:=b1.get hs gm (fun h=>h);have Ed:=b1.get hs h1 (fun h=>h);have SY:=ok1.lt Ig;have nd:dv≠mo:=Mo _ w1;have nms:mo≠s.n:=by omega
 have bm:∀d1 d2 d3:D,aC (fun j=>j=mo) s1 (((s1.bD mo (.var 307 d1)).bD mo (.var 307 d2)).bD mo (.var 307 d3)):=fun d1 d2 d3=>
  aC.set (W:=fun j=>j=mo) (aC.set (W:=fun j=>j=mo) (aC.set (W:=fun j=>j=mo) (aC.refl ok1) _ SY (fun _=>rfl)) _ SY (fun _=>rfl)) _ SY (fun _=>rfl)
 have XY:=h2.dU hs b1 (fun h=>h) (fun _ _ _ h=>h) (fun h=>h) (fun h=>h)
 have mk:∀d1 d2:D,∀scans:Int,pg W (((s1.bD mo (.var 307 d1)).bD mo (.var 307 d2)).bD mo (.var 307 (s9 (.ptr s.n 0) dv h k v 0 0 scans ver 0 0 false 0 0))) mo dv s.n most E h k v 0 0 (-1):=fun d1 d2 scans=>
  ⟨⟨to,eo,co,ro,log,b,st,x,C,ver,0,scans,0,0,false,0,0,(bm _ _ _).get ok1 Ed nd,XY.dU ok1 (bm _ _ _) (Mo _ w2) (fun _ _ _=>Mo _ w3) (Mo _ w4) (Mo _ w5),w1,w2,w3,w4,w5,h3,St.aN,(bm _ _ _).get ok1 g1 (bO nms),Seen.start⟩,Yd,hW,nms⟩
 have ls:=ok1.lt g1;refine⟨rfl,by simp [lost,eN.kind,cJ,dE,cE,aI,bz,bz.cV,fZ,bP.ev,Env.get,cP,D.flat,D.isAgg,cL,D.fv,D.beq,az,Obj.aV,bC,bu,D.bV,D.aV,gm,Ig,h1,Ed], ?_⟩;try refine go ?_
 refine lQ ?_;refine xN (H:=H) (z:=Vj) hT hP (bm _ _ _).ok uL (by omega) (mk _ _ _) rfl fun d s2 env hS he=> ?_;try refine go ?_
 have RF:∃x0 x1 x2 x3 x4,d=kV x0 x1 x2 x3 x4:=by
  rcases hS with ⟨n,e,_,_,_,rfl,_⟩ | ⟨n,e,_,_,_,rfl,_⟩ | ⟨_,_,rfl,_⟩ | ⟨_,_,rfl,_⟩ <;> exact ⟨_,_,_,_,_,rfl⟩
 obtain⟨x0,x1,x2,x3,x4,rfl⟩:=RF;refine ai (r:=[kV x0 x1 x2 x3 x4]) ⟨_,(b1.mono fun j hj=>hj.elim).trans (bm _ _ _),ls,hS⟩ rfl ?_ rfl;show kY env s2 [.cell 2 (some 5)]=_;simp only [kY,he];rfl
end
noncomputable section
def T8:=RK.mk (a:=cf Tryz.f153 153)
def Vg:=RK.mk (a:=cf Tryz.f161 161)
def SI:=RK.mk (a:=cf Tryz.f162 162)
def Uv:=RK.mk (a:=cf Tryz.f163 163)
def UK:=RK.mk (a:=cf Tryz.f164 164)
def UF:=RK.mk (a:=cf Tryz.f173 173)
def Uy:=RK.mk (a:=cf Tryz.f188 188)
def Pt:=RK.mk (a:=cf Tryz.f205 205)
def TK:=RK.mk (a:=cf Tryz.f206 206)
def Tn:=RK.mk (a:=cf Tryz.f207 207)
def SW:=RK.mk (a:=cf Tryz.f208 208)
def Tc:=RK.mk (a:=cf Tryz.f216 216)
def ri:=RK.mk (a:=cf Tryz.f217 217)
def Tj:=RK.mk (a:=cf Tryz.f240 240)
def T1:=RK.mk (a:=cf Tryz.f241 241)
def SJ:=RK.mk (a:=cf Tryz.f249 249)
def AS:=RK.mk (a:=cf Tryz.f256 256)
def Um:=RK.mk (a:=cf Tryz.f264 264)
end
structure TV (T:Nat->Option dS):Prop where
 t153:T 153=some T8.1
 t161:T 161=some Vg.1
 t162:T 162=some SI.1
 t163:T 163=some Uv.1
 t164:T 164=some UK.1
 t173:T 173=some UF.1
 t188:T 188=some Uy.1
 t205:T 205=some Pt.1
 t206:T 206=some TK.1
 t207:T 207=some Tn.1
 t208:T 208=some SW.1
 t216:T 216=some Tc.1
 t217:T 217=some ri.1
 t240:T 240=some Tj.1
 t241:T 241=some T1.1
 t249:T 249=some SJ.1
 t256:T 256=some AS.1
 t264:T 264=some Um.1
end Go.Proofs.Tab
