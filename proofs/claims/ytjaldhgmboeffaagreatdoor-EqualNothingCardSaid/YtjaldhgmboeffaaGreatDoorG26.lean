/- Part. -/
import Derived.Test.YtjaldhgmboeffaaGreatDoorG25
set_option linter.unusedSimpArgs false
set_option linter.unusedVariables false
set_option linter.unusedSectionVars false
set_option maxRecDepth 100000
set_option maxHeartbeats 4000000
namespace Go.Proofs.Tab
open Go Go.Ab Go.Ab.Sm
section
variable {T:Nat->Option dU}{H Y:ay}
noncomputable def Nk:AC:=match N4.1.body with
 | .seq _ (.seq _ (.seq _ (.seq (.block _ c) _)))=>c
 | _=> .skip
noncomputable def JL:AC:=match Nk with
 | .loop _ a=>a
 | _=> .skip
theorem Gc (hT:TT T){s:St}{so to eo co ro log st J:Nat}{b:Bool}{x:D}{E:List eU}{C:List Int}{h told v:Int}{k:List iT}{Q:QP}(hs:s.Ok)(ht:kE s to eo co ro log b st x E C)(hE:E.length<=2000)(v8: -1<=told/\told < 2000)
  (gs:s.get so=some (.var 330 (qT to h log J (E.length:Nat) (J:Nat) told false)))(hJ:J<=100000)(hv:C[(gC log h J).1]? =some v)(neso:E≠ []->eo≠so)
  (hQ1:v= -1->∀s1 env,aF (fun j=>j=so) s s1->lg T H (.exit 0) k ⟨env,[]⟩ s1 Q)
  (hQ2:0<=v-> ¬ (told < v/\∃e,E[v.toNat]? =some e/\e.h=h)->∀s1 env,env.bV [0,6]=[(0,.ptr so 0),(6,.ptr so 0)]->aF (fun j=>j=so) s s1->s1.get so=some (.var 330 (qT to h log (J+1) (E.length:Nat) (J+1:Nat) told false))->lg T H .normal k ⟨env,[]⟩ s1 Q)
  (hQ3:∀w:Nat,v=(w:Int)->told < v->(∃e,E[w]? =some e/\e.h=h)->∀s1 env,Env.get env 2=some (.int .i64 (w:Nat))->Env.get env 3=some (.bool true)->aF (fun j=>j=so) s s1->s1.get so=some (.var 330 (qT to h log (J+1) (E.length:Nat) (J+1:Nat) (w:Nat) false))->lg T H .ret k ⟨env,[]⟩ s1 Q):
  eH T H JL k ⟨[(0,.ptr so 0),(6,.ptr so 0)],[]⟩ s Q:=by
 have gt:=ht.go;have hc:=ht.ce;have Cv:∀v∈C, -1<=v/\v < 32768:=fun v hv=>by have:=ht.cv v hv; omega
 have RN:=ht.cv v (aM hv);have nst:to≠so:=by rintro rfl; rw [gt]at gs; simp at gs
 have ncs:co≠so:=by rintro rfl; have:=hc.go; rw [this]at gs; simp at gs
 have nrs:ro≠so:=by rintro rfl; have:=hc.gr; rw [this]at gs; cases gs
 have ls:=hs.lt gs;have kQ:=HL (H:=H) (i:=(gC log h J).1) hT hc (lQ _ _ _) Cv;have kO:∀d:D,aF (fun j=>j=so) s (s.bF so (.var 330 d)):=fun d=>aF.set (W:=fun j=>j=so) (aF.refl hs) _ ls (fun _=>rfl);have jK:∀d d2:D,aF (fun j=>j=so) s ((s.bF so (.var 330 d)).bF so (.var 330 d2)):=fun d d2=>aF.set (W:=fun j=>j=so) (kO d) _ ls (fun _=>rfl);have hw:IntKind.wrap .i64 ((J:Int)+1)=((J+1:Nat):Int):=by rw [wrap_small (by omega) (by omega)]; omega
 have u7:∀d:D,(s.bF so (.var 330 d)).get to=_:=fun d=>(kO d).get hs gt nst;show eH T H (.seq _ _) _ _ s _;try refine go ?_
 refine aX kQ ?_;rintro d s2 ⟨rfl,v',Ct,rfl⟩;rw [hv]at Ct;simp only [aa]at Ct;subst Ct;refine⟨rfl,by simp [lost,eQ.kind,cK,dE,cF,aI,bC,bC.cW,gk,bP.ev,Env.get,cS,D.flat,D.isAgg,cP,D.fw,D.beq,aA,Obj.aW,bE,br,D.bW,D.aW,gs,gt], ?_⟩;try refine go ?_
 refine ak (JI hT) ?_;rintro d s3 rfl;try refine go ?_
 refine cV (fun zk=> ?_) (fun zk=> ?_)
 ·have qq:v= -1:=by simpa using zk
  try refine go ?_
  exact hQ1 qq _ _ (jK _ _)
 ·have kz:0<=v:=by
   have: ¬ v= -1:=by simpa using zk
   omega
  obtain⟨w,rfl⟩:=Int.eq_ofNat_of_zero_le kz;have Jh:w < E.length:=by omega
  have hE0:E≠ []:=by rintro rfl; simp at Jh
  have cE:=neso hE0;have Pu:E[w]? =some E[w]:=ab Jh;generalize E[w]=en at Pu;have hon:cu T H 232 [.ptr so 0] (s2.bF so (.var 330 (qT to h log J (E.length:Nat) (J+1:Nat) told false))) _:=aaf (H:=H) hT (kO _).ok (u7 _) (hc.dK hs (kO _) ncs nrs) St.aO;have he:=ht.en;rcases he with _ | ⟨_,st0,E,g,dN⟩
  ·exact absurd rfl hE0
  have pW:(E.map cG)[0+w]? =some (cG en):=by rw [aN,aC,Pu]; rfl
  have pQ:=eR E;try refine go ?_
  refine ak hon ?_;rintro d s4 ⟨g4,q4⟩;have kk:aF (fun j=>j=so) s2 s4:=(kO _).trans q4;have gt4:=kk.get hs gt nst;have ge4:=kk.get hs g cE;have ok4:=kk.ok;have ls4:=ok4.lt g4;clear hon kQ;rcases kV told (w:Int) with Mh | Mh
  ·have hd:decide ((w:Int) > told)=true:=cO Mh;try refine go ?_
   simp only [hd];try refine go ?_
   refine cV (fun uo=> ?_) (fun uo=> ?_)
   ·have hh:en.h=h:=by simpa using uo
    try refine go ?_
    have wX:∀d:D,aF (fun j=>j=so) s4 (s4.bF so (.var 330 d)):=fun d=>aF.set (W:=fun j=>j=so) (aF.refl ok4) _ ls4 (fun _=>rfl);exact hQ3 w rfl Mh ⟨en,Pu,hh⟩ _ _ rfl rfl (kk.trans (wX _)) St.aO
   ·have hh:en.h≠h:=by simpa using uo
    try refine go ?_
    exact hQ2 kz (fun ⟨_,e,UK,hh2⟩=>by rw [cZ,Pu]at UK; simp only [aa]at UK; subst UK; exact hh hh2) _ _ rfl kk g4
  ·have hd:=cN ((w:Int) > told);try refine go ?_
   simp only [hd];try refine go ?_
   exact hQ2 kz (fun hx=>by omega) _ _ rfl kk g4
theorem Sd (hT:TT T){s:St}{so to eo co ro log st J:Nat}{b:Bool}{x:D}{E:List eU}{C:List Int}{h told:Int}(hs:s.Ok)(ht:kE s to eo co ro log b st x E C)(hE:E.length<=2000)(v8: -1<=told/\told < 2000)
  (gs:s.get so=some (.var 330 (qT to h log J (E.length:Nat) (J:Nat) told false)))(Ul:Seen log h E C J told)(neso:E≠ []->eo≠so):
  cu T H 178 [.ptr so 0] s fun d s1=>aF (fun j=>j=so) s s1/\((∃v:Nat,d= .gK [.int .i64 (v:Nat),.bool true]/\rH E h told (some v)/\∃J',s1.get so=some (.var 330 (qT to h log J' (E.length:Nat) (J' :Nat) (v:Nat) false))/\Seen log h E C J' (v:Nat))\/
   (d= .gK [.int .i64 (-1),.bool false]/\rH E h told none)):=by
 have gt:=ht.go;have hc:=ht.ce;have abG:=hc.pow;have nst:to≠so:=by rintro rfl; rw [gt]at gs; simp at gs
 have ls:=hs.lt gs;have hn:E.length < 2 ^ log:=by have:=ht.rm; omega
 obtain⟨i0,i1,i2,i3⟩:=ht.la.empty (by rw [aJ]; exact hn) h 0;have kO:∀d:D,aF (fun j=>j=so) s (s.bF so (.var 330 d)):=fun d=>aF.set (W:=fun j=>j=so) (aF.refl hs) _ ls (fun _=>rfl)
 have hJ:∀ {s' :St} {J' :Nat},Seen log h E C J' told->J' <=i0:=fun hq=>by
  rcases aH i0 _ with h1 | h1
  ·exact absurd i3 (hq.1 i0 h1)
  ·exact h1
 have LJ:(((E.length:Nat):Int) !=((E.length:Nat):Int))=false:=bne_self_eq_false _;refine ax hT.t178 ?_;try refine go ?_
 simp only [LJ];refine cg (fun m env s' =>env=[(0,.ptr so 0),(6,.ptr so 0)]/\∃J',m=i0+1 - J' /\Seen log h E C J' told/\s'.get so=some (.var 330 (qT to h log J' (E.length:Nat) (J' :Nat) told false))/\aF (fun j=>j=so) s s') (i0+1 - J) rfl ⟨rfl,J,rfl,Ul,St.aO,kO _⟩ ?_;rintro m env s' ⟨rfl,J',rfl,w1,w2,w3⟩;have hJ' :=hJ (s' :=s') w1;have Rc :kE s' to eo co ro log b st x E C:=by
  refine⟨w3.get hs gt nst,ht.en.dK hs w3 (fun es st hq=> ?_),hc.dK hs w3 ?_ ?_,ht.la,ht.rm⟩
  ·rintro rfl; rw [gs]at hq; cases hq
  ·rintro rfl; have:=hc.go; rw [this]at gs; simp at gs
  ·rintro rfl; have:=hc.gr; rw [this]at gs; cases gs
 have mD:(gC log h J').1 < C.length:=by rw [hc.ln]; exact lQ _ _ _
 refine Gc hT w3.ok Rc hE v8 w2 (by omega) (ab mD) neso ?_ ?_ ?_
 ·intro hv s1 env q1;try refine go ?_
  refine ai ⟨w3.trans q1,.inr ⟨rfl,w1.over ht.la (Nat.le_of_lt hn) ?_⟩⟩;rw [ab mD,hv]
 ·intro hv cE s1 env q1 q2 q3;have w4:=w1.pass (ab mD) hv cE;have hJ4:=hJ (s' :=s1) w4;try refine go ?_
  exact bf (i0+1 - (J' +1)) (by omega) rfl ⟨q1,J' +1,rfl,w4,q3,w3.trans q2⟩
 ·intro w hv Mh he s1 env q1 q2 q3 q4;obtain⟨e,he,hh⟩:=he;have hvw:C[(gC log h J').1]? =some (w:Int):=by rw [ab mD,hv]
  have ⟨z1,z2⟩:=w1.tell ht.la (Nat.le_of_lt hn) hvw (by rw [← hv]; exact Mh) he hh;try refine go ?_
  refine ai (r:=[.int .i64 (w:Nat),.bool true]) ⟨w3.trans q3,.inl ⟨w,rfl,z1,J' +1,q4,z2⟩⟩ rfl ?_ rfl;show lu env s1 [.tmp 2,.tmp 3]=_;simp only [lu,bP.ev,q1,q2]
end
section
variable {T:Nat->Option dU}{H Y:ay}
theorem Lv {E:List eU}{i:Nat}{e:eU}{v:Int}(hi:E[i]? =some e):(E.map cG).set i (.agg [.bool true,.int .i64 e.h,.int .i64 e.k,.int .i64 v,.int .i64 e.b])=(E.set i { e with v:=v}).map cG:=by
 rw [jj]
theorem R9 {E:List eU}{i:Nat}{e:eU}{v:Int}(hi:E[i]? =some e):gX (E.set i { e with v:=v})=gX E:=by
 apply kr;intro j;simp only [gX,aC,mq];split
 ·rename_i h;subst h;split
  ·rw [hi]; rfl
  ·rename_i h2;have:=(aj.mp hi).1;omega
 ·rfl
theorem W4 (hT:TT T){s:St}{to eo co ro log st i:Nat}{b:Bool}{x:D}{E:List eU}{C:List Int}{e:eU}{v:Int}{W:Nat->Prop}(hs:s.Ok)(ht:kE s to eo co ro log b st x E C)(hi:E[i]? =some e)(hE:E.length<=2000)(we:W eo):
  cu T H 220 [.ptr to 0,.int .i64 (i:Nat),.int .i64 v] s fun d s1=>d= .int .i64 0/\kE s1 to eo co ro log b st x (E.set i { e with v:=v}) C/\aF W s s1:=by
 have hl:i < E.length:=(aj.mp hi).1;have gt:=ht.go;have he:=ht.en;rcases he with _ | ⟨_,st0,E,g,dN⟩
 ·simp at hl
 have pW:(E.map cG)[0+i]? =some (cG e):=by rw [aN,aC,hi]; rfl
 have pQ:=eR E;have hE0:E≠ []:=by rintro rfl; simp at hl
 obtain⟨m1,m2,m3,m4⟩:=ht.nt;obtain⟨m5,m6,m7⟩:=m4 hE0;have le:=hs.lt g;have hw:=AN (H:=H) hT gt g dN hl hE;refine ax hT.t220 ?_;try refine go ?_
 refine ak hw ?_;rintro d s1 ⟨rfl,rfl⟩;try refine go ?_
 have hb:∀es:List D,∀n:Nat,aF (fun j=>j=eo) s1 (s1.bF eo (.arr 5 232 es n)):=fun es n=>aF.set (W:=fun j=>j=eo) (aF.refl hs) _ le (fun _=>rfl);have Ff :(E.set i { e with v:=v}).length=E.length:=ic;have u6:=Lv (v:=v) hi;have Fc:(s1.bF eo (.arr 5 232 ((E.map cG).set (0+i) (.agg [.bool true,.int .i64 e.h,.int .i64 e.k,.int .i64 v,.int .i64 e.b])) (E.map cG).length)).get eo=some (.arr 5 232 ((E.set i { e with v:=v}).map cG) (E.map cG).length):=by
  rw [aN,u6]; exact St.aO
 refine ai ⟨rfl,⟨?_, ?_,ht.ce.dK hs (hb _ _) (bO m6) (bO m7), ?_, ?_⟩,(hb _ _).mono fun j hj=>by subst hj; exact we⟩
 ·rw [Ff]; exact (hb _ _).get hs gt (bO m5)
 ·have:=zK.sl eo _ _ Fc (by rw [Ff,eR]; exact aq _);rw [Ff]at this;exact this
 ·rw [R9 hi]; exact ht.la
 ·rw [Ff]; exact ht.rm
end
open Go Go.Ab
noncomputable section
def UH:=RK.mk (a:=cf Tryz.f107 107)
def NF:=RK.mk (a:=cf Tryz.f109 109)
def SJ:=RK.mk (a:=cf Tryz.f111 111)
def Vx:=RK.mk (a:=cf Tryz.f145 145)
def Vc:=RK.mk (a:=cf Tryz.f161 161)
def T1:=RK.mk (a:=cf Tryz.f174 174)
def Ts:=RK.mk (a:=cf Tryz.f175 175)
def Sq:=RK.mk (a:=cf Tryz.f177 177)
def US:=RK.mk (a:=cf Tryz.f179 179)
def Un:=RK.mk (a:=cf Tryz.f217 217)
def S5:=RK.mk (a:=cf Tryz.f218 218)
def Uz:=RK.mk (a:=cf Tryz.f219 219)
def Tc:=RK.mk (a:=cf Tryz.f221 221)
def Vp:=RK.mk (a:=cf Tryz.f224 224)
def U3:=RK.mk (a:=cf Tryz.f225 225)
end
structure TP (T:Nat->Option dU):Prop where
 t107:T 107=some UH.1
 t109:T 109=some NF.1
 t111:T 111=some SJ.1
 t145:T 145=some Vx.1
 t161:T 161=some Vc.1
 t174:T 174=some T1.1
 t175:T 175=some Ts.1
 t177:T 177=some Sq.1
 t179:T 179=some US.1
 t217:T 217=some Un.1
 t218:T 218=some S5.1
 t219:T 219=some Uz.1
 t221:T 221=some Tc.1
 t224:T 224=some Vp.1
 t225:T 225=some U3.1
@[reducible] def kX (kind ky:Int) (fnd:Bool) (v e:Int):D:= .agg [.int .i64 kind,.int .i64 ky,.bool fnd,.int .i64 v,.int .i64 e]
@[reducible] def wI (to:Nat) (most ver:Int):D:= .agg [.ptr to 0,.int .i64 most,.int .u64 ver]
section
variable {T:Nat->Option dU}{H Y:ay}
theorem Ii (hT:TT T)(hP:TP T){s:St}{most:Nat}(hs:s.Ok)(hm:most<=65536):
  cu T H 145 [.int .i64 (most:Nat),.cz] s fun d s1=>∃to dv co ro b st C,d= .gK [.ptr dv 0,.int .i64 0]/\s.n<=to/\s.n<=dv/\s.n<=co/\s.n<=ro/\dv≠to/\s1.get dv=some (.var 280 (wI to (most:Nat) 0))/\kE s1 to 0 co ro 3 b st (.vs true 0 []) [] C/\aF Nil s s1:=by
 have hn:=Hz (H:=H) hT hs;refine ax hP.t145 ?_;try refine go ?_
 refine ak hn ?_;rintro d s1 ⟨rfl,co,ro,b,st,C,h1,h2,h3,h4,h5,h6⟩;have ok1:=h6.ok;try refine go ?_
 have hb:∀x,aF (fun _=>False) s1 (s1.bz x):=fun x=>aF.push (aF.refl ok1) x;have l1:=ok1.lt h3; have l2:=ok1.lt h4.go; have l3:=ok1.lt h4.gr;have zA:=h6.n;refine ai ⟨s.n,s1.n,co,ro,b,st,C,rfl,aq _,by omega,by omega,by omega,by omega,St.bu,⟨(hb _).get ok1 h3 (fun h=>h),.nil 0,h4.dK ok1 (hb _) (fun h=>h) (fun h=>h),h5,aS _⟩,h6.trans ((hb _).mono fun j hj=>hj.elim)⟩
theorem Qb (hT:TT T)(hP:TP T){s:St}{dv to n:Nat}{most ver:Int}{x c n2 n3 n4:D}(gd:s.get dv=some (.var 280 (wI to most ver)))(gt:s.get to=some (.var 328 (.agg [.cz,x,c,.int .i64 (n:Nat),n2,n3,n4]))):
  cu T H 161 [.ptr dv 0] s fun d s1=>d= .int .i64 (n:Nat)/\s1=s:=by
 have hl:=Qi (H:=H) hT gt;refine ax hP.t161 ?_;try refine go ?_
 refine ak hl ?_;rintro d s1 ⟨rfl,rfl⟩;try refine go ?_
 exact ai ⟨rfl,rfl⟩
theorem xT (hP:TP T){s:St}{dv to:Nat}{most ver:Int}(hs:s.Ok)(gd:s.get dv=some (.var 280 (wI to most ver))):
  cu T H 221 [.ptr dv 0] s fun _ s1=>(∃ver',s1.get dv=some (.var 280 (wI to most ver')))/\aF (fun j=>j=dv) s s1:=by
 have ld:=hs.lt gd;have hb:∀d:D,aF (fun j=>j=dv) s (s.bF dv (.var 280 d)):=fun d=>aF.set (W:=fun j=>j=dv) (aF.refl hs) _ ld (fun _=>rfl);refine ax hP.t221 ?_;try refine go ?_
 exact iu ⟨⟨_,St.aO⟩,hb _⟩
theorem J3 (hP:TP T){s:St}{dv to:Nat}{most ver:Int}(gd:s.get dv=some (.var 280 (wI to most ver))):
  cu T H 175 [.ptr dv 0] s fun d s1=>d= .ptr to 0/\s1=s:=by
 refine ax hP.t175 ?_;try refine go ?_
 exact ai ⟨rfl,rfl⟩
theorem LH (hP:TP T){s:St}{n:Nat}{e:eU}:cu T H 218 [.int .i64 (n:Nat),cG e] s fun d s1=>d=kX 2 0 true e.v (n:Nat)/\s1=s:=by
 refine ax hP.t218 ?_;try refine go ?_
 exact ai ⟨rfl,rfl⟩
theorem xh {s:St}{o c:Nat}{es:List (Nat×D×D)}{env:Env}{m k v:bP}{n:Int}{d:D}(hs:s.Ok)(hg:s.get o=some (.map es c))(hm:m.ev env=some (.mp o))(hk:k.ev env=some (.int .i64 n))(hv:v.ev env=some d)(hf:findKey .int (.int .i64 n) es 0=some none):
  cC fF env s none (.zC .int m k v)=some (.gK [],s.bF o (.map (es++ [(c,.int .i64 n,d)]) (c+1))):=by
 have e1:oQ .int (.int .i64 n)=true:=rfl;simp only [cC,hm,hk,hv,hg,e1,hf,hs.set,oK]
def YM:List (Nat×D×D):=[(0,.int .i64 1,.agg [.fn (.func 217) [] [],.fn (.func 224) [] []]),(1,.int .i64 2,.agg [.fn (.func 219) [] [],.fn (.func 225) [] []]),
 (2,.int .i64 3,.agg [.fn (.func 222) [] [],.fn (.func 224) [] []]),(3,.int .i64 4,.agg [.fn (.func 217) [] [],.fn (.func 225) [] []])]
theorem Rr (hP:TP T){s:St}(hs:s.Ok):cu T H 174 [] s fun d s1=>d= .mp s.n/\s1.get s.n=some (.map YM 4)/\aF Nil s s1:=by
 have ya:aF Nil s (s.bz (.map [] 0)):=aF.push (aF.refl hs) _;have step:∀ {t:St} (h:aF Nil s t/\s.n < t.n) (es:List (Nat×D×D)) (c:Nat),aF Nil s (t.bF s.n (.map es c))/\s.n < (t.bF s.n (.map es c)).n:=fun {t} h es c=>⟨aF.set (W:=Nil) h.1 _ h.2 (fun h=>by omega),h.2⟩;have k0:aF Nil s (s.bz (.map [] 0))/\s.n < (s.bz (.map [] 0)).n:=⟨ya,by rw [St.dV]; omega⟩;refine ax hP.t174 ?_;try refine go ?_
 refine qt ?_ rfl (xh k0.1.ok St.bu rfl rfl rfl rfl);try refine go ?_
 refine qt ?_ rfl (xh (step k0 _ _).1.ok St.aO rfl rfl rfl rfl);try refine go ?_
 refine qt ?_ rfl (xh (step (step k0 _ _) _ _).1.ok St.aO rfl rfl rfl rfl);try refine go ?_
 refine qt ?_ rfl (xh (step (step (step k0 _ _) _ _) _ _).1.ok St.aO rfl rfl rfl rfl);try refine go ?_
 exact ai ⟨rfl,St.aO,(step (step (step (step k0 _ _) _ _) _ _) _ _).1⟩
end
@[reducible] def sZ (sk:D) (dv:Nat) (h k v state entry scans ver t0 t1:Int) (t2:Bool) (t3 t4:Int):D:=
 .agg [sk,.ptr dv 0,.fn (.func 219) [] [],.fn (.func 225) [] [],.int .i64 h,.int .i64 k,.int .i64 v,.int .i64 state,.int .i64 entry,.int .i64 scans,.int .u64 ver,.int .i64 t0,.int .i64 t1,.bool t2,.int .i64 t3,.int .i64 t4]
section
variable {T:Nat->Option dU}{H Y:ay}
theorem Ot (hP:TP T){s:St}{dv to:Nat}{h k v most ver:Int}(hs:s.Ok)(gd:s.get dv=some (.var 280 (wI to most ver))):
  cu T H 107 [.ptr dv 0,.int .i64 2,.int .i64 h,.int .i64 k,.int .i64 v] s fun d s1=>∃mo,d= .ptr mo 0/\s.n<=mo/\s1.get mo=some (.var 277 (sZ .cz dv h k v 0 0 0 0 0 0 false 0 0))/\aF Nil s s1:=by
 have hr:=Rr (H:=H) hP hs;refine ax hP.t107 ?_;try refine go ?_
 refine ak hr ?_;rintro d s1 ⟨rfl,g1,b1⟩;have ok1:=b1.ok;try refine go ?_
 have:=b1.n;exact ai ⟨s1.n,rfl,this,St.bu,aF.push b1 _⟩
theorem QR (hP:TP T){s:St}{mo:Nat}{sk:D}{dv:Nat}{h k v entry scans ver t0 t1 t3 t4:Int}{t2 same:Bool}(hs:s.Ok)(gm:s.get mo=some (.var 277 (sZ sk dv h k v 2 entry scans ver t0 t1 t2 t3 t4))):
  cu T H 111 [.ptr mo 0,.bool same] s fun d s1=>d= .int .i64 0/\s1.get mo=some (.var 277 (sZ sk dv h k v (if same then 3 else 1) entry scans ver t0 t1 t2 t3 t4))/\aF (fun j=>j=mo) s s1:=by
 have lm:=hs.lt gm;have hb:∀d:D,aF (fun j=>j=mo) s (s.bF mo (.var 277 d)):=fun d=>aF.set (W:=fun j=>j=mo) (aF.refl hs) _ lm (fun _=>rfl);cases same
 ·refine ax hP.t111 ?_;try refine go ?_
  exact ai ⟨rfl,St.aO,hb _⟩
 ·refine ax hP.t111 ?_;try refine go ?_
  exact ai ⟨rfl,St.aO,hb _⟩
theorem G1 (hP:TP T){s:St}{mo:Nat}{sk:D}{dv:Nat}{h k v st entry scans ver t0 t1 t3 t4 u0 u1 u3 u4:Int}{t2 u2:Bool}(hs:s.Ok)(gm:s.get mo=some (.var 277 (sZ sk dv h k v st entry scans ver t0 t1 t2 t3 t4))):
  cu T H 179 [.ptr mo 0,kX u0 u1 u2 u3 u4] s fun d s1=>d=kX u0 u1 u2 u3 u4/\aF (fun j=>j=mo) s s1:=by
 have lm:=hs.lt gm;have hb:∀d:D,aF (fun j=>j=mo) s (s.bF mo (.var 277 d)):=fun d=>aF.set (W:=fun j=>j=mo) (aF.refl hs) _ lm (fun _=>rfl);have jK:∀d e:D,aF (fun j=>j=mo) s ((s.bF mo (.var 277 d)).bF mo (.var 277 e)):=fun d e=>aF.set (W:=fun j=>j=mo) (hb d) _ lm (fun _=>rfl);refine ax hP.t179 ?_;try refine go ?_
 exact ai ⟨rfl,jK _ _⟩
end
def fD (W:Nat->Prop)(s:St)(dv:Nat)(most:Nat)(E:List eU):Prop:=∃to eo co ro log b st x C ver,s.get dv=some (.var 280 (wI to (most:Nat) ver))/\kE s to eo co ro log b st x E C/\W dv/\W to/\W eo/\W co/\W ro/\E.length<=1000
def Own (n:Nat)(W:Nat->Prop)(o:Nat):Prop:=W o\/n<=o
section
variable {T:Nat->Option dU}{H Y:ay}
theorem fD.dK {W W' :Nat->Prop}{s s1:St}{dv most:Nat}{E:List eU}(h:fD W s dv most E)(hs:s.Ok)(hb:aF W' s s1)(hd:∀o,o < s.n->W o-> ¬ W' o):fD W s1 dv most E:=by
 obtain⟨to,eo,co,ro,log,b,st,x,C,ver,h1,h2,w1,w2,w3,w4,w5,h3⟩:=h;refine⟨to,eo,co,ro,log,b,st,x,C,ver,hb.get hs h1 (hd _ (hs.lt h1) w1),⟨hb.get hs h2.go (hd _ (hs.lt h2.go) w2),h2.en.dK hs hb (fun es st hq=>hd _ (hs.lt hq) w3),h2.ce.dK hs hb (hd _ (hs.lt h2.ce.go) w4) (hd _ (hs.lt h2.ce.gr) w5),h2.la,h2.rm⟩,w1,w2,w3,w4,w5,h3⟩
theorem kE.dK {W:Nat->Prop}{s s1:St}{to eo co ro log st:Nat}{b:Bool}{x:D}{E:List eU}{C:List Int}(h2:kE s to eo co ro log b st x E C)(hs:s.Ok)(hb:aF W s s1)(n1: ¬ W to)(n2:∀es st,s.get eo=some (.arr 5 232 es st)-> ¬ W eo)(n3: ¬ W co)(n4: ¬ W ro):kE s1 to eo co ro log b st x E C:=
 ⟨hb.get hs h2.go n1,h2.en.dK hs hb n2,h2.ce.dK hs hb n3 n4,h2.la,h2.rm⟩
theorem Ca {s:St}{dv to eo co ro log st:Nat}{b:Bool}{x d:D}{E:List eU}{C:List Int}(h1:s.get dv=some (.var 280 d))(h2:kE s to eo co ro log b st x E C):to≠dv/\co≠dv/\ro≠dv/\∀es st,s.get eo=some (.arr 5 232 es st)->eo≠dv:=by
 refine⟨?_, ?_, ?_,fun es st hq=> ?_⟩
 ·rintro rfl; rw [h2.go]at h1; simp at h1
 ·rintro rfl; rw [h2.ce.go]at h1; simp at h1
 ·rintro rfl; rw [h2.ce.gr]at h1; cases h1
 ·rintro rfl; rw [hq]at h1; cases h1
theorem Rl (hT:TT T)(hP:TP T){W:Nat->Prop}{s:St}{mo dv most n:Nat}{sk:D}{E:List eU}{e:eU}{h k v st entry scans ver t0 t1 t3 t4:Int}{t2:Bool}(hs:s.Ok)(gm:s.get mo=some (.var 277 (sZ sk dv h k v st entry scans ver t0 t1 t2 t3 t4)))(hm: ¬ W mo)(hd:fD W s dv most E)(hi:E[n]? =some e):
  cu T H 219 [.ptr mo 0,.int .i64 (n:Nat),cG e] s fun d s1=>d=kX 2 0 true e.v (n:Nat)/\fD W s1 dv most (E.set n { e with v:=v})/\aF W s s1:=by
 obtain⟨to,eo,co,ro,log,b,st',x,C,ver',h1,h2,w1,w2,w3,w4,w5,h3⟩:=hd;have tW:=W4 (H:=H) (v:=v) (W:=fun j=>j=eo) hT hs h2 hi (by omega) rfl;have nde:dv≠eo:=by
  rintro rfl;have:=h2.en;rcases this with _ | ⟨_,_,_,g,_⟩
  ·simp at hi
  ·rw [h1]at g; cases g
 refine ax hP.t219 ?_;try refine go ?_
 refine aX tW ?_;rintro d s1 ⟨rfl,z1,z2⟩;refine⟨rfl,by simp [lost,eQ.kind,cK,dE,cF,aI,bC,bC.cW,gk,bP.ev,Env.get,cS,D.flat,D.isAgg,cP,D.fw,D.beq,aA,Obj.aW,bE,br,D.bW,D.aW,z1], ?_⟩;have ok1:=z2.ok;have Ie:=z2.get hs gm (by rintro rfl; exact hm w3);have EU:=z2.get hs h1 nde;have hch:=xT (H:=H) hP ok1 EU;try refine go ?_
 refine ak hch ?_;rintro d s2 ⟨⟨Xt,RS⟩,y2⟩;have ok2:=y2.ok;obtain⟨m1,m2,m3,m4⟩:=Ca EU z1;have z3:=z1.dK ok1 y2 m1 m4 m2 m3;try refine go ?_
 refine ak (LH hP) ?_;rintro d s3 ⟨rfl,rfl⟩;try refine go ?_
 refine ai ⟨rfl,⟨to,eo,co,ro,log,b,st',x,C,Xt,RS,z3,w1,w2,w3,w4,w5, ?_⟩,(z2.mono fun j hj=>by subst hj; exact w3).trans (y2.mono fun j hj=>by subst hj; exact w1)⟩;rw [ic]; exact h3
end
section
variable {T:Nat->Option dU}{H Y:ay}
theorem QH (hT:TT T)(hP:TP T){W:Nat->Prop}{s:St}{mo dv most:Nat}{sk:D}{E:List eU}{h k v st entry scans ver t0 t1 t3 t4:Int}{t2:Bool}(hs:s.Ok)(gm:s.get mo=some (.var 277 (sZ sk dv h k v st entry scans ver t0 t1 t2 t3 t4)))(hm: ¬ W mo)(hd:fD W s dv most E)(uy:most<=1000):
  cu T H 225 [.ptr mo 0] s fun d s1=>aF W s s1/\((E.length < most/\d=kX 2 0 false v (E.length:Nat)/\fD (Own s.n W) s1 dv most (E++ [eU.mk h k v (E.length:Nat)]))\/(most<=E.length/\d=kX 3 0 false 0 0/\s1=s)):=by
 have lm:=hs.lt gm;obtain⟨to,eo',co,ro,log,b,st',x,C,ver',h1,xr,w1,w2,w3',w4,w5,h3⟩:=hd;obtain⟨m1,m2,m3,m4'⟩:=Ca h1 xr
 obtain⟨eo,h2,w3,m4⟩:∃eo,kE s to eo co ro log b st' x E C/\W eo/\eo≠dv:=by
  have he:=xr.en;rcases he with _ | ⟨_,st0,E,g,dN⟩
  ·exact⟨to,⟨xr.go,.nil to,xr.ce,xr.la,xr.rm⟩,w2,m1⟩
  ·exact⟨eo',xr,w3',m4' _ _ g⟩
 have gt:=h2.go;have hlen:=Qb (H:=H) (s:= { s with ro:=true}) hT hP h1 h2.go;by_cases ZS:most<=E.length
 ·refine ax hP.t225 ?_;try refine go ?_
  refine qN hlen ?_;rintro d s1 ⟨rfl,rfl⟩;refine⟨rfl, ?_⟩;try refine go ?_
  refine cV (fun hc=> ?_) (fun hc=> ?_)
  ·try refine go ?_
   exact ai ⟨aF.refl hs,.inr ⟨ZS,rfl,rfl⟩⟩
  ·exfalso;simp at hc;omega
 ·have Wu:=Wv (H:=H) (h:=h) (ky:=k) (v:=v) (W:=fun j=>j=to\/j=eo\/j=ro\/j=co) hT hs h2 h3 (.inl rfl) (.inr (.inl rfl)) (.inr (.inr (.inl rfl))) (.inr (.inr (.inr rfl)));refine ax hP.t225 ?_;try refine go ?_
  refine qN hlen ?_;rintro d s1 ⟨rfl,rfl⟩;refine⟨rfl, ?_⟩;try refine go ?_
  refine cV (fun hc=> ?_) (fun hc=> ?_)
  ·exfalso;simp at hc;omega
  ·try refine go ?_
   refine aX Wu ?_;rintro d s1 ⟨rfl,z1⟩;obtain⟨eo2,co2,ro2,log2,b2,tJ,x2,C2,y1,y2,y3,y4,y5⟩:=z1;have ok1:=y5.ok;have nm: ¬ (mo=to\/mo=eo\/mo=ro\/mo=co):=by rintro (rfl | rfl | rfl | rfl) <;> exact hm (by assumption)
   have Ie:=y5.get hs gm nm;have EU:=y5.get hs h1 (by rintro (rfl | rfl | rfl | rfl) <;> simp_all);have hch:=xT (H:=H) hP ok1 EU;have lo:∀o,(o=to\/o=eo\/o=ro\/o=co)\/s.n<=o->Own s.n W o:=by
    rintro o ((rfl | rfl | rfl | rfl) | h)
    ·exact .inl w2
    ·exact .inl w3
    ·exact .inl w5
    ·exact .inl w4
    ·exact .inr h
   refine⟨rfl,by rfl, ?_⟩;try refine go ?_
   refine ak hch ?_;rintro d s2 ⟨⟨Xt,RS⟩,q2⟩;obtain⟨p1,p2,p3,p4⟩:=Ca EU y1;have Lk:=q2.get ok1 Ie (by rintro rfl; exact hm w1);have y6:=y1.dK ok1 q2 p1 p4 p2 p3;try refine go ?_
   refine ai ⟨?_,.inl ⟨by omega,rfl,⟨to,eo2,co2,ro2,log2,b2,tJ,x2,C2,Xt,RS,y6,.inl w1,.inl w2,lo _ y2,lo _ y3,lo _ y4, ?_⟩⟩⟩
   ·exact (y5.mono (by rintro j (rfl | rfl | rfl | rfl) <;> assumption)).trans (q2.mono fun j hj=>by subst hj; exact w1)
   ·rw [aG,aZ]; omega
end
section
variable {T:Nat->Option dU}{H:ay}{b kk:Nat}{k:List iT}{s:St}{Q:QP}{l:List (bg×List Nat)}{acc:List Fp}{q:List Nat}{t:Nat}{e:Env}{ds:List (D×List D)}{g:Option (Nat×Bool)}
theorem Gp {fp:Fp}{f:bP}{gf:Nat}{args:List bP}{x x1 x2 y:List D}{R:D->St->Prop}(hE:cu T H gf y s R)(h:∀d s1,R d s1->Env.cY ((t,d)::e) (some t)=false/\lost acc s s1 ⟨some t,.oU f args,g,none⟩ q=false/\fU T H b kk l (acc++ [fpC fp s s1]) k ⟨(t,d)::e,ds⟩ s1 Q)
  (hw:aI e g=some true:=by rfl)(hv:f.ev e=some (.fn (.func gf) x1 x2):=by rfl)(hx:sg e args=some x:=by rfl)(hy:x1++x++x2=y:=by rfl)(hf:cF b e ⟨some t,.oU f args,g,none⟩=fp:=by exact fI)(hc:fh acc fp q=true:=by exact cI)(kz:Env.cY e (some t)=false:=by rfl)(hs:s.Ok:=by exact oI):
  fU T H b kk ((⟨some t,.oU f args,g,none⟩,q)::l) acc k ⟨e,ds⟩ s Q:=by
 subst hf;subst hy;obtain⟨d,s1,h1,h2⟩:=hE;obtain⟨h3,h4,h5⟩:=h d s1 h2;exact⟨tZ (r:=(d,s1)) hc kz ⟨s,h1,fun C hC=>iC (o:=⟨some t,.oU f args,g,none⟩) (fr:=⟨e,ds⟩) hw (by simp only [cC,hv,hx]; exact Pe hs.ro hC)⟩ h3 h4 h5.out⟩
end
section
variable {T:Nat->Option dU}{H Y:ay}
theorem MA (hT:TT T)(hP:TP T){W:Nat->Prop}{s:St}{mo dv most n:Nat}{sk:D}{E:List eU}{e:eU}{h k v st entry scans ver t0 t1 t3 t4:Int}{t2:Bool}(hs:s.Ok)(gm:s.get mo=some (.var 277 (sZ sk dv h k v st entry scans ver t0 t1 t2 t3 t4)))(hm: ¬ W mo)(hd:fD W s dv most E)(hi:E[n]? =some e):
  cu T H 177 [.ptr mo 0,.int .i64 (n:Nat)] s fun d s1=>d=kX 2 0 true e.v (n:Nat)/\fD W s1 dv most (E.set n { e with v:=v})/\aF (fun j=>W j\/j=mo) s s1:=by
 have ZI:=Rl (H:=H) hT hP hs gm hm hd hi;have lm:=hs.lt gm;have Fh:=hd;obtain⟨to,eo,co,ro,log,b,st',x,C,ver',h1,h2,w1,w2,w3,w4,w5,h3⟩:=hd;have gt:=h2.go;have sG:∃st0,x= .sl eo 0 E.length E.length/\s.get eo=some (.arr 5 232 (E.map cG) st0)/\st0<=E.length:=by
  have he:=h2.en;rcases he with _ | ⟨_,st0,E,g,dN⟩
  ·simp at hi
  ·exact⟨st0,rfl,g,dN⟩
 obtain⟨st0,rfl,ge,dN⟩:=sG;have oM:=To (H:=H) hT gt ge dN hi (by omega);refine ax hP.t177 ?_;try refine go ?_
 refine ak oM ?_;rintro d s1 ⟨rfl,rfl⟩;try refine go ?_
 refine Gp ZI ?_;rintro d s2 ⟨rfl,y1,y2⟩;refine⟨rfl,by simp [lost,eQ.kind,cK,dE,cF,aI,bC,bC.cW,gk,bP.ev,Env.get,cS,D.flat,D.isAgg,cP,D.fw,D.beq,aA,Obj.aW,bE,br,D.bW,D.aW,gm], ?_⟩;have ok2:=y2.ok;have Lk:=y2.get hs gm hm;have iW:=G1 (H:=H) (u0:=2) (u1:=0) (u2:=true) (u3:=e.v) (u4:=(n:Nat)) hP ok2 Lk;try refine go ?_
 refine aX iW ?_;rintro d s3 ⟨rfl,z1⟩;refine⟨rfl,by simp [lost,eQ.kind,cK,dE,cF,aI,bC,bC.cW,gk,bP.ev,Env.get,cS,D.flat,D.isAgg,cP,D.fw,D.beq,aA,Obj.aW,bE,br,D.bW,D.aW,Lk], ?_⟩;have y3:=y1.dK ok2 z1 (by rintro o ho hw rfl; exact hm hw)
 repeat' first | refine go ?_ | refine oy ?_
 exact ai ⟨rfl,y3,(y2.mono fun j hj=> .inl hj).trans (z1.mono fun j hj=> .inr hj)⟩
end
structure oV (W:Nat->Prop)(s:St)(mo dv so most:Nat)(E:List eU)(h k v state entry told:Int):Prop where
 ex:∃to eo co ro log b st x C ver J scans t0 t1 t2 t3 t4,s.get dv=some (.var 280 (wI to (most:Nat) ver))/\kE s to eo co ro log b st x E C/\W dv/\W to/\W eo/\W co/\W ro/\E.length<=1000/\
  s.get mo=some (.var 277 (sZ (.ptr so 0) dv h k v state entry scans ver t0 t1 t2 t3 t4))/\s.get so=some (.var 330 (qT to h log J (E.length:Nat) (J:Nat) told false))/\Seen log h E C J told
 nm: ¬ W mo
 ns: ¬ W so
 nq:mo≠so
theorem oV.ab6 {W:Nat->Prop}{s:St}{mo dv so most:Nat}{E:List eU}{h k v state entry told:Int}(hm:oV W s mo dv so most E h k v state entry told):fD W s dv most E:=by
 obtain⟨to,eo,co,ro,log,b,st,x,C,ver,J,scans,t0,t1,t2,t3,t4,h1,h2,w1,w2,w3,w4,w5,h3,_⟩:=hm.ex;exact⟨to,eo,co,ro,log,b,st,x,C,ver,h1,h2,w1,w2,w3,w4,w5,h3⟩
section
variable {T:Nat->Option dU}{H Y:ay}
noncomputable def Ls:AC:=match NF.1.body with
 | .seq _ (.seq _ (.seq _ (.seq _ (.block _ c))))=>c
 | _=> .skip
noncomputable def J2:AC:=match Ls with
 | .loop _ a=>a
 | _=> .skip
def Stepped (W:Nat->Prop)(s:St)(mo dv so most:Nat)(E:List eU)(h k v told:Int)(d:D)(s1:St):Prop:=
 (∃(n:Nat) (e:eU),rH E h told (some n)/\E[n]? =some e/\e.k≠k/\d=kX 1 e.k false 0 0/\oV W s1 mo dv so most E h k v 2 (n:Nat) (n:Nat)/\aF (fun j=>j=mo\/j=so) s s1)\/
 (∃(n:Nat) (e:eU),rH E h told (some n)/\E[n]? =some e/\e.k=k/\d=kX 2 0 true e.v (n:Nat)/\fD W s1 dv most (E.set n { e with v:=v})/\aF (fun j=>W j\/j=mo\/j=so) s s1)\/
 (rH E h told none/\E.length < most/\d=kX 2 0 false v (E.length:Nat)/\fD (Own s.n W) s1 dv most (E++ [eU.mk h k v (E.length:Nat)])/\aF (fun j=>W j\/j=mo\/j=so) s s1)\/
 (rH E h told none/\most<=E.length/\d=kX 3 0 false 0 0/\fD W s1 dv most E/\aF (fun j=>W j\/j=mo\/j=so) s s1)
theorem zb (hT:TT T)(hP:TP T){W:Nat->Prop}{s:St}{mo dv so most:Nat}{E:List eU}{h k v state entry told:Int}{z:D}{K:List iT}{Q:QP}(hs:s.Ok)(uy:most<=1000)(v8: -1<=told/\told < 2000)(hm:oV W s mo dv so most E h k v state entry told)
  (hz:z= .agg [.int .i64 0,.int .i64 0,.bool false,.int .i64 0,.int .i64 0])
  (hQ:∀d s1 env,Stepped W s mo dv so most E h k v told d s1->Env.get env 2=some (.lv d)->lg T H .ret K ⟨env,[]⟩ s1 Q):
  eH T H J2 K ⟨[(0,.ptr mo 0),(2,.lv z)],[]⟩ s Q:=by
 subst hz;obtain⟨to,eo,co,ro,log,b,st,x,C,ver,J,scans,t0,t1,t2,t3,t4,h1,h2,w1,w2,w3,w4,w5,h3,gm,gs,Ul⟩:=hm.ex;have lm:=hs.lt gm;have ls:=hs.lt gs;have aav:=Sd (H:=H) hT hs h2 (by omega) v8 gs Ul (fun _=>by rintro rfl; exact hm.ns w3);show eH T H (.block _ _) _ _ s _;try refine go ?_
 refine ak aav ?_;rintro d s1 ⟨b1,pC⟩;have ok1:=b1.ok;have ne:∀o,W o->o≠so:=by rintro o ho rfl; exact hm.ns ho
 have Ie:=b1.get hs gm hm.nq;have EU:=b1.get hs h1 (ne _ w1);have X1:=h2.dK hs b1 (ne _ w2) (fun _ _ _=>ne _ w3) (ne _ w4) (ne _ w5);have HX:=X1.go;have UI:=ok1.lt Ie;have HP:fD W s1 dv most E:=⟨to,eo,co,ro,log,b,st,x,C,ver,EU,X1,w1,w2,w3,w4,w5,h3⟩;rcases pC with ⟨n,rfl,q1,J',g1,q2⟩ | ⟨rfl,q1⟩
 ·obtain⟨_,⟨e,he,heh⟩,_⟩:=id q1;have sG:∃st0,x= .sl eo 0 E.length E.length/\s1.get eo=some (.arr 5 232 (E.map cG) st0)/\st0<=E.length:=by
   have sG:=X1.en;rcases sG with _ | ⟨_,st0,E,g,dN⟩
   ·simp at he
   ·exact⟨st0,rfl,g,dN⟩
  obtain⟨st0,rfl,CT,dN⟩:=sG;have oM:=To (H:=H) hT HX CT dN he (by omega);have OK:=MA (H:=H) hT hP ok1 Ie hm.nm HP he;have qV:n < E.length:=(aj.mp he).1;try refine go ?_
  refine ak oM ?_;rintro d s2 ⟨rfl,rfl⟩
  repeat' first | refine go ?_ | refine oy ?_
  refine cV (fun hc=> ?_) (fun hc=> ?_)
  ·have hk:e.k=k:=by simpa using hc
   try refine go ?_
   refine ak OK ?_;rintro d s3 ⟨rfl,y1,y2⟩;try refine go ?_
   exact hQ _ _ _ (.inr (.inl ⟨n,e,q1,he,hk,rfl,y1,(b1.mono fun j hj=> .inr (.inr hj)).trans (y2.mono fun j hj=>hj.imp id .inl)⟩)) rfl
  ·have hk:e.k≠k:=by simpa using hc
   try refine go ?_
   have bm:∀d1 d2 d3:D,aF (fun j=>j=mo) s2 (((s2.bF mo (.var 277 d1)).bF mo (.var 277 d2)).bF mo (.var 277 d3)):=fun d1 d2 d3=>
    aF.set (W:=fun j=>j=mo) (aF.set (W:=fun j=>j=mo) (aF.set (W:=fun j=>j=mo) (aF.refl ok1) _ UI (fun _=>rfl)) _ UI (fun _=>rfl)) _ UI (fun _=>rfl)
   have nm:∀o,W o->o≠mo:=by rintro o ho rfl; exact hm.nm ho
   refine hQ (kX 1 e.k false 0 0) _ _ (.inl ⟨n,e,q1,he,hk,rfl,⟨⟨to,eo,co,ro,log,b,st,_,C,ver,J',scans,1,e.k,false,0,0,(bm _ _ _).get ok1 EU (nm _ w1),X1.dK ok1 (bm _ _ _) (nm _ w2) (fun _ _ _=>nm _ w3) (nm _ w4) (nm _ w5),w1,w2,w3,w4,w5,h3,St.aO,(bm _ _ _).get ok1 g1 (bO hm.nq),q2⟩,hm.nm,hm.ns,hm.nq⟩,(b1.mono fun j hj=> .inr hj).trans ((bm _ _ _).mono fun j hj=> .inl hj)⟩) rfl
 ·have Wu:=QH (H:=H) hT hP ok1 Ie hm.nm HP uy;try refine go ?_
  refine ak Wu ?_;rintro d s3 ⟨y5,hy⟩;have La:=y5.get ok1 Ie hm.nm;have nmW:∀o,o < s3.n->Own s1.n W o->o≠mo:=by
   rintro o ho (hw | hw) rfl
   ·exact hm.nm hw
   ·exact absurd UI (by omega)
  rcases hy with ⟨u1,rfl,u2⟩ | ⟨u1,rfl,u2⟩
  ·have iW:=G1 (H:=H) (u0:=2) (u1:=0) (u2:=false) (u3:=v) (u4:=(E.length:Nat)) hP y5.ok La;try refine go ?_
   refine ak iW ?_;rintro d s4 ⟨rfl,y6⟩;try refine go ?_
   refine hQ _ _ _ (.inr (.inr (.inl ⟨q1,u1,rfl, ?_,((b1.mono fun j hj=> .inr (.inr hj)).trans (y5.mono fun j hj=> .inl hj)).trans (y6.mono fun j hj=> .inr (.inl hj))⟩))) rfl;have u3:=u2.dK y5.ok y6 nmW;have zA:=b1.n;obtain⟨to',eo',co',ro',log',b',st',x',C',ver',p1,p2,v1,v2,v3,v4,v5,p3⟩:=u3;have up:∀o,Own s1.n W o->Own s.n W o:=fun o ho=>ho.imp id fun h=>cU zA h;exact⟨to',eo',co',ro',log',b',st',x',C',ver',p1,p2,up _ v1,up _ v2,up _ v3,up _ v4,up _ v5,p3⟩
  ·subst u2;have iW:=G1 (H:=H) (u0:=3) (u1:=0) (u2:=false) (u3:=0) (u4:=0) hP ok1 Ie;try refine go ?_
   refine ak iW ?_;rintro d s4 ⟨rfl,y6⟩;try refine go ?_
   exact hQ _ _ _ (.inr (.inr (.inr ⟨q1,u1,rfl,HP.dK ok1 y6 (by rintro o ho hw rfl; exact hm.nm hw),(b1.mono fun j hj=> .inr (.inr hj)).trans (y6.mono fun j hj=> .inr (.inl hj))⟩))) rfl
end
section
variable {T:Nat->Option dU}{H Y:ay}
@[reducible] def Vf:D:= .agg [.int .i64 0,.int .i64 0,.bool false,.int .i64 0,.int .i64 0]
theorem Ke (hT:TT T)(hP:TP T){W:Nat->Prop}{s:St}{mo dv so most:Nat}{E:List eU}{h k v entry told:Int}(hs:s.Ok)(uy:most<=1000)(v8: -1<=told/\told < 2000)(hm:oV W s mo dv so most E h k v 1 entry told):
  cu T H 109 [.ptr mo 0] s fun d s1=>Stepped W s mo dv so most E h k v told d s1:=by
 have hr:=fun K Q hQ=>zb (H:=H) (z:=Vf) (K:=K) (Q:=Q) hT hP hs uy v8 hm rfl hQ;obtain⟨to,eo,co,ro,log,b,st,x,C,ver,J,scans,t0,t1,t2,t3,t4,h1,h2,w1,w2,w3,w4,w5,h3,gm,gs,Ul⟩:=hm.ex;have LJ:(ver !=ver)=false:=bne_self_eq_false _;refine ax hP.t109 ?_;try refine go ?_
 simp only [LJ];try refine go ?_
 refine lU ?_;refine hr _ _ fun d s1 env hS he=> ?_;try refine go ?_
 have R6:∃x0 x1 x2 x3 x4,d=kX x0 x1 x2 x3 x4:=by
  rcases hS with ⟨n,e,_,_,_,rfl,_⟩ | ⟨n,e,_,_,_,rfl,_⟩ | ⟨_,_,rfl,_⟩ | ⟨_,_,rfl,_⟩ <;> exact ⟨_,_,_,_,_,rfl⟩
 obtain⟨x0,x1,x2,x3,x4,rfl⟩:=R6;refine ai (r:=[kX x0 x1 x2 x3 x4]) hS rfl ?_ rfl;show lu env s1 [.cell 2 (some 5)]=_;simp only [lu,he];rfl
theorem Jm (hT:TT T)(hP:TP T){W:Nat->Prop}{s:St}{mo dv so most n:Nat}{E:List eU}{e:eU}{h k v told:Int}(hs:s.Ok)(hm:oV W s mo dv so most E h k v 3 (n:Nat) told)(he:E[n]? =some e):
  cu T H 109 [.ptr mo 0] s fun d s1=>d=kX 2 0 true e.v (n:Nat)/\fD W s1 dv most (E.set n { e with v:=v})/\aF (fun j=>W j\/j=mo) s s1:=by
 have hd:=hm.ab6;obtain⟨to,eo,co,ro,log,b,st,x,C,ver,J,scans,t0,t1,t2,t3,t4,h1,h2,w1,w2,w3,w4,w5,h3,gm,gs,Ul⟩:=hm.ex;have OK:=MA (H:=H) hT hP hs gm hm.nm hd he;have LJ:(ver !=ver)=false:=bne_self_eq_false _;refine ax hP.t109 ?_;try refine go ?_
 simp only [LJ];try refine go ?_
 refine ak OK ?_;rintro d s1 ⟨rfl,y1,y2⟩;try refine go ?_
 exact ai ⟨rfl,y1,y2⟩
theorem DH (hT:TT T)(hP:TP T){W:Nat->Prop}{s:St}{mo dv most:Nat}{E:List eU}{h k v:Int}(hs:s.Ok)(uy:most<=1000)(hd:fD W s dv most E)(ZK: ¬ W mo)(hW: ¬ W s.n)
  (gm:s.get mo=some (.var 277 (sZ .cz dv h k v 0 0 0 0 0 0 false 0 0))):
  cu T H 109 [.ptr mo 0] s fun d s1=>∃s0,aF (fun j=>j=mo) s s0/\s.n < s0.n/\Stepped W s0 mo dv s.n most E h k v (-1) d s1:=by
 have lm:=hs.lt gm;obtain⟨to,eo,co,ro,log,b,st,x,C,ver,h1,h2,w1,w2,w3,w4,w5,h3⟩:=hd;have gt:=h2.go;have NN :∀o,W o->o≠mo:=by rintro o ho rfl; exact ZK ho
 have ab9:=J3 (H:=H) (s:= { s with ro:=true}) hP h1;have aaJ:=Rp (H:=H) (h:=h) hT hs h2;refine ax hP.t109 ?_;try refine go ?_
 refine qN ab9 ?_;rintro d s1 ⟨rfl,rfl⟩;refine⟨rfl, ?_⟩;try refine go ?_
 refine aX aaJ ?_;rintro d s1 ⟨rfl,g1,b1⟩;have ok1:=b1.ok;have Ie:=b1.get hs gm (fun h=>h);have EU:=b1.get hs h1 (fun h=>h);have UI:=ok1.lt Ie;have nd:dv≠mo:=NN _ w1;have nms:mo≠s.n:=by omega
 have bm:∀d1 d2 d3:D,aF (fun j=>j=mo) s1 (((s1.bF mo (.var 277 d1)).bF mo (.var 277 d2)).bF mo (.var 277 d3)):=fun d1 d2 d3=>
  aF.set (W:=fun j=>j=mo) (aF.set (W:=fun j=>j=mo) (aF.set (W:=fun j=>j=mo) (aF.refl ok1) _ UI (fun _=>rfl)) _ UI (fun _=>rfl)) _ UI (fun _=>rfl)
 have X1:=h2.dK hs b1 (fun h=>h) (fun _ _ _ h=>h) (fun h=>h) (fun h=>h)
 have mk:∀d1 d2:D,∀scans:Int,oV W (((s1.bF mo (.var 277 d1)).bF mo (.var 277 d2)).bF mo (.var 277 (sZ (.ptr s.n 0) dv h k v 0 0 scans ver 0 0 false 0 0))) mo dv s.n most E h k v 0 0 (-1):=fun d1 d2 scans=>
  ⟨⟨to,eo,co,ro,log,b,st,x,C,ver,0,scans,0,0,false,0,0,(bm _ _ _).get ok1 EU nd,X1.dK ok1 (bm _ _ _) (NN _ w2) (fun _ _ _=>NN _ w3) (NN _ w4) (NN _ w5),w1,w2,w3,w4,w5,h3,St.aO,(bm _ _ _).get ok1 g1 (bO nms),Seen.start⟩,ZK,hW,nms⟩
 have ls:=ok1.lt g1;refine⟨rfl,by simp [lost,eQ.kind,cK,dE,cF,aI,bC,bC.cW,gk,bP.ev,Env.get,cS,D.flat,D.isAgg,cP,D.fw,D.beq,aA,Obj.aW,bE,br,D.bW,D.aW,gm,Ie,h1,EU], ?_⟩;try refine go ?_
 refine lU ?_;refine zb (H:=H) (z:=Vf) hT hP (bm _ _ _).ok uy (by omega) (mk _ _ _) rfl fun d s2 env hS he=> ?_;try refine go ?_
 have R6:∃x0 x1 x2 x3 x4,d=kX x0 x1 x2 x3 x4:=by
  rcases hS with ⟨n,e,_,_,_,rfl,_⟩ | ⟨n,e,_,_,_,rfl,_⟩ | ⟨_,_,rfl,_⟩ | ⟨_,_,rfl,_⟩ <;> exact ⟨_,_,_,_,_,rfl⟩
 obtain⟨x0,x1,x2,x3,x4,rfl⟩:=R6;refine ai (r:=[kX x0 x1 x2 x3 x4]) ⟨_,(b1.mono fun j hj=>hj.elim).trans (bm _ _ _),ls,hS⟩ rfl ?_ rfl;show lu env s2 [.cell 2 (some 5)]=_;simp only [lu,he];rfl
end
noncomputable section
def Y8:=RK.mk (a:=cf Tryz.f48 48)
def aag:=RK.mk (a:=cf Tryz.f50 50)
def aaz:=RK.mk (a:=cf Tryz.f51 51)
def WW:=RK.mk (a:=cf Tryz.f86 86)
def ZQ:=RK.mk (a:=cf Tryz.f87 87)
def Z2:=RK.mk (a:=cf Tryz.f88 88)
def ZM:=RK.mk (a:=cf Tryz.f96 96)
def Zd:=RK.mk (a:=cf Tryz.f98 98)
def Us:=RK.mk (a:=cf Tryz.f149 149)
def UL:=RK.mk (a:=cf Tryz.f151 151)
def TC:=RK.mk (a:=cf Tryz.f152 152)
def UU:=RK.mk (a:=cf Tryz.f158 158)
def U7:=RK.mk (a:=cf Tryz.f159 159)
def qS:=RK.mk (a:=cf Tryz.f160 160)
def UJ:=RK.mk (a:=cf Tryz.f206 206)
def IL:=RK.mk (a:=cf Tryz.f207 207)
def Uo:=RK.mk (a:=cf Tryz.f254 254)
def TJ:=RK.mk (a:=cf Tryz.f288 288)
end
structure TV (T:Nat->Option dU):Prop where
 t48:T 48=some Y8.1
 t50:T 50=some aag.1
 t51:T 51=some aaz.1
 t86:T 86=some WW.1
 t87:T 87=some ZQ.1
 t88:T 88=some Z2.1
 t96:T 96=some ZM.1
 t98:T 98=some Zd.1
 t149:T 149=some Us.1
 t151:T 151=some UL.1
 t152:T 152=some TC.1
 t158:T 158=some UU.1
 t159:T 159=some U7.1
 t160:T 160=some qS.1
 t206:T 206=some UJ.1
 t207:T 207=some IL.1
 t254:T 254=some Uo.1
 t288:T 288=some TJ.1
end Go.Proofs.Tab
