/- Part. -/
import Derived.Test.YtjaldhgmboeffaaGreatDoorG28
set_option linter.unusedSimpArgs false
set_option linter.unusedVariables false
set_option linter.unusedSectionVars false
set_option maxRecDepth 100000
set_option maxHeartbeats 4000000
namespace Go.Proofs.Tab
open Go Go.Ab Go.Ab.Sm
section
variable {T:Nat->Option dU}{H:ay}{s:St}
theorem Ka (hT:TW T){x:D}{V:List Nat}(hs:s.Ok)(hx:Ws s x V)(cE:V≠ [])(hV:V.length<=aL):cu T H 246 [x] s fun d s1=>d= .sl s.n 0 V.length V.length/\s1.get s.n=some (.arr 1 194 (dz V) 0)/\aF (fun _=>False) s s1:=by
 rcases hx with ⟨nl,V,qU⟩ | _ | ⟨o,cp,V,R,hg,hc⟩
 ·cases nl with
  | true=>exact absurd (qU rfl) cE
  | false=>
   refine ax hT.t246 ?_;cases V with
   | nil=>exact absurd rfl cE
   | cons v V=>
    have tN:0+(dz (v::V)).length<=aL:=by rw [cQ,aN]; exact hV
    refine run_seq ?_;try refine go ?_
    refine uf (z:=1) (m:=dz (v::V)) rfl rfl (by simp) (pg _) tN ?_ (es:=[]) (off:=0) (he:=rfl);try refine go ?_
    refine ai ⟨?_,St.aO,aF.set (aF.push (aF.refl hs) _) _ (by rw [St.dV]; omega) (fun h=>by omega)⟩;rw [show 0+(dz (v::V)).length=(v::V).length by rw [cQ]; omega];rfl
 ·exact absurd rfl cE
 ·refine ax hT.t246 ?_;have lo:=hs.lt hg;have SN:(s.bz (.arr 1 194 [] 0)).get o=some (.arr 1 194 (dz (V++R)) 0):=St.fV hg (by omega);obtain⟨z,hz,PE⟩:=(Ws.sl (s:=s.bz (.arr 1 194 [] 0)) o cp V R SN hc).items;cases V with
  | nil=>exact absurd rfl cE
  | cons v V=>
   have tN:0+(dz (v::V)).length<=aL:=by rw [cQ,aN]; exact hV
   have PG:z=1:=by rcases PE with h | h; exact h; cases h
   try refine go ?_
   refine uf hz PG (by simp) (pg _) tN ?_ (es:=[]) (off:=0) (he:=rfl);try refine go ?_
   refine ai ⟨?_,St.aO,aF.set (aF.push (aF.refl hs) _) _ (by rw [St.dV]; omega) (fun h=>by omega)⟩;rw [show 0+(dz (v::V)).length=(v::V).length by rw [cQ]; omega];rfl
theorem QN (hT:TW T){o cp st:Nat}{V R:List Nat}(hg:s.get o=some (.arr 1 194 (dz (V++R)) st))(dN:st<=cp)(hc:V.length<=cp)(hV:V.length<=1000000000):cu T H 150 [.sl o 0 V.length cp] s fun d s1=>s1=s/\d= .sl o 0 (bU V).length cp:=by
 refine ax hT.t150 ?_;try refine go ?_
 refine cg (fun m env s' =>s' =s/\m<=V.length/\env=[(0,.sl o 0 m cp)]/\bU (V.take m)=bU V) V.length rfl ⟨rfl,aq _,rfl,by rw [eE]⟩ ?_;rintro m env s' ⟨rfl,hm,rfl,ht⟩;have pQ:(dz (V++R)).length=V.length+R.length:=by rw [cQ,aG]
 cases m with
 | zero=>
  try refine go ?_
  refine ai ⟨rfl, ?_⟩;rw [← ht];rfl
 | succ m=>
  have dM:m < V.length:=by omega
  have hw:IntKind.wrap .i64 (((m+1:Nat):Int) - 1)=(m:Nat):=by rw [wrap_small (by omega) (by omega)]; omega
  have he:(dz (V++R))[0+m]? =some (.int .u32 (V[m]:Nat)):=by simp [dM,nJ]
  have yr:=oG V dM;generalize hv:V[m]=v at he yr;by_cases h0:v=0
  ·try refine go ?_
   simp only [hw];try refine go ?_
   simp only [hw];try refine go ?_
   refine bf m (by omega) rfl ⟨rfl,by omega,rfl, ?_⟩;rw [← ht,yr,h0,lR]
  ·try refine go ?_
   simp only [hw];try refine go ?_
   refine ai ⟨rfl, ?_⟩;rw [← ht,yr,lO h0,← yr,cM,Nat.min_eq_left hm];rfl
theorem A3 {W:List Nat}{i:Nat}(h:i < W.length):iH (W.drop i)=(((iH (W.drop (i+1))).2 * 4294967296+W[i]) / 1000000000::(iH (W.drop (i+1))).1,((iH (W.drop (i+1))).2 * 4294967296+W[i]) % 1000000000):=by
 rw [fC h]; rfl
def rD (W:List Nat)(j:Nat):List Nat:=W.take (W.length - j)++(iH (W.drop (W.length - j))).1
theorem Xl (W:List Nat):rD W 0=W:=by simp [rD,iH]
theorem Xc (W:List Nat):rD W W.length=(iH W).1:=by simp [rD]
theorem Ng {W:List Nat}(j:Nat):(rD W j).length=W.length:=by simp [rD,yH]
theorem N5 {W:List Nat}{i j:Nat}(h:i+1+j=W.length)(hl:i < W.length):(rD W j)[i]? =some W[i]:=by
 rw [rD,aP (by rw [cM]; omega),List.getElem?_take_of_lt (by omega),ab hl]
theorem Mq {W:List Nat}{i j:Nat}(h:i+1+j=W.length)(hl:i < W.length):(rD W j).set i (((iH (W.drop (W.length - j))).2 * 4294967296+W[i]) / 1000000000)=rD W (j+1):=by
 have e1:W.length - j=i+1:=by omega
 have e2:W.length - (j+1)=i:=by omega
 simp only [rD,e1,e2];rw [A3 hl,oG W hl,hZ,mG _ _ (by rw [cM]; omega)];rw [show i - (List.take i W).length=0 by rw [cM]; omega];rfl
theorem WN {W:List Nat}{i j:Nat}(h:i+1+j=W.length)(hl:i < W.length):(iH (W.drop (W.length - (j+1)))).2=((iH (W.drop (W.length - j))).2 * 4294967296+W[i]) % 1000000000:=by
 have e1:W.length - j=i+1:=by omega
 have e2:W.length - (j+1)=i:=by omega
 rw [e1,e2,A3 hl]
noncomputable def N2:AC:=match D5.1.body with
 | .seq _ (.seq _ (.seq _ (.seq _ (.seq (.block _ (.loop _ (.seq _ (.block _ (.seq _ (.seq (.seq _ (.block _ r)) _)))))) _))))=>r
 | _=> .skip
theorem RW (hX:TX T){a0 a2 a4:D}{o cp st:Nat}{W R:List Nat}{k:List iT}{Q:QP}{E:Env}(hs:s.Ok)(hg:s.get o=some (.arr 1 194 (dz (W++R)) st))(dN:st<=cp)(hc:cp=W.length+R.length)(hn:0 < W.length)(hl:W.length<=100000)(hw:∀v∈W,v < 4294967296)
  (hE:E.bV [1,2,3,4,5,6,9]=[(1,a0),(2,a2),(3,.sl o 0 W.length cp),(4,a4),(5,.int .u32 0),(6,.int .i64 ((W.length:Int) - 1 - (0:Nat)))])
  (h:∀s1 mE,s1.get o=some (.arr 1 194 (dz ((iH W).1++R)) mE)->mE<=cp->aF (fun j=>j=o) s s1->∀d1 d2:D,lg T H .normal k ⟨[(26,.bool false),(25,d1),(1,a0),(2,a2),(3,.sl o 0 W.length cp),(4,a4),(5,.int .u32 ((iH W).2:Nat)),(6,d2)],[]⟩ s1 Q):
  eH T H N2 (.block 2::k) ⟨E,[]⟩ s Q:=by
 show eH T H (.loop _ _) (.block 2::k) ⟨E,[]⟩ s Q;have lo:=hs.lt hg;refine ee W.length (fun j=> [(1,a0),(2,a2),(3,.sl o 0 W.length cp),(4,a4),(5,.int .u32 ((iH (W.drop (W.length - j))).2:Nat)),(6,.int .i64 ((W.length:Int) - 1 - (j:Nat)))]) (fun j s' =>∃mE,s'.get o=some (.arr 1 194 (dz (rD W j++R)) mE)/\mE<=cp/\aF (fun j=>j=o) s s') ⟨st,by rw [Xl]; exact hg,dN,aF.refl hs⟩ ?_ (hF:=by rw [hE]; simp [iH]);rintro j s' hj ⟨mE,q1,q0,q2⟩;rcases aH j W.length with h1 | h1
 ·obtain⟨i,hi⟩:∃i,i=W.length - 1 - j:=⟨_,rfl⟩;have nO:i+1+j=W.length:=by omega
  have ja:i < W.length:=by omega
  have e1:(W.length:Int) - 1 - (j:Nat)=(i:Int):=by omega
  have e2:IntKind.wrap .i64 ((i:Int) - 1)=(W.length:Int) - 1 - ((j+1:Nat):Int):=by rw [wrap_small (by omega) (by omega)]; omega
  have d1:=N5 nO ja;have d2:=Mq nO ja;have d3:=WN nO ja;have d4:=hw _ (bH ja);have d5:=xg (W.drop (W.length - j));have d6:=Ng (W:=W) j;rw [e1];show eH T H _ _ ⟨[(1,a0),(2,a2),(3,.sl o 0 W.length cp),(4,a4),(5,.int .u32 ((iH (W.drop (W.length - j))).2:Nat)),(6,.int .i64 (i:Nat))],[]⟩ _ _;generalize Ym:rD W (j+1)=V2 at d2;generalize zx:(iH (W.drop (W.length - (j+1)))).2=r2 at d3;generalize (iH (W.drop (W.length - j))).2=r at *;generalize W[i]=w at *;have g1:(dz (rD W j++R))[0+i]? =some (.int .u32 (w:Nat)):=by
   rw [aN,dz,aC,aP (by omega),d1]; rfl
  have g2:(dz (rD W j++R)).length=W.length+R.length:=by rw [cQ,aG,d6]
  have g3:0+cp=(dz (rD W j++R)).length:=by omega
  have lo2:=q2.ok.lt q1;have ok2:=q2.ok;try refine go ?_
  refine ak (Oe hX d5 d4) ?_;rintro d s2 ⟨rfl,rfl⟩;try refine go ?_
  rw [e2];refine dw h1 ⟨(dz (rD W j++R)).length, ?_, ?_,aF.set q2 _ lo2 fun _=>rfl⟩ rfl ?_
  ·rw [St.aO,Ym,← d2,aN,dz,dz,← List.map_set,List.set_append_left _ _ (by omega)]
  ·rw [g2]; omega
  ·show _=[(1,a0),(2,a2),(3,D.sl o 0 W.length cp),(4,a4),(5,.int .u32 ((iH (W.drop (W.length - (j+1)))).2:Nat)),(6,.int .i64 ((W.length:Int) - 1 - ((j+1:Nat):Int)))];rw [zx,d3];rfl
 ·have Rs:j=W.length:=by omega
  subst Rs;have hd:=cN ((W.length:Int) - 1 - (W.length:Nat) >= 0);rw [Xc]at q1;rw [eG,gz];try refine go ?_
  exact h _ _ q1 q0 q2 _ _
end
inductive w8 (s:St)(n0:Nat):D->List Nat->Prop
 | nil:w8 s n0 (.vs true 0 []) []
 | sl (o:Nat) (P:List Nat) (h:s.get o=some (.arr 1 194 (dz P) 0)) (h0:n0<=o) (hp:P≠ []):w8 s n0 (.sl o 0 P.length P.length) P
theorem w8.dK {W:Nat->Prop}{s s1:St}{n0:Nat}{d:D}{P:List Nat}(h:w8 s n0 d P)(hs:s.Ok)(hb:aF W s s1)(hw:∀o l c,d= .sl o 0 l c-> ¬ W o):w8 s1 n0 d P:=by
 rcases h with _ | ⟨o,P,h,h0,hp⟩
 ·exact .nil
 ·exact .sl o P (hb.get hs h (hw _ _ _ rfl)) h0 hp
theorem Jf (V:List Nat):bU V++V.drop (bU V).length=V:=by
 have h:=tI V;have e:bU V++V.drop (bU V).length=V.take (bU V).length++V.drop (bU V).length:=by rw [← h]
 rw [e,gJ]
theorem H5:∀V:List Nat,(∀v∈V,v < 4294967296)->gH V < 4294967296 ^ V.length
 | [],_=>by simp [gH]
 | a::r,h=>by
  have h1:=h a (by simp);have h2:=H5 r fun v hv=>h v (by simp [hv]);rw [gH,aV,jk];omega
theorem vJ {V:List Nat}(hw:∀v∈V,v < 4294967296):(eM (gH V)).length<=2 * V.length:=by
 refine DZ _ _ (eK (H5 V hw) ?_);rw [Nat.pow_mul];exact Nat.pow_le_pow_left (by decide) _
noncomputable def N3:AC:=match D5.1.body with
 | .seq _ (.seq _ (.seq _ (.seq _ (.seq (.block _ r) _))))=>r
 | _=> .skip
section
variable {T:Nat->Option dU}{H:ay}{s:St}
theorem R2 (hW:TW T)(hX:TX T){a0:D}{o cp n0:Nat}{V:List Nat}{k:List iT}{Q:QP}{E:Env}(hs:s.Ok)(hg:s.get o=some (.arr 1 194 (dz V) 0))(hc:cp=V.length)(Fo:n0<=o)(zA:n0<=s.n)(hl:V.length<=100000)(hw:∀v∈V,v < 4294967296)(ht:bU V=V)
  (hE:E.bV [1,2,3,4,9]=[(1,a0),(2,.str []),(3,.sl o 0 V.length cp),(4,.vs true 0 [])])
  (h:∀s1 dP,w8 s1 n0 dP (eM (gH V))->aF (fun j=>n0<=j) s s1->∀d1 d2 d3:D,lg T H .normal k ⟨[(21,.bool false),(20,d1),(19,d2),(1,a0),(2,.str []),(3,d3),(4,dP)],[]⟩ s1 Q):
  eH T H N3 (.block 0::k) ⟨E,[]⟩ s Q:=by
 show eH T H (.loop _ _) (.block 0::k) ⟨E,[]⟩ s Q;refine cg (fun m env s' =>∃W R P dP st,env=[(1,a0),(2,.str []),(3,.sl o 0 W.length cp),(4,dP)]/\m=gH W/\s'.get o=some (.arr 1 194 (dz (W++R)) st)/\st<=cp/\cp=W.length+R.length/\(∀v∈W,v < 4294967296)/\bU W=W/\w8 s' n0 dP P/\P++eM (gH W)=eM (gH V)/\(∀l c,dP≠ .sl o 0 l c)/\aF (fun j=>n0<=j) s s') (gH V) rfl ⟨V,[],[],_,0,hE,rfl,by rw [dZ]; exact hg,aS _,hc,hw,ht,.nil,rfl,(fun _ _ h=>by cases h),aF.refl hs⟩ ?_;rintro m env s' ⟨W,R,P,dP,st,rfl,rfl,q1,q2,q3,q4,q5,q6,q7,q8,q9⟩;by_cases hW0:W=[]
 ·subst hW0;rw [show gH []=0 from rfl,vj,dZ]at q7;subst q7;show eH T H _ _ ⟨[(1,a0),(2,.str []),(3,.sl o 0 0 cp),(4,dP)],[]⟩ _ _;try refine go ?_
  exact h _ dP q6 q9 _ _ _
 ·have hp0:0 < W.length:=dT.2 hW0;have hwl:W.length<=100000:=by omega
  have QV:(0:Int) < (W.length:Nat):=by omega
  have e1:IntKind.wrap .i64 ((W.length:Int) - 1)=(W.length:Int) - 1 - (0:Nat):=by rw [wrap_small (by omega) (by omega)]; omega
  have ok1:=q9.ok;have lo:=ok1.lt q1;try refine go ?_
  rw [e1];refine RW (W:=W) (R:=R) hX ok1 q1 q2 q3 hp0 hwl q4 rfl ?_;intro s1 mE z1 z2 z3 d1 d2;have hP:P.length+1<=200000:=by
   have:=vJ hw;rw [← q7,aG]at this;have h2:(eM (gH W)).length≠0:=by
    rw [nE (by have:=vo W (by rw [q5]; exact hW0); rw [q5]at this; omega)]; simp
   omega
  have kz:gH W≠0:=by have:=vo W (by rw [q5]; exact hW0); rw [q5]at this; omega
  have ok2:=z3.ok;have lo2:=ok2.lt z1;have PJ:=z3.n;have GR:=yH W;have q6' :=q6.dK ok1 z3 (fun o' l c e h=>q8 l c (by rw [← h]; exact e));have b1:aF (fun j=>n0<=j) s s1:=q9.trans (z3.mono fun j hj=>by subst hj; exact Fo);have fin:∀ {s2 dP2 E2},E2.bV [1,2,3,4,9]=[(1,a0),(2,D.str []),(3,D.sl o 0 (bU (iH W).1).length cp),(4,dP2)]->s2.get o=some (.arr 1 194 (dz ((iH W).1++R)) mE)->w8 s2 n0 dP2 (P++ [(iH W).2])->(∀l c,dP2≠ .sl o 0 l c)->aF (fun j=>n0<=j) s1 s2->lg T H .normal (iT.loop (fun m env s' =>∃W R P dP st,env=[(1,a0),(2,.str []),(3,.sl o 0 W.length cp),(4,dP)]/\m=gH W/\s'.get o=some (.arr 1 194 (dz (W++R)) st)/\st<=cp/\cp=W.length+R.length/\(∀v∈W,v < 4294967296)/\bU W=W/\w8 s' n0 dP P/\P++eM (gH W)=eM (gH V)/\(∀l c,dP≠ .sl o 0 l c)/\aF (fun j=>n0<=j) s s') [1,2,3,4,9] (gH W)::iT.block 0::k) ⟨E2,[]⟩ s2 Q:=by
   intro s2 dP2 E2 y1 y2 y3 y4 y5;have t1:=tI (iH W).1;have t2:=j6 (iH W).1;refine bf (gH (bU (iH W).1)) ?_ rfl ⟨bU (iH W).1,(iH W).1.drop (bU (iH W).1).length++R,P++ [(iH W).2],dP2,mE,y1,rfl, ?_,z2, ?_, ?_,mL _,y3, ?_,y4,b1.trans y5⟩
   ·rw [vk,M1]; omega
   ·rw [← List.append_assoc];rw [Jf]; exact y2
   ·rw [aG,dY]; omega
   ·intro v hv;rw [t1]at hv;exact xJ W q4 v (fW hv)
   ·rw [vk,M1,XO,hZ,← q7,nE kz]; rfl
  have Gj:∀s2:St,s2.get o=some (.arr 1 194 (dz ((iH W).1++R)) mE)->cu T H 150 [.sl o 0 W.length cp] s2 fun d s3=>s3=s2/\d= .sl o 0 (bU (iH W).1).length cp:=fun s2 y=>by
   have:=QN (H:=H) (V:=(iH W).1) (R:=R) hW y z2 (by omega) (by omega);rwa [GR]at this
  rcases q6' with _ | ⟨po,P,hp,h0,WG⟩
  ·try refine go ?_
   refine ak (Gj _ (St.fV z1 (by omega))) ?_;rintro d s2 ⟨rfl,rfl⟩;try refine go ?_
   refine fin (dP2:= .sl s1.n 0 1 1) rfl (St.fV z1 (by omega)) (.sl s1.n [(iH W).2] St.bu (by have:=q9.n; omega) (by simp)) (fun l c h=> ?_) (aF.push (aF.refl ok2) _);simp only [D.sl.injEq]at h;omega
  ·have npo:po≠o:=by rintro rfl; exact q8 _ _ rfl
   try refine go ?_
   refine ak (Gj _ (St.eS z1 (by omega))) ?_;rintro d s2 ⟨rfl,rfl⟩;try refine go ?_
   refine fin (dP2:= .sl po 0 (P.length+1) (P.length+1)) rfl (St.eS z1 (by omega)) ?_ (fun l c h=> ?_) (aF.set (aF.refl ok2) _ (ok2.lt hp) (fun _=>h0))
   ·have:=w8.sl (s:=s1.bF po (.arr 1 194 (dz P++ [.int .u32 ((iH W).2:Nat)]) 0)) (n0:=n0) po (P++ [(iH W).2]) (by rw [St.aO,dz,dz,jb]; rfl) h0 (by simp);rw [aG]at this;exact this
   ·simp only [D.sl.injEq]at h;omega
end
noncomputable def BJ:AC:=match D5.1.body with
 | .seq _ (.seq _ (.seq _ (.seq _ (.seq _ (.seq _ (.seq (.seq _ (.block _ r)) _))))))=>r
 | _=> .skip
noncomputable def SC:AC:=match BJ with
 | .iK _ _ _ a _=>a
 | _=> .skip
noncomputable def Tg:AC:=match BJ with
 | .iK _ _ _ _ b=>b
 | _=> .skip
section
variable {T:Nat->Option dU}{H Y:ay}
theorem Fz (hX:TX T){s:St}{y bx n:Nat}{i:Int}{yd:D}{m:List UInt8}(hY:m9 T H y [49,50] [(7,.ptr bx 0)] SC Tg Y)(hs:s.Ok)(hl:s.get (y+1)=some (.loop y .ready))
  (hb:Bd s bx yd m)(hn:n < 1000000000)(hm:m.length+9<=4000000):
  ∃s',Y 0 (.lv (.yl y)::[.int .i64 i,.int .u32 n]) s=some (.bool true,s')/\s'.get (y+1)=some (.loop y .ready)/\(∃yd',Bd s' bx yd' (m++oR n)/\∀o l c,yd' = .sl o 0 l c->(yd= .sl o 0 m.length m.length\/s.n<=o))/\aF (fun j=>j=y+1\/R3 bx yd j) s s' :=by
 have ly:=hs.lt hl;have nb:bx≠y+1:=by
  rintro rfl;obtain⟨⟨a,ha,hg⟩,hy⟩:=hb;rw [hl]at hg; cases hg
 have nd:∀o l c,yd= .sl o 0 l c->o≠y+1:=by
  rintro o l c h rfl;obtain⟨⟨a,ha,hg⟩,hy⟩:=hb;rcases hy with ⟨h1,h2⟩ | ⟨h1,o',h2,h3⟩
  ·rw [h1]at h; cases h
  ·rw [h2]at h;simp only [D.sl.injEq]at h;rw [h.1,hl]at h3; cases h3
 have kO:aF (fun j=>j=y+1) s (s.bF (y+1) (.loop y .busy)):=aF.set (aF.refl hs) _ ly (fun _=>rfl);have kb:=hb.dK hs kO nb nd;have mc:=kO.ok;have Yj:y+1 < (s.bF (y+1) (.loop y .busy)).n:=ly;have ek:(s.bF (y+1) (.loop y .busy)).n=s.n:=rfl
 obtain⟨c,s',q1,q2⟩:=rq (e:=[(50,.int .u32 n),(49,.int .i64 i),(7,.ptr bx 0)]) (xs:=[.int .i64 i,.int .u32 n]) hY (fun c s' =>c=true/\s'.get (y+1)=some (.loop y .ready)/\(∃yd',Bd s' bx yd' (m++oR n)/\∀o l c,yd' = .sl o 0 l c->(yd= .sl o 0 m.length m.length\/s.n<=o))/\aF (fun j=>j=y+1\/R3 bx yd j) s s') rfl hl hs (by
  show eH T H (.sn _) [] _ s _;try refine go ?_
  refine qA ⟨rfl,rfl, ?_⟩;generalize uL:s.bF (y+1) (.loop y .busy)=s1 at kO kb Yj mc ek ⊢;have sq:s1.get (y+1)=some (.loop y .busy):=by rw [← uL]; exact St.aO
  show eH T H (.block _ _) [] _ s1 _;try refine go ?_
  refine ak (Ki hX hn) ?_;rintro d s2 ⟨rfl,rfl⟩;try refine go ?_
  refine du ?_ rfl (Kb (o:=s2.n) (ty:=356) (oI) rfl St.aO rfl);generalize Wx:(s2.bz (Ab.Obj.var 356 (D.agg [D.int .u8 0,D.int .u8 0,D.int .u8 0,D.int .u8 0,D.int .u8 0,D.int .u8 0,D.int .u8 0,D.int .u8 0,D.int .u8 0]))).bF s2.n _=s3;have b3:aF (fun _=>False) s2 s3:=by
   rw [← Wx];exact aF.set (aF.push (aF.refl mc) _) _ (by rw [St.dV]; omega) (fun h=>by omega)
  have n3:s3.n=s2.n+1:=by rw [← Wx,St.fE,St.dV]
  have hf:(D.agg (over [D.int .u8 0,D.int .u8 0,D.int .u8 0,D.int .u8 0,D.int .u8 0,D.int .u8 0,D.int .u8 0,D.int .u8 0,D.int .u8 0] 0 (D.agg (List.map (fun c=>D.int .u8 ↑c.toNat) (oR n))).flat)).flat=(oR n).map fun c=> .int .u8 c.toNat:=rfl;rw [hf];clear Wx;generalize hs4:(s3.bF s2.n Ab.Obj.dead).bz (Ab.Obj.arr 1 356 ((oR n).map fun c=> .int .u8 c.toNat) 0)=s4;have b4:aF (fun _=>False) s2 s4:=by
   rw [← hs4];exact aF.push (aF.set b3 _ (by omega) (fun h=>by omega)) _
  have g4:s4.get s3.n=some (Ab.Obj.arr 1 356 ((oR n).map fun c=> .int .u8 c.toNat) 0):=by
   rw [← hs4]; exact St.bu
  have k4:=kb.dK mc b4 (fun h=>h) (fun _ _ _ _ h=>h);have l4:=b4.get mc sq (fun h=>h);have lb:bx < s2.n:=by
   obtain⟨⟨a,ha,hg⟩,hy⟩:=kb;exact mc.lt hg
  have ld:∀o l c,yd= .sl o 0 l c->o < s2.n:=by
   rintro o l c h;obtain⟨⟨a,ha,hg⟩,hy⟩:=kb;rcases hy with ⟨h1,h2⟩ | ⟨h1,o',h2,h3⟩
   ·rw [h1]at h; cases h
   ·rw [h2]at h;simp only [D.sl.injEq]at h;rw [← h.1]; exact mc.lt h3
  try refine go ?_
  refine ak (Pb (p:=oR n) hX b4.ok k4 (by simp [oR]) hm g4 (fun l c h=>by have:=ld _ _ _ h; omega)) ?_;rintro d s5 ⟨yd',z1,z2,z3⟩;try refine go ?_
  have l5:=z2.get b4.ok l4 (by rintro (h | ⟨l,c,h⟩); exact nb h.symm; exact nd _ _ _ h rfl);have b6:aF (fun j=>j=y+1) s5 (s5.bF (y+1) (.loop y .ready)):=aF.set (aF.refl z2.ok) _ (z2.ok.lt l5) (fun _=>rfl);have n4:s2.n<=s4.n:=b4.n;refine qA ⟨rfl,l5,z2.ok,rfl,St.aO,⟨yd',z1.dK z2.ok b6 nb ?_, ?_⟩, ?_⟩
  ·rintro o l c h he;rcases z3 _ _ _ h with h | h
   ·exact nd _ _ _ h he
   ·omega
  ·intro o l c h;rcases z3 _ _ _ h with h | h
   ·exact .inl h
   ·exact .inr (by omega)
  ·exact (kO.mono fun j hj=> .inl hj).trans ((b4.mono fun _ h=>h.elim).trans ((z2.mono fun j hj=> .inr hj).trans (b6.mono fun j hj=> .inl hj))))
 obtain⟨rfl,q3⟩:=q2;exact⟨s',q1,q3⟩
theorem Nc (hV:TV T)(hX:TX T){s:St}{bx bo n0:Nat}{x:D}{P:List Nat}{E:Env}{k:List iT}{Q:QP}(hs:s.Ok)(hx:w8 s n0 x P)(hl:P.length<=200000)(hp:∀p∈P,p < 1000000000)(hb:Bd s bx (.vs true 0 []) [])(gb:s.get bo=some (.var 44 x))
  (hg:bP.ev E (.t 48)=some (.fn (.func 206) [] [.ptr bo 0]))(hk:E.bV [7,9]=[(7,.ptr bx 0)])
  (hq:∀s1 yd,Bd s1 bx yd (jw P)->(∀o l c,yd= .sl o 0 l c->s.n<=o)->aF (fun j=>j=bx) s s1->lg T H .normal k ⟨E,[(.mw,[])]⟩ s1 Q):
  eH T H BJ k ⟨E,[]⟩ s Q:=by
 show eH T H (.iK _ _ _ _ _) k ⟨E,[]⟩ s Q;refine tK (gf:=206) (caps:=[.ptr bo 0]) (fun Y hY=> ?_) hg hs.ro (by rw [hk]; rfl);have Y4 :m9 T H s.n [49,50] [(7,.ptr bx 0)] SC Tg Y:=by
  have:=hY;simp only at this;rw [hk]at this;exact this
 clear hY;have lb:=hs.lt gb;have lx:bx < s.n:=by
  obtain⟨⟨a,ha,hg⟩,hy⟩:=hb;exact hs.lt hg
 have nbx:bo≠bx:=by
  rintro rfl;obtain⟨⟨a,ha,hg⟩,hy⟩:=hb;rw [gb]at hg; simp at hg
 have Wl:aF (fun _=>False) s ((s.bz .dead).bz (.loop s.n .ready)):=aF.push (aF.push (aF.refl hs) _) _
 have fin:∀ {s2:St} {yd:D},aF (fun j=>j=bx) s s2->s2.get (s.n+1)=some (.loop s.n .ready)->Bd s2 bx yd (jw P)->(∀o l c,yd= .sl o 0 l c->s.n<=o)->(∀l c,yd≠ .sl (s.n+1) 0 l c)->
   ∃st x s3,s2.get (s.n+1)=some (.loop s.n st)/\BW st=some x/\s2.set (s.n+1) .dead=some s3/\lg T H x k { (⟨E,[]⟩:Fr) with defers:=(.mw,[])::[]} s3 Q:=by
  intro s2 yd jK zH hB ho cE;have wX:aF (fun j=>j=s.n+1) s2 (s2.bF (s.n+1) .dead):=aF.set (aF.refl jK.ok) _ (jK.ok.lt zH) (fun _=>rfl);exact⟨.ready,.normal,_,zH,rfl,jK.ok.set _ _,hq _ yd (hB.dK jK.ok wX (by omega) (by rintro o l c h rfl; exact cE _ _ h)) ho (jK.trans' wX fun j hj Rs=>by omega)⟩
 let I:Nat->St->Prop:=fun j s' =>aF (fun j=>j=bx) s s' /\s'.get (s.n+1)=some (.loop s.n .ready)/\∃yd,Bd s' bx yd ((P.reverse.take j).flatMap oR)/\(∀o l c,yd= .sl o 0 l c->s.n<=o)/\(∀l c,yd≠ .sl (s.n+1) 0 l c)
 have Q7:I 0 ((s.bz .dead).bz (.loop s.n .ready)):=⟨Wl.mono fun _ h=>h.elim,St.bu,_,hb.dK hs Wl (fun h=>h) (fun _ _ _ _ h=>h),(fun _ _ _ h=>by cases h),(fun _ _ h=>by cases h)⟩;have hYZ:∀ {Z:St->Prop} j s' (n:Nat) (i:Int),j < P.length->P[P.length - 1 - j]? =some n->I j s' ->∃c s2,Y 0 (.lv (.yl s.n)::[.int .i64 i,.int .u32 (n:Nat)]) s' =some (.bool c,s2)/\(c=true->I (j+1) s2)/\(c=false->Z s2):=by
  rintro Z j s' n i hj hn ⟨q1,q2,yd,q3,q4,q5⟩;have vf:∀L:List Nat,(L.flatMap oR).length=9 * L.length:=by
   intro L;induction L with
   | nil=>rfl
   | cons a r ih=>rw [jf,aG,ih,aV]; simp only [oR,aJ,aV,bL]; omega
  have hm:((P.reverse.take j).flatMap oR).length+9<=4000000:=by
   rw [vf,cM,ir]; omega
  obtain⟨s2,y1,y2,⟨yd2,y3,y4⟩,y5⟩:=Fz (H:=H) (i:=i) hX Y4 q1.ok q2 q3 (hp n (aM hn)) hm;have e1:P.reverse.take (j+1)=P.reverse.take j++ [n]:=by
   rw [ji,List.getElem?_reverse hj,hn]; rfl
  have e2:(P.reverse.take (j+1)).flatMap oR=(P.reverse.take j).flatMap oR++oR n:=by
   rw [e1,oa]; simp
  have Ul:=q1.ok.lt q2;refine⟨true,s2,y1,fun _=>⟨q1.trans' y5 ?_,y2,yd2,by rw [e2]; exact y3, ?_, ?_⟩,fun h=>by cases h⟩
  ·rintro j2 (h | h | ⟨l,c,h⟩) Rs
   ·omega
   ·exact h
   ·have:=q4 _ _ _ h; omega
  ·intro o l c h;rcases y4 _ _ _ h with h | h
   ·exact q4 _ _ _ h
   ·omega
  ·intro l c h;rcases y4 _ _ _ h with h | h
   ·exact q5 _ _ h
   ·omega
 rcases hx with _ | ⟨o,P,go,h0,WG⟩
 ·refine (D3 hV (Wl.get hs gb (fun h=>h))).mono ?_;rintro d s1 rfl;obtain⟨q1,q2,yd,q3,q4,q5⟩:=Q7;exact fin q1 q2 q3 q4 q5
 ·have lo:=hs.lt go;have nob:o≠bx:=by
   rintro rfl;obtain⟨⟨a,ha,hg⟩,hy⟩:=hb;rw [go]at hg; cases hg
  refine H7 (V:=P) (R:=[]) hV I _ Q7 (by omega) (fun j s' hj=>⟨hj.1.get hs gb nbx,by rw [dZ]; exact hj.1.get hs go nob⟩) (fun j s' n hj hn hI=>hYZ j s' n _ hj hn hI) (fun s2 ⟨q1,q2,yd,q3,q4,q5⟩=>fin q1 q2 (by rw [show P.reverse.take P.length=P.reverse from eX (by rw [ir]; exact aq _)]at q3; exact q3) q4 q5)
end
section
variable {T:Nat->Option dU}{H:ay}{s:St}
theorem xq {b:Nat}{k:List iT}{l:List bg}{Q:QP}{t:Nat}{e:Env}{ds:List (D×List D)}{g:Option (Nat×Bool)}{x y:bP}{m c:List UInt8}(h:gG T H b l k ⟨(t,.str (m++c))::e,ds⟩ s Q)(hn:m.length+c.length<=4611686018427387904)(hw:aI e g=some true:=by rfl)(hx:x.ev e=some (.str m):=by rfl)(hy:y.ev e=some (.str c):=by rfl):gG T H b (⟨some t,.bin .add x y,g,none⟩::l) k ⟨e,ds⟩ s Q:=by
 have e1:Nat.ble (m.length+c.length) 4611686018427387904=true:=au hn;refine du h hw ?_;simp only [cC,hx,hy,KE,zg,e1,nj]
theorem EH (hX:TX T){m:List UInt8}(hl:m.length<=1000000000):cu T H 250 [.str m,.str [48]] s fun d s1=>d= .str (m.dropWhile (· ==48))/\s1=s:=by
 refine ax hX.t250 ?_;cases m with
 | nil=>
  try refine go ?_
  exact ai ⟨rfl,rfl⟩
 | cons a r=>
  have h0:((a::r)==([]:List UInt8))=false:=rfl;try refine go ?_
  refine ak (Ed (c:=48) hX hl) ?_;rintro d s2 ⟨rfl,rfl⟩;try refine go ?_
  exact ai ⟨rfl,rfl⟩
theorem Ws.shape {x:D}{V:List Nat}(hx:Ws s x V):(∃o n cp,x= .sl o 0 n cp)\/∃nl z L,x= .vs nl z L:=by
 rcases hx with ⟨nl,V,qU⟩ | _ | ⟨o,cp,V,R,hg,hc⟩
 ·exact .inr ⟨_,_,_,rfl⟩
 ·exact .inr ⟨_,_,_,rfl⟩
 ·exact .inl ⟨_,_,_,rfl⟩
theorem Ws.zero {x:D}(hx:Ws s x []):(∃o cp,x= .sl o 0 0 cp)\/∃nl z,x= .vs nl z []:=by
 generalize hV:([]:List Nat)=V at hx;rcases hx with ⟨nl,V,qU⟩ | _ | ⟨o,cp,V,R,hg,hc⟩
 ·subst hV; exact .inr ⟨_,_,rfl⟩
 ·exact .inr ⟨_,_,rfl⟩
 ·subst hV; exact .inl ⟨_,_,rfl⟩
theorem MQ (hW:TW T)(hV:TV T)(hX:TX T){x:D}{ng:Bool}{V:List Nat}(hs:s.Ok)(hx:Ws s x V)(hl:V.length<=100000)(hw:∀v∈V,v < 4294967296):cu T H 198 [.agg [.bool ng,x]] s fun d s1=>d= .str (uM ng V)/\aF (fun _=>False) s s1:=by
 have lZ:maxLen=9223372036854775807:=by decide
 refine ax hX.t198 ?_;have h1:=pE (H:=H) hW hx (by omega);have h2:=j6 V;have h3:=tI V;have hpc:∀ {s' :St} {n0:Nat} {dP:D},bU V≠ []->w8 s' n0 dP (eM (gH (bU V)))->∃po,dP= .sl po 0 (eM (gH (bU V))).length (eM (gH (bU V))).length:=by
  intro s' n0 dP h0 h;have hv:=vo V h0;have cE:eM (gH (bU V))≠ []:=by rw [nE (by omega)]; simp
  generalize eM (gH (bU V))=P at h cE;rcases h with _ | ⟨o,P,h,_,_⟩
  ·exact absurd rfl cE
  ·exact⟨o,rfl⟩
 have Eb:bU V≠ []->uM ng V=(if ng then [45] else [])++(jw (eM (gH (bU V)))).dropWhile (· ==48):=by
  intro h0;rw [uM,aK h0,vk]
 have I3:(eM (gH (bU V))).length<=200000:=by
  have:=vJ (V:=bU V) (fun v hv=>hw v (by rw [h3]at hv; exact fW hv));omega
 have vf:(jw (eM (gH (bU V)))).length<=4000000:=by
  have key:∀L:List Nat,(L.flatMap oR).length=9 * L.length:=by
   intro L;induction L with
   | nil=>rfl
   | cons a r ih=>rw [jf,aG,ih,aV]; simp only [oR,aJ,aV,bL]; omega
  rw [jw,key,ir]; omega
 rcases hx.shape with ⟨o,n,cp,rfl⟩ | ⟨nl,z,L,rfl⟩
 all_goals
  try refine go ?_
  refine ak h1 ?_;rintro d s1 ⟨rfl,h4⟩;by_cases h0:bU V=[]
  ·rw [h0]at h4;have Eb:uM ng V=[48]:=by rw [uM,bT h0]
   rcases h4.shape with ⟨o',n',cp',rfl⟩ | ⟨nl',z',L',rfl⟩
   all_goals
    try refine go ?_
    refine ak (EZ hW hs h4 (by decide)) ?_;rintro d2 s2 ⟨h5,h6⟩;rcases h5.zero with ⟨o2,cp2,rfl⟩ | ⟨Cx,z2,rfl⟩
    all_goals
     try refine go ?_
     rw [Eb];exact ai ⟨rfl,h6.mono fun _ h=>h.elim⟩
  ·have h7:=Ka (H:=H) hW hs h4 h0 (by simp only [aL]; omega);rcases h4.shape with ⟨o',n',cp',rfl⟩ | ⟨nl',z',L',rfl⟩
   all_goals
    try refine go ?_
    refine ak h7 ?_;rintro d2 s2 ⟨rfl,h5,h6⟩;have hp0:0 < (bU V).length:=dT.2 h0;have QV:(((bU V).length:Int)==0)=false:=by rw [bJ]; omega
    try refine go ?_
    have ab5:=h6.ok;refine R2 (V:=bU V) (n0:=s1.n) hW hX ab5 h5 rfl (aq _) h6.n (by omega) (fun v hv=>hw v (by rw [h3]at hv; exact fW hv)) (mL _) rfl ?_;intro s3 dP y1 y2 d1 d2 d3;obtain⟨po,rfl⟩:∃po,dP= .sl po 0 (eM (gH (bU V))).length (eM (gH (bU V))).length:=hpc h0 y1;have YH:=y2.ok;try refine go ?_
    refine ak (rp hV (oI)) ?_;rintro d s4 ⟨rfl,rfl⟩;try refine go ?_
    have b5:aF (fun _=>False) s3 ((s3.bz (.var 355 (.agg [.cz,.vs true 0 []]))).bz (.var 44 (.sl po 0 (eM (gH (bU V))).length (eM (gH (bU V))).length))):=aF.push (aF.push (aF.refl YH) _) _;refine Nc (bx:=s3.n) (P:=eM (gH (bU V))) (n0:=s1.n) hV hX b5.ok (y1.dK YH b5 (fun _ _ _ _ h=>h)) I3 (FQ _) ⟨⟨.cz,.inl rfl,gI⟩,.inl ⟨rfl,rfl⟩⟩ St.bu rfl rfl ?_;intro s6 yd w1 w2 w3;have qV:=h6.n;have hn3:=y2.n;have hn5:=b5.n;have hn6:=w3.n;try refine go ?_
    refine ak (Jn hX w3.ok w1 vf) ?_;rintro d s7 ⟨rfl,x1⟩;have hbe:aF (fun _=>False) s1 s7:=by
     have b0:=h6.trans' y2 (fun j (hj:s1.n<=j) h=>by omega);have b1:=b0.trans' b5 (fun _ h _=>h);have b2:=b1.trans' w3 (fun j (hj:j=s3.n) h=>by omega)
     exact b2.trans' x1 (fun j hj h=>by
      rcases hj with hj | ⟨l,c,hj⟩
      ·omega
      ·have:=w2 _ _ _ hj; omega)
    try refine go ?_
    refine ak (EH hX (by omega)) ?_;rintro d s8 ⟨rfl,rfl⟩;rw [Eb h0];cases ng
    ·try refine go ?_
     exact ai ⟨rfl,hbe⟩
    ·try refine go ?_
     refine xq (m:=[45]) (c:=(jw (eM (gH (bU V)))).dropWhile (· ==48)) ?_ (by have:=(ml (l:=jw (eM (gH (bU V)))) (· ==48)).length_le; rw [aZ]; omega);try refine go ?_
     exact ai ⟨rfl,hbe⟩
end
def V7:List UInt8:=[48,49,50,51,52,53,54,55,56,57,97,98,99,100,101,102,103,104,105,106,107,108,109,110,111,112,113,114,115,116,117,118,119,120,121,122]
def XF:List UInt8:=(List.range 100).flatMap fun i=> [UInt8.ofNat (48+i / 10),UInt8.ofNat (48+i % 10)]
def rL (n:Nat):List UInt8:=if n < 10 then (V7.take (n+1)).drop n else (XF.take (n * 2+2)).drop (n * 2)
theorem JF (n:Nat):(rL n).length<=1000:=by
 have h1:V7.length=36:=rfl;have h2:XF.length=200:=by decide
 unfold rL;split <;> rw [dY,cM] <;> omega
section
variable {T:Nat->Option dU}{H:ay}{s:St}
theorem II {b:Nat}{k:List iT}{l:List bg}{Q:QP}{t lo hi:Nat}{e:Env}{ds:List (D×List D)}{g:Option (Nat×Bool)}{x y z:bP}{m:List UInt8}(h:gG T H b l k ⟨(t,.str ((m.take hi).drop lo))::e,ds⟩ s Q)(hl:lo<=hi)(hn:hi<=m.length)(hw:aI e g=some true:=by rfl)(hx:x.ev e=some (.str m):=by rfl)(hy:y.ev e=some (.int .i64 (Nat.cast lo)):=by rfl)(hz:z.ev e=some (.int .i64 (Nat.cast hi)):=by rfl):gG T H b (⟨some t,.pj x (some y) (some z),g,none⟩::l) k ⟨e,ds⟩ s Q:=by
 have e1:Nat.ble lo hi=true:=au hl;have e2:Nat.ble hi m.length=true:=au hn;have e3:lH 0 (some (.int .i64 (lo:Int)))=some lo:=by simp [lH,idx]
 have e4:sJ e (some y)=some (some (.int .i64 (lo:Int))):=by simp [sJ,hy]
 have e5:lH m.length (some (.int .i64 (hi:Int)))=some hi:=by simp [lH,idx]
 have e6:sJ e (some z)=some (some (.int .i64 (hi:Int))):=by simp [sJ,hz]
 refine du h hw ?_;simp only [cC,hx,e4,e3,e1,e5,e6,e2]
theorem ME (hX:TX T){n:Nat}(hn:n < 100):cu T H 302 [.int .i64 n] s fun d s1=>s1=s/\d= .str (rL n):=by
 refine ax hX.t302 ?_;rcases aH n 10 with h | h
 ·have e1:=eJ ((n:Int) < 10);have w1:IntKind.wrap .i64 ((n:Int)+1)=((n+1:Nat):Int):=by rw [wrap_small (by omega) (by omega)]; omega
  try refine go ?_
  try rw [w1]
  refine II (lo:=n) (hi:=n+1) (m:=V7) ?_ (by omega) ?_
  ·try refine go ?_
   exact ai ⟨rfl,by rw [rL,bT h]⟩
  ·exact cU (show n+1<=36 by omega) (Nat.le_of_eq rfl)
 ·have e1:=cN ((n:Int) < 10);have w1:IntKind.wrap .i64 ((n:Int) * 2)=((n * 2:Nat):Int):=by rw [wrap_small (by omega) (by omega)]; omega
  have w2:IntKind.wrap .i64 (((n * 2:Nat):Int)+2)=((n * 2+2:Nat):Int):=by rw [wrap_small (by omega) (by omega)]; omega
  try refine go ?_
  try simp only [w1,w2]
  refine II (lo:=n * 2) (hi:=n * 2+2) (m:=XF) ?_ (by omega) ?_
  ·try refine go ?_
   exact ai ⟨rfl,by rw [rL,aK (by omega)]⟩
  ·exact cU (show n * 2+2<=200 by omega) (Nat.le_of_eq (by decide))
theorem Ry (hX:TX T){n:Nat}(hn:n < 100):cu T H 199 [.int .i64 n] s fun d s1=>s1=s/\d= .str (rL n):=by
 have e0:=eJ ((0:Int)<=(n:Int));have e1:=eJ ((n:Int) < 100);refine ax hX.t199 ?_;try refine go ?_
 refine eW hX.t252 ?_;try refine go ?_
 refine eW hX.t285 ?_;try refine go ?_
 refine ak (ME hX hn) ?_;rintro d s2 ⟨rfl,rfl⟩;try refine go ?_
 exact ai ⟨rfl,rfl⟩
end
open Go Go.Ab
noncomputable section
def aae:=RK.mk (a:=cf Tryz.f14 14)
def VP:=RK.mk (a:=cf Tryz.f16 16)
def WH:=RK.mk (a:=cf Tryz.f18 18)
def Zj:=RK.mk (a:=cf Tryz.f29 29)
def aas:=RK.mk (a:=cf Tryz.f38 38)
def aab:=RK.mk (a:=cf Tryz.f39 39)
def YU:=RK.mk (a:=cf Tryz.f40 40)
def YE:=RK.mk (a:=cf Tryz.f41 41)
def ZA:=RK.mk (a:=cf Tryz.f42 42)
def Zy:=RK.mk (a:=cf Tryz.f43 43)
def YW:=RK.mk (a:=cf Tryz.f46 46)
def YA:=RK.mk (a:=cf Tryz.f49 49)
def YJ:=RK.mk (a:=cf Tryz.f53 53)
def Yt:=RK.mk (a:=cf Tryz.f72 72)
def mV:=RK.mk (a:=cf Tryz.f73 73)
def Z7:=RK.mk (a:=cf Tryz.f74 74)
def Zl:=RK.mk (a:=cf Tryz.f75 75)
def YI:=RK.mk (a:=cf Tryz.f76 76)
def YC:=RK.mk (a:=cf Tryz.f77 77)
def Z1:=RK.mk (a:=cf Tryz.f79 79)
def aau:=RK.mk (a:=cf Tryz.f80 80)
def aaO:=RK.mk (a:=cf Tryz.f81 81)
def YG:=RK.mk (a:=cf Tryz.f82 82)
def aaG:=RK.mk (a:=cf Tryz.f83 83)
def YS:=RK.mk (a:=cf Tryz.f84 84)
def Z0:=RK.mk (a:=cf Tryz.f85 85)
def aar:=RK.mk (a:=cf Tryz.f90 90)
def aaR:=RK.mk (a:=cf Tryz.f97 97)
def Sw:=RK.mk (a:=cf Tryz.f116 116)
def Vq:=RK.mk (a:=cf Tryz.f135 135)
def UC:=RK.mk (a:=cf Tryz.f136 136)
def T4:=RK.mk (a:=cf Tryz.f138 138)
def VK:=RK.mk (a:=cf Tryz.f139 139)
def TI:=RK.mk (a:=cf Tryz.f140 140)
def SE:=RK.mk (a:=cf Tryz.f142 142)
def VM:=RK.mk (a:=cf Tryz.f143 143)
def Vv:=RK.mk (a:=cf Tryz.f144 144)
def SH:=RK.mk (a:=cf Tryz.f146 146)
def Uf:=RK.mk (a:=cf Tryz.f147 147)
def SZ:=RK.mk (a:=cf Tryz.f148 148)
def Ua:=RK.mk (a:=cf Tryz.f200 200)
def Ub:=RK.mk (a:=cf Tryz.f202 202)
def S2:=RK.mk (a:=cf Tryz.f203 203)
def Vo:=RK.mk (a:=cf Tryz.f205 205)
def UW:=RK.mk (a:=cf Tryz.f347 347)
def TY:=RK.mk (a:=cf Tryz.f352 352)
def S6:=RK.mk (a:=cf Tryz.f353 353)
def VA:=RK.mk (a:=cf Tryz.f354 354)
def Tw:=RK.mk (a:=cf Tryz.f364 364)
def S9:=RK.mk (a:=cf Tryz.f367 367)
def Tx:=RK.mk (a:=cf Tryz.f368 368)
def UE:=RK.mk (a:=cf Tryz.f369 369)
end
structure TS (T:Nat->Option dU):Prop where
 t14:T 14=some aae.1
 t16:T 16=some VP.1
 t18:T 18=some WH.1
 t29:T 29=some Zj.1
 t38:T 38=some aas.1
 t39:T 39=some aab.1
 t40:T 40=some YU.1
 t41:T 41=some YE.1
 t42:T 42=some ZA.1
 t43:T 43=some Zy.1
 t46:T 46=some YW.1
 t49:T 49=some YA.1
 t53:T 53=some YJ.1
 t72:T 72=some Yt.1
 t73:T 73=some mV.1
 t74:T 74=some Z7.1
 t75:T 75=some Zl.1
 t76:T 76=some YI.1
 t77:T 77=some YC.1
 t79:T 79=some Z1.1
 t80:T 80=some aau.1
 t81:T 81=some aaO.1
 t82:T 82=some YG.1
 t83:T 83=some aaG.1
 t84:T 84=some YS.1
 t85:T 85=some Z0.1
 t90:T 90=some aar.1
 t97:T 97=some aaR.1
 t116:T 116=some Sw.1
 t135:T 135=some Vq.1
 t136:T 136=some UC.1
 t138:T 138=some T4.1
 t139:T 139=some VK.1
 t140:T 140=some TI.1
 t142:T 142=some SE.1
 t143:T 143=some VM.1
 t144:T 144=some Vv.1
 t146:T 146=some SH.1
 t147:T 147=some Uf.1
 t148:T 148=some SZ.1
 t200:T 200=some Ua.1
 t202:T 202=some Ub.1
 t203:T 203=some S2.1
 t205:T 205=some Vo.1
 t347:T 347=some UW.1
 t352:T 352=some TY.1
 t353:T 353=some S6.1
 t354:T 354=some VA.1
 t364:T 364=some Tw.1
 t367:T 367=some S9.1
 t368:T 368=some Tx.1
 t369:T 369=some UE.1
end Go.Proofs.Tab
