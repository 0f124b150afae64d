/- Part. -/
import Derived.Test.YtdkejjahldkkoaaGreatDoorG27
set_option linter.unusedSectionVars false
set_option maxRecDepth 100000
set_option maxHeartbeats 4000000
set_option linter.unusedSimpArgs false
set_option linter.unusedVariables false
namespace Go.Proofs.Tab
open Go Go.Ab Go.Ab.Sm
section
variable {T:Nat->Option dS}{H:au}{s:St}
theorem I7 (hT:TW T){x:D}{V:List Nat}(hs:s.Ok)(hx:Ws s x V)(cC:V≠ [])(hV:V.length<=aL):cu T H 150 [x] s fun d s1=>d= .sl s.n 0 V.length V.length/\s1.get s.n=some (.arr 1 263 (dz V) 0)/\aC (fun _=>False) s s1:=by
 rcases hx with ⟨nl,V,qW⟩ | _ | ⟨o,cp,V,R,hg,hc⟩
 ·cases nl with
  | true=>exact absurd (qW rfl) cC
  | false=>
   refine ay hT.t150 ?_;cases V with
   | nil=>exact absurd rfl cC
   | cons v V=>
    have tV:0+(dz (v::V)).length<=aL:=by rw [cN,aM]; exact hV
    refine run_seq ?_;try refine go ?_
    refine tY (z:=1) (m:=dz (v::V)) rfl rfl (by simp) (pd _) tV ?_ (es:=[]) (off:=0) (he:=rfl);try refine go ?_
    refine ai ⟨?_,St.aN,aC.set (aC.push (aC.refl hs) _) _ (by rw [St.dN]; omega) (fun h=>by omega)⟩;rw [show 0+(dz (v::V)).length=(v::V).length by rw [cN]; omega];rfl
 ·exact absurd rfl cC
 ·refine ay hT.t150 ?_;have lo:=hs.lt hg;have UB:(s.bc (.arr 1 263 [] 0)).get o=some (.arr 1 263 (dz (V++R)) 0):=St.fh hg (by omega);obtain⟨z,hz,Pz⟩:=(Ws.sl (s:=s.bc (.arr 1 263 [] 0)) o cp V R UB hc).items;cases V with
  | nil=>exact absurd rfl cC
  | cons v V=>
   have tV:0+(dz (v::V)).length<=aL:=by rw [cN,aM]; exact hV
   have PQ:z=1:=by rcases Pz with h | h; exact h; cases h
   try refine go ?_
   refine tY hz PQ (by simp) (pd _) tV ?_ (es:=[]) (off:=0) (he:=rfl);try refine go ?_
   refine ai ⟨?_,St.aN,aC.set (aC.push (aC.refl hs) _) _ (by rw [St.dN]; omega) (fun h=>by omega)⟩;rw [show 0+(dz (v::V)).length=(v::V).length by rw [cN]; omega];rfl
theorem Sz (hT:TW T){o cp st:Nat}{V R:List Nat}(hg:s.get o=some (.arr 1 263 (dz (V++R)) st))(dT:st<=cp)(hc:V.length<=cp)(hV:V.length<=1000000000):cu T H 151 [.sl o 0 V.length cp] s fun d s1=>s1=s/\d= .sl o 0 (bU V).length cp:=by
 refine ay hT.t151 ?_;try refine go ?_
 refine cg (fun m env s' =>s' =s/\m<=V.length/\env=[(0,.sl o 0 m cp)]/\bU (V.take m)=bU V) V.length rfl ⟨rfl,an _,rfl,by rw [eD]⟩ ?_;rintro m env s' ⟨rfl,hm,rfl,ht⟩;have pQ:(dz (V++R)).length=V.length+R.length:=by rw [cN,aB]
 cases m with
 | zero=>
  try refine go ?_
  refine ai ⟨rfl, ?_⟩;rw [← ht];rfl
 | succ m=>
  have dQ:m < V.length:=by omega
  have hw:IntKind.wrap .i64 (((m+1:Nat):Int) - 1)=(m:Nat):=by rw [wrap_small (by omega) (by omega)]; omega
  have he:(dz (V++R))[0+m]? =some (.int .u32 (V[m]:Nat)):=by simp [dQ,nG]
  have zu:=oK V dQ;generalize hv:V[m]=v at he zu;by_cases h0:v=0
  ·try refine go ?_
   simp only [hw];try refine go ?_
   simp only [hw];try refine go ?_
   refine bg m (by omega) rfl ⟨rfl,by omega,rfl, ?_⟩;rw [← ht,zu,h0,lR]
  ·try refine go ?_
   simp only [hw];try refine go ?_
   refine ai ⟨rfl, ?_⟩;rw [← ht,zu,lN h0,← zu,cR,Nat.min_eq_left hm];rfl
theorem Bj {W:List Nat}{i:Nat}(h:i < W.length):iH (W.drop i)=(((iH (W.drop (i+1))).2 * 4294967296+W[i]) / 1000000000::(iH (W.drop (i+1))).1,((iH (W.drop (i+1))).2 * 4294967296+W[i]) % 1000000000):=by
 rw [fB h]; rfl
def sf (W:List Nat)(j:Nat):List Nat:=W.take (W.length - j)++(iH (W.drop (W.length - j))).1
theorem WI (W:List Nat):sf W 0=W:=by simp [sf,iH]
theorem XA (W:List Nat):sf W W.length=(iH W).1:=by simp [sf]
theorem NU {W:List Nat}(j:Nat):(sf W j).length=W.length:=by simp [sf,yr]
theorem MG {W:List Nat}{i j:Nat}(h:i+1+j=W.length)(hl:i < W.length):(sf W j)[i]? =some W[i]:=by
 rw [sf,aO (by rw [cR]; omega),List.getElem?_take_of_lt (by omega),ae hl]
theorem N2 {W:List Nat}{i j:Nat}(h:i+1+j=W.length)(hl:i < W.length):(sf W j).set i (((iH (W.drop (W.length - j))).2 * 4294967296+W[i]) / 1000000000)=sf W (j+1):=by
 have e1:W.length - j=i+1:=by omega
 have e2:W.length - (j+1)=i:=by omega
 simp only [sf,e1,e2];rw [Bj hl,oK W hl,ia,mC _ _ (by rw [cR]; omega)];rw [show i - (List.take i W).length=0 by rw [cR]; omega];rfl
theorem VZ {W:List Nat}{i j:Nat}(h:i+1+j=W.length)(hl:i < W.length):(iH (W.drop (W.length - (j+1)))).2=((iH (W.drop (W.length - j))).2 * 4294967296+W[i]) % 1000000000:=by
 have e1:W.length - j=i+1:=by omega
 have e2:W.length - (j+1)=i:=by omega
 rw [e1,e2,Bj hl]
noncomputable def MD:AC:=match Dy.1.body with
 | .seq _ (.seq _ (.seq _ (.seq _ (.seq (.block _ (.loop _ (.seq _ (.block _ (.seq _ (.seq (.seq _ (.block _ r)) _)))))) _))))=>r
 | _=> .skip
theorem QL (hX:TX T){a0 a2 a4:D}{o cp st:Nat}{W R:List Nat}{k:List je}{Q:QP}{E:Env}(hs:s.Ok)(hg:s.get o=some (.arr 1 263 (dz (W++R)) st))(dT:st<=cp)(hc:cp=W.length+R.length)(hn:0 < W.length)(hl:W.length<=100000)(hw:∀v∈W,v < 4294967296)
  (hE:E.bR [1,2,3,4,5,6,9]=[(1,a0),(2,a2),(3,.sl o 0 W.length cp),(4,a4),(5,.int .u32 0),(6,.int .i64 ((W.length:Int) - 1 - (0:Nat)))])
  (h:∀s1 mu,s1.get o=some (.arr 1 263 (dz ((iH W).1++R)) mu)->mu<=cp->aC (fun j=>j=o) s s1->∀d1 d2:D,kZ T H .normal k ⟨[(26,.bool false),(25,d1),(1,a0),(2,a2),(3,.sl o 0 W.length cp),(4,a4),(5,.int .u32 ((iH W).2:Nat)),(6,d2)],[]⟩ s1 Q):
  eI T H MD (.block 2::k) ⟨E,[]⟩ s Q:=by
 show eI T H (.loop _ _) (.block 2::k) ⟨E,[]⟩ s Q;have lo:=hs.lt hg;refine eT W.length (fun j=> [(1,a0),(2,a2),(3,.sl o 0 W.length cp),(4,a4),(5,.int .u32 ((iH (W.drop (W.length - j))).2:Nat)),(6,.int .i64 ((W.length:Int) - 1 - (j:Nat)))]) (fun j s' =>∃mu,s'.get o=some (.arr 1 263 (dz (sf W j++R)) mu)/\mu<=cp/\aC (fun j=>j=o) s s') ⟨st,by rw [WI]; exact hg,dT,aC.refl hs⟩ ?_ (hF:=by rw [hE]; simp [iH]);rintro j s' hj ⟨mu,q1,q0,q2⟩;rcases aG j W.length with h1 | h1
 ·obtain⟨i,hi⟩:∃i,i=W.length - 1 - j:=⟨_,rfl⟩;have nO:i+1+j=W.length:=by omega
  have jg:i < W.length:=by omega
  have e1:(W.length:Int) - 1 - (j:Nat)=(i:Int):=by omega
  have e2:IntKind.wrap .i64 ((i:Int) - 1)=(W.length:Int) - 1 - ((j+1:Nat):Int):=by rw [wrap_small (by omega) (by omega)]; omega
  have d1:=MG nO jg;have d2:=N2 nO jg;have d3:=VZ nO jg;have d4:=hw _ (bH jg);have d5:=xA (W.drop (W.length - j));have d6:=NU (W:=W) j;rw [e1];show eI T H _ _ ⟨[(1,a0),(2,a2),(3,.sl o 0 W.length cp),(4,a4),(5,.int .u32 ((iH (W.drop (W.length - j))).2:Nat)),(6,.int .i64 (i:Nat))],[]⟩ _ _;generalize XX:sf W (j+1)=V2 at d2;generalize xe:(iH (W.drop (W.length - (j+1)))).2=r2 at d3;generalize (iH (W.drop (W.length - j))).2=r at *;generalize W[i]=w at *;have g1:(dz (sf W j++R))[0+i]? =some (.int .u32 (w:Nat)):=by
   rw [aM,dz,aE,aO (by omega),d1]; rfl
  have g2:(dz (sf W j++R)).length=W.length+R.length:=by rw [cN,aB,d6]
  have g3:0+cp=(dz (sf W j++R)).length:=by omega
  have lo2:=q2.ok.lt q1;have ok2:=q2.ok;try refine go ?_
  refine ak (ME hX d5 d4) ?_;rintro d s2 ⟨rfl,rfl⟩;try refine go ?_
  rw [e2];refine dO h1 ⟨(dz (sf W j++R)).length, ?_, ?_,aC.set q2 _ lo2 fun _=>rfl⟩ rfl ?_
  ·rw [St.aN,XX,← d2,aM,dz,dz,← List.map_set,List.set_append_left _ _ (by omega)]
  ·rw [g2]; omega
  ·show _=[(1,a0),(2,a2),(3,D.sl o 0 W.length cp),(4,a4),(5,.int .u32 ((iH (W.drop (W.length - (j+1)))).2:Nat)),(6,.int .i64 ((W.length:Int) - 1 - ((j+1:Nat):Int)))];rw [xe,d3];rfl
 ·have Rc:j=W.length:=by omega
  subst Rc;have hd:=cM ((W.length:Int) - 1 - (W.length:Nat) >= 0);rw [XA]at q1;rw [eF,gv];try refine go ?_
  exact h _ _ q1 q0 q2 _ _
end
inductive xj (s:St)(n0:Nat):D->List Nat->Prop
 | nil:xj s n0 (.vs true 0 []) []
 | sl (o:Nat) (P:List Nat) (h:s.get o=some (.arr 1 263 (dz P) 0)) (h0:n0<=o) (hp:P≠ []):xj s n0 (.sl o 0 P.length P.length) P
theorem xj.dU {W:Nat->Prop}{s s1:St}{n0:Nat}{d:D}{P:List Nat}(h:xj s n0 d P)(hs:s.Ok)(hb:aC W s s1)(hw:∀o l c,d= .sl o 0 l c-> ¬ W o):xj s1 n0 d P:=by
 rcases h with _ | ⟨o,P,h,h0,hp⟩
 ·exact .nil
 ·exact .sl o P (hb.get hs h (hw _ _ _ rfl)) h0 hp
theorem I6 (V:List Nat):bU V++V.drop (bU V).length=V:=by
 have h:=tp V;have e:bU V++V.drop (bU V).length=V.take (bU V).length++V.drop (bU V).length:=by rw [← h]
 rw [e,gK]
theorem Hy:∀V:List Nat,(∀v∈V,v < 4294967296)->gG V < 4294967296 ^ V.length
 | [],_=>by simp [gG]
 | a::r,h=>by
  have h1:=h a (by simp);have h2:=Hy r fun v hv=>h v (by simp [hv]);rw [gG,aU,jl];omega
theorem vu {V:List Nat}(hw:∀v∈V,v < 4294967296):(eH (gG V)).length<=2 * V.length:=by
 refine EX _ _ (eX (Hy V hw) ?_);rw [Nat.pow_mul];exact Nat.pow_le_pow_left (by decide) _
noncomputable def Mq:AC:=match Dy.1.body with
 | .seq _ (.seq _ (.seq _ (.seq _ (.seq (.block _ r) _))))=>r
 | _=> .skip
section
variable {T:Nat->Option dS}{H:au}{s:St}
theorem RU (hW:TW T)(hX:TX T){a0:D}{o cp n0:Nat}{V:List Nat}{k:List je}{Q:QP}{E:Env}(hs:s.Ok)(hg:s.get o=some (.arr 1 263 (dz V) 0))(hc:cp=V.length)(FE:n0<=o)(zQ:n0<=s.n)(hl:V.length<=100000)(hw:∀v∈V,v < 4294967296)(ht:bU V=V)
  (hE:E.bR [1,2,3,4,9]=[(1,a0),(2,.str []),(3,.sl o 0 V.length cp),(4,.vs true 0 [])])
  (h:∀s1 dP,xj s1 n0 dP (eH (gG V))->aC (fun j=>n0<=j) s s1->∀d1 d2 d3:D,kZ T H .normal k ⟨[(21,.bool false),(20,d1),(19,d2),(1,a0),(2,.str []),(3,d3),(4,dP)],[]⟩ s1 Q):
  eI T H Mq (.block 0::k) ⟨E,[]⟩ s Q:=by
 show eI T H (.loop _ _) (.block 0::k) ⟨E,[]⟩ s Q;refine cg (fun m env s' =>∃W R P dP st,env=[(1,a0),(2,.str []),(3,.sl o 0 W.length cp),(4,dP)]/\m=gG W/\s'.get o=some (.arr 1 263 (dz (W++R)) st)/\st<=cp/\cp=W.length+R.length/\(∀v∈W,v < 4294967296)/\bU W=W/\xj s' n0 dP P/\P++eH (gG W)=eH (gG V)/\(∀l c,dP≠ .sl o 0 l c)/\aC (fun j=>n0<=j) s s') (gG V) rfl ⟨V,[],[],_,0,hE,rfl,by rw [dY]; exact hg,aR _,hc,hw,ht,.nil,rfl,(fun _ _ h=>by cases h),aC.refl hs⟩ ?_;rintro m env s' ⟨W,R,P,dP,st,rfl,rfl,q1,q2,q3,q4,q5,q6,q7,q8,q9⟩;by_cases hW0:W=[]
 ·subst hW0;rw [show gG []=0 from rfl,v7,dY]at q7;subst q7;show eI T H _ _ ⟨[(1,a0),(2,.str []),(3,.sl o 0 0 cp),(4,dP)],[]⟩ _ _;try refine go ?_
  exact h _ dP q6 q9 _ _ _
 ·have hp0:0 < W.length:=dV.2 hW0;have hwl:W.length<=100000:=by omega
  have Q7:(0:Int) < (W.length:Nat):=by omega
  have e1:IntKind.wrap .i64 ((W.length:Int) - 1)=(W.length:Int) - 1 - (0:Nat):=by rw [wrap_small (by omega) (by omega)]; omega
  have ok1:=q9.ok;have lo:=ok1.lt q1;try refine go ?_
  rw [e1];refine QL (W:=W) (R:=R) hX ok1 q1 q2 q3 hp0 hwl q4 rfl ?_;intro s1 mu z1 z2 z3 d1 d2;have hP:P.length+1<=200000:=by
   have:=vu hw;rw [← q7,aB]at this;have h2:(eH (gG W)).length≠0:=by
    rw [nh (by have:=vE W (by rw [q5]; exact hW0); rw [q5]at this; omega)]; simp
   omega
  have kq:gG W≠0:=by have:=vE W (by rw [q5]; exact hW0); rw [q5]at this; omega
  have ok2:=z3.ok;have lo2:=ok2.lt z1;have PA:=z3.n;have Gn:=yr W;have q6' :=q6.dU ok1 z3 (fun o' l c e h=>q8 l c (by rw [← h]; exact e));have b1:aC (fun j=>n0<=j) s s1:=q9.trans (z3.mono fun j hj=>by subst hj; exact FE);have fin:∀ {s2 dP2 E2},E2.bR [1,2,3,4,9]=[(1,a0),(2,D.str []),(3,D.sl o 0 (bU (iH W).1).length cp),(4,dP2)]->s2.get o=some (.arr 1 263 (dz ((iH W).1++R)) mu)->xj s2 n0 dP2 (P++ [(iH W).2])->(∀l c,dP2≠ .sl o 0 l c)->aC (fun j=>n0<=j) s1 s2->kZ T H .normal (je.loop (fun m env s' =>∃W R P dP st,env=[(1,a0),(2,.str []),(3,.sl o 0 W.length cp),(4,dP)]/\m=gG W/\s'.get o=some (.arr 1 263 (dz (W++R)) st)/\st<=cp/\cp=W.length+R.length/\(∀v∈W,v < 4294967296)/\bU W=W/\xj s' n0 dP P/\P++eH (gG W)=eH (gG V)/\(∀l c,dP≠ .sl o 0 l c)/\aC (fun j=>n0<=j) s s') [1,2,3,4,9] (gG W)::je.block 0::k) ⟨E2,[]⟩ s2 Q:=by
   intro s2 dP2 E2 y1 y2 y3 y4 y5;have t1:=tp (iH W).1;have t2:=jV (iH W).1;refine bg (gG (bU (iH W).1)) ?_ rfl ⟨bU (iH W).1,(iH W).1.drop (bU (iH W).1).length++R,P++ [(iH W).2],dP2,mu,y1,rfl, ?_,z2, ?_, ?_,mG _,y3, ?_,y4,b1.trans y5⟩
   ·rw [vM,Nx]; omega
   ·rw [← List.append_assoc];rw [I6]; exact y2
   ·rw [aB,eB]; omega
   ·intro v hv;rw [t1]at hv;exact zr W q4 v (fV hv)
   ·rw [vM,Nx,Xa,ia,← q7,nh kq]; rfl
  have GD:∀s2:St,s2.get o=some (.arr 1 263 (dz ((iH W).1++R)) mu)->cu T H 151 [.sl o 0 W.length cp] s2 fun d s3=>s3=s2/\d= .sl o 0 (bU (iH W).1).length cp:=fun s2 y=>by
   have:=Sz (H:=H) (V:=(iH W).1) (R:=R) hW y z2 (by omega) (by omega);rwa [Gn]at this
  rcases q6' with _ | ⟨po,P,hp,h0,WZ⟩
  ·try refine go ?_
   refine ak (GD _ (St.fh z1 (by omega))) ?_;rintro d s2 ⟨rfl,rfl⟩;try refine go ?_
   refine fin (dP2:= .sl s1.n 0 1 1) rfl (St.fh z1 (by omega)) (.sl s1.n [(iH W).2] St.ba (by have:=q9.n; omega) (by simp)) (fun l c h=> ?_) (aC.push (aC.refl ok2) _);simp only [D.sl.injEq]at h;omega
  ·have npo:po≠o:=by rintro rfl; exact q8 _ _ rfl
   try refine go ?_
   refine ak (GD _ (St.eP z1 (by omega))) ?_;rintro d s2 ⟨rfl,rfl⟩;try refine go ?_
   refine fin (dP2:= .sl po 0 (P.length+1) (P.length+1)) rfl (St.eP z1 (by omega)) ?_ (fun l c h=> ?_) (aC.set (aC.refl ok2) _ (ok2.lt hp) (fun _=>h0))
   ·have:=xj.sl (s:=s1.bD po (.arr 1 263 (dz P++ [.int .u32 ((iH W).2:Nat)]) 0)) (n0:=n0) po (P++ [(iH W).2]) (by rw [St.aN,dz,dz,jc]; rfl) h0 (by simp);rw [aB]at this;exact this
   ·simp only [D.sl.injEq]at h;omega
end
noncomputable def Cy:AC:=match Dy.1.body with
 | .seq _ (.seq _ (.seq _ (.seq _ (.seq _ (.seq _ (.seq (.seq _ (.block _ r)) _))))))=>r
 | _=> .skip
noncomputable def TM:AC:=match Cy with
 | .iA _ _ _ a _=>a
 | _=> .skip
noncomputable def TG:AC:=match Cy with
 | .iA _ _ _ _ b=>b
 | _=> .skip
section
variable {T:Nat->Option dS}{H Y:au}
theorem He (hX:TX T){s:St}{y bx n:Nat}{i:Int}{yd:D}{m:List UInt8}(hY:mW T H y [49,50] [(7,.ptr bx 0)] TM TG Y)(hs:s.Ok)(hl:s.get (y+1)=some (.loop y .ready))
  (hb:Bd s bx yd m)(hn:n < 1000000000)(hm:m.length+9<=4000000):
  ∃s',Y 0 (.lv (.yl y)::[.int .i64 i,.int .u32 n]) s=some (.bool true,s')/\s'.get (y+1)=some (.loop y .ready)/\(∃yd',Bd s' bx yd' (m++o5 n)/\∀o l c,yd' = .sl o 0 l c->(yd= .sl o 0 m.length m.length\/s.n<=o))/\aC (fun j=>j=y+1\/Rx bx yd j) s s' :=by
 have ly:=hs.lt hl;have nb:bx≠y+1:=by
  rintro rfl;obtain⟨⟨a,ha,hg⟩,hy⟩:=hb;rw [hl]at hg; cases hg
 have nd:∀o l c,yd= .sl o 0 l c->o≠y+1:=by
  rintro o l c h rfl;obtain⟨⟨a,ha,hg⟩,hy⟩:=hb;rcases hy with ⟨h1,h2⟩ | ⟨h1,o',h2,h3⟩
  ·rw [h1]at h; cases h
  ·rw [h2]at h;simp only [D.sl.injEq]at h;rw [h.1,hl]at h3; cases h3
 have kL:aC (fun j=>j=y+1) s (s.bD (y+1) (.loop y .busy)):=aC.set (aC.refl hs) _ ly (fun _=>rfl);have kb:=hb.dU hs kL nb nd;have mc:=kL.ok;have XK:y+1 < (s.bD (y+1) (.loop y .busy)).n:=ly;have ek:(s.bD (y+1) (.loop y .busy)).n=s.n:=rfl
 obtain⟨c,s',q1,q2⟩:=si (e:=[(50,.int .u32 n),(49,.int .i64 i),(7,.ptr bx 0)]) (xs:=[.int .i64 i,.int .u32 n]) hY (fun c s' =>c=true/\s'.get (y+1)=some (.loop y .ready)/\(∃yd',Bd s' bx yd' (m++o5 n)/\∀o l c,yd' = .sl o 0 l c->(yd= .sl o 0 m.length m.length\/s.n<=o))/\aC (fun j=>j=y+1\/Rx bx yd j) s s') rfl hl hs (by
  show eI T H (.Aa _) [] _ s _;try refine go ?_
  refine qB ⟨rfl,rfl, ?_⟩;generalize tZ:s.bD (y+1) (.loop y .busy)=s1 at kL kb XK mc ek ⊢;have sv:s1.get (y+1)=some (.loop y .busy):=by rw [← tZ]; exact St.aN
  show eI T H (.block _ _) [] _ s1 _;try refine go ?_
  refine ak (KJ hX hn) ?_;rintro d s2 ⟨rfl,rfl⟩;try refine go ?_
  refine dC ?_ rfl (I5 (o:=s2.n) (ty:=292) (oI) rfl St.aN rfl);generalize V3:(s2.bc (Ab.Obj.var 292 (D.agg [D.int .u8 0,D.int .u8 0,D.int .u8 0,D.int .u8 0,D.int .u8 0,D.int .u8 0,D.int .u8 0,D.int .u8 0,D.int .u8 0]))).bD s2.n _=s3;have b3:aC (fun _=>False) s2 s3:=by
   rw [← V3];exact aC.set (aC.push (aC.refl mc) _) _ (by rw [St.dN]; omega) (fun h=>by omega)
  have n3:s3.n=s2.n+1:=by rw [← V3,St.fE,St.dN]
  have hf:(D.agg (over [D.int .u8 0,D.int .u8 0,D.int .u8 0,D.int .u8 0,D.int .u8 0,D.int .u8 0,D.int .u8 0,D.int .u8 0,D.int .u8 0] 0 (D.agg (List.map (fun c=>D.int .u8 ↑c.toNat) (o5 n))).flat)).flat=(o5 n).map fun c=> .int .u8 c.toNat:=rfl;rw [hf];clear V3;generalize hs4:(s3.bD s2.n Ab.Obj.dead).bc (Ab.Obj.arr 1 292 ((o5 n).map fun c=> .int .u8 c.toNat) 0)=s4;have b4:aC (fun _=>False) s2 s4:=by
   rw [← hs4];exact aC.push (aC.set b3 _ (by omega) (fun h=>by omega)) _
  have g4:s4.get s3.n=some (Ab.Obj.arr 1 292 ((o5 n).map fun c=> .int .u8 c.toNat) 0):=by
   rw [← hs4]; exact St.ba
  have k4:=kb.dU mc b4 (fun h=>h) (fun _ _ _ _ h=>h);have l4:=b4.get mc sv (fun h=>h);have lb:bx < s2.n:=by
   obtain⟨⟨a,ha,hg⟩,hy⟩:=kb;exact mc.lt hg
  have ld:∀o l c,yd= .sl o 0 l c->o < s2.n:=by
   rintro o l c h;obtain⟨⟨a,ha,hg⟩,hy⟩:=kb;rcases hy with ⟨h1,h2⟩ | ⟨h1,o',h2,h3⟩
   ·rw [h1]at h; cases h
   ·rw [h2]at h;simp only [D.sl.injEq]at h;rw [← h.1]; exact mc.lt h3
  try refine go ?_
  refine ak (Pn (p:=o5 n) hX b4.ok k4 (by simp [o5]) hm g4 (fun l c h=>by have:=ld _ _ _ h; omega)) ?_;rintro d s5 ⟨yd',z1,z2,z3⟩;try refine go ?_
  have l5:=z2.get b4.ok l4 (by rintro (h | ⟨l,c,h⟩); exact nb h.symm; exact nd _ _ _ h rfl);have b6:aC (fun j=>j=y+1) s5 (s5.bD (y+1) (.loop y .ready)):=aC.set (aC.refl z2.ok) _ (z2.ok.lt l5) (fun _=>rfl);have n4:s2.n<=s4.n:=b4.n;refine qB ⟨rfl,l5,z2.ok,rfl,St.aN,⟨yd',z1.dU z2.ok b6 nb ?_, ?_⟩, ?_⟩
  ·rintro o l c h he;rcases z3 _ _ _ h with h | h
   ·exact nd _ _ _ h he
   ·omega
  ·intro o l c h;rcases z3 _ _ _ h with h | h
   ·exact .inl h
   ·exact .inr (by omega)
  ·exact (kL.mono fun j hj=> .inl hj).trans ((b4.mono fun _ h=>h.elim).trans ((z2.mono fun j hj=> .inr hj).trans (b6.mono fun j hj=> .inl hj))))
 obtain⟨rfl,q3⟩:=q2;exact⟨s',q1,q3⟩
theorem Oi (hV:TV T)(hX:TX T){s:St}{bx bo n0:Nat}{x:D}{P:List Nat}{E:Env}{k:List je}{Q:QP}(hs:s.Ok)(hx:xj s n0 x P)(hl:P.length<=200000)(hp:∀p∈P,p < 1000000000)(hb:Bd s bx (.vs true 0 []) [])(gb:s.get bo=some (.var 32 x))
  (hg:bP.ev E (.t 48)=some (.fn (.func 188) [] [.ptr bo 0]))(hk:E.bR [7,9]=[(7,.ptr bx 0)])
  (hq:∀s1 yd,Bd s1 bx yd (jv P)->(∀o l c,yd= .sl o 0 l c->s.n<=o)->aC (fun j=>j=bx) s s1->kZ T H .normal k ⟨E,[(.mf,[])]⟩ s1 Q):
  eI T H Cy k ⟨E,[]⟩ s Q:=by
 show eI T H (.iA _ _ _ _ _) k ⟨E,[]⟩ s Q;refine qU (gf:=188) (caps:=[.ptr bo 0]) (fun Y hY=> ?_) hg hs.ro (by rw [hk]; rfl);have hY' :mW T H s.n [49,50] [(7,.ptr bx 0)] TM TG Y:=by
  have:=hY;simp only at this;rw [hk]at this;exact this
 clear hY;have lb:=hs.lt gb;have lx:bx < s.n:=by
  obtain⟨⟨a,ha,hg⟩,hy⟩:=hb;exact hs.lt hg
 have nbx:bo≠bx:=by
  rintro rfl;obtain⟨⟨a,ha,hg⟩,hy⟩:=hb;rw [gb]at hg; simp at hg
 have Wa:aC (fun _=>False) s ((s.bc .dead).bc (.loop s.n .ready)):=aC.push (aC.push (aC.refl hs) _) _
 have fin:∀ {s2:St} {yd:D},aC (fun j=>j=bx) s s2->s2.get (s.n+1)=some (.loop s.n .ready)->Bd s2 bx yd (jv P)->(∀o l c,yd= .sl o 0 l c->s.n<=o)->(∀l c,yd≠ .sl (s.n+1) 0 l c)->
   ∃st x s3,s2.get (s.n+1)=some (.loop s.n st)/\CF st=some x/\s2.set (s.n+1) .dead=some s3/\kZ T H x k { (⟨E,[]⟩:Fr) with defers:=(.mf,[])::[]} s3 Q:=by
  intro s2 yd jJ Ae hB ho cC;have xd:aC (fun j=>j=s.n+1) s2 (s2.bD (s.n+1) .dead):=aC.set (aC.refl jJ.ok) _ (jJ.ok.lt Ae) (fun _=>rfl);exact⟨.ready,.normal,_,Ae,rfl,jJ.ok.set _ _,hq _ yd (hB.dU jJ.ok xd (by omega) (by rintro o l c h rfl; exact cC _ _ h)) ho (jJ.trans' xd fun j hj Rc=>by omega)⟩
 let I:Nat->St->Prop:=fun j s' =>aC (fun j=>j=bx) s s' /\s'.get (s.n+1)=some (.loop s.n .ready)/\∃yd,Bd s' bx yd ((P.reverse.take j).flatMap o5)/\(∀o l c,yd= .sl o 0 l c->s.n<=o)/\(∀l c,yd≠ .sl (s.n+1) 0 l c)
 have R0:I 0 ((s.bc .dead).bc (.loop s.n .ready)):=⟨Wa.mono fun _ h=>h.elim,St.ba,_,hb.dU hs Wa (fun h=>h) (fun _ _ _ _ h=>h),(fun _ _ _ h=>by cases h),(fun _ _ h=>by cases h)⟩;have hYZ:∀ {Z:St->Prop} j s' (n:Nat) (i:Int),j < P.length->P[P.length - 1 - j]? =some n->I j s' ->∃c s2,Y 0 (.lv (.yl s.n)::[.int .i64 i,.int .u32 (n:Nat)]) s' =some (.bool c,s2)/\(c=true->I (j+1) s2)/\(c=false->Z s2):=by
  rintro Z j s' n i hj hn ⟨q1,q2,yd,q3,q4,q5⟩;have vL:∀L:List Nat,(L.flatMap o5).length=9 * L.length:=by
   intro L;induction L with
   | nil=>rfl
   | cons a r ih=>rw [ji,aB,ih,aU]; simp only [o5,aH,aU,bL]; omega
  have hm:((P.reverse.take j).flatMap o5).length+9<=4000000:=by
   rw [vL,cR,ix]; omega
  obtain⟨s2,y1,y2,⟨yd2,y3,y4⟩,y5⟩:=He (H:=H) (i:=i) hX hY' q1.ok q2 q3 (hp n (aK hn)) hm;have e1:P.reverse.take (j+1)=P.reverse.take j++ [n]:=by
   rw [gz,List.getElem?_reverse hj,hn]; rfl
  have e2:(P.reverse.take (j+1)).flatMap o5=(P.reverse.take j).flatMap o5++o5 n:=by
   rw [e1,nZ]; simp
  have TD:=q1.ok.lt q2;refine⟨true,s2,y1,fun _=>⟨q1.trans' y5 ?_,y2,yd2,by rw [e2]; exact y3, ?_, ?_⟩,fun h=>by cases h⟩
  ·rintro j2 (h | h | ⟨l,c,h⟩) Rc
   ·omega
   ·exact h
   ·have:=q4 _ _ _ h; omega
  ·intro o l c h;rcases y4 _ _ _ h with h | h
   ·exact q4 _ _ _ h
   ·omega
  ·intro l c h;rcases y4 _ _ _ h with h | h
   ·exact q5 _ _ h
   ·omega
 rcases hx with _ | ⟨o,P,go,h0,WZ⟩
 ·refine (Dh hV (Wa.get hs gb (fun h=>h))).mono ?_;rintro d s1 rfl;obtain⟨q1,q2,yd,q3,q4,q5⟩:=R0;exact fin q1 q2 q3 q4 q5
 ·have lo:=hs.lt go;have nob:o≠bx:=by
   rintro rfl;obtain⟨⟨a,ha,hg⟩,hy⟩:=hb;rw [go]at hg; cases hg
  refine IM (V:=P) (R:=[]) hV I _ R0 (by omega) (fun j s' hj=>⟨hj.1.get hs gb nbx,by rw [dY]; exact hj.1.get hs go nob⟩) (fun j s' n hj hn hI=>hYZ j s' n _ hj hn hI) (fun s2 ⟨q1,q2,yd,q3,q4,q5⟩=>fin q1 q2 (by rw [show P.reverse.take P.length=P.reverse from eY (by rw [ix]; exact an _)]at q3; exact q3) q4 q5)
end
section
variable {T:Nat->Option dS}{H:au}{s:St}
theorem xn {b:Nat}{k:List je}{l:List bj}{Q:QP}{t:Nat}{e:Env}{ds:List (D×List D)}{g:Option (Nat×Bool)}{x y:bP}{m c:List UInt8}(h:gN T H b l k ⟨(t,.str (m++c))::e,ds⟩ s Q)(hn:m.length+c.length<=4611686018427387904)(hw:aI e g=some true:=by rfl)(hx:x.ev e=some (.str m):=by rfl)(hy:y.ev e=some (.str c):=by rfl):gN T H b (⟨some t,.bin .add x y,g,none⟩::l) k ⟨e,ds⟩ s Q:=by
 have e1:Nat.ble (m.length+c.length) 4611686018427387904=true:=aq hn;refine dC h hw ?_;simp only [cB,hx,hy,JQ,yV,e1,nk]
theorem EU (hX:TX T){m:List UInt8}(hl:m.length<=1000000000):cu T H 156 [.str m,.str [48]] s fun d s1=>d= .str (m.dropWhile (· ==48))/\s1=s:=by
 refine ay hX.t156 ?_;cases m with
 | nil=>
  try refine go ?_
  exact ai ⟨rfl,rfl⟩
 | cons a r=>
  have h0:((a::r)==([]:List UInt8))=false:=rfl;try refine go ?_
  refine ak (Dp (c:=48) hX hl) ?_;rintro d s2 ⟨rfl,rfl⟩;try refine go ?_
  exact ai ⟨rfl,rfl⟩
theorem Ws.shape {x:D}{V:List Nat}(hx:Ws s x V):(∃o n cp,x= .sl o 0 n cp)\/∃nl z L,x= .vs nl z L:=by
 rcases hx with ⟨nl,V,qW⟩ | _ | ⟨o,cp,V,R,hg,hc⟩
 ·exact .inr ⟨_,_,_,rfl⟩
 ·exact .inr ⟨_,_,_,rfl⟩
 ·exact .inl ⟨_,_,_,rfl⟩
theorem Ws.zero {x:D}(hx:Ws s x []):(∃o cp,x= .sl o 0 0 cp)\/∃nl z,x= .vs nl z []:=by
 generalize hV:([]:List Nat)=V at hx;rcases hx with ⟨nl,V,qW⟩ | _ | ⟨o,cp,V,R,hg,hc⟩
 ·subst hV; exact .inr ⟨_,_,rfl⟩
 ·exact .inr ⟨_,_,rfl⟩
 ·subst hV; exact .inl ⟨_,_,rfl⟩
theorem Mn (hW:TW T)(hV:TV T)(hX:TX T){x:D}{ng:Bool}{V:List Nat}(hs:s.Ok)(hx:Ws s x V)(hl:V.length<=100000)(hw:∀v∈V,v < 4294967296):cu T H 117 [.agg [.bool ng,x]] s fun d s1=>d= .str (uG ng V)/\aC (fun _=>False) s s1:=by
 have lW:maxLen=9223372036854775807:=by decide
 refine ay hX.t117 ?_;have h1:=pH (H:=H) hW hx (by omega);have h2:=jV V;have h3:=tp V;have hpc:∀ {s' :St} {n0:Nat} {dP:D},bU V≠ []->xj s' n0 dP (eH (gG (bU V)))->∃po,dP= .sl po 0 (eH (gG (bU V))).length (eH (gG (bU V))).length:=by
  intro s' n0 dP h0 h;have hv:=vE V h0;have cC:eH (gG (bU V))≠ []:=by rw [nh (by omega)]; simp
  generalize eH (gG (bU V))=P at h cC;rcases h with _ | ⟨o,P,h,_,_⟩
  ·exact absurd rfl cC
  ·exact⟨o,rfl⟩
 have BZ:bU V≠ []->uG ng V=(if ng then [45] else [])++(jv (eH (gG (bU V)))).dropWhile (· ==48):=by
  intro h0;rw [uG,aJ h0,vM]
 have KN:(eH (gG (bU V))).length<=200000:=by
  have:=vu (V:=bU V) (fun v hv=>hw v (by rw [h3]at hv; exact fV hv));omega
 have vL:(jv (eH (gG (bU V)))).length<=4000000:=by
  have key:∀L:List Nat,(L.flatMap o5).length=9 * L.length:=by
   intro L;induction L with
   | nil=>rfl
   | cons a r ih=>rw [ji,aB,ih,aU]; simp only [o5,aH,aU,bL]; omega
  rw [jv,key,ix]; omega
 rcases hx.shape with ⟨o,n,cp,rfl⟩ | ⟨nl,z,L,rfl⟩
 all_goals
  try refine go ?_
  refine ak h1 ?_;rintro d s1 ⟨rfl,h4⟩;by_cases h0:bU V=[]
  ·rw [h0]at h4;have BZ:uG ng V=[48]:=by rw [uG,bJ h0]
   rcases h4.shape with ⟨o',n',cp',rfl⟩ | ⟨nl',z',L',rfl⟩
   all_goals
    try refine go ?_
    refine ak (D0 hW hs h4 (by decide)) ?_;rintro d2 s2 ⟨h5,h6⟩;rcases h5.zero with ⟨o2,cp2,rfl⟩ | ⟨CM,z2,rfl⟩
    all_goals
     try refine go ?_
     rw [BZ];exact ai ⟨rfl,h6.mono fun _ h=>h.elim⟩
  ·have h7:=I7 (H:=H) hW hs h4 h0 (by simp only [aL]; omega);rcases h4.shape with ⟨o',n',cp',rfl⟩ | ⟨nl',z',L',rfl⟩
   all_goals
    try refine go ?_
    refine ak h7 ?_;rintro d2 s2 ⟨rfl,h5,h6⟩;have hp0:0 < (bU V).length:=dV.2 h0;have Q7:(((bU V).length:Int)==0)=false:=by rw [bQ]; omega
    try refine go ?_
    have abW:=h6.ok;refine RU (V:=bU V) (n0:=s1.n) hW hX abW h5 rfl (an _) h6.n (by omega) (fun v hv=>hw v (by rw [h3]at hv; exact fV hv)) (mG _) rfl ?_;intro s3 dP y1 y2 d1 d2 d3;obtain⟨po,rfl⟩:∃po,dP= .sl po 0 (eH (gG (bU V))).length (eH (gG (bU V))).length:=hpc h0 y1;have Zn:=y2.ok;try refine go ?_
    refine ak (rJ hV (oI)) ?_;rintro d s4 ⟨rfl,rfl⟩;try refine go ?_
    have b5:aC (fun _=>False) s3 ((s3.bc (.var 54 (.agg [.cT,.vs true 0 []]))).bc (.var 32 (.sl po 0 (eH (gG (bU V))).length (eH (gG (bU V))).length))):=aC.push (aC.push (aC.refl Zn) _) _;refine Oi (bx:=s3.n) (P:=eH (gG (bU V))) (n0:=s1.n) hV hX b5.ok (y1.dU Zn b5 (fun _ _ _ _ h=>h)) KN (GH _) ⟨⟨.cT,.inl rfl,gI⟩,.inl ⟨rfl,rfl⟩⟩ St.ba rfl rfl ?_;intro s6 yd w1 w2 w3;have qX:=h6.n;have hn3:=y2.n;have hn5:=b5.n;have hn6:=w3.n;try refine go ?_
    refine ak (Bc hX w3.ok w1 vL) ?_;rintro d s7 ⟨rfl,x1⟩;have hbe:aC (fun _=>False) s1 s7:=by
     have b0:=h6.trans' y2 (fun j (hj:s1.n<=j) h=>by omega);have b1:=b0.trans' b5 (fun _ h _=>h);have b2:=b1.trans' w3 (fun j (hj:j=s3.n) h=>by omega)
     exact b2.trans' x1 (fun j hj h=>by
      rcases hj with hj | ⟨l,c,hj⟩
      ·omega
      ·have:=w2 _ _ _ hj; omega)
    try refine go ?_
    refine ak (EU hX (by omega)) ?_;rintro d s8 ⟨rfl,rfl⟩;rw [BZ h0];cases ng
    ·try refine go ?_
     exact ai ⟨rfl,hbe⟩
    ·try refine go ?_
     refine xn (m:=[45]) (c:=(jv (eH (gG (bU V)))).dropWhile (· ==48)) ?_ (by have:=(mh (l:=jv (eH (gG (bU V)))) (· ==48)).length_le; rw [aW]; omega);try refine go ?_
     exact ai ⟨rfl,hbe⟩
end
open Go Go.Ab
noncomputable section
def cd8:=RK.mk (a:=cf Tryz.f8 8)
def Xr:=RK.mk (a:=cf Tryz.f10 10)
def aaJ:=RK.mk (a:=cf Tryz.f12 12)
def YK:=RK.mk (a:=cf Tryz.f17 17)
def aaq:=RK.mk (a:=cf Tryz.f18 18)
def aaH:=RK.mk (a:=cf Tryz.f19 19)
def ZK:=RK.mk (a:=cf Tryz.f20 20)
def YI:=RK.mk (a:=cf Tryz.f21 21)
def aaw:=RK.mk (a:=cf Tryz.f22 22)
def Yu:=RK.mk (a:=cf Tryz.f29 29)
def mF:=RK.mk (a:=cf Tryz.f30 30)
def YP:=RK.mk (a:=cf Tryz.f31 31)
def ZC:=RK.mk (a:=cf Tryz.f32 32)
def Zb:=RK.mk (a:=cf Tryz.f33 33)
def aaW:=RK.mk (a:=cf Tryz.f34 34)
def Y2:=RK.mk (a:=cf Tryz.f36 36)
def Zi:=RK.mk (a:=cf Tryz.f37 37)
def ZS:=RK.mk (a:=cf Tryz.f38 38)
def ZJ:=RK.mk (a:=cf Tryz.f39 39)
def aa0:=RK.mk (a:=cf Tryz.f40 40)
def aa1:=RK.mk (a:=cf Tryz.f41 41)
def Ze:=RK.mk (a:=cf Tryz.f42 42)
def Zr:=RK.mk (a:=cf Tryz.f70 70)
def aan:=RK.mk (a:=cf Tryz.f71 71)
def Zt:=RK.mk (a:=cf Tryz.f73 73)
def Y9:=RK.mk (a:=cf Tryz.f74 74)
def aag:=RK.mk (a:=cf Tryz.f75 75)
def aa5:=RK.mk (a:=cf Tryz.f77 77)
def Zx:=RK.mk (a:=cf Tryz.f78 78)
def aaE:=RK.mk (a:=cf Tryz.f79 79)
def aau:=RK.mk (a:=cf Tryz.f81 81)
def YO:=RK.mk (a:=cf Tryz.f82 82)
def YX:=RK.mk (a:=cf Tryz.f83 83)
def S0:=RK.mk (a:=cf Tryz.f101 101)
def T9:=RK.mk (a:=cf Tryz.f104 104)
def TE:=RK.mk (a:=cf Tryz.f107 107)
def MB:=RK.mk (a:=cf Tryz.f116 116)
def UL:=RK.mk (a:=cf Tryz.f121 121)
def SF:=RK.mk (a:=cf Tryz.f124 124)
def SO:=RK.mk (a:=cf Tryz.f126 126)
def Vh:=RK.mk (a:=cf Tryz.f129 129)
def Vo:=RK.mk (a:=cf Tryz.f131 131)
def S4:=RK.mk (a:=cf Tryz.f165 165)
def Va:=RK.mk (a:=cf Tryz.f166 166)
def Tb:=RK.mk (a:=cf Tryz.f295 295)
def T6:=RK.mk (a:=cf Tryz.f296 296)
def SC:=RK.mk (a:=cf Tryz.f297 297)
def Un:=RK.mk (a:=cf Tryz.f302 302)
def U7:=RK.mk (a:=cf Tryz.f303 303)
def T2:=RK.mk (a:=cf Tryz.f309 309)
def TZ:=RK.mk (a:=cf Tryz.f316 316)
def Vr:=RK.mk (a:=cf Tryz.f326 326)
end
structure TS (T:Nat->Option dS):Prop where
 t8:T 8=some cd8.1
 t10:T 10=some Xr.1
 t12:T 12=some aaJ.1
 t17:T 17=some YK.1
 t18:T 18=some aaq.1
 t19:T 19=some aaH.1
 t20:T 20=some ZK.1
 t21:T 21=some YI.1
 t22:T 22=some aaw.1
 t29:T 29=some Yu.1
 t30:T 30=some mF.1
 t31:T 31=some YP.1
 t32:T 32=some ZC.1
 t33:T 33=some Zb.1
 t34:T 34=some aaW.1
 t36:T 36=some Y2.1
 t37:T 37=some Zi.1
 t38:T 38=some ZS.1
 t39:T 39=some ZJ.1
 t40:T 40=some aa0.1
 t41:T 41=some aa1.1
 t42:T 42=some Ze.1
 t70:T 70=some Zr.1
 t71:T 71=some aan.1
 t73:T 73=some Zt.1
 t74:T 74=some Y9.1
 t75:T 75=some aag.1
 t77:T 77=some aa5.1
 t78:T 78=some Zx.1
 t79:T 79=some aaE.1
 t81:T 81=some aau.1
 t82:T 82=some YO.1
 t83:T 83=some YX.1
 t101:T 101=some S0.1
 t104:T 104=some T9.1
 t107:T 107=some TE.1
 t116:T 116=some MB.1
 t121:T 121=some UL.1
 t124:T 124=some SF.1
 t126:T 126=some SO.1
 t129:T 129=some Vh.1
 t131:T 131=some Vo.1
 t165:T 165=some S4.1
 t166:T 166=some Va.1
 t295:T 295=some Tb.1
 t296:T 296=some T6.1
 t297:T 297=some SC.1
 t302:T 302=some Un.1
 t303:T 303=some U7.1
 t309:T 309=some T2.1
 t316:T 316=some TZ.1
 t326:T 326=some Vr.1
structure me (s:St)(o la ta:Nat)(V:List D):Prop where
 go:s.get o=some (.var 121 (.agg [.sl la 0 V.length V.length,.sl ta 0 V.length V.length,.vs true 0 []]))
 gl:s.get la=some (.arr 1 68 V 0)
 gt:s.get ta=some (.arr 1 4 (List.replicate V.length (.bool true)) 0)
 ol:o≠la
 ot:o≠ta
 lt:la≠ta
theorem me.dU {W:Nat->Prop}{s s1:St}{o la ta:Nat}{V:List D}(h:me s o la ta V)(hs:s.Ok)(hb:aC W s s1)(h1: ¬ W o)(h2: ¬ W la)(h3: ¬ W ta):me s1 o la ta V:=
 ⟨hb.get hs h.go h1,hb.get hs h.gl h2,hb.get hs h.gt h3,h.ol,h.ot,h.lt⟩
structure bE (s:St)(so o la ta pl mp:Nat)(P Sh:Nat)(V:List D)(n lv tk:Nat):Prop where
 go:s.get so=some (.var 72 (.agg [.int .i64 0,.int .i64 P,.int .i64 Sh,.vs true 0 [],.vs true 0 [],.cT,.ptr o 0,.int .i64 n,.int .i64 lv,.int .i64 0,.ptr pl 0,.bool false]))
 gp:s.get pl=some (.var 124 (.agg [.mp mp,.int .i64 tk]))
 gm:s.get mp=some (.map [] 0)
 sl:me s o la ta V
 nd:[so,o,la,ta,pl,mp].Nodup
def bw (so o la ta pl:Nat):Nat->Prop:=fun j=>j=so\/j=o\/j=la\/j=ta\/j=pl
theorem me.up {s:St}{o la ta:Nat}{V:List D}(h:me s o la ta V)(k:Nat):me (s.up k) o la ta V:=⟨h.go,h.gl,h.gt,h.ol,h.ot,h.lt⟩
section
variable {s s1:St}{so o la ta pl mp P Sh n lv tk:Nat}{V:List D}
theorem bE.up (h:bE s so o la ta pl mp P Sh V n lv tk)(k:Nat):bE (s.up k) so o la ta pl mp P Sh V n lv tk:=⟨h.go,h.gp,h.gm,h.sl.up k,h.nd⟩
theorem bE.dU {W:Nat->Prop}(h:bE s so o la ta pl mp P Sh V n lv tk)(hs:s.Ok)(hb:aC W s s1)(hw:∀j,(bw so o la ta pl j\/j=mp)-> ¬ W j):bE s1 so o la ta pl mp P Sh V n lv tk:=
 ⟨hb.get hs h.go (hw _ (by simp [bw])),hb.get hs h.gp (hw _ (by simp [bw])),hb.get hs h.gm (hw _ (by simp)),h.sl.dU hs hb (hw _ (by simp [bw])) (hw _ (by simp [bw])) (hw _ (by simp [bw])),h.nd⟩
theorem bE.lt (h:bE s so o la ta pl mp P Sh V n lv tk)(hs:s.Ok){j:Nat}(hj:bw so o la ta pl j\/j=mp):j < s.n:=by
 have m1:=hs.lt h.go; have m2:=hs.lt h.sl.go; have m3:=hs.lt h.sl.gl; have m4:=hs.lt h.sl.gt; have m5:=hs.lt h.gp; have m6:=hs.lt h.gm;rcases hj with (hj | hj | hj | hj | hj) | hj <;> omega
end
section
variable {T:Nat->Option dS}{H:au}
theorem qI (hT:TS T){s:St}{o la ta:Nat}{V:List D}{ty:Nat}{x:D}(hs:s.Ok)(h:me s o la ta V)(hV:V.length+1<=aL):
  cu T H 19 [.ptr o 0,.ig ty x] s fun d s1=>d= .int .i64 V.length/\me s1 o la ta (V++ [.ig ty x])/\aC (fun j=>j=o\/j=la\/j=ta) s s1:=by
 have ho:=h.go; have hl:=h.gl; have ht:=h.gt; have h1:=h.ol; have h2:=h.ot; have h3:=h.lt;have l1:=hs.lt ho; have l2:=hs.lt hl; have l3:=hs.lt ht;refine ay hT.t19 ?_;try refine go ?_
 refine ai ⟨?_,⟨?_, ?_, ?_,h1,h2,h3⟩, ?_⟩
 ·simp only [aL]at hV;simp only [aU,bL];rw [wrap_small (by omega) (by omega)];show D.int .i64 _=D.int .i64 _
  congr 1; omega
 ·rw [aB];exact gI
 ·exact gI
 ·rw [aB,aW,nD];exact gI
 ·exact bI
variable {s:St}{so o la ta pl mp P Sh n lv tk:Nat}{V:List D}
theorem B7 (hT:TS T)(hs:s.Ok)(h:bE s so o la ta pl mp P Sh V n lv tk)(hn:tk < 2147483648):
  cu T H 75 [.ptr so 0] s fun d s1=>bE s1 so o la ta pl mp P Sh V n lv (tk+1)/\aC (fun j=>j=pl) s s1:=by
 obtain⟨h1,h2,h3,⟨g1,g2,g3,k1,k2,k3⟩,h5⟩:=h;have l1:=hs.lt h1; have l2:=hs.lt h2; have l3:=hs.lt h3; have l4:=hs.lt g1; have l5:=hs.lt g2; have l6:=hs.lt g3;have nd:=h5;simp only [fm,bS,eZ,kI,kH,dD,fN,iv]at h5;obtain⟨⟨n1,n2,n3,n4,n5⟩,⟨n6,n7,n8,n9⟩,⟨UC,Uu,Vd⟩,⟨UH,T5⟩,T3⟩:=h5;refine ay hT.t75 ?_
 repeat' first | refine go ?_ | refine gP hT.t121 ?_
 have hw:IntKind.wrap .i64 ((tk:Int)+1)=((tk+1:Nat):Int):=by rw [wrap_small (by omega) (by omega)]; omega
 try simp only [hw]
 refine gU ⟨⟨?_, ?_, ?_,⟨?_, ?_, ?_,k1,k2,k3⟩,nd⟩, ?_⟩
 ·exact gI
 ·exact gI
 ·exact gI
 ·exact gI
 ·exact gI
 ·exact gI
 ·exact bI
theorem uj (hT:TS T)(hs:s.Ok)(h:bE s so o la ta pl mp P Sh V n lv tk)(hn:n < 2147483648)(hl:lv < 2147483648)(ht:tk < 2147483648):
  cu T H 77 [.ptr so 0] s fun d s1=>d= .agg [.int .i64 (n+1:Nat)]/\bE s1 so o la ta pl mp P Sh V (n+1) (lv+1) (tk+1)/\aC (fun j=>j=so\/j=pl) s s1:=by
 have hm:=B7 (H:=H) hT hs h ht;refine ay hT.t77 ?_;try refine go ?_
 refine ak hm ?_;rintro d s1 ⟨⟨h1,h2,h3,⟨g1,g2,g3,k1,k2,k3⟩,h5⟩,b1⟩;have ok1:=b1.ok;have l1:=ok1.lt h1; have l2:=ok1.lt h2; have l3:=ok1.lt h3; have l4:=ok1.lt g1; have l5:=ok1.lt g2; have l6:=ok1.lt g3;have nd:=h5;simp only [fm,bS,eZ,kI,kH,dD,fN,iv]at h5;obtain⟨⟨n1,n2,n3,n4,n5⟩,⟨n6,n7,n8,n9⟩,⟨UC,Uu,Vd⟩,⟨UH,T5⟩,T3⟩:=h5;try refine go ?_
 have hw:IntKind.wrap .i64 ((n:Int)+1)=((n+1:Nat):Int):=by rw [wrap_small (by omega) (by omega)]; omega
 have Pu:IntKind.wrap .i64 ((lv:Int)+1)=((lv+1:Nat):Int):=by rw [wrap_small (by omega) (by omega)]; omega
 try simp only [hw,Pu]
 have hb:∀x:D,aC (fun j=>j=so) s1 (s1.bD so (.var 72 x)):=fun x=>aC.set (W:=fun j=>j=so) (aC.refl ok1) _ l1 (fun _=>rfl);have jJ:∀x y:D,aC (fun j=>j=so) s1 ((s1.bD so (.var 72 x)).bD so (.var 72 y)):=fun x y=>aC.set (W:=fun j=>j=so) (hb x) _ l1 (fun _=>rfl);refine ai ⟨rfl,⟨?_, ?_, ?_,⟨?_, ?_, ?_,k1,k2,k3⟩,nd⟩,(b1.mono fun j hj=> .inr hj).trans ((jJ _ _).mono fun j hj=> .inl hj)⟩
 ·exact gI
 ·exact gI
 ·exact gI
 ·exact gI
 ·exact gI
 ·exact gI
theorem eh (hT:TS T){i ty:Nat}{x:D}(h:bE s so o la ta pl mp P Sh V n lv tk)(hi:V[i]? =some (.ig ty x)):
  cu T H 22 [.ptr so 0,.int .i64 i] s fun d s1=>d= .ig ty x/\s1=s:=by
 obtain⟨h1,h2,h3,⟨g1,g2,g3,k1,k2,k3⟩,h5⟩:=h;have l:i < V.length:=(af.mp hi).1;have ht:(List.replicate V.length (D.bool true))[0+i]? =some (.bool true):=by rw [aM,List.getElem?_replicate,bJ l]
 have hi' :V[0+i]? =some (.ig ty x):=by rw [aM]; exact hi
 refine ay hT.t22 ?_
 repeat' first | refine go ?_ | refine gP hT.t42 ?_ | refine gP hT.t83 ?_
 exact ai ⟨rfl,rfl⟩
end
end Go.Proofs.Tab
