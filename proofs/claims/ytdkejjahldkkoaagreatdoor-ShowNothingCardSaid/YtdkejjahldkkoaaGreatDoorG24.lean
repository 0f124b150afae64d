/- Part. -/
import Derived.Test.YtdkejjahldkkoaaGreatDoorG23
set_option linter.unusedSectionVars false
set_option maxRecDepth 100000
set_option maxHeartbeats 2000000
set_option linter.unusedSimpArgs false
set_option linter.unusedVariables false
namespace Go.Proofs.Tab
open Go Go.Ab Go.Ab.Sm
section
variable {T:Nat->Option dS}{H Y:au}
noncomputable def MT:AC:=match OR.1.body with
 | .seq _ (.seq (.seq _ (.block _ c)) _)=>c
 | _=> .skip
theorem eO (E:List eS):(E.map cF).length=E.length:=aH _
theorem over_self {α:Type}:∀(l:List α) (i:Nat) (x:α),l[i]? =some x->over l i [x]=l
 | [],i,x,h=>by simp at h
 | a::l,0,x,h=>by simp at h; subst h; simp [over]
 | a::l,i+1,x,h=>by simp only [over]; rw [over_self l i x (by simpa using h)]
theorem nf {α:Type}:∀(l:List α) (i:Nat),over l i []=l
 | [],0=>rfl
 | [],i+1=>rfl
 | a::l,0=>rfl
 | a::l,i+1=>by simp only [over,nf l i]
theorem J3 {s:St}{eo st cp i:Nat}{E:List eS}{e:eS}(hs:s.Ok)(hg:s.get eo=some (.arr 5 270 (E.map cF) st))(dT:st<=i+cp)(pB:st<=E.length)(hi:E[i]? =some e):
  ∃s1,iP s 5 (.sl eo i 1 cp) [cF e]=some s1/\(∃st',st' <=E.length/\(st' =st\/i+1=E.length)/\s1.get eo=some (.arr 5 270 (E.map cF) st'))/\aC (fun j=>j=eo) s s1:=by
 have hl:i < E.length:=(af.mp hi).1;have qc:(E.map cF)[i]? =some (cF e):=by rw [aE,hi]; rfl
 have e5:Nat.beq 5 5=true:=rfl;by_cases h:i+1=E.length
 ·refine⟨s.bD eo (.arr 5 270 (E.map cF) (E.map cF).length), ?_,⟨E.length,an _,.inr h,by rw [St.aN,eO]⟩,aC.set (aC.refl hs) _ (hs.lt hg) (fun _=>rfl)⟩;have e1:Nat.beq (i+1) (E.map cF).length=true:=by rw [eO,h]; exact az _
  have e2:Nat.ble [cF e].length 1=true:=rfl;simp only [iP,hg,e5,e1,e2,over_self _ _ _ qc,hs.set]
 ·refine⟨s, ?_,⟨st,pB,.inl rfl,hg⟩,aC.refl hs⟩;have e1:Nat.beq (i+1) (E.map cF).length=false:=by rw [eO]; exact T.uq h
  have e2:Nat.ble [cF e].length 1=true:=rfl;have e3:Nat.ble (i+1) (E.map cF).length=true:=aq (by rw [eO]; omega);have e4:Nat.ble st (i+cp)=true:=aq dT;have e6:((E.map cF).drop i).take 1=[cF e]:=by
   rw [fB (by rw [eO]; exact hl)];simp only [gC,ph];have:=af.mp qc;rw [this.2]
  have e7:[cF e].all Cx=true:=rfl;have e8:D.fv [cF e] [cF e]=true:=by simp [cF,D.fv,D.beq]
  simp only [iP,hg,e5,e1,e2,e3,e4,aU,bL,aM,e6,e7,e8,fk]
theorem Ra {s s1:St}{eo st i:Nat}{E:List eS}{e:eS}{env:Env}{x y:bP}(hg:s.get eo=some (.arr 5 270 (E.map cF) st))(dT:st<=E.length)(hi:E[i]? =some e)(hf:iP s 5 (.sl eo i 1 (E.length - i)) [cF e]=some s1)
  (hx:x.ev env=some (.sl eo i 1 (E.length - i)))(hy:y.ev env=some (.sl eo i 1 (E.length - i))):cB fD env s none (.copy 5 x y)=some (.int .i64 1,s1):=by
 have hl:i < E.length:=(af.mp hi).1;have qc:(E.map cF)[i]? =some (cF e):=by rw [aE,hi]; rfl
 have e3:Nat.ble (i+1) (E.map cF).length=true:=aq (by rw [eO]; omega);have e4:Nat.ble st (i+(E.length - i))=true:=aq (by omega);have e6:((E.map cF).drop i).take 1=[cF e]:=by
  rw [fB (by rw [eO]; exact hl)];simp only [gC,ph];have:=af.mp qc;rw [this.2]
 have e7:eG 5 ([cF e].take 1)=true:=rfl;simp only [cB,hx,hy,items,hg,e3,e4,e6,o7,e7,az,eM];simp only [gC,ph,hf,oC];rfl
theorem ND {s:St}{eo st cp:Nat}{E:List eS}{env:Env}{x:bP}{z:D}(hs:s.Ok)(hg:s.get eo=some (.arr 5 270 (E.map cF) st))(hx:x.ev env=some (.sl eo E.length 0 cp))(hz:eG 5 [z]=true):
  cB fD env s none (.clear 5 z x)=some (.gJ [],s.bD eo (.arr 5 270 (E.map cF) E.length)):=by
 have e1:Nat.beq (E.length+0) E.length=true:=az _;have e2:over (E.map cF) E.length []=E.map cF:=by
  rw [show E.length=(E.map cF).length from (eO E).symm];exact nf _ _
 have e3:Nat.ble ([]:List D).length 0=true:=rfl;simp only [cB,hx,o7,hz,List.replicate_zero,iP,hg,az,e1,e3,e2,hs.set,oC,eO]
theorem Hn {s:St}{to eo st i:Nat}{c n1 n2 n3 n4:D}{E:List eS}{e:eS}{k:List je}{Q:QP}(hs:s.Ok)
  (gt:s.get to=some (.var 317 (.agg [.cT,.sl eo 0 E.length E.length,c,n1,n2,n3,n4])))(ge:s.get eo=some (.arr 5 270 (E.map cF) st))(dT:st<=E.length)(hi:E[i]? =some e)(hE:E.length<=32000)
  (hk:∀s1 env,env.bR [0,2,8,9,10]=[(0,.ptr to 0),(2,.int .i64 (i+1:Nat)),(8,.sl eo 0 E.length E.length),(9,.int .i64 (E.length:Nat)),(10,.int .i64 (i+1:Nat))]->(∃st',st' <=E.length/\s1.get eo=some (.arr 5 270 (E.map cF) st'))->aC (fun j=>j=eo) s s1->kZ T H .normal k ⟨env,[]⟩ s1 Q):
  eI T H (match MT with | .loop _ a=>a | _=> .skip) k ⟨[(0,.ptr to 0),(2,.int .i64 (i:Nat)),(8,.sl eo 0 E.length E.length),(9,.int .i64 (E.length:Nat)),(10,.int .i64 (i:Nat))],[]⟩ s Q:=by
 have hl:i < E.length:=(af.mp hi).1;have pQ:=eO E;have qc:(E.map cF)[0+i]? =some (cF e):=by rw [aM,aE,hi]; rfl
 have hw:IntKind.wrap .i64 ((i:Int)+1)=((i+1:Nat):Int):=by rw [wrap_small (by omega) (by omega)]; omega
 obtain⟨s1,c1,⟨st',c2,_,c3⟩,c4⟩:=J3 (cp:=E.length - i) hs ge (by omega) dT hi;show eI T H (.seq _ _) k _ s Q;try refine go ?_
 simp only [hw];try refine go ?_
 have Xh:i+1 - i=1:=by omega
 simp only [cQ,Xh,aM];refine Ci (d:= .int .i64 1) (s1:=s1) ?_ rfl (Ra ge dT hi c1 rfl rfl);try refine go ?_
 simp only [hw];exact hk _ _ rfl ⟨st',c2,c3⟩ c4
theorem R2 (hT:TT T){s:St}{to eo st:Nat}{c n1 n2 n3 n4:D}{E:List eS}(hs:s.Ok)
  (gt:s.get to=some (.var 317 (.agg [.cT,.sl eo 0 E.length E.length,c,n1,n2,n3,n4])))(ge:s.get eo=some (.arr 5 270 (E.map cF) st))(dT:st<=E.length)(hE:E.length<=32000):
  cu T H 237 [.ptr to 0] s fun _ s1=>s1.get to=some (.var 317 (.agg [.cT,.sl eo 0 E.length E.length,c,n1,n2,n3,n4]))/\(∃st',st' <=E.length/\s1.get eo=some (.arr 5 270 (E.map cF) st'))/\aC (fun j=>j=eo\/j=to) s s1:=by
 have nte:to≠eo:=by rintro rfl; rw [gt]at ge; cases ge
 refine ay hT.t237 ?_;try refine go ?_
 refine eT E.length (fun j=> [(0,.ptr to 0),(2,.int .i64 (j:Nat)),(8,.sl eo 0 E.length E.length),(9,.int .i64 (E.length:Nat)),(10,.int .i64 (j:Nat))]) (fun j s' =>(∃st',st' <=E.length/\s'.get eo=some (.arr 5 270 (E.map cF) st'))/\aC (fun j=>j=eo) s s') ⟨⟨st,dT,ge⟩,aC.refl hs⟩ ?_;rintro j s' hj ⟨⟨st',q0,q1⟩,q2⟩;have gt' :=q2.get hs gt nte;rcases aG j E.length with hl | hl
 ·refine Hn (i:=j) q2.ok gt' q1 q0 (ae hl) hE ?_;intro s1 env he z1 z2;exact dO (hF:=he) hl ⟨z1,q2.trans z2⟩
 ·have:j=E.length:=by omega
  subst this;have pQ:=eO E;try refine go ?_
  simp only [cQ,eF,aM];refine qR (s1:=s'.bD eo (.arr 5 270 (E.map cF) E.length)) ?_ rfl (ND q2.ok q1 rfl rfl);have jJ:aC (fun j=>j=eo) s' (s'.bD eo (.arr 5 270 (E.map cF) E.length)):=aC.set (aC.refl q2.ok) _ (q2.ok.lt q1) (fun _=>rfl);have W4:=jJ.get q2.ok gt' nte;have lt2:=jJ.ok.lt W4;have ge2:(s'.bD eo (.arr 5 270 (E.map cF) E.length)).get eo=some (.arr 5 270 (E.map cF) E.length):=St.aN;have ok2:=jJ.ok;generalize s'.bD eo (.arr 5 270 (E.map cF) E.length)=s2 at jJ W4 lt2 ge2 ok2 ⊢;try refine go ?_
  have xd:∀d:D,aC (fun j=>j=eo\/j=to) s2 (s2.bD to (.var 317 d)):=fun d=>aC.set (W:=fun j=>j=eo\/j=to) (aC.refl ok2) _ lt2 (fun _=> .inr rfl);exact gU ⟨St.aN,⟨E.length,an _,St.eP ge2 (bO nte)⟩,((q2.trans jJ).mono fun j hj=> .inl hj).trans (xd _)⟩
end
section
variable {T:Nat->Option dS}{H Y:au}
theorem MX (hT:TT T){s:St}{bo to j n:Nat}{x c n2 n3 n4:D}(gb:s.get bo=some (.var 235 (.ptr to 0)))(gt:s.get to=some (.var 317 (.agg [.cT,x,c,.int .i64 (n:Nat),n2,n3,n4])))(hj:j<=20)(hn:n<=32000):
  cu T H 236 [.int .i64 (j:Nat),.ptr bo 0] s fun d s1=>d= .bool (decide (3 * n<=2 ^ j))/\s1=s:=by
 have h1:=JC hj;have h2:IntKind.wrap .i64 (3 * (n:Int))=((3 * n:Nat):Int):=by rw [wrap_small (by omega) (by omega)]; omega
 have h3:decide (((2 ^ j:Nat):Int) >= ((3 * n:Nat):Int))=decide (3 * n<=2 ^ j):=by
  rw [decide_eq_decide]; omega
 refine ay hT.t236 ?_;try refine go ?_
 simp only [h1,h2,h3];exact ai ⟨rfl,rfl⟩
theorem N8 (hT:TT T){s:St}{bo to L n:Nat}{x c n2 n3 n4:D}(gb:s.get bo=some (.var 235 (.ptr to 0)))(gt:s.get to=some (.var 317 (.agg [.cT,x,c,.int .i64 (n:Nat),n2,n3,n4])))(hn:n<=32000)
  (h3:3<=L)(hL:L<=15)(h1:3 * n<=2 ^ L)(h2:∀j,3<=j->j < L->2 ^ j < 3 * n):
  cu T H 235 [.fn (.func 236) [] [.ptr bo 0]] s fun d s1=>d= .int .i64 (L:Nat)/\s1=s:=by
 refine ay hT.t235 ?_;try refine go ?_
 refine eT (L - 3) (fun j=> [(0,.fn (.func 236) [] [.ptr bo 0]),(2,.int .i64 0),(3,.int .i64 (3+j:Nat))]) (fun j s' =>s' =s) rfl ?_;rintro j s' hj rfl;have hh:=MX (H:=H) hT gb gt (j:=3+j) (by omega) hn;try refine go ?_
 refine ak hh ?_;rintro d s2 ⟨rfl,rfl⟩;rcases aG j (L - 3) with hl | hl
 ·have hf:decide (3 * n<=2 ^ (3+j))=false:=by
   have:=h2 (3+j) (by omega) (by omega);rw [bF]; omega
  simp only [hf];try refine go ?_
  exact dO hl rfl
 ·have hjL:3+j=L:=by omega
  have hf:decide (3 * n<=2 ^ (3+j))=true:=by
   rw [aX,hjL]; exact h1
  simp only [hf];try refine go ?_
  rw [hjL];exact ai ⟨rfl,rfl⟩
end
inductive Ad (s:St):D->Nat->List eS->Prop
 | nil (eo:Nat):Ad s (.vs true 0 []) eo []
 | sl (eo st:Nat) (E:List eS) (h:s.get eo=some (.arr 5 270 (E.map cF) st)) (hs:st<=E.length):Ad s (.sl eo 0 E.length E.length) eo E
theorem Ad.dU {W:Nat->Prop}{s s1:St}{x:D}{eo:Nat}{E:List eS}(h:Ad s x eo E)(hs:s.Ok)(hb:aC W s s1)(PK:∀es st,s.get eo=some (.arr 5 270 es st)-> ¬ W eo):Ad s1 x eo E:=by
 rcases h with _ | ⟨_,st,E,h,h1⟩
 ·exact .nil eo
 ·exact .sl eo st E (hb.get hs h (PK _ _ h)) h1
@[reducible] def aaK (x:D) (co n:Nat) (m:Int):D:= .agg [.cT,x,.ptr co 0,.int .i64 (n:Nat),.int .i64 (n:Nat),.int .i64 m,.int .i64 (n:Nat)]
structure kA (s:St)(to eo co ro log:Nat)(b:Bool)(st:Nat)(x:D)(E:List eS)(C:List Int):Prop where
 go:s.get to=some (.var 317 (aaK x co E.length ((log:Int) - 2)))
 en:Ad s x eo E
 ce:cl s co ro log b st C
 la:ff log (gZ E) C
 rm:E.length<=2 * 2 ^ log / 3
theorem kA.cv {s:St}{to eo co ro log st:Nat}{b:Bool}{x:D}{E:List eS}{C:List Int}(h:kA s to eo co ro log b st x E C):∀v∈C, -1<=v/\v < (E.length:Int):=fun v hv=>by
 have:=h.la.MN v hv;rwa [aH]at this
theorem kA.nt {s:St}{to eo co ro log st:Nat}{b:Bool}{x:D}{E:List eS}{C:List Int}(h:kA s to eo co ro log b st x E C):to≠ro/\to≠co/\co≠ro/\(E≠ []->eo≠to/\eo≠co/\eo≠ro):=by
 have h1:=h.go; have h2:=h.ce.go; have h3:=h.ce.gr;refine⟨?_, ?_,h.ce.ne,fun hE=> ?_⟩
 ·rintro rfl; rw [h1]at h3; cases h3
 ·rintro rfl; rw [h1]at h2; simp at h2
 ·rcases h.en with _ | ⟨_,st,_,h4,_⟩
  ·exact absurd rfl hE
  ·refine⟨?_, ?_, ?_⟩
   ·rintro rfl; rw [h1]at h4; cases h4
   ·rintro rfl; rw [h2]at h4; cases h4
   ·rintro rfl; rw [h3]at h4; simp at h4
section
variable {T:Nat->Option dS}{H Y:au}
theorem ur (hT:TT T){s:St}{to co:Nat}{x n1 n2 n3 n4:D}(gt:s.get to=some (.var 317 (.agg [.cT,x,.ptr co 0,n1,n2,n3,n4]))):cu T H 209 [.ptr to 0] s fun _ s1=>s1=s:=by
 refine ay hT.t209 ?_;try refine go ?_
 exact gU rfl
def Fm (s:St)(to:Nat)(E:List eS)(en:eS)(W:Nat->Prop)(s1:St):Prop:=∃eo co ro log b st x C,kA s1 to eo co ro log b st x (E++ [en]) C/\(W eo\/s.n<=eo)/\(W co\/s.n<=co)/\(W ro\/s.n<=ro)/\aC W s s1
theorem xV {s s6:St}{to eo co ro log st st0:Nat}{b:Bool}{E:List eS}{en:eS} {C C' :List Int}{W:Nat->Prop}(g6:s6.get to=some (.var 317 (aaK (.sl eo 0 (E.length+1) (E.length+1)) co (E.length+1) ((log:Int) - 2))))
  (g6e:s6.get eo=some (.arr 5 270 ((E++ [en]).map cF) st0))(dT:st0<=E.length)(hc6:cl s6 co ro log b st C')(X8:ff log (gZ E) C)(hl:Laid log en.h (E.length:Nat) C C')(hn:E.length < 2 * 2 ^ log / 3)
  (hb:aC W s s6)(we:W eo\/s.n<=eo)(wc:W co\/s.n<=co)(wr:W ro\/s.n<=ro):Fm s to E en W s6:=by
 have hlen:(E++ [en]).length=E.length+1:=by simp
 refine⟨eo,co,ro,log,b,st,.sl eo 0 (E++ [en]).length (E++ [en]).length,C',⟨by rw [hlen]; exact g6,.sl eo st0 _ g6e (by omega),hc6, ?_,by omega⟩,we,wc,wr,hb⟩;have:gZ (E++ [en])=gZ E++ [en.h]:=by simp [gZ]
 rw [this];exact .snoc X8 (by rw [aH]; exact hl)
theorem VD (hT:TT T){s:St}{to eo co ro log st st0:Nat}{b:Bool}{E:List eS}{C:List Int}{h ky v:Int}{W:Nat->Prop}(hs:s.Ok)
  (ht:kA s to eo co ro log b st (.sl eo 0 E.length E.length) E C)(ge:s.get eo=some (.arr 5 270 (E.map cF) st0))(dT:st0<=E.length)(hn:E.length < 2 * 2 ^ log / 3)(hE:E.length<=20000)
  (wt:W to)(we:W eo)(wr:W ro)(wc:W co):
  cu T H 204 [.ptr to 0,.int .i64 h,.int .i64 ky,.int .i64 v] s fun d s1=>d= .gJ [.int .i64 (E.length:Nat),.int .i64 0]/\Fm s to E (eS.mk h ky v (E.length:Nat)) W s1:=by
 obtain⟨n1,n2,n3,n4⟩:=ht.nt;have BD:aC (fun _=>False) s (s.bc (.var 235 (.ptr to 0))):=aC.push (aC.refl hs) _;have gb:(s.bc (.var 235 (.ptr to 0))).get s.n=some (.var 235 (.ptr to 0)):=St.ba;have gt:=BD.get hs ht.go (fun h=>h);have DL:=BD.get hs ge (fun h=>h);have hc:=ht.ce.dU hs BD (fun h=>h) (fun h=>h);have lt:=hs.lt ht.go; have le:=hs.lt ge; have lr:=hs.lt ht.ce.gr; have lc:=hs.lt ht.ce.go;have nte:to≠eo:=by rintro rfl; have:=ht.go; rw [this]at ge; cases ge
 have pQ:=eO E;have sS:E.map cF++ [cF (eS.mk h ky v (E.length:Nat))]=(E++ [eS.mk h ky v (E.length:Nat)]).map cF:=by simp
 have pO:=xC (H:=H) hT hc;have xl:=ur (H:=H) hT gt;have fK:=BD.ok;refine ay hT.t204 ?_;try refine go ?_
 generalize tZ:s.bc (.var 235 (.ptr to 0))=s1 at *;have zQ:s1.n=s.n+1:=by rw [← tZ]; rfl
 refine ak xl ?_;rintro d s2 rfl;try refine go ?_
 refine bf pO ?_;rintro d s3 ⟨rfl,rfl⟩;refine⟨rfl,by simp [lost,eN.kind,cJ,dE,cE,aI,bz,bz.cV,fZ,bP.ev,Env.get,cP,D.flat,D.isAgg,cL,D.fv,D.beq,az,Obj.aV,bC,bu,D.bV,D.aV,gb,gt,DL], ?_⟩;try refine go ?_
 refine cY (fun hc=> ?_) (fun hc=> ?_)
 ·exfalso;have:=Int.natCast_inj.mp (ij.mp hc);omega
 ·clear hc;have lt3:=fK.lt gt; have le3:=fK.lt DL
  have b4:aC (fun j=>j=eo\/j=to) s3 (((s3.up 1).bD eo (.arr 5 270 (E.map cF++ [cF (eS.mk h ky v (E.length:Nat))]) st0)).bD to (.var 317 (.agg [.cT,.sl eo 0 (E.length+1) (E.length+1),.ptr co 0,.int .i64 (E.length:Nat),.int .i64 (E.length:Nat),.int .i64 ((log:Int) - 2),.int .i64 (E.length:Nat)]))):=
   aC.set (W:=fun j=>j=eo\/j=to) (aC.set (W:=fun j=>j=eo\/j=to) (aC.up (aC.refl fK) 1) _ (by rw [St.jw]; omega) (fun _=> .inl rfl)) _ (by rw [St.fE,St.jw]; omega) (fun _=> .inr rfl)
  have g4t:(((s3.up 1).bD eo (.arr 5 270 (E.map cF++ [cF (eS.mk h ky v (E.length:Nat))]) st0)).bD to (.var 317 (.agg [.cT,.sl eo 0 (E.length+1) (E.length+1),.ptr co 0,.int .i64 (E.length:Nat),.int .i64 (E.length:Nat),.int .i64 ((log:Int) - 2),.int .i64 (E.length:Nat)]))).get to=_:=St.aN;have g4e:(((s3.up 1).bD eo (.arr 5 270 (E.map cF++ [cF (eS.mk h ky v (E.length:Nat))]) st0)).bD to (.var 317 (.agg [.cT,.sl eo 0 (E.length+1) (E.length+1),.ptr co 0,.int .i64 (E.length:Nat),.int .i64 (E.length:Nat),.int .i64 ((log:Int) - 2),.int .i64 (E.length:Nat)]))).get eo=some (.arr 5 270 ((E++ [eS.mk h ky v (E.length:Nat)]).map cF) st0):=by
   rw [← sS]; exact St.eP St.aN (bO nte)
  have nce:co≠eo:=by rintro rfl; have:=ht.ce.go; rw [this]at ge; cases ge
  have nre:ro≠eo:=by rintro rfl; have:=ht.ce.gr; rw [this]at ge; simp at ge
  have hc4:=hc.dU fK b4 (by omega) (by omega);have CR:∀v∈C, -1<=v/\v < 32768:=fun v hv=>by have:=ht.cv v hv; omega
  have zS:=Cf (H:=H) (i:=E.length) (n:=E.length+1) (en:=eS.mk h ky v (E.length:Nat)) hT b4.ok g4t g4e (by simp) (mT _) (by simp) (by omega) hc4 CR hn;try refine go ?_
  refine ak zS ?_;rintro d s5 ⟨C',q1,⟨st',q2⟩,q3⟩;have k5:aC W s3 s5:=(b4.mono fun j hj=>by rcases hj with rfl | rfl; exact we; exact wt).trans (q3.mono fun j hj=>by subst hj; exact wr);have k0:aC W s s5:=(BD.mono fun j hj=>hj.elim).trans k5;have g5t:=q3.get b4.ok g4t n1;have g5e:=q3.get b4.ok g4e (bO nre);have g4b:=b4.get fK gb (by omega);have g5b:=q3.get b4.ok g4b (by omega);have Ps:=q3.ok.lt g5t;have yJ:=q3.ok;have YY:IntKind.wrap .i64 ((E.length:Int)+1)=((E.length+1:Nat):Int):=by rw [wrap_small (by omega) (by omega)]; omega
  clear zS xl pO g4t g4e g4b;try refine go ?_
  have b6:∀d1 d2 d3:D,aC (fun j=>j=to) s5 (((s5.bD to (.var 317 d1)).bD to (.var 317 d2)).bD to (.var 317 d3)):=fun d1 d2 d3=>
   aC.set (W:=fun j=>j=to) (aC.set (W:=fun j=>j=to) (aC.set (W:=fun j=>j=to) (aC.refl yJ) _ Ps (fun _=>rfl)) _ Ps (fun _=>rfl)) _ Ps (fun _=>rfl)
  exact ai ⟨rfl,xV (log:=log) St.aN ((b6 _ _ _).get yJ g5e (bO nte)) dT (q2.dU yJ (b6 _ _ _) (bO n2) (bO n1)) ht.la q1 hn (k0.trans ((b6 _ _ _).mono fun j hj=>by subst hj; exact wt)) (.inl we) (.inl wc) (.inl wr)⟩
end
section
variable {T:Nat->Option dS}{H Y:au}
theorem add_nil (hT:TT T){s:St}{to eo co ro log st:Nat}{b:Bool}{C:List Int}{h ky v:Int}{W:Nat->Prop}(hs:s.Ok)
  (ht:kA s to eo co ro log b st (.vs true 0 []) [] C)
  (wt:W to)(wr:W ro)(wc:W co):
  cu T H 204 [.ptr to 0,.int .i64 h,.int .i64 ky,.int .i64 v] s fun d s1=>d= .gJ [.int .i64 0,.int .i64 0]/\Fm s to [] (eS.mk h ky v 0) W s1:=by
 obtain⟨n1,n2,n3,n4⟩:=ht.nt;have hn:0 < 2 * 2 ^ log / 3:=by have:=ht.ce.pow; omega
 have BD:aC (fun _=>False) s (s.bc (.var 235 (.ptr to 0))):=aC.push (aC.refl hs) _;have gb:(s.bc (.var 235 (.ptr to 0))).get s.n=some (.var 235 (.ptr to 0)):=St.ba;have gt:(s.bc (.var 235 (.ptr to 0))).get to=some (.var 317 (.agg [.cT,.vs true 0 [],.ptr co 0,.int .i64 0,.int .i64 0,.int .i64 ((log:Int) - 2),.int .i64 0])):=BD.get hs ht.go (fun h=>h);have hc:=ht.ce.dU hs BD (fun h=>h) (fun h=>h);have lt:=hs.lt ht.go; have lr:=hs.lt ht.ce.gr; have lc:=hs.lt ht.ce.go;have pO:=xC (H:=H) hT hc;have xl:=ur (H:=H) hT gt;have fK:=BD.ok;refine ay hT.t204 ?_;try refine go ?_
 generalize tZ:s.bc (.var 235 (.ptr to 0))=s1 at *;have zQ:s1.n=s.n+1:=by rw [← tZ]; rfl
 refine ak xl ?_;rintro d s2 rfl;try refine go ?_
 refine bf pO ?_;rintro d s3 ⟨rfl,rfl⟩;refine⟨rfl,by simp [lost,eN.kind,cJ,dE,cE,aI,bz,bz.cV,fZ,bP.ev,Env.get,cP,D.flat,D.isAgg,cL,D.fv,D.beq,az,Obj.aV,bC,bu,D.bV,D.aV,gb,gt], ?_⟩;try refine go ?_
 refine cY (fun hc=> ?_) (fun hc=> ?_)
 ·exfalso;have:=Int.natCast_inj.mp (ij.mp hc);simp at this;omega
 ·clear hc;have lt3:=fK.lt gt;have b4:aC (fun j=>j=to) s3 (((s3.up 1).bD (s3.n+0) (.arr 5 270 [cF (eS.mk h ky v 0)] 0)).bD to (.var 317 (.agg [.cT,.sl (s3.n+0) 0 1 1,.ptr co 0,.int .i64 0,.int .i64 0,.int .i64 ((log:Int) - 2),.int .i64 0]))):=by
   refine aC.set (W:=fun j=>j=to) ?_ _ (by rw [St.fE,St.jw]; omega) (fun _=>rfl);exact aC.set (W:=fun j=>j=to) (aC.up (aC.refl fK) 1) _ (by rw [St.jw]; omega) (fun h=>by omega)
  have g4t:(((s3.up 1).bD (s3.n+0) (.arr 5 270 [cF (eS.mk h ky v 0)] 0)).bD to (.var 317 (.agg [.cT,.sl (s3.n+0) 0 1 1,.ptr co 0,.int .i64 0,.int .i64 0,.int .i64 ((log:Int) - 2),.int .i64 0]))).get to=_:=St.aN;have g4e:(((s3.up 1).bD (s3.n+0) (.arr 5 270 [cF (eS.mk h ky v 0)] 0)).bD to (.var 317 (.agg [.cT,.sl (s3.n+0) 0 1 1,.ptr co 0,.int .i64 0,.int .i64 0,.int .i64 ((log:Int) - 2),.int .i64 0]))).get (s3.n+0)=some (.arr 5 270 (([eS.mk h ky v 0]:List eS).map cF) 0):=St.eP St.aN (by omega);have hc4:=hc.dU fK b4 (bO n2) (bO n1);have CR:∀v∈C, -1<=v/\v < 32768:=fun v hv=>by have:=ht.cv v hv; simp at this; omega
  have zS:=Cf (H:=H) (i:=0) (n:=1) (en:=eS.mk h ky v 0) hT b4.ok g4t g4e (by simp) (by omega) (by simp) (by omega) hc4 CR hn;have l3:=fK.lt hc.gr;try refine go ?_
  refine ak zS ?_;rintro d s5 ⟨C',q1,⟨st',q2⟩,q3⟩;have k5:aC W s3 s5:=(b4.mono fun j hj=>by subst hj; exact wt).trans (q3.mono fun j hj=>by subst hj; exact wr);have k0:aC W s s5:=(BD.mono fun j hj=>hj.elim).trans k5;have g5t:=q3.get b4.ok g4t n1;have g5e:=q3.get b4.ok g4e (by omega);have g4b:=b4.get fK gb (by omega);have g5b:=q3.get b4.ok g4b (by omega);have Ps:=q3.ok.lt g5t;have yJ:=q3.ok;clear zS xl pO g4t g4e g4b;try refine go ?_
  have b6:∀d1 d2 d3:D,aC (fun j=>j=to) s5 (((s5.bD to (.var 317 d1)).bD to (.var 317 d2)).bD to (.var 317 d3)):=fun d1 d2 d3=>
   aC.set (W:=fun j=>j=to) (aC.set (W:=fun j=>j=to) (aC.set (W:=fun j=>j=to) (aC.refl yJ) _ Ps (fun _=>rfl)) _ Ps (fun _=>rfl)) _ Ps (fun _=>rfl)
  exact ai ⟨rfl,xV (log:=log) (E:=[]) (en:=eS.mk h ky v 0) St.aN ((b6 _ _ _).get yJ g5e (by omega)) (an _) (q2.dU yJ (b6 _ _ _) (bO n2) (bO n1)) ht.la q1 hn (k0.trans ((b6 _ _ _).mono fun j hj=>by subst hj; exact wt)) (.inr (by omega)) (.inl wc) (.inl wr)⟩
end
section
variable {T:Nat->Option dS}{H Y:au}
theorem Mh {log n:Nat}(h3:3<=log)(h:n=2 * 2 ^ log / 3)(hE:n<=20000):log<=14/\3 * n<=2 ^ (log+1)/\(∀j,3<=j->j < log+1->2 ^ j < 3 * n)/\n < 2 * 2 ^ (log+1) / 3:=by
 have e8:8<=2 ^ log:=(cZ (by decide) h3:2 ^ 3<=2 ^ log);have e1:2 ^ (log+1)=2 * 2 ^ log:=by rw [jl,jQ]
 refine⟨?_,by omega,fun j hj hl=> ?_,by omega⟩
 ·rcases aG log 15 with h1 | h1
  ·omega
  ·have:2 ^ 15<=2 ^ log:=cZ (by decide) h1;omega
 ·have:2 ^ j<=2 ^ log:=cZ (by decide) (by omega);omega
theorem Of (hT:TT T){s:St}{to eo co ro log st st0:Nat}{b:Bool}{E:List eS}{C:List Int}{h ky v:Int}{W:Nat->Prop}(hs:s.Ok)
  (ht:kA s to eo co ro log b st (.sl eo 0 E.length E.length) E C)(ge:s.get eo=some (.arr 5 270 (E.map cF) st0))(dT:st0<=E.length)(FE:E.length=2 * 2 ^ log / 3)(hE:E.length<=20000)
  (wt:W to)(we:W eo):
  cu T H 204 [.ptr to 0,.int .i64 h,.int .i64 ky,.int .i64 v] s fun d s1=>d= .gJ [.int .i64 (E.length:Nat),.int .i64 0]/\Fm s to E (eS.mk h ky v (E.length:Nat)) W s1:=by
 obtain⟨n1,n2,n3,n4⟩:=ht.nt;have h3:=ht.ce.lo;have abn:=ht.ce.pow;obtain⟨acE,hL1,hL2,hn⟩:=Mh ht.ce.lo FE hE;have BD:aC (fun _=>False) s (s.bc (.var 235 (.ptr to 0))):=aC.push (aC.refl hs) _;have gb:(s.bc (.var 235 (.ptr to 0))).get s.n=some (.var 235 (.ptr to 0)):=St.ba;have gt:=BD.get hs ht.go (fun h=>h);have DL:=BD.get hs ge (fun h=>h);have hc:=ht.ce.dU hs BD (fun h=>h) (fun h=>h);have lt:=hs.lt ht.go; have le:=hs.lt ge; have lr:=hs.lt ht.ce.gr; have lc:=hs.lt ht.ce.go;have nte:to≠eo:=by rintro rfl; have:=ht.go; rw [this]at ge; cases ge
 have pQ:=eO E;have sS:E.map cF++ [cF (eS.mk h ky v (E.length:Nat))]=(E++ [eS.mk h ky v (E.length:Nat)]).map cF:=by simp
 have pO:=xC (H:=H) hT hc;have xl:=ur (H:=H) hT gt;have fK:=BD.ok;refine ay hT.t204 ?_;try refine go ?_
 generalize tZ:s.bc (.var 235 (.ptr to 0))=s1 at *;have zQ:s1.n=s.n+1:=by rw [← tZ]; rfl
 refine ak xl ?_;rintro d s2 rfl;try refine go ?_
 refine bf pO ?_;rintro d s3 ⟨rfl,rfl⟩;refine⟨rfl,by simp [lost,eN.kind,cJ,dE,cE,aI,bz,bz.cV,fZ,bP.ev,Env.get,cP,D.flat,D.isAgg,cL,D.fv,D.beq,az,Obj.aV,bC,bu,D.bV,D.aV,gb,gt,DL], ?_⟩;try refine go ?_
 refine cY (fun hc=> ?_) (fun hc=> ?_);rotate_left
 ·exfalso;rw [FE]at hc;simp at hc
 ·clear hc;have M7:=N8 (H:=H) (L:=log+1) hT gb gt (by omega) (by omega) (by omega) hL1 hL2;have UR:=R2 (H:=H) hT fK gt DL dT (by omega);try refine go ?_
  refine ak M7 ?_;rintro d s2 ⟨rfl,rfl⟩;try refine go ?_
  refine ak UR ?_;rintro d s4 ⟨z1,⟨FB,z2,z3⟩,z4⟩;have gb4:=z4.get fK gb (by omega);have OA:=CU (H:=H) (log:=log+1) hT z4.ok z1 (by omega) (by omega) (by omega);try refine go ?_
  refine ak OA ?_;rintro d s5 ⟨co',ro',b',st5,C0,y1,y2,y3,y4,y5,y6⟩;have ge5:=y6.get z4.ok z3 (bO nte);have gb5:=y6.get z4.ok gb4 (by omega);have dK:=Jv (H:=H) hT y6.ok y3 (.sl eo _ FB E ge5 z2 (an _)) y4 y5 (by omega) (by omega);try refine go ?_
  refine ak dK ?_;rintro d s6 ⟨C6,st6,x1,x2,x3⟩;have m4:=z4.n; have m5:=y6.n; have m6:=x3.n;have nrt:to≠ro' :=by omega
  have nre:eo≠ro' :=by omega
  have hm:(log:Int) - 2+1=((log+1:Nat):Int) - 2:=by omega
  rw [hm]at y3;have gt6:=x3.get y6.ok y3 nrt;have ge6:=x3.get y6.ok ge5 nre;have gb6:=x3.get y6.ok gb5 (by omega);have kk:aC W s s6:=(BD.mono fun j hj=>hj.elim).trans ((z4.mono fun j hj=>by rcases hj with rfl | rfl; exact we; exact wt).trans ((y6.mono fun j hj=>by subst hj; exact wt).trans' x3 (by rintro j rfl hj; omega)));have OS:=x3.ok;have lt3:=OS.lt gt6; have le3:=OS.lt ge6
  have b4:aC (fun j=>j=eo\/j=to) s6 (((s6.up 1).bD eo (.arr 5 270 (E.map cF++ [cF (eS.mk h ky v (E.length:Nat))]) FB)).bD to (.var 317 (.agg [.cT,.sl eo 0 (E.length+1) (E.length+1),.ptr co' 0,.int .i64 (E.length:Nat),.int .i64 (E.length:Nat),.int .i64 (((log+1:Nat):Int) - 2),.int .i64 (E.length:Nat)]))):=
   aC.set (W:=fun j=>j=eo\/j=to) (aC.set (W:=fun j=>j=eo\/j=to) (aC.up (aC.refl OS) 1) _ (by rw [St.jw]; omega) (fun _=> .inl rfl)) _ (by rw [St.fE,St.jw]; omega) (fun _=> .inr rfl)
  have g4t:(((s6.up 1).bD eo (.arr 5 270 (E.map cF++ [cF (eS.mk h ky v (E.length:Nat))]) FB)).bD to (.var 317 (.agg [.cT,.sl eo 0 (E.length+1) (E.length+1),.ptr co' 0,.int .i64 (E.length:Nat),.int .i64 (E.length:Nat),.int .i64 (((log+1:Nat):Int) - 2),.int .i64 (E.length:Nat)]))).get to=_:=St.aN;have g4e:(((s6.up 1).bD eo (.arr 5 270 (E.map cF++ [cF (eS.mk h ky v (E.length:Nat))]) FB)).bD to (.var 317 (.agg [.cT,.sl eo 0 (E.length+1) (E.length+1),.ptr co' 0,.int .i64 (E.length:Nat),.int .i64 (E.length:Nat),.int .i64 (((log+1:Nat):Int) - 2),.int .i64 (E.length:Nat)]))).get eo=some (.arr 5 270 ((E++ [eS.mk h ky v (E.length:Nat)]).map cF) FB):=by
   rw [← sS]; exact St.eP St.aN (bO nte)
  have hc4:=x2.dU OS b4 (by omega) (by omega);have CR:∀v∈C6, -1<=v/\v < 32768:=fun v hv=>by have:=x1.MN v hv; rw [aH]at this; omega
  have zS:=Cf (H:=H) (i:=E.length) (n:=E.length+1) (en:=eS.mk h ky v (E.length:Nat)) hT b4.ok g4t g4e (by simp) (mT _) (by simp) (by omega) hc4 CR hn;clear M7 UR OA dK xl pO gb gt DL hc;try refine go ?_
  refine ak zS ?_;rintro d s7 ⟨C',q1,⟨st',q2⟩,q3⟩;have k7:aC W s s7:=(kk.trans' b4 (by rintro j (rfl | rfl) hj; exact we; exact wt)).trans' q3 (by rintro j rfl hj; omega);have g5t:=q3.get b4.ok g4t nrt;have g5e:=q3.get b4.ok g4e nre;have g4b:=b4.get OS gb6 (by omega);have g5b:=q3.get b4.ok g4b (by omega);have Ps:=q3.ok.lt g5t;have yJ:=q3.ok;clear zS g4t g4e g4b gb4 gb5 gb6 gt6 ge6 z1;try refine go ?_
  have b6:∀d1 d2 d3:D,aC (fun j=>j=to) s7 (((s7.bD to (.var 317 d1)).bD to (.var 317 d2)).bD to (.var 317 d3)):=fun d1 d2 d3=>
   aC.set (W:=fun j=>j=to) (aC.set (W:=fun j=>j=to) (aC.set (W:=fun j=>j=to) (aC.refl yJ) _ Ps (fun _=>rfl)) _ Ps (fun _=>rfl)) _ Ps (fun _=>rfl)
  exact ai ⟨rfl,xV (log:=log+1) St.aN ((b6 _ _ _).get yJ g5e (bO nte)) z2 (q2.dU yJ (b6 _ _ _) (by omega) (by omega)) x1 q1 hn (k7.trans ((b6 _ _ _).mono fun j hj=>by subst hj; exact wt)) (.inl we) (.inr (by omega)) (.inr (by omega))⟩
end
section
variable {T:Nat->Option dS}{H Y:au}
theorem Xm (hT:TT T){s:St}{to eo co ro log st:Nat}{b:Bool}{x:D}{E:List eS}{C:List Int}{h ky v:Int}{W:Nat->Prop}(hs:s.Ok)
  (ht:kA s to eo co ro log b st x E C)(hE:E.length<=20000)(wt:W to)(we:W eo)(wr:W ro)(wc:W co):
  cu T H 204 [.ptr to 0,.int .i64 h,.int .i64 ky,.int .i64 v] s fun d s1=>d= .gJ [.int .i64 (E.length:Nat),.int .i64 0]/\Fm s to E (eS.mk h ky v (E.length:Nat)) W s1:=by
 have he:=ht.en;rcases he with _ | ⟨_,st0,E,g,dT⟩
 ·exact add_nil hT hs ht wt wr wc
 ·rcases Nat.lt_or_eq_of_le ht.rm with h1 | h1
  ·exact VD hT hs ht g dT h1 hE wt we wr wc
  ·exact Of hT hs ht g dT h1 hE wt we
theorem Sc (hT:TT T){s:St}{to n:Nat}{x c n2 n3 n4:D}(gt:s.get to=some (.var 317 (.agg [.cT,x,c,.int .i64 (n:Nat),n2,n3,n4]))):
  cu T H 184 [.ptr to 0] s fun d s1=>d= .int .i64 (n:Nat)/\s1=s:=by
 refine ay hT.t184 ?_;try refine go ?_
 exact ai ⟨rfl,rfl⟩
theorem A0 (hT:TT T){s:St}{to eo st i:Nat}{E:List eS}{c n1 n2 n3 n4:D}(gt:s.get to=some (.var 317 (.agg [.cT,.sl eo 0 E.length E.length,c,n1,n2,n3,n4])))(ge:s.get eo=some (.arr 5 270 (E.map cF) st))(dT:st<=E.length)(hi:i < E.length)(hE:E.length<=30000):
  cu T H 215 [.ptr to 0,.int .i64 (i:Nat)] s fun d s1=>d= .int .i64 0/\s1=s:=by
 have qc:(E.map cF)[0+i]? =some (cF E[i]):=by rw [aM,aE,ae hi]; rfl
 have pQ:=eO E;refine ay hT.t215 ?_;try refine go ?_
 exact ai ⟨rfl,rfl⟩
theorem TB (hT:TT T){s:St}{to eo st i:Nat}{E:List eS}{e:eS}{c n1 n2 n3 n4:D}(gt:s.get to=some (.var 317 (.agg [.cT,.sl eo 0 E.length E.length,c,n1,n2,n3,n4])))(ge:s.get eo=some (.arr 5 270 (E.map cF) st))(dT:st<=E.length)(hi:E[i]? =some e)(hE:E.length<=30000):
  cu T H 172 [.ptr to 0,.int .i64 (i:Nat)] s fun d s1=>d= .gJ [cF e,.int .i64 0]/\s1=s:=by
 have hl:i < E.length:=(af.mp hi).1;have qc:(E.map cF)[0+i]? =some (cF e):=by rw [aM,aE,hi]; rfl
 have pQ:=eO E;have hw:=A0 (H:=H) hT gt ge dT hl hE;refine ay hT.t172 ?_;try refine go ?_
 refine ak hw ?_;rintro d s1 ⟨rfl,rfl⟩;try refine go ?_
 exact ai ⟨rfl,rfl⟩
end
theorem ff.pos {log:Nat}{hs C:List Int}(hl:ff log hs C)(hn:hs.length<=2 ^ log):∀(v:Nat) (h:Int),hs[v]? =some h->∃j,C[(gA log h j).1]? =some (v:Int)/\∀i,i < j->∃w:Int,C[(gA log h i).1]? =some w/\0<=w/\w < (v:Int):=by
 induction hl with
 | nil=>intro v h hv; simp at hv
 | @snoc hs C C' g h0 h1 ih=>
  rw [aB,aW]at hn;have hlen:=h0.len;rcases h1 with ⟨j,hj,e1,e2,rfl⟩ | ⟨e1,_⟩
  ·have bR:∀(c:Nat) (w:Int),C[c]? =some w->0<=w->(C.set (gA log g j).1 (hs.length:Nat))[c]? =some w:=by
    intro c w hc hw;rw [mj];split
    ·rename_i e;rw [← e,e1]at hc;simp only [aa]at hc;omega
    ·exact hc
   intro v h hv;rcases aG v hs.length with dQ | qc
   ·rw [aO dQ]at hv;obtain⟨p,p1,p2⟩:=ih (by omega) v h hv;refine⟨p,bR _ _ p1 (by omega),fun i hi=> ?_⟩;obtain⟨w,w1,w2,w3⟩:=p2 i hi;exact⟨w,bR _ _ w1 w2,w2,w3⟩
   ·rw [aT qc]at hv;have kq:v=hs.length:=by
     have:=(af.mp hv).1;simp at this; omega
    subst kq;simp only [eF,aQ,aa]at hv;subst hv;refine⟨j, ?_,fun i hi=> ?_⟩
    ·rw [mj,bJ rfl,bJ (by rw [hlen]; exact lM _ _ _)]
    ·have mr:(gA log g i).1 < C.length:=by rw [hlen]; exact lM _ _ _
     have cC:=e2 i hi;rw [ae mr]at cC;have hv:=h0.MN _ (bH mr);simp only [ne_eq,aa]at cC;refine⟨C[(gA log g i).1],bR _ _ (ae mr) (by omega),by omega,by omega⟩
  ·exfalso;obtain⟨i,_,h3,h4⟩:=h0.empty (by omega) g 0;exact e1 i (by omega) h4
def Seen (log:Nat)(h:Int)(E:List eS)(C:List Int)(J:Nat)(told:Int):Prop:=(∀i,i < J->C[(gA log h i).1]? ≠some (-1))/\∀i,i < J->∀(v:Nat) (e:eS),C[(gA log h i).1]? =some (v:Int)->E[v]? =some e->e.h=h->(v:Int)<=told
def rU (E:List eS)(h told:Int):Option Nat->Prop
 | some v=>told < (v:Int)/\(∃e,E[v]? =some e/\e.h=h)/\∀(w:Nat) (e:eS),told < (w:Int)->w < v->E[w]? =some e->e.h≠h
 | none=>∀(w:Nat) (e:eS),told < (w:Int)->E[w]? =some e->e.h≠h
section
variable {log:Nat}{h:Int}{E:List eS}{C:List Int}{J:Nat}{told:Int}
theorem Seen.start:Seen log h E C 0 (-1):=⟨fun i hi=>absurd hi (lJ i),fun i hi=>absurd hi (lJ i)⟩
theorem H0 {v:Nat}{e:eS}(he:E[v]? =some e):(gZ E)[v]? =some e.h:=by rw [aE,he]; rfl
theorem Seen.over (hs:Seen log h E C J told)(hl:ff log (gZ E) C)(hn:E.length<=2 ^ log)(hv:C[(gA log h J).1]? =some (-1)):rU E h told none:=by
 intro w e hw he hh;obtain⟨p,p1,p2⟩:=hl.pos (by rw [aH]; exact hn) w h (by rw [H0 he,hh]);rcases h9 p J with h1 | h1 | h1
 ·have:=hs.2 p h1 w e p1 he hh; omega
 ·subst h1; rw [hv]at p1; simp only [aa]at p1; omega
 ·obtain⟨x,x1,x2,x3⟩:=p2 J h1;rw [hv]at x1; simp only [aa]at x1; omega
theorem Seen.pass {v:Int}(hs:Seen log h E C J told)(hv:C[(gA log h J).1]? =some v)(h0:0<=v)(cC: ¬ (told < v/\∃e,E[v.toNat]? =some e/\e.h=h)):Seen log h E C (J+1) told:=by
 refine⟨fun i hi=> ?_,fun i hi w e hw he hh=> ?_⟩
 ·rcases aG i J with h1 | h1
  ·exact hs.1 i h1
  ·rw [show i=J by omega,hv]; simp <;> omega
 ·rcases aG i J with h1 | h1
  ·exact hs.2 i h1 w e hw he hh
  ·rw [show i=J by omega,hv]at hw;simp only [aa]at hw;subst hw;rcases kS told (w:Int) with h2 | h2
   ·exact absurd ⟨h2,e,by simpa using he,hh⟩ cC
   ·exact h2
theorem Seen.tell {v:Nat}{e:eS}(hs:Seen log h E C J told)(hl:ff log (gZ E) C)(hn:E.length<=2 ^ log)(hv:C[(gA log h J).1]? =some (v:Int))(ht:told < (v:Int))(he:E[v]? =some e)(hh:e.h=h):rU E h told (some v)/\Seen log h E C (J+1) (v:Int):=by
 have at_:∀(w:Nat) (x:eS),E[w]? =some x->x.h=h->∃p,C[(gA log h p).1]? =some (w:Int)/\∀i,i < p->∃y:Int,C[(gA log h i).1]? =some y/\0<=y/\y < (w:Int):=fun w x hx XJ=>hl.pos (by rw [aH]; exact hn) w h (by rw [H0 hx,XJ]);refine⟨⟨ht,⟨e,he,hh⟩,fun w x hw hwv hx XJ=> ?_⟩,fun i hi=> ?_,fun i hi w x hw hx XJ=> ?_⟩
 ·obtain⟨p,p1,p2⟩:=at_ w x hx XJ;obtain⟨q,q1,q2⟩:=at_ v e he hh;rcases h9 p J with h1 | h1 | h1
  ·have:=hs.2 p h1 w x p1 hx XJ; omega
  ·subst h1; rw [hv]at p1; simp only [aa]at p1; omega
  ·obtain⟨y,y1,y2,y3⟩:=p2 J h1;rw [hv]at y1; simp only [aa]at y1; omega
 ·rcases aG i J with h1 | h1
  ·exact hs.1 i h1
  ·rw [show i=J by omega,hv]; simp <;> omega
 ·rcases aG i J with h1 | h1
  ·have:=hs.2 i h1 w x hw hx XJ; omega
  ·rw [show i=J by omega,hv]at hw;simp only [aa]at hw;omega
end
@[reducible] def qZ (to:Nat) (h:Int) (log J:Nat) (turns:Int) (visited told:Int) (ended:Bool):D:=
 .agg [.ptr to 0,.int .i64 h,.int .i64 ((gA log h J).1:Nat),.int .u64 ((gA log h J).2:Nat),.int .i64 turns,.int .i64 visited,.int .i64 told,.bool ended]
theorem ux {s:St}{b kk o:Nat}{y:Option Ab.Obj}{ro:Bool}(h:s.get o=y)(ho:o < b):(⟨s.n,sT kk b s.h,s.lk,ro⟩:St).get o=y:=by
 simp only [St.get]at h ⊢;rw [qh,aJ (by omega)]; exact h
theorem cl.cut {s:St}{co ro log st bb kk:Nat}{b:Bool}{C:List Int}{r:Bool}(h:cl s co ro log b st C)(h1:co < bb)(h2:ro < bb):cl ⟨s.n,sT kk bb s.h,s.lk,r⟩ co ro log b st C:=
 ⟨ux h.go h1,ux h.gr h2,h.ln,h.st,h.lo,h.hi,h.ne⟩
section
variable {T:Nat->Option dS}{H Y:au}
theorem Sf (hT:TT T){s:St}{to eo co ro log st:Nat}{b:Bool}{x:D}{E:List eS}{C:List Int}{h:Int}(hs:s.Ok)(ht:kA s to eo co ro log b st x E C):
  cu T H 168 [.ptr to 0,.int .i64 h] s fun d s1=>d= .ptr s.n 0/\s1.get s.n=some (.var 349 (qZ to h log 0 (E.length:Nat) 0 (-1) false))/\aC Nil s s1:=by
 have gt:=ht.go;have uA:log<=15:=by have:=ht.ce.hi; split at this <;> omega
 have lt:=hs.lt gt; have lr:=hs.lt ht.ce.gr; have lc:=hs.lt ht.ce.go;have xl:=ur (H:=H) hT gt;have qd:cl ⟨(s.up 1).n,sT (0+1) s.n (s.up 1).h,(s.up 1).lk,true⟩ co ro log b st C:=cl.cut (s:=s.up 1) ⟨ht.ce.go,ht.ce.gr,ht.ce.ln,ht.ce.st,ht.ce.lo,ht.ce.hi,ht.ce.ne⟩ lc lr;have YH:=Gb (H:=H) hT qd;have VA:=LP (H:=H) (h:=h) (log:=log) (s:=⟨(s.up 1).n,sT (0+1) s.n (s.up 1).h,(s.up 1).lk,true⟩) hT uA;refine ay hT.t168 ?_;try refine go ?_
 refine ak xl ?_;rintro d s2 rfl;try refine go ?_
 refine tF YH ?_;rintro d s3 ⟨rfl,rfl⟩;refine⟨rfl, ?_⟩;try refine go ?_
 refine tF VA ?_;rintro d s3 ⟨rfl,rfl⟩;refine⟨rfl, ?_⟩;have hb:aC Nil s2 ((s2.up 1).bD (s2.n+0) (.var 349 (qZ to h log 0 (E.length:Nat) 0 (-1) false))):=aC.set (W:=Nil) (aC.up (aC.refl hs) 1) _ (by rw [St.jw]; omega) (fun h=>by omega);try refine go ?_
 simp only [sn];exact ai ⟨rfl,St.aN,hb⟩
theorem Zz (hT:TT T){s:St}{so to co ro log st J:Nat}{b:Bool}{x n1 n2 n3 n4:D}{C:List Int}{h turns visited told:Int}{ended:Bool}(hs:s.Ok)(gt:s.get to=some (.var 317 (.agg [.cT,x,.ptr co 0,n1,n2,n3,n4])))(hc:cl s co ro log b st C)
  (gs:s.get so=some (.var 349 (qZ to h log J turns visited told ended))):
  cu T H 214 [.ptr so 0] s fun _ s1=>s1.get so=some (.var 349 (qZ to h log (J+1) turns visited told ended))/\aC (fun j=>j=so) s s1:=by
 have uA:log<=15:=by have:=hc.hi; split at this <;> omega
 have nst:to≠so:=by rintro rfl; rw [gt]at gs; simp at gs
 have ncs:co≠so:=by rintro rfl; have:=hc.go; rw [this]at gs; simp at gs
 have nrs:ro≠so:=by rintro rfl; have:=hc.gr; rw [this]at gs; cases gs
 have ls:=hs.lt gs;have hp:=mA uA;have e1:=DM uA;have e2:=Ca hp.1 hp.2;have q1:=lM log h J;have q2:=rB log h J;have q3:=uB log h J;have q4:IntKind.wrap .u64 ((gA log h J).1:Int)=((gA log h J).1:Int):=by
  generalize (gA log h J).1=c at q1 ⊢;generalize 2 ^ log=N at q1 hp;exact kO (by omega) (by omega)
 have q5:=ui (a:=5 * (gA log h J).1+(gA log h J).2 / 32+1) (log:=log) (by
  generalize (gA log h J).1=c at q1 ⊢;generalize 2 ^ log=N at q1 hp;omega) uA
 have q6:=step_eq q1 q2 hp.2;have q7:(gA log h (J+1)).1=(5 * (gA log h J).1+(gA log h J).2 / 32+1) % 2 ^ log:=by rw [q3]; rfl
 have q8:(gA log h (J+1)).2=(gA log h J).2 / 32:=by rw [q3]; rfl
 have q10:=lM log h (J+1);have q9:IntKind.wrap .i64 ((gA log h (J+1)).1:Int)=((gA log h (J+1)).1:Int):=by
  generalize (gA log h (J+1)).1=c at q10 ⊢;generalize 2 ^ log=N at q10 hp;exact wrap_small (by omega) (by omega)
 have kL:∀d:D,aC (fun j=>j=so) s (s.bD so (.var 349 d)):=fun d=>aC.set (W:=fun j=>j=so) (aC.refl hs) _ ls (fun _=>rfl);have hgs:∀d:D,(s.bD so (.var 349 d)).get so=some (.var 349 d):=fun _=>St.aN;have vh:∀d:D,(s.bD so (.var 349 d)).get to=_:=fun d=>(kL d).get hs gt nst;have YH:∀d:D,cu T H 211 [.ptr co 0] (s.bD so (.var 349 d)) _:=fun d=>Gb (H:=H) hT (hc.dU hs (kL d) ncs nrs);rw [← q8]at q5 q6 q7;refine ay hT.t214 ?_;try refine go ?_
 rw [Wi,← q8];simp only [q4,q6];refine bf (YH _) ?_;rintro d s2 ⟨rfl,rfl⟩;refine⟨rfl,by simp [lost,eN.kind,cJ,dE,cE,aI,bz,bz.cV,fZ,bP.ev,Env.get,cP,D.flat,D.isAgg,cL,D.fv,D.beq,az,Obj.aV,bC,bu,D.bV,D.aV,hgs,vh], ?_⟩;try refine go ?_
 rw [e1,e2,q5,← q7,q9];have jJ:∀d1 d2:D,aC (fun j=>j=so) s ((s.bD so (.var 349 d1)).bD so (.var 349 d2)):=fun d1 d2=>aC.set (W:=fun j=>j=so) (kL d1) _ ls (fun _=>rfl);exact gU ⟨St.aN,jJ _ _⟩
end
end Go.Proofs.Tab
