/- Part. -/
import Derived.Test.YtjaldhgmboeffaaGreatDoorG24
set_option linter.unusedSimpArgs false
set_option linter.unusedVariables false
set_option linter.unusedSectionVars false
set_option maxRecDepth 100000
set_option maxHeartbeats 2000000
namespace Go.Proofs.Tab
open Go Go.Ab Go.Ab.Sm
section
variable {T:Nat->Option dU}{H Y:ay}
noncomputable def Mw:AC:=match Pc.1.body with
 | .seq _ (.seq (.seq _ (.block _ c)) _)=>c
 | _=> .skip
theorem eR (E:List eU):(E.map cG).length=E.length:=aJ _
theorem over_self {α:Type}:∀(l:List α) (i:Nat) (x:α),l[i]? =some x->over l i [x]=l
 | [],i,x,h=>by simp at h
 | a::l,0,x,h=>by simp at h; subst h; simp [over]
 | a::l,i+1,x,h=>by simp only [over]; rw [over_self l i x (by simpa using h)]
theorem nk {α:Type}:∀(l:List α) (i:Nat),over l i []=l
 | [],0=>rfl
 | [],i+1=>rfl
 | a::l,0=>rfl
 | a::l,i+1=>by simp only [over,nk l i]
theorem J6 {s:St}{eo st cp i:Nat}{E:List eU}{e:eU}(hs:s.Ok)(hg:s.get eo=some (.arr 5 232 (E.map cG) st))(dN:st<=i+cp)(pB:st<=E.length)(hi:E[i]? =some e):
  ∃s1,iM s 5 (.sl eo i 1 cp) [cG e]=some s1/\(∃st',st' <=E.length/\(st' =st\/i+1=E.length)/\s1.get eo=some (.arr 5 232 (E.map cG) st'))/\aF (fun j=>j=eo) s s1:=by
 have hl:i < E.length:=(aj.mp hi).1;have pW:(E.map cG)[i]? =some (cG e):=by rw [aC,hi]; rfl
 have e5:Nat.beq 5 5=true:=rfl;by_cases h:i+1=E.length
 ·refine⟨s.bF eo (.arr 5 232 (E.map cG) (E.map cG).length), ?_,⟨E.length,aq _,.inr h,by rw [St.aO,eR]⟩,aF.set (aF.refl hs) _ (hs.lt hg) (fun _=>rfl)⟩;have e1:Nat.beq (i+1) (E.map cG).length=true:=by rw [eR,h]; exact aA _
  have e2:Nat.ble [cG e].length 1=true:=rfl;simp only [iM,hg,e5,e1,e2,over_self _ _ _ pW,hs.set]
 ·refine⟨s, ?_,⟨st,pB,.inl rfl,hg⟩,aF.refl hs⟩;have e1:Nat.beq (i+1) (E.map cG).length=false:=by rw [eR]; exact T.uE h
  have e2:Nat.ble [cG e].length 1=true:=rfl;have e3:Nat.ble (i+1) (E.map cG).length=true:=au (by rw [eR]; omega);have e4:Nat.ble st (i+cp)=true:=au dN;have e6:((E.map cG).drop i).take 1=[cG e]:=by
   rw [fC (by rw [eR]; exact hl)];simp only [gD,pk];have:=aj.mp pW;rw [this.2]
  have e7:[cG e].all Bw=true:=rfl;have e8:D.fw [cG e] [cG e]=true:=by simp [cG,D.fw,D.beq]
  simp only [iM,hg,e5,e1,e2,e3,e4,aV,bL,aN,e6,e7,e8,fm]
theorem Sa {s s1:St}{eo st i:Nat}{E:List eU}{e:eU}{env:Env}{x y:bP}(hg:s.get eo=some (.arr 5 232 (E.map cG) st))(dN:st<=E.length)(hi:E[i]? =some e)(hf:iM s 5 (.sl eo i 1 (E.length - i)) [cG e]=some s1)
  (hx:x.ev env=some (.sl eo i 1 (E.length - i)))(hy:y.ev env=some (.sl eo i 1 (E.length - i))):cC fF env s none (.copy 5 x y)=some (.int .i64 1,s1):=by
 have hl:i < E.length:=(aj.mp hi).1;have pW:(E.map cG)[i]? =some (cG e):=by rw [aC,hi]; rfl
 have e3:Nat.ble (i+1) (E.map cG).length=true:=au (by rw [eR]; omega);have e4:Nat.ble st (i+(E.length - i))=true:=au (by omega);have e6:((E.map cG).drop i).take 1=[cG e]:=by
  rw [fC (by rw [eR]; exact hl)];simp only [gD,pk];have:=aj.mp pW;rw [this.2]
 have e7:eI 5 ([cG e].take 1)=true:=rfl;simp only [cC,hx,hy,items,hg,e3,e4,e6,o8,e7,aA,eP];simp only [gD,pk,hf,oK];rfl
theorem MS {s:St}{eo st cp:Nat}{E:List eU}{env:Env}{x:bP}{z:D}(hs:s.Ok)(hg:s.get eo=some (.arr 5 232 (E.map cG) st))(hx:x.ev env=some (.sl eo E.length 0 cp))(hz:eI 5 [z]=true):
  cC fF env s none (.clear 5 z x)=some (.gK [],s.bF eo (.arr 5 232 (E.map cG) E.length)):=by
 have e1:Nat.beq (E.length+0) E.length=true:=aA _;have e2:over (E.map cG) E.length []=E.map cG:=by
  rw [show E.length=(E.map cG).length from (eR E).symm];exact nk _ _
 have e3:Nat.ble ([]:List D).length 0=true:=rfl;simp only [cC,hx,o8,hz,List.replicate_zero,iM,hg,aA,e1,e3,e2,hs.set,oK,eR]
theorem Gw {s:St}{to eo st i:Nat}{c n1 n2 n3 n4:D}{E:List eU}{e:eU}{k:List iT}{Q:QP}(hs:s.Ok)
  (gt:s.get to=some (.var 328 (.agg [.cz,.sl eo 0 E.length E.length,c,n1,n2,n3,n4])))(ge:s.get eo=some (.arr 5 232 (E.map cG) st))(dN:st<=E.length)(hi:E[i]? =some e)(hE:E.length<=32000)
  (hk:∀s1 env,env.bV [0,2,8,9,10]=[(0,.ptr to 0),(2,.int .i64 (i+1:Nat)),(8,.sl eo 0 E.length E.length),(9,.int .i64 (E.length:Nat)),(10,.int .i64 (i+1:Nat))]->(∃st',st' <=E.length/\s1.get eo=some (.arr 5 232 (E.map cG) st'))->aF (fun j=>j=eo) s s1->lg T H .normal k ⟨env,[]⟩ s1 Q):
  eH T H (match Mw with | .loop _ a=>a | _=> .skip) k ⟨[(0,.ptr to 0),(2,.int .i64 (i:Nat)),(8,.sl eo 0 E.length E.length),(9,.int .i64 (E.length:Nat)),(10,.int .i64 (i:Nat))],[]⟩ s Q:=by
 have hl:i < E.length:=(aj.mp hi).1;have pQ:=eR E;have pW:(E.map cG)[0+i]? =some (cG e):=by rw [aN,aC,hi]; rfl
 have hw:IntKind.wrap .i64 ((i:Int)+1)=((i+1:Nat):Int):=by rw [wrap_small (by omega) (by omega)]; omega
 obtain⟨s1,c1,⟨st',c2,_,c3⟩,c4⟩:=J6 (cp:=E.length - i) hs ge (by omega) dN hi;show eH T H (.seq _ _) k _ s Q;try refine go ?_
 simp only [hw];try refine go ?_
 have W8:i+1 - i=1:=by omega
 simp only [cZ,W8,aN];refine BZ (d:= .int .i64 1) (s1:=s1) ?_ rfl (Sa ge dN hi c1 rfl rfl);try refine go ?_
 simp only [hw];exact hk _ _ rfl ⟨st',c2,c3⟩ c4
theorem Q9 (hT:TT T){s:St}{to eo st:Nat}{c n1 n2 n3 n4:D}{E:List eU}(hs:s.Ok)
  (gt:s.get to=some (.var 328 (.agg [.cz,.sl eo 0 E.length E.length,c,n1,n2,n3,n4])))(ge:s.get eo=some (.arr 5 232 (E.map cG) st))(dN:st<=E.length)(hE:E.length<=32000):
  cu T H 265 [.ptr to 0] s fun _ s1=>s1.get to=some (.var 328 (.agg [.cz,.sl eo 0 E.length E.length,c,n1,n2,n3,n4]))/\(∃st',st' <=E.length/\s1.get eo=some (.arr 5 232 (E.map cG) st'))/\aF (fun j=>j=eo\/j=to) s s1:=by
 have nte:to≠eo:=by rintro rfl; rw [gt]at ge; cases ge
 refine ax hT.t265 ?_;try refine go ?_
 refine ee E.length (fun j=> [(0,.ptr to 0),(2,.int .i64 (j:Nat)),(8,.sl eo 0 E.length E.length),(9,.int .i64 (E.length:Nat)),(10,.int .i64 (j:Nat))]) (fun j s' =>(∃st',st' <=E.length/\s'.get eo=some (.arr 5 232 (E.map cG) st'))/\aF (fun j=>j=eo) s s') ⟨⟨st,dN,ge⟩,aF.refl hs⟩ ?_;rintro j s' hj ⟨⟨st',q0,q1⟩,q2⟩;have gt' :=q2.get hs gt nte;rcases aH j E.length with hl | hl
 ·refine Gw (i:=j) q2.ok gt' q1 q0 (ab hl) hE ?_;intro s1 env he z1 z2;exact dw (hF:=he) hl ⟨z1,q2.trans z2⟩
 ·have:j=E.length:=by omega
  subst this;have pQ:=eR E;try refine go ?_
  simp only [cZ,eG,aN];refine qt (s1:=s'.bF eo (.arr 5 232 (E.map cG) E.length)) ?_ rfl (MS q2.ok q1 rfl rfl);have jK:aF (fun j=>j=eo) s' (s'.bF eo (.arr 5 232 (E.map cG) E.length)):=aF.set (aF.refl q2.ok) _ (q2.ok.lt q1) (fun _=>rfl);have WI:=jK.get q2.ok gt' nte;have lt2:=jK.ok.lt WI;have ge2:(s'.bF eo (.arr 5 232 (E.map cG) E.length)).get eo=some (.arr 5 232 (E.map cG) E.length):=St.aO;have ok2:=jK.ok;generalize s'.bF eo (.arr 5 232 (E.map cG) E.length)=s2 at jK WI lt2 ge2 ok2 ⊢;try refine go ?_
  have wX:∀d:D,aF (fun j=>j=eo\/j=to) s2 (s2.bF to (.var 328 d)):=fun d=>aF.set (W:=fun j=>j=eo\/j=to) (aF.refl ok2) _ lt2 (fun _=> .inr rfl);exact iu ⟨St.aO,⟨E.length,aq _,St.eS ge2 (bO nte)⟩,((q2.trans jK).mono fun j hj=> .inl hj).trans (wX _)⟩
end
section
variable {T:Nat->Option dU}{H Y:ay}
theorem NG (hT:TT T){s:St}{bo to j n:Nat}{x c n2 n3 n4:D}(gb:s.get bo=some (.var 278 (.ptr to 0)))(gt:s.get to=some (.var 328 (.agg [.cz,x,c,.int .i64 (n:Nat),n2,n3,n4])))(hj:j<=20)(hn:n<=32000):
  cu T H 264 [.int .i64 (j:Nat),.ptr bo 0] s fun d s1=>d= .bool (decide (3 * n<=2 ^ j))/\s1=s:=by
 have h1:=J7 hj;have h2:IntKind.wrap .i64 (3 * (n:Int))=((3 * n:Nat):Int):=by rw [wrap_small (by omega) (by omega)]; omega
 have h3:decide (((2 ^ j:Nat):Int) >= ((3 * n:Nat):Int))=decide (3 * n<=2 ^ j):=by
  rw [decide_eq_decide]; omega
 refine ax hT.t264 ?_;try refine go ?_
 simp only [h1,h2,h3];exact ai ⟨rfl,rfl⟩
theorem M8 (hT:TT T){s:St}{bo to L n:Nat}{x c n2 n3 n4:D}(gb:s.get bo=some (.var 278 (.ptr to 0)))(gt:s.get to=some (.var 328 (.agg [.cz,x,c,.int .i64 (n:Nat),n2,n3,n4])))(hn:n<=32000)
  (h3:3<=L)(hL:L<=15)(h1:3 * n<=2 ^ L)(h2:∀j,3<=j->j < L->2 ^ j < 3 * n):
  cu T H 263 [.fn (.func 264) [] [.ptr bo 0]] s fun d s1=>d= .int .i64 (L:Nat)/\s1=s:=by
 refine ax hT.t263 ?_;try refine go ?_
 refine ee (L - 3) (fun j=> [(0,.fn (.func 264) [] [.ptr bo 0]),(2,.int .i64 0),(3,.int .i64 (3+j:Nat))]) (fun j s' =>s' =s) rfl ?_;rintro j s' hj rfl;have hh:=NG (H:=H) hT gb gt (j:=3+j) (by omega) hn;try refine go ?_
 refine ak hh ?_;rintro d s2 ⟨rfl,rfl⟩;rcases aH j (L - 3) with hl | hl
 ·have hf:decide (3 * n<=2 ^ (3+j))=false:=by
   have:=h2 (3+j) (by omega) (by omega);rw [bQ]; omega
  simp only [hf];try refine go ?_
  exact dw hl rfl
 ·have hjL:3+j=L:=by omega
  have hf:decide (3 * n<=2 ^ (3+j))=true:=by
   rw [aY,hjL]; exact h1
  simp only [hf];try refine go ?_
  rw [hjL];exact ai ⟨rfl,rfl⟩
end
inductive zK (s:St):D->Nat->List eU->Prop
 | nil (eo:Nat):zK s (.vs true 0 []) eo []
 | sl (eo st:Nat) (E:List eU) (h:s.get eo=some (.arr 5 232 (E.map cG) st)) (hs:st<=E.length):zK s (.sl eo 0 E.length E.length) eo E
theorem zK.dK {W:Nat->Prop}{s s1:St}{x:D}{eo:Nat}{E:List eU}(h:zK s x eo E)(hs:s.Ok)(hb:aF W s s1)(Pu:∀es st,s.get eo=some (.arr 5 232 es st)-> ¬ W eo):zK s1 x eo E:=by
 rcases h with _ | ⟨_,st,E,h,h1⟩
 ·exact .nil eo
 ·exact .sl eo st E (hb.get hs h (Pu _ _ h)) h1
@[reducible] def aad (x:D) (co n:Nat) (m:Int):D:= .agg [.cz,x,.ptr co 0,.int .i64 (n:Nat),.int .i64 (n:Nat),.int .i64 m,.int .i64 (n:Nat)]
structure kE (s:St)(to eo co ro log:Nat)(b:Bool)(st:Nat)(x:D)(E:List eU)(C:List Int):Prop where
 go:s.get to=some (.var 328 (aad x co E.length ((log:Int) - 2)))
 en:zK s x eo E
 ce:cr s co ro log b st C
 la:fg log (gX E) C
 rm:E.length<=2 * 2 ^ log / 3
theorem kE.cv {s:St}{to eo co ro log st:Nat}{b:Bool}{x:D}{E:List eU}{C:List Int}(h:kE s to eo co ro log b st x E C):∀v∈C, -1<=v/\v < (E.length:Int):=fun v hv=>by
 have:=h.la.zS v hv;rwa [aJ]at this
theorem kE.nt {s:St}{to eo co ro log st:Nat}{b:Bool}{x:D}{E:List eU}{C:List Int}(h:kE s to eo co ro log b st x E C):to≠ro/\to≠co/\co≠ro/\(E≠ []->eo≠to/\eo≠co/\eo≠ro):=by
 have h1:=h.go; have h2:=h.ce.go; have h3:=h.ce.gr;refine⟨?_, ?_,h.ce.ne,fun hE=> ?_⟩
 ·rintro rfl; rw [h1]at h3; cases h3
 ·rintro rfl; rw [h1]at h2; simp at h2
 ·rcases h.en with _ | ⟨_,st,_,h4,_⟩
  ·exact absurd rfl hE
  ·refine⟨?_, ?_, ?_⟩
   ·rintro rfl; rw [h1]at h4; cases h4
   ·rintro rfl; rw [h2]at h4; cases h4
   ·rintro rfl; rw [h3]at h4; simp at h4
section
variable {T:Nat->Option dU}{H Y:ay}
theorem tT (hT:TT T){s:St}{to co:Nat}{x n1 n2 n3 n4:D}(gt:s.get to=some (.var 328 (.agg [.cz,x,.ptr co 0,n1,n2,n3,n4]))):cu T H 227 [.ptr to 0] s fun _ s1=>s1=s:=by
 refine ax hT.t227 ?_;try refine go ?_
 exact iu rfl
def ES (s:St)(to:Nat)(E:List eU)(en:eU)(W:Nat->Prop)(s1:St):Prop:=∃eo co ro log b st x C,kE s1 to eo co ro log b st x (E++ [en]) C/\(W eo\/s.n<=eo)/\(W co\/s.n<=co)/\(W ro\/s.n<=ro)/\aF W s s1
theorem xz {s s6:St}{to eo co ro log st st0:Nat}{b:Bool}{E:List eU}{en:eU} {C C' :List Int}{W:Nat->Prop}(g6:s6.get to=some (.var 328 (aad (.sl eo 0 (E.length+1) (E.length+1)) co (E.length+1) ((log:Int) - 2))))
  (g6e:s6.get eo=some (.arr 5 232 ((E++ [en]).map cG) st0))(dN:st0<=E.length)(hc6:cr s6 co ro log b st C')(Yl:fg log (gX E) C)(hl:Laid log en.h (E.length:Nat) C C')(hn:E.length < 2 * 2 ^ log / 3)
  (hb:aF W s s6)(we:W eo\/s.n<=eo)(wc:W co\/s.n<=co)(wr:W ro\/s.n<=ro):ES s to E en W s6:=by
 have hlen:(E++ [en]).length=E.length+1:=by simp
 refine⟨eo,co,ro,log,b,st,.sl eo 0 (E++ [en]).length (E++ [en]).length,C',⟨by rw [hlen]; exact g6,.sl eo st0 _ g6e (by omega),hc6, ?_,by omega⟩,we,wc,wr,hb⟩;have:gX (E++ [en])=gX E++ [en.h]:=by simp [gX]
 rw [this];exact .snoc Yl (by rw [aJ]; exact hl)
theorem W3 (hT:TT T){s:St}{to eo co ro log st st0:Nat}{b:Bool}{E:List eU}{C:List Int}{h ky v:Int}{W:Nat->Prop}(hs:s.Ok)
  (ht:kE s to eo co ro log b st (.sl eo 0 E.length E.length) E C)(ge:s.get eo=some (.arr 5 232 (E.map cG) st0))(dN:st0<=E.length)(hn:E.length < 2 * 2 ^ log / 3)(hE:E.length<=1000)
  (wt:W to)(we:W eo)(wr:W ro)(wc:W co):
  cu T H 226 [.ptr to 0,.int .i64 h,.int .i64 ky,.int .i64 v] s fun d s1=>d= .gK [.int .i64 (E.length:Nat),.int .i64 0]/\ES s to E (eU.mk h ky v (E.length:Nat)) W s1:=by
 obtain⟨n1,n2,n3,n4⟩:=ht.nt;have Az:aF (fun _=>False) s (s.bz (.var 278 (.ptr to 0))):=aF.push (aF.refl hs) _;have gb:(s.bz (.var 278 (.ptr to 0))).get s.n=some (.var 278 (.ptr to 0)):=St.bu;have gt:=Az.get hs ht.go (fun h=>h);have CT:=Az.get hs ge (fun h=>h);have hc:=ht.ce.dK hs Az (fun h=>h) (fun h=>h);have lt:=hs.lt ht.go; have le:=hs.lt ge; have lr:=hs.lt ht.ce.gr; have lc:=hs.lt ht.ce.go;have nte:to≠eo:=by rintro rfl; have:=ht.go; rw [this]at ge; cases ge
 have pQ:=eR E;have sG:E.map cG++ [cG (eU.mk h ky v (E.length:Nat))]=(E++ [eU.mk h ky v (E.length:Nat)]).map cG:=by simp
 have pG:=xf (H:=H) hT hc;have w6:=tT (H:=H) hT gt;have fK:=Az.ok;refine ax hT.t226 ?_;try refine go ?_
 generalize uL:s.bz (.var 278 (.ptr to 0))=s1 at *;have zA:s1.n=s.n+1:=by rw [← uL]; rfl
 refine ak w6 ?_;rintro d s2 rfl;try refine go ?_
 refine aX pG ?_;rintro d s3 ⟨rfl,rfl⟩;refine⟨rfl,by simp [lost,eQ.kind,cK,dE,cF,aI,bC,bC.cW,gk,bP.ev,Env.get,cS,D.flat,D.isAgg,cP,D.fw,D.beq,aA,Obj.aW,bE,br,D.bW,D.aW,gb,gt,CT], ?_⟩;try refine go ?_
 refine cV (fun hc=> ?_) (fun hc=> ?_)
 ·exfalso;have:=Int.natCast_inj.mp (ib.mp hc);omega
 ·clear hc;have lt3:=fK.lt gt; have le3:=fK.lt CT
  have b4:aF (fun j=>j=eo\/j=to) s3 (((s3.up 1).bF eo (.arr 5 232 (E.map cG++ [cG (eU.mk h ky v (E.length:Nat))]) st0)).bF to (.var 328 (.agg [.cz,.sl eo 0 (E.length+1) (E.length+1),.ptr co 0,.int .i64 (E.length:Nat),.int .i64 (E.length:Nat),.int .i64 ((log:Int) - 2),.int .i64 (E.length:Nat)]))):=
   aF.set (W:=fun j=>j=eo\/j=to) (aF.set (W:=fun j=>j=eo\/j=to) (aF.up (aF.refl fK) 1) _ (by rw [St.jx]; omega) (fun _=> .inl rfl)) _ (by rw [St.fE,St.jx]; omega) (fun _=> .inr rfl)
  have g4t:(((s3.up 1).bF eo (.arr 5 232 (E.map cG++ [cG (eU.mk h ky v (E.length:Nat))]) st0)).bF to (.var 328 (.agg [.cz,.sl eo 0 (E.length+1) (E.length+1),.ptr co 0,.int .i64 (E.length:Nat),.int .i64 (E.length:Nat),.int .i64 ((log:Int) - 2),.int .i64 (E.length:Nat)]))).get to=_:=St.aO;have g4e:(((s3.up 1).bF eo (.arr 5 232 (E.map cG++ [cG (eU.mk h ky v (E.length:Nat))]) st0)).bF to (.var 328 (.agg [.cz,.sl eo 0 (E.length+1) (E.length+1),.ptr co 0,.int .i64 (E.length:Nat),.int .i64 (E.length:Nat),.int .i64 ((log:Int) - 2),.int .i64 (E.length:Nat)]))).get eo=some (.arr 5 232 ((E++ [eU.mk h ky v (E.length:Nat)]).map cG) st0):=by
   rw [← sG]; exact St.eS St.aO (bO nte)
  have nce:co≠eo:=by rintro rfl; have:=ht.ce.go; rw [this]at ge; cases ge
  have nre:ro≠eo:=by rintro rfl; have:=ht.ce.gr; rw [this]at ge; simp at ge
  have ZL:=hc.dK fK b4 (by omega) (by omega);have Cv:∀v∈C, -1<=v/\v < 32768:=fun v hv=>by have:=ht.cv v hv; omega
  have zL:=Bt (H:=H) (i:=E.length) (n:=E.length+1) (en:=eU.mk h ky v (E.length:Nat)) hT b4.ok g4t g4e (by simp) (mX _) (by simp) (by omega) ZL Cv hn;try refine go ?_
  refine ak zL ?_;rintro d s5 ⟨C',q1,⟨st',q2⟩,q3⟩;have k5:aF W s3 s5:=(b4.mono fun j hj=>by rcases hj with rfl | rfl; exact we; exact wt).trans (q3.mono fun j hj=>by subst hj; exact wr);have k0:aF W s s5:=(Az.mono fun j hj=>hj.elim).trans k5;have g5t:=q3.get b4.ok g4t n1;have g5e:=q3.get b4.ok g4e (bO nre);have g4b:=b4.get fK gb (by omega);have g5b:=q3.get b4.ok g4b (by omega);have Ms:=q3.ok.lt g5t;have zd:=q3.ok;have hw1:IntKind.wrap .i64 ((E.length:Int)+1)=((E.length+1:Nat):Int):=by rw [wrap_small (by omega) (by omega)]; omega
  clear zL w6 pG g4t g4e g4b;try refine go ?_
  have b6:∀d1 d2 d3:D,aF (fun j=>j=to) s5 (((s5.bF to (.var 328 d1)).bF to (.var 328 d2)).bF to (.var 328 d3)):=fun d1 d2 d3=>
   aF.set (W:=fun j=>j=to) (aF.set (W:=fun j=>j=to) (aF.set (W:=fun j=>j=to) (aF.refl zd) _ Ms (fun _=>rfl)) _ Ms (fun _=>rfl)) _ Ms (fun _=>rfl)
  exact ai ⟨rfl,xz (log:=log) St.aO ((b6 _ _ _).get zd g5e (bO nte)) dN (q2.dK zd (b6 _ _ _) (bO n2) (bO n1)) ht.la q1 hn (k0.trans ((b6 _ _ _).mono fun j hj=>by subst hj; exact wt)) (.inl we) (.inl wc) (.inl wr)⟩
end
section
variable {T:Nat->Option dU}{H Y:ay}
theorem add_nil (hT:TT T){s:St}{to eo co ro log st:Nat}{b:Bool}{C:List Int}{h ky v:Int}{W:Nat->Prop}(hs:s.Ok)
  (ht:kE s to eo co ro log b st (.vs true 0 []) [] C)
  (wt:W to)(wr:W ro)(wc:W co):
  cu T H 226 [.ptr to 0,.int .i64 h,.int .i64 ky,.int .i64 v] s fun d s1=>d= .gK [.int .i64 0,.int .i64 0]/\ES s to [] (eU.mk h ky v 0) W s1:=by
 obtain⟨n1,n2,n3,n4⟩:=ht.nt;have hn:0 < 2 * 2 ^ log / 3:=by have:=ht.ce.pow; omega
 have Az:aF (fun _=>False) s (s.bz (.var 278 (.ptr to 0))):=aF.push (aF.refl hs) _;have gb:(s.bz (.var 278 (.ptr to 0))).get s.n=some (.var 278 (.ptr to 0)):=St.bu;have gt:(s.bz (.var 278 (.ptr to 0))).get to=some (.var 328 (.agg [.cz,.vs true 0 [],.ptr co 0,.int .i64 0,.int .i64 0,.int .i64 ((log:Int) - 2),.int .i64 0])):=Az.get hs ht.go (fun h=>h);have hc:=ht.ce.dK hs Az (fun h=>h) (fun h=>h);have lt:=hs.lt ht.go; have lr:=hs.lt ht.ce.gr; have lc:=hs.lt ht.ce.go;have pG:=xf (H:=H) hT hc;have w6:=tT (H:=H) hT gt;have fK:=Az.ok;refine ax hT.t226 ?_;try refine go ?_
 generalize uL:s.bz (.var 278 (.ptr to 0))=s1 at *;have zA:s1.n=s.n+1:=by rw [← uL]; rfl
 refine ak w6 ?_;rintro d s2 rfl;try refine go ?_
 refine aX pG ?_;rintro d s3 ⟨rfl,rfl⟩;refine⟨rfl,by simp [lost,eQ.kind,cK,dE,cF,aI,bC,bC.cW,gk,bP.ev,Env.get,cS,D.flat,D.isAgg,cP,D.fw,D.beq,aA,Obj.aW,bE,br,D.bW,D.aW,gb,gt], ?_⟩;try refine go ?_
 refine cV (fun hc=> ?_) (fun hc=> ?_)
 ·exfalso;have:=Int.natCast_inj.mp (ib.mp hc);simp at this;omega
 ·clear hc;have lt3:=fK.lt gt;have b4:aF (fun j=>j=to) s3 (((s3.up 1).bF (s3.n+0) (.arr 5 232 [cG (eU.mk h ky v 0)] 0)).bF to (.var 328 (.agg [.cz,.sl (s3.n+0) 0 1 1,.ptr co 0,.int .i64 0,.int .i64 0,.int .i64 ((log:Int) - 2),.int .i64 0]))):=by
   refine aF.set (W:=fun j=>j=to) ?_ _ (by rw [St.fE,St.jx]; omega) (fun _=>rfl);exact aF.set (W:=fun j=>j=to) (aF.up (aF.refl fK) 1) _ (by rw [St.jx]; omega) (fun h=>by omega)
  have g4t:(((s3.up 1).bF (s3.n+0) (.arr 5 232 [cG (eU.mk h ky v 0)] 0)).bF to (.var 328 (.agg [.cz,.sl (s3.n+0) 0 1 1,.ptr co 0,.int .i64 0,.int .i64 0,.int .i64 ((log:Int) - 2),.int .i64 0]))).get to=_:=St.aO;have g4e:(((s3.up 1).bF (s3.n+0) (.arr 5 232 [cG (eU.mk h ky v 0)] 0)).bF to (.var 328 (.agg [.cz,.sl (s3.n+0) 0 1 1,.ptr co 0,.int .i64 0,.int .i64 0,.int .i64 ((log:Int) - 2),.int .i64 0]))).get (s3.n+0)=some (.arr 5 232 (([eU.mk h ky v 0]:List eU).map cG) 0):=St.eS St.aO (by omega);have ZL:=hc.dK fK b4 (bO n2) (bO n1);have Cv:∀v∈C, -1<=v/\v < 32768:=fun v hv=>by have:=ht.cv v hv; simp at this; omega
  have zL:=Bt (H:=H) (i:=0) (n:=1) (en:=eU.mk h ky v 0) hT b4.ok g4t g4e (by simp) (by omega) (by simp) (by omega) ZL Cv hn;have l3:=fK.lt hc.gr;try refine go ?_
  refine ak zL ?_;rintro d s5 ⟨C',q1,⟨st',q2⟩,q3⟩;have k5:aF W s3 s5:=(b4.mono fun j hj=>by subst hj; exact wt).trans (q3.mono fun j hj=>by subst hj; exact wr);have k0:aF W s s5:=(Az.mono fun j hj=>hj.elim).trans k5;have g5t:=q3.get b4.ok g4t n1;have g5e:=q3.get b4.ok g4e (by omega);have g4b:=b4.get fK gb (by omega);have g5b:=q3.get b4.ok g4b (by omega);have Ms:=q3.ok.lt g5t;have zd:=q3.ok;clear zL w6 pG g4t g4e g4b;try refine go ?_
  have b6:∀d1 d2 d3:D,aF (fun j=>j=to) s5 (((s5.bF to (.var 328 d1)).bF to (.var 328 d2)).bF to (.var 328 d3)):=fun d1 d2 d3=>
   aF.set (W:=fun j=>j=to) (aF.set (W:=fun j=>j=to) (aF.set (W:=fun j=>j=to) (aF.refl zd) _ Ms (fun _=>rfl)) _ Ms (fun _=>rfl)) _ Ms (fun _=>rfl)
  exact ai ⟨rfl,xz (log:=log) (E:=[]) (en:=eU.mk h ky v 0) St.aO ((b6 _ _ _).get zd g5e (by omega)) (aq _) (q2.dK zd (b6 _ _ _) (bO n2) (bO n1)) ht.la q1 hn (k0.trans ((b6 _ _ _).mono fun j hj=>by subst hj; exact wt)) (.inr (by omega)) (.inl wc) (.inl wr)⟩
end
section
variable {T:Nat->Option dU}{H Y:ay}
theorem Of {log n:Nat}(h3:3<=log)(h:n=2 * 2 ^ log / 3)(hE:n<=1000):log<=10/\3 * n<=2 ^ (log+1)/\(∀j,3<=j->j < log+1->2 ^ j < 3 * n)/\n < 2 * 2 ^ (log+1) / 3:=by
 have e8:8<=2 ^ log:=(c9 (by decide) h3:2 ^ 3<=2 ^ log);have e1:2 ^ (log+1)=2 * 2 ^ log:=by rw [jk,jQ]
 refine⟨?_,by omega,fun j hj hl=> ?_,by omega⟩
 ·rcases aH log 11 with h1 | h1
  ·omega
  ·have:2 ^ 11<=2 ^ log:=c9 (by decide) h1;omega
 ·have:2 ^ j<=2 ^ log:=c9 (by decide) (by omega);omega
theorem Nl (hT:TT T){s:St}{to eo co ro log st st0:Nat}{b:Bool}{E:List eU}{C:List Int}{h ky v:Int}{W:Nat->Prop}(hs:s.Ok)
  (ht:kE s to eo co ro log b st (.sl eo 0 E.length E.length) E C)(ge:s.get eo=some (.arr 5 232 (E.map cG) st0))(dN:st0<=E.length)(Fo:E.length=2 * 2 ^ log / 3)(hE:E.length<=1000)
  (wt:W to)(we:W eo):
  cu T H 226 [.ptr to 0,.int .i64 h,.int .i64 ky,.int .i64 v] s fun d s1=>d= .gK [.int .i64 (E.length:Nat),.int .i64 0]/\ES s to E (eU.mk h ky v (E.length:Nat)) W s1:=by
 obtain⟨n1,n2,n3,n4⟩:=ht.nt;have h3:=ht.ce.lo;have abG:=ht.ce.pow;obtain⟨acu,hL1,hL2,hn⟩:=Of ht.ce.lo Fo hE;have Az:aF (fun _=>False) s (s.bz (.var 278 (.ptr to 0))):=aF.push (aF.refl hs) _;have gb:(s.bz (.var 278 (.ptr to 0))).get s.n=some (.var 278 (.ptr to 0)):=St.bu;have gt:=Az.get hs ht.go (fun h=>h);have CT:=Az.get hs ge (fun h=>h);have hc:=ht.ce.dK hs Az (fun h=>h) (fun h=>h);have lt:=hs.lt ht.go; have le:=hs.lt ge; have lr:=hs.lt ht.ce.gr; have lc:=hs.lt ht.ce.go;have nte:to≠eo:=by rintro rfl; have:=ht.go; rw [this]at ge; cases ge
 have pQ:=eR E;have sG:E.map cG++ [cG (eU.mk h ky v (E.length:Nat))]=(E++ [eU.mk h ky v (E.length:Nat)]).map cG:=by simp
 have pG:=xf (H:=H) hT hc;have w6:=tT (H:=H) hT gt;have fK:=Az.ok;refine ax hT.t226 ?_;try refine go ?_
 generalize uL:s.bz (.var 278 (.ptr to 0))=s1 at *;have zA:s1.n=s.n+1:=by rw [← uL]; rfl
 refine ak w6 ?_;rintro d s2 rfl;try refine go ?_
 refine aX pG ?_;rintro d s3 ⟨rfl,rfl⟩;refine⟨rfl,by simp [lost,eQ.kind,cK,dE,cF,aI,bC,bC.cW,gk,bP.ev,Env.get,cS,D.flat,D.isAgg,cP,D.fw,D.beq,aA,Obj.aW,bE,br,D.bW,D.aW,gb,gt,CT], ?_⟩;try refine go ?_
 refine cV (fun hc=> ?_) (fun hc=> ?_);rotate_left
 ·exfalso;rw [Fo]at hc;simp at hc
 ·clear hc;have Lw:=M8 (H:=H) (L:=log+1) hT gb gt (by omega) (by omega) (by omega) hL1 hL2;have TO:=Q9 (H:=H) hT fK gt CT dN (by omega);try refine go ?_
  refine ak Lw ?_;rintro d s2 ⟨rfl,rfl⟩;try refine go ?_
  refine ak TO ?_;rintro d s4 ⟨z1,⟨Ft,z2,z3⟩,z4⟩;have gb4:=z4.get fK gb (by omega);have LN:=Ey (H:=H) (log:=log+1) hT z4.ok z1 (by omega) (by omega) (by omega);try refine go ?_
  refine ak LN ?_;rintro d s5 ⟨co',ro',b',st5,C0,y1,y2,y3,y4,y5,y6⟩;have ge5:=y6.get z4.ok z3 (bO nte);have gb5:=y6.get z4.ok gb4 (by omega);have dQ:=Jt (H:=H) hT y6.ok y3 (.sl eo _ Ft E ge5 z2 (aq _)) y4 y5 (by omega) (by omega);try refine go ?_
  refine ak dQ ?_;rintro d s6 ⟨C6,st6,x1,x2,x3⟩;have m4:=z4.n; have m5:=y6.n; have m6:=x3.n;have nrt:to≠ro' :=by omega
  have nre:eo≠ro' :=by omega
  have hm:(log:Int) - 2+1=((log+1:Nat):Int) - 2:=by omega
  rw [hm]at y3;have gt6:=x3.get y6.ok y3 nrt;have ge6:=x3.get y6.ok ge5 nre;have gb6:=x3.get y6.ok gb5 (by omega);have kk:aF W s s6:=(Az.mono fun j hj=>hj.elim).trans ((z4.mono fun j hj=>by rcases hj with rfl | rfl; exact we; exact wt).trans ((y6.mono fun j hj=>by subst hj; exact wt).trans' x3 (by rintro j rfl hj; omega)));have Ou:=x3.ok;have lt3:=Ou.lt gt6; have le3:=Ou.lt ge6
  have b4:aF (fun j=>j=eo\/j=to) s6 (((s6.up 1).bF eo (.arr 5 232 (E.map cG++ [cG (eU.mk h ky v (E.length:Nat))]) Ft)).bF to (.var 328 (.agg [.cz,.sl eo 0 (E.length+1) (E.length+1),.ptr co' 0,.int .i64 (E.length:Nat),.int .i64 (E.length:Nat),.int .i64 (((log+1:Nat):Int) - 2),.int .i64 (E.length:Nat)]))):=
   aF.set (W:=fun j=>j=eo\/j=to) (aF.set (W:=fun j=>j=eo\/j=to) (aF.up (aF.refl Ou) 1) _ (by rw [St.jx]; omega) (fun _=> .inl rfl)) _ (by rw [St.fE,St.jx]; omega) (fun _=> .inr rfl)
  have g4t:(((s6.up 1).bF eo (.arr 5 232 (E.map cG++ [cG (eU.mk h ky v (E.length:Nat))]) Ft)).bF to (.var 328 (.agg [.cz,.sl eo 0 (E.length+1) (E.length+1),.ptr co' 0,.int .i64 (E.length:Nat),.int .i64 (E.length:Nat),.int .i64 (((log+1:Nat):Int) - 2),.int .i64 (E.length:Nat)]))).get to=_:=St.aO;have g4e:(((s6.up 1).bF eo (.arr 5 232 (E.map cG++ [cG (eU.mk h ky v (E.length:Nat))]) Ft)).bF to (.var 328 (.agg [.cz,.sl eo 0 (E.length+1) (E.length+1),.ptr co' 0,.int .i64 (E.length:Nat),.int .i64 (E.length:Nat),.int .i64 (((log+1:Nat):Int) - 2),.int .i64 (E.length:Nat)]))).get eo=some (.arr 5 232 ((E++ [eU.mk h ky v (E.length:Nat)]).map cG) Ft):=by
   rw [← sG]; exact St.eS St.aO (bO nte)
  have ZL:=x2.dK Ou b4 (by omega) (by omega);have Cv:∀v∈C6, -1<=v/\v < 32768:=fun v hv=>by have:=x1.zS v hv; rw [aJ]at this; omega
  have zL:=Bt (H:=H) (i:=E.length) (n:=E.length+1) (en:=eU.mk h ky v (E.length:Nat)) hT b4.ok g4t g4e (by simp) (mX _) (by simp) (by omega) ZL Cv hn;clear Lw TO LN dQ w6 pG gb gt CT hc;try refine go ?_
  refine ak zL ?_;rintro d s7 ⟨C',q1,⟨st',q2⟩,q3⟩;have k7:aF W s s7:=(kk.trans' b4 (by rintro j (rfl | rfl) hj; exact we; exact wt)).trans' q3 (by rintro j rfl hj; omega);have g5t:=q3.get b4.ok g4t nrt;have g5e:=q3.get b4.ok g4e nre;have g4b:=b4.get Ou gb6 (by omega);have g5b:=q3.get b4.ok g4b (by omega);have Ms:=q3.ok.lt g5t;have zd:=q3.ok;clear zL g4t g4e g4b gb4 gb5 gb6 gt6 ge6 z1;try refine go ?_
  have b6:∀d1 d2 d3:D,aF (fun j=>j=to) s7 (((s7.bF to (.var 328 d1)).bF to (.var 328 d2)).bF to (.var 328 d3)):=fun d1 d2 d3=>
   aF.set (W:=fun j=>j=to) (aF.set (W:=fun j=>j=to) (aF.set (W:=fun j=>j=to) (aF.refl zd) _ Ms (fun _=>rfl)) _ Ms (fun _=>rfl)) _ Ms (fun _=>rfl)
  exact ai ⟨rfl,xz (log:=log+1) St.aO ((b6 _ _ _).get zd g5e (bO nte)) z2 (q2.dK zd (b6 _ _ _) (by omega) (by omega)) x1 q1 hn (k7.trans ((b6 _ _ _).mono fun j hj=>by subst hj; exact wt)) (.inl we) (.inr (by omega)) (.inr (by omega))⟩
end
section
variable {T:Nat->Option dU}{H Y:ay}
theorem Wv (hT:TT T){s:St}{to eo co ro log st:Nat}{b:Bool}{x:D}{E:List eU}{C:List Int}{h ky v:Int}{W:Nat->Prop}(hs:s.Ok)
  (ht:kE s to eo co ro log b st x E C)(hE:E.length<=1000)(wt:W to)(we:W eo)(wr:W ro)(wc:W co):
  cu T H 226 [.ptr to 0,.int .i64 h,.int .i64 ky,.int .i64 v] s fun d s1=>d= .gK [.int .i64 (E.length:Nat),.int .i64 0]/\ES s to E (eU.mk h ky v (E.length:Nat)) W s1:=by
 have he:=ht.en;rcases he with _ | ⟨_,st0,E,g,dN⟩
 ·exact add_nil hT hs ht wt wr wc
 ·rcases Nat.lt_or_eq_of_le ht.rm with h1 | h1
  ·exact W3 hT hs ht g dN h1 hE wt we wr wc
  ·exact Nl hT hs ht g dN h1 hE wt we
theorem Qi (hT:TT T){s:St}{to n:Nat}{x c n2 n3 n4:D}(gt:s.get to=some (.var 328 (.agg [.cz,x,c,.int .i64 (n:Nat),n2,n3,n4]))):
  cu T H 210 [.ptr to 0] s fun d s1=>d= .int .i64 (n:Nat)/\s1=s:=by
 refine ax hT.t210 ?_;try refine go ?_
 exact ai ⟨rfl,rfl⟩
theorem AN (hT:TT T){s:St}{to eo st i:Nat}{E:List eU}{c n1 n2 n3 n4:D}(gt:s.get to=some (.var 328 (.agg [.cz,.sl eo 0 E.length E.length,c,n1,n2,n3,n4])))(ge:s.get eo=some (.arr 5 232 (E.map cG) st))(dN:st<=E.length)(hi:i < E.length)(hE:E.length<=2000):
  cu T H 233 [.ptr to 0,.int .i64 (i:Nat)] s fun d s1=>d= .int .i64 0/\s1=s:=by
 have pW:(E.map cG)[0+i]? =some (cG E[i]):=by rw [aN,aC,ab hi]; rfl
 have pQ:=eR E;refine ax hT.t233 ?_;try refine go ?_
 exact ai ⟨rfl,rfl⟩
theorem To (hT:TT T){s:St}{to eo st i:Nat}{E:List eU}{e:eU}{c n1 n2 n3 n4:D}(gt:s.get to=some (.var 328 (.agg [.cz,.sl eo 0 E.length E.length,c,n1,n2,n3,n4])))(ge:s.get eo=some (.arr 5 232 (E.map cG) st))(dN:st<=E.length)(hi:E[i]? =some e)(hE:E.length<=2000):
  cu T H 180 [.ptr to 0,.int .i64 (i:Nat)] s fun d s1=>d= .gK [cG e,.int .i64 0]/\s1=s:=by
 have hl:i < E.length:=(aj.mp hi).1;have pW:(E.map cG)[0+i]? =some (cG e):=by rw [aN,aC,hi]; rfl
 have pQ:=eR E;have hw:=AN (H:=H) hT gt ge dN hl hE;refine ax hT.t180 ?_;try refine go ?_
 refine ak hw ?_;rintro d s1 ⟨rfl,rfl⟩;try refine go ?_
 exact ai ⟨rfl,rfl⟩
end
theorem fg.pos {log:Nat}{hs C:List Int}(hl:fg log hs C)(hn:hs.length<=2 ^ log):∀(v:Nat) (h:Int),hs[v]? =some h->∃j,C[(gC log h j).1]? =some (v:Int)/\∀i,i < j->∃w:Int,C[(gC log h i).1]? =some w/\0<=w/\w < (v:Int):=by
 induction hl with
 | nil=>intro v h hv; simp at hv
 | @snoc hs C C' g h0 h1 ih=>
  rw [aG,aZ]at hn;have hlen:=h0.len;rcases h1 with ⟨j,hj,e1,e2,rfl⟩ | ⟨e1,_⟩
  ·have bV:∀(c:Nat) (w:Int),C[c]? =some w->0<=w->(C.set (gC log g j).1 (hs.length:Nat))[c]? =some w:=by
    intro c w hc hw;rw [mq];split
    ·rename_i e;rw [← e,e1]at hc;simp only [aa]at hc;omega
    ·exact hc
   intro v h hv;rcases aH v hs.length with dM | pW
   ·rw [aP dM]at hv;obtain⟨p,p1,p2⟩:=ih (by omega) v h hv;refine⟨p,bV _ _ p1 (by omega),fun i hi=> ?_⟩;obtain⟨w,w1,w2,w3⟩:=p2 i hi;exact⟨w,bV _ _ w1 w2,w2,w3⟩
   ·rw [aT pW]at hv;have kz:v=hs.length:=by
     have:=(aj.mp hv).1;simp at this; omega
    subst kz;simp only [eG,aR,aa]at hv;subst hv;refine⟨j, ?_,fun i hi=> ?_⟩
    ·rw [mq,bT rfl,bT (by rw [hlen]; exact lQ _ _ _)]
    ·have mD:(gC log g i).1 < C.length:=by rw [hlen]; exact lQ _ _ _
     have cE:=e2 i hi;rw [ab mD]at cE;have hv:=h0.zS _ (bH mD);simp only [ne_eq,aa]at cE;refine⟨C[(gC log g i).1],bV _ _ (ab mD) (by omega),by omega,by omega⟩
  ·exfalso;obtain⟨i,_,h3,h4⟩:=h0.empty (by omega) g 0;exact e1 i (by omega) h4
def Seen (log:Nat)(h:Int)(E:List eU)(C:List Int)(J:Nat)(told:Int):Prop:=(∀i,i < J->C[(gC log h i).1]? ≠some (-1))/\∀i,i < J->∀(v:Nat) (e:eU),C[(gC log h i).1]? =some (v:Int)->E[v]? =some e->e.h=h->(v:Int)<=told
def rH (E:List eU)(h told:Int):Option Nat->Prop
 | some v=>told < (v:Int)/\(∃e,E[v]? =some e/\e.h=h)/\∀(w:Nat) (e:eU),told < (w:Int)->w < v->E[w]? =some e->e.h≠h
 | none=>∀(w:Nat) (e:eU),told < (w:Int)->E[w]? =some e->e.h≠h
section
variable {log:Nat}{h:Int}{E:List eU}{C:List Int}{J:Nat}{told:Int}
theorem Seen.start:Seen log h E C 0 (-1):=⟨fun i hi=>absurd hi (lM i),fun i hi=>absurd hi (lM i)⟩
theorem HU {v:Nat}{e:eU}(he:E[v]? =some e):(gX E)[v]? =some e.h:=by rw [aC,he]; rfl
theorem Seen.over (hs:Seen log h E C J told)(hl:fg log (gX E) C)(hn:E.length<=2 ^ log)(hv:C[(gC log h J).1]? =some (-1)):rH E h told none:=by
 intro w e hw he hh;obtain⟨p,p1,p2⟩:=hl.pos (by rw [aJ]; exact hn) w h (by rw [HU he,hh]);rcases gZ p J with h1 | h1 | h1
 ·have:=hs.2 p h1 w e p1 he hh; omega
 ·subst h1; rw [hv]at p1; simp only [aa]at p1; omega
 ·obtain⟨x,x1,x2,x3⟩:=p2 J h1;rw [hv]at x1; simp only [aa]at x1; omega
theorem Seen.pass {v:Int}(hs:Seen log h E C J told)(hv:C[(gC log h J).1]? =some v)(h0:0<=v)(cE: ¬ (told < v/\∃e,E[v.toNat]? =some e/\e.h=h)):Seen log h E C (J+1) told:=by
 refine⟨fun i hi=> ?_,fun i hi w e hw he hh=> ?_⟩
 ·rcases aH i J with h1 | h1
  ·exact hs.1 i h1
  ·rw [show i=J by omega,hv]; simp <;> omega
 ·rcases aH i J with h1 | h1
  ·exact hs.2 i h1 w e hw he hh
  ·rw [show i=J by omega,hv]at hw;simp only [aa]at hw;subst hw;rcases kV told (w:Int) with h2 | h2
   ·exact absurd ⟨h2,e,by simpa using he,hh⟩ cE
   ·exact h2
theorem Seen.tell {v:Nat}{e:eU}(hs:Seen log h E C J told)(hl:fg log (gX E) C)(hn:E.length<=2 ^ log)(hv:C[(gC log h J).1]? =some (v:Int))(ht:told < (v:Int))(he:E[v]? =some e)(hh:e.h=h):rH E h told (some v)/\Seen log h E C (J+1) (v:Int):=by
 have at_:∀(w:Nat) (x:eU),E[w]? =some x->x.h=h->∃p,C[(gC log h p).1]? =some (w:Int)/\∀i,i < p->∃y:Int,C[(gC log h i).1]? =some y/\0<=y/\y < (w:Int):=fun w x hx X8=>hl.pos (by rw [aJ]; exact hn) w h (by rw [HU hx,X8]);refine⟨⟨ht,⟨e,he,hh⟩,fun w x hw hwv hx X8=> ?_⟩,fun i hi=> ?_,fun i hi w x hw hx X8=> ?_⟩
 ·obtain⟨p,p1,p2⟩:=at_ w x hx X8;obtain⟨q,q1,q2⟩:=at_ v e he hh;rcases gZ p J with h1 | h1 | h1
  ·have:=hs.2 p h1 w x p1 hx X8; omega
  ·subst h1; rw [hv]at p1; simp only [aa]at p1; omega
  ·obtain⟨y,y1,y2,y3⟩:=p2 J h1;rw [hv]at y1; simp only [aa]at y1; omega
 ·rcases aH i J with h1 | h1
  ·exact hs.1 i h1
  ·rw [show i=J by omega,hv]; simp <;> omega
 ·rcases aH i J with h1 | h1
  ·have:=hs.2 i h1 w x hw hx X8; omega
  ·rw [show i=J by omega,hv]at hw;simp only [aa]at hw;omega
end
@[reducible] def qT (to:Nat) (h:Int) (log J:Nat) (turns:Int) (visited told:Int) (ended:Bool):D:=
 .agg [.ptr to 0,.int .i64 h,.int .i64 ((gC log h J).1:Nat),.int .u64 ((gC log h J).2:Nat),.int .i64 turns,.int .i64 visited,.int .i64 told,.bool ended]
theorem uP {s:St}{b kk o:Nat}{y:Option Ab.Obj}{ro:Bool}(h:s.get o=y)(ho:o < b):(⟨s.n,sM kk b s.h,s.lk,ro⟩:St).get o=y:=by
 simp only [St.get]at h ⊢;rw [ql,aK (by omega)]; exact h
theorem cr.cut {s:St}{co ro log st bb kk:Nat}{b:Bool}{C:List Int}{r:Bool}(h:cr s co ro log b st C)(h1:co < bb)(h2:ro < bb):cr ⟨s.n,sM kk bb s.h,s.lk,r⟩ co ro log b st C:=
 ⟨uP h.go h1,uP h.gr h2,h.ln,h.st,h.lo,h.hi,h.ne⟩
section
variable {T:Nat->Option dU}{H Y:ay}
theorem Rp (hT:TT T){s:St}{to eo co ro log st:Nat}{b:Bool}{x:D}{E:List eU}{C:List Int}{h:Int}(hs:s.Ok)(ht:kE s to eo co ro log b st x E C):
  cu T H 176 [.ptr to 0,.int .i64 h] s fun d s1=>d= .ptr s.n 0/\s1.get s.n=some (.var 330 (qT to h log 0 (E.length:Nat) 0 (-1) false))/\aF Nil s s1:=by
 have gt:=ht.go;have uk:log<=15:=by have:=ht.ce.hi; split at this <;> omega
 have lt:=hs.lt gt; have lr:=hs.lt ht.ce.gr; have lc:=hs.lt ht.ce.go;have w6:=tT (H:=H) hT gt;have uo:cr ⟨(s.up 1).n,sM (0+1) s.n (s.up 1).h,(s.up 1).lk,true⟩ co ro log b st C:=cr.cut (s:=s.up 1) ⟨ht.ce.go,ht.ce.gr,ht.ce.ln,ht.ce.st,ht.ce.lo,ht.ce.hi,ht.ce.ne⟩ lc lr;have ZB:=Gs (H:=H) hT uo;have XZ:=NW (H:=H) (h:=h) (log:=log) (s:=⟨(s.up 1).n,sM (0+1) s.n (s.up 1).h,(s.up 1).lk,true⟩) hT uk;refine ax hT.t176 ?_;try refine go ?_
 refine ak w6 ?_;rintro d s2 rfl;try refine go ?_
 refine tH ZB ?_;rintro d s3 ⟨rfl,rfl⟩;refine⟨rfl, ?_⟩;try refine go ?_
 refine tH XZ ?_;rintro d s3 ⟨rfl,rfl⟩;refine⟨rfl, ?_⟩;have hb:aF Nil s2 ((s2.up 1).bF (s2.n+0) (.var 330 (qT to h log 0 (E.length:Nat) 0 (-1) false))):=aF.set (W:=Nil) (aF.up (aF.refl hs) 1) _ (by rw [St.jx]; omega) (fun h=>by omega);try refine go ?_
 simp only [sA];exact ai ⟨rfl,St.aO,hb⟩
theorem aaf (hT:TT T){s:St}{so to co ro log st J:Nat}{b:Bool}{x n1 n2 n3 n4:D}{C:List Int}{h turns visited told:Int}{ended:Bool}(hs:s.Ok)(gt:s.get to=some (.var 328 (.agg [.cz,x,.ptr co 0,n1,n2,n3,n4])))(hc:cr s co ro log b st C)
  (gs:s.get so=some (.var 330 (qT to h log J turns visited told ended))):
  cu T H 232 [.ptr so 0] s fun _ s1=>s1.get so=some (.var 330 (qT to h log (J+1) turns visited told ended))/\aF (fun j=>j=so) s s1:=by
 have uk:log<=15:=by have:=hc.hi; split at this <;> omega
 have nst:to≠so:=by rintro rfl; rw [gt]at gs; simp at gs
 have ncs:co≠so:=by rintro rfl; have:=hc.go; rw [this]at gs; simp at gs
 have nrs:ro≠so:=by rintro rfl; have:=hc.gr; rw [this]at gs; cases gs
 have ls:=hs.lt gs;have hp:=my uk;have e1:=CP uk;have e2:=Ck hp.1 hp.2;have q1:=lQ log h J;have q2:=rV log h J;have q3:=um log h J;have q4:IntKind.wrap .u64 ((gC log h J).1:Int)=((gC log h J).1:Int):=by
  generalize (gC log h J).1=c at q1 ⊢;generalize 2 ^ log=N at q1 hp;exact kP (by omega) (by omega)
 have q5:=uH (a:=5 * (gC log h J).1+(gC log h J).2 / 32+1) (log:=log) (by
  generalize (gC log h J).1=c at q1 ⊢;generalize 2 ^ log=N at q1 hp;omega) uk
 have q6:=step_eq q1 q2 hp.2;have q7:(gC log h (J+1)).1=(5 * (gC log h J).1+(gC log h J).2 / 32+1) % 2 ^ log:=by rw [q3]; rfl
 have q8:(gC log h (J+1)).2=(gC log h J).2 / 32:=by rw [q3]; rfl
 have Z9:=lQ log h (J+1);have q9:IntKind.wrap .i64 ((gC log h (J+1)).1:Int)=((gC log h (J+1)).1:Int):=by
  generalize (gC log h (J+1)).1=c at Z9 ⊢;generalize 2 ^ log=N at Z9 hp;exact wrap_small (by omega) (by omega)
 have kO:∀d:D,aF (fun j=>j=so) s (s.bF so (.var 330 d)):=fun d=>aF.set (W:=fun j=>j=so) (aF.refl hs) _ ls (fun _=>rfl);have hgs:∀d:D,(s.bF so (.var 330 d)).get so=some (.var 330 d):=fun _=>St.aO;have u7:∀d:D,(s.bF so (.var 330 d)).get to=_:=fun d=>(kO d).get hs gt nst;have ZB:∀d:D,cu T H 229 [.ptr co 0] (s.bF so (.var 330 d)) _:=fun d=>Gs (H:=H) hT (hc.dK hs (kO d) ncs nrs);rw [← q8]at q5 q6 q7;refine ax hT.t232 ?_;try refine go ?_
 rw [WV,← q8];simp only [q4,q6];refine aX (ZB _) ?_;rintro d s2 ⟨rfl,rfl⟩;refine⟨rfl,by simp [lost,eQ.kind,cK,dE,cF,aI,bC,bC.cW,gk,bP.ev,Env.get,cS,D.flat,D.isAgg,cP,D.fw,D.beq,aA,Obj.aW,bE,br,D.bW,D.aW,hgs,u7], ?_⟩;try refine go ?_
 rw [e1,e2,q5,← q7,q9];have jK:∀d1 d2:D,aF (fun j=>j=so) s ((s.bF so (.var 330 d1)).bF so (.var 330 d2)):=fun d1 d2=>aF.set (W:=fun j=>j=so) (kO d1) _ ls (fun _=>rfl);exact iu ⟨St.aO,jK _ _⟩
end
end Go.Proofs.Tab
