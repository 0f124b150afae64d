/- Part. -/
import Derived.Test.YthaiegafejbmoaaGreatDoorG26
set_option linter.unusedSectionVars false
set_option maxRecDepth 100000
set_option maxHeartbeats 2000000
set_option linter.unusedSimpArgs false
set_option linter.unusedVariables false
namespace Go.Proofs.Tab
open Go Go.Ab Go.Ab.Sm
inductive gN (log:Nat):List Int->List Int->Prop
 | nil:gN log [] (List.replicate (2 ^ log) (-1))
 | snoc {hs C C' :List Int} {h:Int} (h0:gN log hs C) (h1:Laid log h (hs.length:Nat) C C'):gN log (hs++ [h]) C'
theorem gN.len {log:Nat}{hs C:List Int}(h:gN log hs C):C.length=2 ^ log:=by
 induction h with
 | nil=>simp
 | snoc h0 h1 ih=>
  rcases h1 with ⟨j,_,_,_,rfl⟩ | ⟨_,rfl⟩
  ·rw [iL]; exact ih
  ·exact ih
theorem gN.T8 {log:Nat}{hs C:List Int}(h:gN log hs C):∀v∈C, -1<=v/\v < (hs.length:Int):=by
 induction h with
 | nil=>intro v hv; rw [List.mem_replicate]at hv; simp [hv.2]
 | snoc h0 h1 ih=>
  intro v hv;rw [an,aC];rcases h1 with ⟨j,_,_,_,rfl⟩ | ⟨_,rfl⟩
  ·rcases List.mem_or_eq_of_mem_set hv with hv | rfl
   ·have:=ih v hv; omega
   ·omega
  ·have:=ih v hv; omega
def full (C:List Int):Nat:=C.countP (fun v=> !(v== -1))
theorem Od {C:List Int}{i:Nat}{v:Int}:full (C.set i v)<=full C+1:=by
 unfold full;induction C generalizing i with
 | nil=>simp
 | cons c C ih=>
  cases i with
  | zero=>simp only [jD,me]; split <;> split <;> omega
  | succ i=>
   simp only [List.set_cons_succ,me];have:=ih (i:=i);omega
theorem gN.full {log:Nat}{hs C:List Int}(h:gN log hs C):full C<=hs.length:=by
 induction h with
 | nil=>simp [Tab.full,List.countP_replicate]
 | snoc h0 h1 ih=>
  rw [an,aC];rcases h1 with ⟨j,_,_,_,rfl⟩ | ⟨_,rfl⟩
  ·exact bW Od (Nat.succ_le_succ ih)
  ·omega
theorem N0 {C:List Int}(h:full C < C.length):∃i,i < C.length/\C[i]? =some (-1):=by
 unfold full at h;induction C with
 | nil=>simp at h
 | cons c C ih=>
  by_cases hc:c= -1
  ·exact⟨0,by simp,by simp [hc]⟩
  ·have e:(!(c== -1))=true:=by simp [hc]
   rw [me,bQ e,aT]at h;obtain⟨i,h1,h2⟩:=ih (by omega);exact⟨i+1,by simpa using h1,by simpa using h2⟩
theorem gN.empty {log:Nat}{hs C:List Int}(h:gN log hs C)(hn:hs.length < 2 ^ log)(g:Int)(J:Nat):∃i,J<=i/\i < J+(13+2 ^ log)/\C[(kj log g i).1]? =some (-1):=by
 obtain⟨b,hb,jb⟩:=N0 (C:=C) (by rw [h.len]; exact Nat.lt_of_le_of_lt h.full hn);rw [h.len]at hb;obtain⟨k,hk,e⟩:=Trail.comes (log:=log) (c:=(kj log g J).1) (p:=(kj log g J).2) (pO _ _ _) (vg _ _ _) hb;refine⟨J+k,by omega,by omega, ?_⟩;have:kj log g (J+k)=Trail.iter (Trail.step log) k (kj log g J):=Trail.pY _ _ _ _;rw [this];rw [show ((kj log g J).1,(kj log g J).2)=kj log g J from rfl]at e;rw [e]; exact jb
abbrev iC (E:List dY):List Int:=E.map dY.h
theorem gN.take {log j:Nat}{E:List dY} {C C' :List Int}{e:dY}(h:gN log ((iC E).take j) C)(he:E[j]? =some e)(h1:Laid log e.h (j:Nat) C C'):gN log ((iC E).take (j+1)) C' :=by
 have hl:j < E.length:=(aj.mp he).1;have e1:(iC E).take (j+1)=(iC E).take j++ [e.h]:=by
  rw [gH,aO,he]; rfl
 have e2:((iC E).take j).length=j:=by simp; omega
 rw [e1];refine .snoc h ?_;rw [e2]; exact h1
section
variable {T:Nat->Option dJ}{H Y:au}
theorem Kg (hT:TT T){s:St}{to co ro eo log st:Nat}{x n1 n2 n3 n4:D}{b:Bool}{C:List Int}{E:List dY}(hs:s.Ok)
  (gt:s.get to=some (.var 279 (.agg [.dU,x,.ptr co 0,n1,n2,n3,n4])))(he:vq s x eo E)(hc:bS s co ro log b st C)(hC:gN log [] C)(hE:E.length<=2 * 2 ^ log / 3)(H4:E.length<=32000):
  bY T H 202 [.ptr to 0] s fun _ s1=>∃C' st',gN log (iC E) C' /\bS s1 co ro log b st' C' /\aH (fun j=>j=ro) s s1:=by
 rcases he with _ | ⟨_,cp,st',E,ge,h1,h2⟩
 ·refine aD hT.t202 ?_;try refine go ?_
  refine jw ?_;try refine go ?_
  exact iG ⟨C,st,hC,hc,aH.refl hs⟩
 ·refine aD hT.t202 ?_;have nro:to≠ro:=by rintro rfl; have:=hc.gr; rw [gt]at this; cases this
  have nre:eo≠ro:=by rintro rfl; have:=hc.gr; rw [ge]at this; cases this
  try refine go ?_
  refine fw E.length (fun j=> [(0,.ptr to 0),(7,.int .i64 (E.length:Nat)),(8,.int .i64 (j:Nat))]) (fun j s' =>∃C' st',gN log ((iC E).take j) C' /\bS s' co ro log b st' C' /\aH (fun j=>j=ro) s s') ⟨C,st,hC,hc,aH.refl hs⟩ ?_;rintro j s' hj ⟨C',xh,q1,q2,q3⟩;rcases aP j E.length with hl | hl
  ·have hej:E[j]? =some E[j]:=ak hl;generalize E[j]=en at hej
   have C5:∀v∈C', -1<=v/\v < 32768:=fun v hv=>by
    have:=q1.T8 v hv;rw [dB,aY]at this;omega
   have AB:=Cu (H:=H) hT q3.ok (q3.get hs gt nro) (q3.get hs ge nre) hej hl (aq _) (bW h1 h2) q2 C5 (by omega);try refine go ?_
   refine af AB ?_;rintro d s2 ⟨C2,z1,⟨st3,z2⟩,z3⟩;try refine go ?_
   exact dI hl ⟨C2,st3,q1.take hej z1,z2,q3.trans z3⟩
  ·have:j=E.length:=by omega
   subst this;try refine go ?_
   refine iG ⟨C',xh, ?_,q2,q3⟩;rw [fc (by simp)]at q1;exact q1
theorem Ks (hT:TT T){s:St}:bY T H 214 [.dU] s fun _ s1=>s1=s:=by
 refine aD hT.t214 ?_
 repeat' first | refine go ?_ | refine eD hT.t206 ?_
 exact iG rfl
theorem Kt (hT:TT T){s:St}:bY T H 173 [.dU,.int .i64 1] s fun _ s1=>s1=s:=by
 refine aD hT.t173 ?_
 repeat' first | refine go ?_ | refine eD hT.t206 ?_
 exact iG rfl
theorem El (hT:TT T){s:St}{to log:Nat}{x c n1 n2 n4:D}{m:Int}(hs:s.Ok)(gt:s.get to=some (.var 279 (.agg [.dU,x,c,n1,n2,.int .i64 m,n4])))(hm:0<=m/\m < 1000000)(h3:3<=log)(hh:log<=15):
  bY T H 183 [.ptr to 0,.int .i64 (log:Nat)] s fun _ s1=>∃co ro b st C,s.n<=co/\s.n<=ro/\s1.get to=some (.var 279 (.agg [.dU,x,.ptr co 0,n1,n2,.int .i64 (m+1),n4]))/\bS s1 co ro log b st C/\gN log [] C/\aH (fun j=>j=to) s s1:=by
 have hn:=RP (H:=H) hT hs h3 hh;have lt:=hs.lt gt;have hw:IntKind.wrap .i64 (m+1)=m+1:=wrap_small (by omega) (by omega);refine aD hT.t183 ?_;try refine go ?_
 refine af hn ?_;rintro d s1 ⟨rfl,q1,⟨b,st,q2⟩,q3⟩;have g1:=q3.get hs gt (fun h=>h);have l1:=q3.ok.lt g1;have lE:=q3.ok;try refine go ?_
 refine af (Ks hT) ?_;rintro d s2 rfl;try refine go ?_
 rw [hw];have b1:∀d1 d2:D,aH (fun j=>j=to) s1 ((s1.bn to (.var 279 d1)).bn to (.var 279 d2)):=fun d1 d2=>aH.set (W:=fun j=>j=to) (aH.set (W:=fun j=>j=to) (aH.refl lE) _ l1 (fun _=>rfl)) _ l1 (fun _=>rfl);exact iG ⟨s.n+1,s.n,b,st,_,by omega,by omega,St.aG,q2.dT lE (b1 _ _) (by omega) (by omega),.nil,(q3.mono fun j hj=>hj.elim).trans (b1 _ _)⟩
theorem I4 (hT:TT T){s:St}(hs:s.Ok):
  bY T H 130 [.dU] s fun d s1=>d= .ptr s.n 0/\∃co ro b st C,s.n < co/\s.n < ro/\s1.get s.n=some (.var 279 (.agg [.dU,.vs true 0 [],.ptr co 0,.int .i64 0,.int .i64 0,.int .i64 1,.int .i64 0]))/\bS s1 co ro 3 b st C/\gN 3 [] C/\aH Nil s s1:=by
 have hb:=aH.push (aH.refl (W:=Nil) hs) (.var 279 (.agg [.dU,.vs true 0 [],.dU,.int .i64 0,.int .i64 0,.int .i64 0,.int .i64 0]));have hi:=El (H:=H) (log:=3) hT hb.ok St.bq (m:=0) (by omega) (by omega) (by omega);refine aD hT.t130 ?_;try refine go ?_
 refine af hi ?_;rintro d s1 ⟨co,ro,b,st,C,q1,q2,q3,q4,q5,q6⟩;simp only [St.ck]at q1 q2;try refine go ?_
 exact ai ⟨rfl,co,ro,b,st,C,q1,q2,q3,q4,q5,hb.trans' q6 (by rintro j rfl hj; omega)⟩
end
section
variable {T:Nat->Option dJ}{H Y:au}
noncomputable def NX:AC:=match HN.1.body with
 | .seq _ (.seq (.seq _ (.block _ c)) _)=>c
 | _=> .skip
theorem gu (E:List dY):(E.map dw).length=E.length:=aY _
theorem over_self {α:Type}:∀(l:List α) (i:Nat) (x:α),l[i]? =some x->over l i [x]=l
 | [],i,x,h=>by simp at h
 | a::l,0,x,h=>by simp at h; subst h; simp [over]
 | a::l,i+1,x,h=>by simp only [over]; rw [over_self l i x (by simpa using h)]
theorem mP {α:Type}:∀(l:List α) (i:Nat),over l i []=l
 | [],0=>rfl
 | [],i+1=>rfl
 | a::l,0=>rfl
 | a::l,i+1=>by simp only [over,mP l i]
theorem Jz {s:St}{eo st cp i:Nat}{E:List dY}{e:dY}(hs:s.Ok)(hg:s.get eo=some (.arr 5 236 (E.map dw) st))(cG:st<=i+cp)(yX:st<=E.length)(hi:E[i]? =some e):
  ∃s1,iA s 5 (.sl eo i 1 cp) [dw e]=some s1/\(∃st',st' <=E.length/\(st' =st\/i+1=E.length)/\s1.get eo=some (.arr 5 236 (E.map dw) st'))/\aH (fun j=>j=eo) s s1:=by
 have hl:i < E.length:=(aj.mp hi).1;have vO:(E.map dw)[i]? =some (dw e):=by rw [aO,hi]; rfl
 have e5:Nat.beq 5 5=true:=rfl;by_cases h:i+1=E.length
 ·refine⟨s.bn eo (.arr 5 236 (E.map dw) (E.map dw).length), ?_,⟨E.length,aq _,.inr h,by rw [St.aG,gu]⟩,aH.set (aH.refl hs) _ (hs.lt hg) (fun _=>rfl)⟩;have e1:Nat.beq (i+1) (E.map dw).length=true:=by rw [gu,h]; exact aA _
  have e2:Nat.ble [dw e].length 1=true:=rfl;simp only [iA,hg,e5,e1,e2,over_self _ _ _ vO,hs.set]
 ·refine⟨s, ?_,⟨st,yX,.inl rfl,hg⟩,aH.refl hs⟩;have e1:Nat.beq (i+1) (E.map dw).length=false:=by rw [gu]; exact T.ui h
  have e2:Nat.ble [dw e].length 1=true:=rfl;have e3:Nat.ble (i+1) (E.map dw).length=true:=ax (by rw [gu]; omega);have e4:Nat.ble st (i+cp)=true:=ax cG;have e6:((E.map dw).drop i).take 1=[dw e]:=by
   rw [fg (by rw [gu]; exact hl)];simp only [fZ,oz];have:=aj.mp vO;rw [this.2]
  have e7:[dw e].all CQ=true:=rfl;have e8:D.fC [dw e] [dw e]=true:=by simp [dw,D.fC,D.beq]
  simp only [iA,hg,e5,e1,e2,e3,e4,aT,b9,aU,e6,e7,e8,dS]
theorem RV {s s1:St}{eo st i:Nat}{E:List dY}{e:dY}{env:Env}{x y:bO}(hg:s.get eo=some (.arr 5 236 (E.map dw) st))(cG:st<=E.length)(hi:E[i]? =some e)(hf:iA s 5 (.sl eo i 1 (E.length - i)) [dw e]=some s1)
  (hx:x.ev env=some (.sl eo i 1 (E.length - i)))(hy:y.ev env=some (.sl eo i 1 (E.length - i))):cg fm env s none (.copy 5 x y)=some (.int .i64 1,s1):=by
 have hl:i < E.length:=(aj.mp hi).1;have vO:(E.map dw)[i]? =some (dw e):=by rw [aO,hi]; rfl
 have e3:Nat.ble (i+1) (E.map dw).length=true:=ax (by rw [gu]; omega);have e4:Nat.ble st (i+(E.length - i))=true:=ax (by omega);have e6:((E.map dw).drop i).take 1=[dw e]:=by
  rw [fg (by rw [gu]; exact hl)];simp only [fZ,oz];have:=aj.mp vO;rw [this.2]
 have e7:eC 5 ([dw e].take 1)=true:=rfl;simp only [cg,hx,hy,items,hg,e3,e4,e6,pJ,e7,aA,eG];simp only [fZ,oz,hf,nY];rfl
theorem NH {s:St}{eo st cp:Nat}{E:List dY}{env:Env}{x:bO}{z:D}(hs:s.Ok)(hg:s.get eo=some (.arr 5 236 (E.map dw) st))(hx:x.ev env=some (.sl eo E.length 0 cp))(hz:eC 5 [z]=true):
  cg fm env s none (.clear 5 z x)=some (.gW [],s.bn eo (.arr 5 236 (E.map dw) E.length)):=by
 have e1:Nat.beq (E.length+0) E.length=true:=aA _;have e2:over (E.map dw) E.length []=E.map dw:=by
  rw [show E.length=(E.map dw).length from (gu E).symm];exact mP _ _
 have e3:Nat.ble ([]:List D).length 0=true:=rfl;simp only [cg,hx,pJ,hz,List.replicate_zero,iA,hg,aA,e1,e3,e2,hs.set,nY,gu]
theorem Gr {s:St}{to eo st i:Nat}{c n1 n2 n3 n4:D}{E:List dY}{e:dY}{k:List iI}{Q:QP}(hs:s.Ok)
  (gt:s.get to=some (.var 279 (.agg [.dU,.sl eo 0 E.length E.length,c,n1,n2,n3,n4])))(ge:s.get eo=some (.arr 5 236 (E.map dw) st))(cG:st<=E.length)(hi:E[i]? =some e)(hE:E.length<=32000)
  (hk:∀s1 env,env.bM [0,2,8,9,10]=[(0,.ptr to 0),(2,.int .i64 (i+1:Nat)),(8,.sl eo 0 E.length E.length),(9,.int .i64 (E.length:Nat)),(10,.int .i64 (i+1:Nat))]->(∃st',st' <=E.length/\s1.get eo=some (.arr 5 236 (E.map dw) st'))->aH (fun j=>j=eo) s s1->lB T H .normal k ⟨env,[]⟩ s1 Q):
  dR T H (match NX with | .loop _ a=>a | _=> .skip) k ⟨[(0,.ptr to 0),(2,.int .i64 (i:Nat)),(8,.sl eo 0 E.length E.length),(9,.int .i64 (E.length:Nat)),(10,.int .i64 (i:Nat))],[]⟩ s Q:=by
 have hl:i < E.length:=(aj.mp hi).1;have qx:=gu E;have vO:(E.map dw)[0+i]? =some (dw e):=by rw [aU,aO,hi]; rfl
 have hw:IntKind.wrap .i64 ((i:Int)+1)=((i+1:Nat):Int):=by rw [wrap_small (by omega) (by omega)]; omega
 obtain⟨s1,c1,⟨st',c2,_,c3⟩,c4⟩:=Jz (cp:=E.length - i) hs ge (by omega) cG hi;show dR T H (.seq _ _) k _ s Q;try refine go ?_
 simp only [hw];try refine go ?_
 have Sr:i+1 - i=1:=by omega
 simp only [aQ,Sr,aU];refine lM (d:= .int .i64 1) (s1:=s1) ?_ rfl (RV ge cG hi c1 rfl rfl);try refine go ?_
 simp only [hw];exact hk _ _ rfl ⟨st',c2,c3⟩ c4
theorem RY (hT:TT T){s:St}{to eo st:Nat}{c n1 n2 n3 n4:D}{E:List dY}(hs:s.Ok)
  (gt:s.get to=some (.var 279 (.agg [.dU,.sl eo 0 E.length E.length,c,n1,n2,n3,n4])))(ge:s.get eo=some (.arr 5 236 (E.map dw) st))(cG:st<=E.length)(hE:E.length<=32000):
  bY T H 201 [.ptr to 0] s fun _ s1=>s1.get to=some (.var 279 (.agg [.dU,.sl eo 0 E.length E.length,c,n1,n2,n3,n4]))/\(∃st',st' <=E.length/\s1.get eo=some (.arr 5 236 (E.map dw) st'))/\aH (fun j=>j=eo\/j=to) s s1:=by
 have nte:to≠eo:=by rintro rfl; rw [gt]at ge; cases ge
 refine aD hT.t201 ?_;try refine go ?_
 refine fw E.length (fun j=> [(0,.ptr to 0),(2,.int .i64 (j:Nat)),(8,.sl eo 0 E.length E.length),(9,.int .i64 (E.length:Nat)),(10,.int .i64 (j:Nat))]) (fun j s' =>(∃st',st' <=E.length/\s'.get eo=some (.arr 5 236 (E.map dw) st'))/\aH (fun j=>j=eo) s s') ⟨⟨st,cG,ge⟩,aH.refl hs⟩ ?_;rintro j s' hj ⟨⟨st',q0,q1⟩,q2⟩;have gt' :=q2.get hs gt nte;rcases aP j E.length with hl | hl
 ·refine Gr (i:=j) q2.ok gt' q1 q0 (ak hl) hE ?_;intro s1 env he z1 z2;exact dI (hF:=he) hl ⟨z1,q2.trans z2⟩
 ·have:j=E.length:=by omega
  subst this;have qx:=gu E;try refine go ?_
  simp only [aQ,ef,aU];refine qF (s1:=s'.bn eo (.arr 5 236 (E.map dw) E.length)) ?_ rfl (NH q2.ok q1 rfl rfl);have jb:aH (fun j=>j=eo) s' (s'.bn eo (.arr 5 236 (E.map dw) E.length)):=aH.set (aH.refl q2.ok) _ (q2.ok.lt q1) (fun _=>rfl);have gt2:=jb.get q2.ok gt' nte;have lt2:=jb.ok.lt gt2;have ge2:(s'.bn eo (.arr 5 236 (E.map dw) E.length)).get eo=some (.arr 5 236 (E.map dw) E.length):=St.aG;have ok2:=jb.ok;generalize s'.bn eo (.arr 5 236 (E.map dw) E.length)=s2 at jb gt2 lt2 ge2 ok2 ⊢;try refine go ?_
  have yP:∀d:D,aH (fun j=>j=eo\/j=to) s2 (s2.bn to (.var 279 d)):=fun d=>aH.set (W:=fun j=>j=eo\/j=to) (aH.refl ok2) _ lt2 (fun _=> .inr rfl);exact iG ⟨St.aG,⟨E.length,aq _,St.cu ge2 (bE nte)⟩,((q2.trans jb).mono fun j hj=> .inl hj).trans (yP _)⟩
end
section
variable {T:Nat->Option dJ}{H Y:au}
theorem OR (hT:TT T){s:St}{bo to j n:Nat}{x c n2 n3 n4:D}(gb:s.get bo=some (.var 227 (.ptr to 0)))(gt:s.get to=some (.var 279 (.agg [.dU,x,c,.int .i64 (n:Nat),n2,n3,n4])))(hj:j<=20)(hn:n<=32000):
  bY T H 200 [.int .i64 (j:Nat),.ptr bo 0] s fun d s1=>d= .bool (decide (3 * n<=2 ^ j))/\s1=s:=by
 have h1:=TG hj;have h2:IntKind.wrap .i64 (3 * (n:Int))=((3 * n:Nat):Int):=by rw [wrap_small (by omega) (by omega)]; omega
 have h3:decide (((2 ^ j:Nat):Int) >= ((3 * n:Nat):Int))=decide (3 * n<=2 ^ j):=by
  rw [decide_eq_decide]; omega
 refine aD hT.t200 ?_;try refine go ?_
 simp only [h1,h2,h3];exact ai ⟨rfl,rfl⟩
theorem Pd (hT:TT T){s:St}{bo to L n:Nat}{x c n2 n3 n4:D}(gb:s.get bo=some (.var 227 (.ptr to 0)))(gt:s.get to=some (.var 279 (.agg [.dU,x,c,.int .i64 (n:Nat),n2,n3,n4])))(hn:n<=32000)
  (h3:3<=L)(hL:L<=15)(h1:3 * n<=2 ^ L)(h2:∀j,3<=j->j < L->2 ^ j < 3 * n):
  bY T H 199 [.fn (.func 200) [] [.ptr bo 0]] s fun d s1=>d= .int .i64 (L:Nat)/\s1=s:=by
 refine aD hT.t199 ?_;try refine go ?_
 refine fw (L - 3) (fun j=> [(0,.fn (.func 200) [] [.ptr bo 0]),(2,.int .i64 0),(3,.int .i64 (3+j:Nat))]) (fun j s' =>s' =s) rfl ?_;rintro j s' hj rfl;have hh:=OR (H:=H) hT gb gt (j:=3+j) (by omega) hn;try refine go ?_
 refine af hh ?_;rintro d s2 ⟨rfl,rfl⟩;rcases aP j (L - 3) with hl | hl
 ·have hf:decide (3 * n<=2 ^ (3+j))=false:=by
   have:=h2 (3+j) (by omega) (by omega);rw [bF]; omega
  simp only [hf];try refine go ?_
  exact dI hl rfl
 ·have hjL:3+j=L:=by omega
  have hf:decide (3 * n<=2 ^ (3+j))=true:=by
   rw [bf,hjL]; exact h1
  simp only [hf];try refine go ?_
  rw [hjL];exact ai ⟨rfl,rfl⟩
end
inductive F1 (s:St):D->Nat->List dY->Prop
 | nil (eo:Nat):F1 s (.vs true 0 []) eo []
 | sl (eo st:Nat) (E:List dY) (h:s.get eo=some (.arr 5 236 (E.map dw) st)) (hs:st<=E.length):F1 s (.sl eo 0 E.length E.length) eo E
theorem F1.dT {W:Nat->Prop}{s s1:St}{x:D}{eo:Nat}{E:List dY}(h:F1 s x eo E)(hs:s.Ok)(hb:aH W s s1)(Rl:∀es st,s.get eo=some (.arr 5 236 es st)-> ¬ W eo):F1 s1 x eo E:=by
 rcases h with _ | ⟨_,st,E,h,h1⟩
 ·exact .nil eo
 ·exact .sl eo st E (hb.get hs h (Rl _ _ h)) h1
@[reducible] def aaS (x:D) (co n:Nat) (m:Int):D:= .agg [.dU,x,.ptr co 0,.int .i64 (n:Nat),.int .i64 (n:Nat),.int .i64 m,.int .i64 (n:Nat)]
structure jW (s:St)(to eo co ro log:Nat)(b:Bool)(st:Nat)(x:D)(E:List dY)(C:List Int):Prop where
 go:s.get to=some (.var 279 (aaS x co E.length ((log:Int) - 2)))
 en:F1 s x eo E
 ce:bS s co ro log b st C
 la:gN log (iC E) C
 rm:E.length<=2 * 2 ^ log / 3
theorem jW.cv {s:St}{to eo co ro log st:Nat}{b:Bool}{x:D}{E:List dY}{C:List Int}(h:jW s to eo co ro log b st x E C):∀v∈C, -1<=v/\v < (E.length:Int):=fun v hv=>by
 have:=h.la.T8 v hv;rwa [aY]at this
theorem jW.nt {s:St}{to eo co ro log st:Nat}{b:Bool}{x:D}{E:List dY}{C:List Int}(h:jW s to eo co ro log b st x E C):to≠ro/\to≠co/\co≠ro/\(E≠ []->eo≠to/\eo≠co/\eo≠ro):=by
 have h1:=h.go; have h2:=h.ce.go; have h3:=h.ce.gr;refine⟨?_, ?_,h.ce.ne,fun hE=> ?_⟩
 ·rintro rfl; rw [h1]at h3; cases h3
 ·rintro rfl; rw [h1]at h2; simp at h2
 ·rcases h.en with _ | ⟨_,st,_,h4,_⟩
  ·exact absurd rfl hE
  ·refine⟨?_, ?_, ?_⟩
   ·rintro rfl; rw [h1]at h4; cases h4
   ·rintro rfl; rw [h2]at h4; cases h4
   ·rintro rfl; rw [h3]at h4; simp at h4
section
variable {T:Nat->Option dJ}{H Y:au}
theorem uh (hT:TT T){s:St}{to co:Nat}{x n1 n2 n3 n4:D}(gt:s.get to=some (.var 279 (.agg [.dU,x,.ptr co 0,n1,n2,n3,n4]))):bY T H 169 [.ptr to 0] s fun _ s1=>s1=s:=by
 refine aD hT.t169 ?_;try refine go ?_
 exact iG rfl
def Db (s:St)(to:Nat)(E:List dY)(en:dY)(W:Nat->Prop)(s1:St):Prop:=∃eo co ro log b st x C,jW s1 to eo co ro log b st x (E++ [en]) C/\(W eo\/s.n<=eo)/\(W co\/s.n<=co)/\(W ro\/s.n<=ro)/\aH W s s1
theorem yg {s s6:St}{to eo co ro log st kX:Nat}{b:Bool}{E:List dY}{en:dY} {C C' :List Int}{W:Nat->Prop}(g6:s6.get to=some (.var 279 (aaS (.sl eo 0 (E.length+1) (E.length+1)) co (E.length+1) ((log:Int) - 2))))
  (g6e:s6.get eo=some (.arr 5 236 ((E++ [en]).map dw) kX))(cG:kX<=E.length)(hc6:bS s6 co ro log b st C')(YD:gN log (iC E) C)(hl:Laid log en.h (E.length:Nat) C C')(hn:E.length < 2 * 2 ^ log / 3)
  (hb:aH W s s6)(we:W eo\/s.n<=eo)(wc:W co\/s.n<=co)(wr:W ro\/s.n<=ro):Db s to E en W s6:=by
 have hlen:(E++ [en]).length=E.length+1:=by simp
 refine⟨eo,co,ro,log,b,st,.sl eo 0 (E++ [en]).length (E++ [en]).length,C',⟨by rw [hlen]; exact g6,.sl eo kX _ g6e (by omega),hc6, ?_,by omega⟩,we,wc,wr,hb⟩;have:iC (E++ [en])=iC E++ [en.h]:=by simp [iC]
 rw [this];exact .snoc YD (by rw [aY]; exact hl)
theorem VA (hT:TT T){s:St}{to eo co ro log st kX:Nat}{b:Bool}{E:List dY}{C:List Int}{h ky v:Int}{W:Nat->Prop}(hs:s.Ok)
  (ht:jW s to eo co ro log b st (.sl eo 0 E.length E.length) E C)(ge:s.get eo=some (.arr 5 236 (E.map dw) kX))(cG:kX<=E.length)(hn:E.length < 2 * 2 ^ log / 3)(hE:E.length<=20000)
  (wt:W to)(we:W eo)(wr:W ro)(wc:W co):
  bY T H 168 [.ptr to 0,.int .i64 h,.int .i64 ky,.int .i64 v] s fun d s1=>d= .gW [.int .i64 (E.length:Nat),.int .i64 0]/\Db s to E (dY.mk h ky v (E.length:Nat)) W s1:=by
 obtain⟨n1,n2,n3,n4⟩:=ht.nt;have jQ:aH (fun _=>False) s (s.aZ (.var 227 (.ptr to 0))):=aH.push (aH.refl hs) _;have gb:(s.aZ (.var 227 (.ptr to 0))).get s.n=some (.var 227 (.ptr to 0)):=St.bq;have gt:=jQ.get hs ht.go (fun h=>h);have Q2:=jQ.get hs ge (fun h=>h);have hc:=ht.ce.dT hs jQ (fun h=>h) (fun h=>h);have lt:=hs.lt ht.go; have le:=hs.lt ge; have lr:=hs.lt ht.ce.gr; have lc:=hs.lt ht.ce.go;have nte:to≠eo:=by rintro rfl; have:=ht.go; rw [this]at ge; cases ge
 have qx:=gu E;have Ax:E.map dw++ [dw (dY.mk h ky v (E.length:Nat))]=(E++ [dY.mk h ky v (E.length:Nat)]).map dw:=by simp
 have pq:=xV (H:=H) hT hc;have xp:=uh (H:=H) hT gt;have lE:=jQ.ok;refine aD hT.t168 ?_;try refine go ?_
 generalize qz:s.aZ (.var 227 (.ptr to 0))=s1 at *;have Li:s1.n=s.n+1:=by rw [← qz]; rfl
 refine af xp ?_;rintro d s2 rfl;try refine go ?_
 refine aV pq ?_;rintro d s3 ⟨rfl,rfl⟩;refine⟨rfl,by simp [lost,eE.kind,cF,dG,cl,aJ,bD,bD.cL,gF,bO.ev,Env.get,cQ,D.flat,D.isAgg,cK,D.fC,D.beq,aA,Obj.a8,bH,bC,D.bU,D.a8,gb,gt,Q2], ?_⟩;try refine go ?_
 refine eF (fun hc=> ?_) (fun hc=> ?_)
 ·exfalso;have:=Int.natCast_inj.mp (gA.mp hc);omega
 ·clear hc;have lt3:=lE.lt gt; have le3:=lE.lt Q2
  have b4:aH (fun j=>j=eo\/j=to) s3 (((s3.up 1).bn eo (.arr 5 236 (E.map dw++ [dw (dY.mk h ky v (E.length:Nat))]) kX)).bn to (.var 279 (.agg [.dU,.sl eo 0 (E.length+1) (E.length+1),.ptr co 0,.int .i64 (E.length:Nat),.int .i64 (E.length:Nat),.int .i64 ((log:Int) - 2),.int .i64 (E.length:Nat)]))):=
   aH.set (W:=fun j=>j=eo\/j=to) (aH.set (W:=fun j=>j=eo\/j=to) (aH.up (aH.refl lE) 1) _ (by rw [St.iK]; omega) (fun _=> .inl rfl)) _ (by rw [St.ej,St.iK]; omega) (fun _=> .inr rfl)
  have g4t:(((s3.up 1).bn eo (.arr 5 236 (E.map dw++ [dw (dY.mk h ky v (E.length:Nat))]) kX)).bn to (.var 279 (.agg [.dU,.sl eo 0 (E.length+1) (E.length+1),.ptr co 0,.int .i64 (E.length:Nat),.int .i64 (E.length:Nat),.int .i64 ((log:Int) - 2),.int .i64 (E.length:Nat)]))).get to=_:=St.aG;have g4e:(((s3.up 1).bn eo (.arr 5 236 (E.map dw++ [dw (dY.mk h ky v (E.length:Nat))]) kX)).bn to (.var 279 (.agg [.dU,.sl eo 0 (E.length+1) (E.length+1),.ptr co 0,.int .i64 (E.length:Nat),.int .i64 (E.length:Nat),.int .i64 ((log:Int) - 2),.int .i64 (E.length:Nat)]))).get eo=some (.arr 5 236 ((E++ [dY.mk h ky v (E.length:Nat)]).map dw) kX):=by
   rw [← Ax]; exact St.cu St.aG (bE nte)
  have nce:co≠eo:=by rintro rfl; have:=ht.ce.go; rw [this]at ge; cases ge
  have nre:ro≠eo:=by rintro rfl; have:=ht.ce.gr; rw [this]at ge; simp at ge
  have Z0:=hc.dT lE b4 (by omega) (by omega);have C5:∀v∈C, -1<=v/\v < 32768:=fun v hv=>by have:=ht.cv v hv; omega
  have AB:=Cu (H:=H) (i:=E.length) (n:=E.length+1) (en:=dY.mk h ky v (E.length:Nat)) hT b4.ok g4t g4e (by simp) (mf _) (by simp) (by omega) Z0 C5 hn;try refine go ?_
  refine af AB ?_;rintro d s5 ⟨C',q1,⟨st',q2⟩,q3⟩;have k5:aH W s3 s5:=(b4.mono fun j hj=>by rcases hj with rfl | rfl; exact we; exact wt).trans (q3.mono fun j hj=>by subst hj; exact wr);have k0:aH W s s5:=(jQ.mono fun j hj=>hj.elim).trans k5;have g5t:=q3.get b4.ok g4t n1;have g5e:=q3.get b4.ok g4e (bE nre);have g4b:=b4.get lE gb (by omega);have g5b:=q3.get b4.ok g4b (by omega);have Pp:=q3.ok.lt g5t;have yW:=q3.ok;have hw1:IntKind.wrap .i64 ((E.length:Int)+1)=((E.length+1:Nat):Int):=by rw [wrap_small (by omega) (by omega)]; omega
  clear AB xp pq g4t g4e g4b;try refine go ?_
  have b6:∀d1 d2 d3:D,aH (fun j=>j=to) s5 (((s5.bn to (.var 279 d1)).bn to (.var 279 d2)).bn to (.var 279 d3)):=fun d1 d2 d3=>
   aH.set (W:=fun j=>j=to) (aH.set (W:=fun j=>j=to) (aH.set (W:=fun j=>j=to) (aH.refl yW) _ Pp (fun _=>rfl)) _ Pp (fun _=>rfl)) _ Pp (fun _=>rfl)
  exact ai ⟨rfl,yg (log:=log) St.aG ((b6 _ _ _).get yW g5e (bE nte)) cG (q2.dT yW (b6 _ _ _) (bE n2) (bE n1)) ht.la q1 hn (k0.trans ((b6 _ _ _).mono fun j hj=>by subst hj; exact wt)) (.inl we) (.inl wc) (.inl wr)⟩
end
section
variable {T:Nat->Option dJ}{H Y:au}
theorem add_nil (hT:TT T){s:St}{to eo co ro log st:Nat}{b:Bool}{C:List Int}{h ky v:Int}{W:Nat->Prop}(hs:s.Ok)
  (ht:jW s to eo co ro log b st (.vs true 0 []) [] C)
  (wt:W to)(wr:W ro)(wc:W co):
  bY T H 168 [.ptr to 0,.int .i64 h,.int .i64 ky,.int .i64 v] s fun d s1=>d= .gW [.int .i64 0,.int .i64 0]/\Db s to [] (dY.mk h ky v 0) W s1:=by
 obtain⟨n1,n2,n3,n4⟩:=ht.nt;have hn:0 < 2 * 2 ^ log / 3:=by have:=ht.ce.pow; omega
 have jQ:aH (fun _=>False) s (s.aZ (.var 227 (.ptr to 0))):=aH.push (aH.refl hs) _;have gb:(s.aZ (.var 227 (.ptr to 0))).get s.n=some (.var 227 (.ptr to 0)):=St.bq;have gt:(s.aZ (.var 227 (.ptr to 0))).get to=some (.var 279 (.agg [.dU,.vs true 0 [],.ptr co 0,.int .i64 0,.int .i64 0,.int .i64 ((log:Int) - 2),.int .i64 0])):=jQ.get hs ht.go (fun h=>h);have hc:=ht.ce.dT hs jQ (fun h=>h) (fun h=>h);have lt:=hs.lt ht.go; have lr:=hs.lt ht.ce.gr; have lc:=hs.lt ht.ce.go;have pq:=xV (H:=H) hT hc;have xp:=uh (H:=H) hT gt;have lE:=jQ.ok;refine aD hT.t168 ?_;try refine go ?_
 generalize qz:s.aZ (.var 227 (.ptr to 0))=s1 at *;have Li:s1.n=s.n+1:=by rw [← qz]; rfl
 refine af xp ?_;rintro d s2 rfl;try refine go ?_
 refine aV pq ?_;rintro d s3 ⟨rfl,rfl⟩;refine⟨rfl,by simp [lost,eE.kind,cF,dG,cl,aJ,bD,bD.cL,gF,bO.ev,Env.get,cQ,D.flat,D.isAgg,cK,D.fC,D.beq,aA,Obj.a8,bH,bC,D.bU,D.a8,gb,gt], ?_⟩;try refine go ?_
 refine eF (fun hc=> ?_) (fun hc=> ?_)
 ·exfalso;have:=Int.natCast_inj.mp (gA.mp hc);simp at this;omega
 ·clear hc;have lt3:=lE.lt gt;have b4:aH (fun j=>j=to) s3 (((s3.up 1).bn (s3.n+0) (.arr 5 236 [dw (dY.mk h ky v 0)] 0)).bn to (.var 279 (.agg [.dU,.sl (s3.n+0) 0 1 1,.ptr co 0,.int .i64 0,.int .i64 0,.int .i64 ((log:Int) - 2),.int .i64 0]))):=by
   refine aH.set (W:=fun j=>j=to) ?_ _ (by rw [St.ej,St.iK]; omega) (fun _=>rfl);exact aH.set (W:=fun j=>j=to) (aH.up (aH.refl lE) 1) _ (by rw [St.iK]; omega) (fun h=>by omega)
  have g4t:(((s3.up 1).bn (s3.n+0) (.arr 5 236 [dw (dY.mk h ky v 0)] 0)).bn to (.var 279 (.agg [.dU,.sl (s3.n+0) 0 1 1,.ptr co 0,.int .i64 0,.int .i64 0,.int .i64 ((log:Int) - 2),.int .i64 0]))).get to=_:=St.aG;have g4e:(((s3.up 1).bn (s3.n+0) (.arr 5 236 [dw (dY.mk h ky v 0)] 0)).bn to (.var 279 (.agg [.dU,.sl (s3.n+0) 0 1 1,.ptr co 0,.int .i64 0,.int .i64 0,.int .i64 ((log:Int) - 2),.int .i64 0]))).get (s3.n+0)=some (.arr 5 236 (([dY.mk h ky v 0]:List dY).map dw) 0):=St.cu St.aG (by omega);have Z0:=hc.dT lE b4 (bE n2) (bE n1);have C5:∀v∈C, -1<=v/\v < 32768:=fun v hv=>by have:=ht.cv v hv; simp at this; omega
  have AB:=Cu (H:=H) (i:=0) (n:=1) (en:=dY.mk h ky v 0) hT b4.ok g4t g4e (by simp) (by omega) (by simp) (by omega) Z0 C5 hn;have l3:=lE.lt hc.gr;try refine go ?_
  refine af AB ?_;rintro d s5 ⟨C',q1,⟨st',q2⟩,q3⟩;have k5:aH W s3 s5:=(b4.mono fun j hj=>by subst hj; exact wt).trans (q3.mono fun j hj=>by subst hj; exact wr);have k0:aH W s s5:=(jQ.mono fun j hj=>hj.elim).trans k5;have g5t:=q3.get b4.ok g4t n1;have g5e:=q3.get b4.ok g4e (by omega);have g4b:=b4.get lE gb (by omega);have g5b:=q3.get b4.ok g4b (by omega);have Pp:=q3.ok.lt g5t;have yW:=q3.ok;clear AB xp pq g4t g4e g4b;try refine go ?_
  have b6:∀d1 d2 d3:D,aH (fun j=>j=to) s5 (((s5.bn to (.var 279 d1)).bn to (.var 279 d2)).bn to (.var 279 d3)):=fun d1 d2 d3=>
   aH.set (W:=fun j=>j=to) (aH.set (W:=fun j=>j=to) (aH.set (W:=fun j=>j=to) (aH.refl yW) _ Pp (fun _=>rfl)) _ Pp (fun _=>rfl)) _ Pp (fun _=>rfl)
  exact ai ⟨rfl,yg (log:=log) (E:=[]) (en:=dY.mk h ky v 0) St.aG ((b6 _ _ _).get yW g5e (by omega)) (aq _) (q2.dT yW (b6 _ _ _) (bE n2) (bE n1)) ht.la q1 hn (k0.trans ((b6 _ _ _).mono fun j hj=>by subst hj; exact wt)) (.inr (by omega)) (.inl wc) (.inl wr)⟩
end
section
variable {T:Nat->Option dJ}{H Y:au}
theorem Om {log n:Nat}(h3:3<=log)(h:n=2 * 2 ^ log / 3)(hE:n<=20000):log<=14/\3 * n<=2 ^ (log+1)/\(∀j,3<=j->j < log+1->2 ^ j < 3 * n)/\n < 2 * 2 ^ (log+1) / 3:=by
 have e8:8<=2 ^ log:=(ee (by decide) h3:2 ^ 3<=2 ^ log);have e1:2 ^ (log+1)=2 * 2 ^ log:=by rw [jE,kr]
 refine⟨?_,by omega,fun j hj hl=> ?_,by omega⟩
 ·rcases aP log 15 with h1 | h1
  ·omega
  ·have:2 ^ 15<=2 ^ log:=ee (by decide) h1;omega
 ·have:2 ^ j<=2 ^ log:=ee (by decide) (by omega);omega
theorem LL (hT:TT T){s:St}{to eo co ro log st kX:Nat}{b:Bool}{E:List dY}{C:List Int}{h ky v:Int}{W:Nat->Prop}(hs:s.Ok)
  (ht:jW s to eo co ro log b st (.sl eo 0 E.length E.length) E C)(ge:s.get eo=some (.arr 5 236 (E.map dw) kX))(cG:kX<=E.length)(Bi:E.length=2 * 2 ^ log / 3)(hE:E.length<=20000)
  (wt:W to)(we:W eo):
  bY T H 168 [.ptr to 0,.int .i64 h,.int .i64 ky,.int .i64 v] s fun d s1=>d= .gW [.int .i64 (E.length:Nat),.int .i64 0]/\Db s to E (dY.mk h ky v (E.length:Nat)) W s1:=by
 obtain⟨n1,n2,n3,n4⟩:=ht.nt;have h3:=ht.ce.lo;have abG:=ht.ce.pow;obtain⟨acv,hL1,hL2,hn⟩:=Om ht.ce.lo Bi hE;have jQ:aH (fun _=>False) s (s.aZ (.var 227 (.ptr to 0))):=aH.push (aH.refl hs) _;have gb:(s.aZ (.var 227 (.ptr to 0))).get s.n=some (.var 227 (.ptr to 0)):=St.bq;have gt:=jQ.get hs ht.go (fun h=>h);have Q2:=jQ.get hs ge (fun h=>h);have hc:=ht.ce.dT hs jQ (fun h=>h) (fun h=>h);have lt:=hs.lt ht.go; have le:=hs.lt ge; have lr:=hs.lt ht.ce.gr; have lc:=hs.lt ht.ce.go;have nte:to≠eo:=by rintro rfl; have:=ht.go; rw [this]at ge; cases ge
 have qx:=gu E;have Ax:E.map dw++ [dw (dY.mk h ky v (E.length:Nat))]=(E++ [dY.mk h ky v (E.length:Nat)]).map dw:=by simp
 have pq:=xV (H:=H) hT hc;have xp:=uh (H:=H) hT gt;have lE:=jQ.ok;refine aD hT.t168 ?_;try refine go ?_
 generalize qz:s.aZ (.var 227 (.ptr to 0))=s1 at *;have Li:s1.n=s.n+1:=by rw [← qz]; rfl
 refine af xp ?_;rintro d s2 rfl;try refine go ?_
 refine aV pq ?_;rintro d s3 ⟨rfl,rfl⟩;refine⟨rfl,by simp [lost,eE.kind,cF,dG,cl,aJ,bD,bD.cL,gF,bO.ev,Env.get,cQ,D.flat,D.isAgg,cK,D.fC,D.beq,aA,Obj.a8,bH,bC,D.bU,D.a8,gb,gt,Q2], ?_⟩;try refine go ?_
 refine eF (fun hc=> ?_) (fun hc=> ?_);rotate_left
 ·exfalso;rw [Bi]at hc;simp at hc
 ·clear hc;have OG:=Pd (H:=H) (L:=log+1) hT gb gt (by omega) (by omega) (by omega) hL1 hL2;have UF:=RY (H:=H) hT lE gt Q2 cG (by omega);try refine go ?_
  refine af OG ?_;rintro d s2 ⟨rfl,rfl⟩;try refine go ?_
  refine af UF ?_;rintro d s4 ⟨z1,⟨Lt,z2,z3⟩,z4⟩;have gb4:=z4.get lE gb (by omega);have OB:=El (H:=H) (log:=log+1) hT z4.ok z1 (by omega) (by omega) (by omega);try refine go ?_
  refine af OB ?_;rintro d s5 ⟨co',ro',b',st5,C0,y1,y2,y3,y4,y5,y6⟩;have ge5:=y6.get z4.ok z3 (bE nte);have gb5:=y6.get z4.ok gb4 (by omega);have fN:=Kg (H:=H) hT y6.ok y3 (.sl eo _ Lt E ge5 z2 (aq _)) y4 y5 (by omega) (by omega);try refine go ?_
  refine af fN ?_;rintro d s6 ⟨C6,st6,x1,x2,x3⟩;have m4:=z4.n; have m5:=y6.n; have m6:=x3.n;have nrt:to≠ro' :=by omega
  have nre:eo≠ro' :=by omega
  have hm:(log:Int) - 2+1=((log+1:Nat):Int) - 2:=by omega
  rw [hm]at y3;have gt6:=x3.get y6.ok y3 nrt;have ge6:=x3.get y6.ok ge5 nre;have gb6:=x3.get y6.ok gb5 (by omega);have kk:aH W s s6:=(jQ.mono fun j hj=>hj.elim).trans ((z4.mono fun j hj=>by rcases hj with rfl | rfl; exact we; exact wt).trans ((y6.mono fun j hj=>by subst hj; exact wt).trans' x3 (by rintro j rfl hj; omega)));have OQ:=x3.ok;have lt3:=OQ.lt gt6; have le3:=OQ.lt ge6
  have b4:aH (fun j=>j=eo\/j=to) s6 (((s6.up 1).bn eo (.arr 5 236 (E.map dw++ [dw (dY.mk h ky v (E.length:Nat))]) Lt)).bn to (.var 279 (.agg [.dU,.sl eo 0 (E.length+1) (E.length+1),.ptr co' 0,.int .i64 (E.length:Nat),.int .i64 (E.length:Nat),.int .i64 (((log+1:Nat):Int) - 2),.int .i64 (E.length:Nat)]))):=
   aH.set (W:=fun j=>j=eo\/j=to) (aH.set (W:=fun j=>j=eo\/j=to) (aH.up (aH.refl OQ) 1) _ (by rw [St.iK]; omega) (fun _=> .inl rfl)) _ (by rw [St.ej,St.iK]; omega) (fun _=> .inr rfl)
  have g4t:(((s6.up 1).bn eo (.arr 5 236 (E.map dw++ [dw (dY.mk h ky v (E.length:Nat))]) Lt)).bn to (.var 279 (.agg [.dU,.sl eo 0 (E.length+1) (E.length+1),.ptr co' 0,.int .i64 (E.length:Nat),.int .i64 (E.length:Nat),.int .i64 (((log+1:Nat):Int) - 2),.int .i64 (E.length:Nat)]))).get to=_:=St.aG;have g4e:(((s6.up 1).bn eo (.arr 5 236 (E.map dw++ [dw (dY.mk h ky v (E.length:Nat))]) Lt)).bn to (.var 279 (.agg [.dU,.sl eo 0 (E.length+1) (E.length+1),.ptr co' 0,.int .i64 (E.length:Nat),.int .i64 (E.length:Nat),.int .i64 (((log+1:Nat):Int) - 2),.int .i64 (E.length:Nat)]))).get eo=some (.arr 5 236 ((E++ [dY.mk h ky v (E.length:Nat)]).map dw) Lt):=by
   rw [← Ax]; exact St.cu St.aG (bE nte)
  have Z0:=x2.dT OQ b4 (by omega) (by omega);have C5:∀v∈C6, -1<=v/\v < 32768:=fun v hv=>by have:=x1.T8 v hv; rw [aY]at this; omega
  have AB:=Cu (H:=H) (i:=E.length) (n:=E.length+1) (en:=dY.mk h ky v (E.length:Nat)) hT b4.ok g4t g4e (by simp) (mf _) (by simp) (by omega) Z0 C5 hn;clear OG UF OB fN xp pq gb gt Q2 hc;try refine go ?_
  refine af AB ?_;rintro d s7 ⟨C',q1,⟨st',q2⟩,q3⟩;have k7:aH W s s7:=(kk.trans' b4 (by rintro j (rfl | rfl) hj; exact we; exact wt)).trans' q3 (by rintro j rfl hj; omega);have g5t:=q3.get b4.ok g4t nrt;have g5e:=q3.get b4.ok g4e nre;have g4b:=b4.get OQ gb6 (by omega);have g5b:=q3.get b4.ok g4b (by omega);have Pp:=q3.ok.lt g5t;have yW:=q3.ok;clear AB g4t g4e g4b gb4 gb5 gb6 gt6 ge6 z1;try refine go ?_
  have b6:∀d1 d2 d3:D,aH (fun j=>j=to) s7 (((s7.bn to (.var 279 d1)).bn to (.var 279 d2)).bn to (.var 279 d3)):=fun d1 d2 d3=>
   aH.set (W:=fun j=>j=to) (aH.set (W:=fun j=>j=to) (aH.set (W:=fun j=>j=to) (aH.refl yW) _ Pp (fun _=>rfl)) _ Pp (fun _=>rfl)) _ Pp (fun _=>rfl)
  exact ai ⟨rfl,yg (log:=log+1) St.aG ((b6 _ _ _).get yW g5e (bE nte)) z2 (q2.dT yW (b6 _ _ _) (by omega) (by omega)) x1 q1 hn (k7.trans ((b6 _ _ _).mono fun j hj=>by subst hj; exact wt)) (.inl we) (.inr (by omega)) (.inr (by omega))⟩
end
section
variable {T:Nat->Option dJ}{H Y:au}
theorem Vk (hT:TT T){s:St}{to eo co ro log st:Nat}{b:Bool}{x:D}{E:List dY}{C:List Int}{h ky v:Int}{W:Nat->Prop}(hs:s.Ok)
  (ht:jW s to eo co ro log b st x E C)(hE:E.length<=20000)(wt:W to)(we:W eo)(wr:W ro)(wc:W co):
  bY T H 168 [.ptr to 0,.int .i64 h,.int .i64 ky,.int .i64 v] s fun d s1=>d= .gW [.int .i64 (E.length:Nat),.int .i64 0]/\Db s to E (dY.mk h ky v (E.length:Nat)) W s1:=by
 have he:=ht.en;rcases he with _ | ⟨_,kX,E,g,cG⟩
 ·exact add_nil hT hs ht wt wr wc
 ·rcases Nat.lt_or_eq_of_le ht.rm with h1 | h1
  ·exact VA hT hs ht g cG h1 hE wt we wr wc
  ·exact LL hT hs ht g cG h1 hE wt we
theorem T2 (hT:TT T){s:St}{to n:Nat}{x c n2 n3 n4:D}(gt:s.get to=some (.var 279 (.agg [.dU,x,c,.int .i64 (n:Nat),n2,n3,n4]))):
  bY T H 184 [.ptr to 0] s fun d s1=>d= .int .i64 (n:Nat)/\s1=s:=by
 refine aD hT.t184 ?_;try refine go ?_
 exact ai ⟨rfl,rfl⟩
theorem BY (hT:TT T){s:St}{to eo st i:Nat}{E:List dY}{c n1 n2 n3 n4:D}(gt:s.get to=some (.var 279 (.agg [.dU,.sl eo 0 E.length E.length,c,n1,n2,n3,n4])))(ge:s.get eo=some (.arr 5 236 (E.map dw) st))(cG:st<=E.length)(hi:i < E.length)(hE:E.length<=30000):
  bY T H 175 [.ptr to 0,.int .i64 (i:Nat)] s fun d s1=>d= .int .i64 0/\s1=s:=by
 have vO:(E.map dw)[0+i]? =some (dw E[i]):=by rw [aU,aO,ak hi]; rfl
 have qx:=gu E;refine aD hT.t175 ?_;try refine go ?_
 exact ai ⟨rfl,rfl⟩
theorem HA (hT:TT T){s:St}{to eo st i:Nat}{E:List dY}{e:dY}{c n1 n2 n3 n4:D}(gt:s.get to=some (.var 279 (.agg [.dU,.sl eo 0 E.length E.length,c,n1,n2,n3,n4])))(ge:s.get eo=some (.arr 5 236 (E.map dw) st))(cG:st<=E.length)(hi:E[i]? =some e)(hE:E.length<=30000):
  bY T H 122 [.ptr to 0,.int .i64 (i:Nat)] s fun d s1=>d= .gW [dw e,.int .i64 0]/\s1=s:=by
 have hl:i < E.length:=(aj.mp hi).1;have vO:(E.map dw)[0+i]? =some (dw e):=by rw [aU,aO,hi]; rfl
 have qx:=gu E;have hw:=BY (H:=H) hT gt ge cG hl hE;refine aD hT.t122 ?_;try refine go ?_
 refine af hw ?_;rintro d s1 ⟨rfl,rfl⟩;try refine go ?_
 exact ai ⟨rfl,rfl⟩
end
end Go.Proofs.Tab
