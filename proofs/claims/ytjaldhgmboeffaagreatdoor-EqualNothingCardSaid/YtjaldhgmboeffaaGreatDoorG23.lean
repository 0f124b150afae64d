/- Part. -/
import Derived.Test.YtjaldhgmboeffaaGreatDoorG22
import Derived.Lib.ValidU
set_option linter.unusedSimpArgs false
set_option linter.unusedVariables false
set_option linter.unusedSectionVars false
set_option maxRecDepth 100000
set_option maxHeartbeats 4000000
namespace Go.Proofs.Tab
open Go Go.Ab Go.Ab.Sm
theorem wrap_small {n:Int}(h1: -9223372036854775808<=n)(h2:n < 9223372036854775808):IntKind.wrap .i64 n=n:=by
 simp only [IntKind.wrap,IntKind.signed,IntKind.bits,fM,aY,ge_iff_le];rw [show ((2:Int) ^ (64 - 1))=9223372036854775808 from rfl,show ((2:Int) ^ 64)=18446744073709551616 from rfl];split <;> omega
abbrev dz (V:List Nat):List D:=V.map fun v:Nat=>D.int .u32 (v:Int)
theorem cQ (V:List Nat):(dz V).length=V.length:=aJ _
inductive Ws (s:St):D->List Nat->Prop
 | vs (nl:Bool) (V:List Nat) (hn:nl=true->V=[]):Ws s (.vs nl 1 (dz V)) V
 | nil:Ws s (.vs true 0 []) []
 | sl (o cp:Nat) (V R:List Nat) (h:s.get o=some (.arr 1 194 (dz (V++R)) 0)) (hc:V.length<=cp):Ws s (.sl o 0 V.length cp) V
def bU (V:List Nat):List Nat:=(V.reverse.dropWhile (· ==0)).reverse
theorem lR (V:List Nat):bU (V++ [0])=bU V:=by simp [bU]
theorem lO {V:List Nat}{v:Nat}(h:v≠0):bU (V++ [v])=V++ [v]:=by
 have:(v==0)=false:=by simp [h]
 simp [bU,this]
theorem oG {α:Type}(V:List α){n:Nat}(h:n < V.length):V.take (n+1)=V.take n++ [V[n]]:=by rw [ji,ab h]; rfl
theorem wL (V:List Nat):bU V=[]\/∃W v,bU V=W++ [v]/\v≠0:=by
 unfold bU;cases h:V.reverse.dropWhile (· ==0) with
 | nil=>exact .inl rfl
 | cons v W=>
  refine .inr ⟨W.reverse,v,by simp, ?_⟩;have:=List.head?_dropWhile_not (· ==0) V.reverse;rw [h]at this;simpa using this
theorem mL (V:List Nat):bU (bU V)=bU V:=by
 rcases wL V with h | ⟨W,v,h,hv⟩
 ·rw [h]; rfl
 ·rw [h,lO hv]
theorem j6 (V:List Nat):(bU V).length<=V.length:=by
 unfold bU;rw [ir];have:=(ml (l:=V.reverse) (· ==0)).length_le;rwa [ir]at this
theorem Ws.items {s:St}{x:D}{V:List Nat}(h:Ws s x V):∃z,items s x=some (z,dz V)/\(z=1\/V=[]):=by
 rcases h with ⟨nl,V,hn⟩ | _ | ⟨o,cp,V,R,hg,hc⟩
 ·exact⟨1,rfl,.inl rfl⟩
 ·exact⟨0,rfl,.inr rfl⟩
 ·refine⟨1, ?_,.inl rfl⟩;have e1:Nat.ble (0+V.length) (dz (V++R)).length=true:=au (by rw [cQ,aG]; omega);have e2:Nat.ble 0 (0+cp)=true:=au (aS _);simp only [Ab.items,hg,e1,e2]
  congr 2
  simp
theorem Ws.dK {W:Nat->Prop}{s s1:St}{x:D}{V:List Nat}(h:Ws s x V)(hs:s.Ok)(hb:aF W s s1)(hw:∀j es st,s.get j=some (.arr 1 194 es st)-> ¬ W j):Ws s1 x V:=by
 rcases h with ⟨nl,V,hn⟩ | _ | ⟨o,cp,V,R,hg,hc⟩
 ·exact .vs nl V hn
 ·exact .nil
 ·exact .sl o cp V R (hb.get hs hg (hw _ _ _ hg)) hc
theorem pg (V:List Nat):eI 1 (dz V)=true:=by
 induction V with
 | nil=>rfl
 | cons v V ih=>simp only [dz,bG,eI]at ih ⊢; rw [ih]; rfl
section
variable {T:Nat->Option dU}{H:ay}
theorem pE (hT:TW T){s:St}{x:D}{V:List Nat}(hx:Ws s x V)(hV:V.length<=maxLen):cu T H 150 [x] s fun d s1=>s1=s/\Ws s d (bU V):=by
 have lZ:maxLen=9223372036854775807:=by decide
 rcases hx with ⟨nl,V,qU⟩ | _ | ⟨o,cp,V,R,hg,hc⟩
 ·refine ax hT.t150 ?_;try refine go ?_
  refine cg (fun m env s' =>s' =s/\m<=V.length/\env=[(0,.vs nl 1 (dz (V.take m)))]/\bU (V.take m)=bU V) V.length rfl ⟨rfl,aq _, ?_,by rw [eE]⟩ ?_
  ·rw [eE]; rfl
  rintro m env s' ⟨rfl,hm,rfl,ht⟩;have hl:(dz (V.take m)).length=m:=by rw [cQ,cM]; omega
  cases m with
  | zero=>
   try refine go ?_
   refine ai ⟨rfl, ?_⟩;rw [← ht];exact .vs nl (V.take 0) (fun _=>rfl)
  | succ m=>
   have dM:m < V.length:=by omega
   have hw:IntKind.wrap .i64 (((dz (V.take (m+1))).length:Int) - 1)=(m:Nat):=by rw [hl,wrap_small (by omega) (by omega)]; omega
   have he:(dz (V.take (m+1)))[m]? =some (.int .u32 (V[m]:Nat)):=by simp [dM]
   have zT:(dz (V.take (m+1))).take m=dz (V.take m):=by simp [List.take_take]
   have yr:=oG V dM;generalize hv:V[m]=v at he yr;by_cases h0:v=0
   ·try refine go ?_
    simp only [hw];try refine go ?_
    simp only [hw];refine Ql (L:=dz (V.take (m+1))) (hi' :=m) (lo' :=0) (.inl rfl) rfl (show lH _ (some (D.int .i64 (m:Nat)))=some m from jz (kd:= .i64)) (aS _) (by omega) ?_;try refine go ?_
    rw [gz,zT];refine bf m (by omega) rfl ⟨rfl,by omega,rfl, ?_⟩;rw [← ht,yr,h0,lR]
   ·try refine go ?_
    simp only [hw];try refine go ?_
    refine ai ⟨rfl, ?_⟩;rw [← ht,yr,lO h0,← yr];exact .vs nl _ (fun h=>by rw [qU h]; rfl)
 ·refine ax hT.t150 ?_;try refine go ?_
  refine lU ?_;try refine go ?_
  exact ai ⟨rfl,.nil⟩
 ·refine ax hT.t150 ?_;try refine go ?_
  refine cg (fun m env s' =>s' =s/\m<=V.length/\env=[(0,.sl o 0 m cp)]/\bU (V.take m)=bU V) V.length rfl ⟨rfl,aq _,rfl,by rw [eE]⟩ ?_;rintro m env s' ⟨rfl,hm,rfl,ht⟩;have pQ:(dz (V++R)).length=V.length+R.length:=by rw [cQ,aG]
  cases m with
  | zero=>
   try refine go ?_
   refine ai ⟨rfl, ?_⟩;rw [← ht];exact .sl o cp [] (V++R) hg (aS _)
  | succ m=>
   have dM:m < V.length:=by omega
   have hw:IntKind.wrap .i64 (((m+1:Nat):Int) - 1)=(m:Nat):=by rw [wrap_small (by omega) (by omega)]; omega
   have he:(dz (V++R))[0+m]? =some (.int .u32 (V[m]:Nat)):=by simp [dM,nJ]
   have yr:=oG V dM;generalize hv:V[m]=v at he yr;by_cases h0:v=0
   ·try refine go ?_
    simp only [hw];try refine go ?_
    simp only [hw];try refine go ?_
    refine bf m (by omega) rfl ⟨rfl,by omega,rfl, ?_⟩;rw [← ht,yr,h0,lR]
   ·try refine go ?_
    simp only [hw];try refine go ?_
    refine ai ⟨rfl, ?_⟩;rw [← ht,yr,lO h0,← yr];have:=Ws.sl (s:=s') o cp (V.take (m+1)) (V.drop (m+1)++R) (by rw [← List.append_assoc,gJ]; exact hg) (by rw [cM]; omega);rw [cM,Nat.min_eq_left hm]at this;exact this
end
section
variable {T:Nat->Option dU}{H:ay}
theorem EZ (hT:TW T){s:St}{x:D}{V:List Nat}(hs:s.Ok)(hx:Ws s x V)(hV:V.length<=aL):cu T H 246 [x] s fun d s1=>Ws s1 d V/\aF Nil s s1:=by
 rcases hx with ⟨nl,V,qU⟩ | _ | ⟨o,cp,V,R,hg,hc⟩
 ·cases nl with
  | true=>
   rw [qU rfl];refine ax hT.t246 ?_;try refine go ?_
   exact ai ⟨.nil,aF.refl hs⟩
  | false=>
   refine ax hT.t246 ?_;cases V with
   | nil=>
    try refine go ?_
    refine HR (z:=1) rfl ?_;try refine go ?_
    exact ai ⟨.sl s.n 0 [] [] St.bu (aq _),aF.push (aF.refl hs) _⟩
   | cons v V=>
    have tN:0+(dz (v::V)).length<=aL:=by rw [cQ,aN]; exact hV
    refine run_seq ?_;try refine go ?_
    refine uf (z:=1) (m:=dz (v::V)) rfl rfl (by simp) (pg _) tN ?_ (es:=[]) (off:=0) (he:=rfl);try refine go ?_
    refine ai ⟨?_,aF.set (aF.push (aF.refl hs) _) _ (by rw [St.dV]; omega) (fun h=>by omega)⟩;have:=Ws.sl (s:=(s.bz (.arr 1 194 [] 0)).bF s.n (.arr 1 194 ([]++dz (v::V)) 0)) s.n (0+(dz (v::V)).length) (v::V) [] (by rw [dZ]; exact St.aO) (by rw [cQ]; omega);rw [show 0+(dz (v::V)).length=(v::V).length by rw [cQ]; omega]at this ⊢;exact this
 ·refine ax hT.t246 ?_;try refine go ?_
  exact ai ⟨.nil,aF.refl hs⟩
 ·refine ax hT.t246 ?_;have lo:=hs.lt hg;have SN:(s.bz (.arr 1 194 [] 0)).get o=some (.arr 1 194 (dz (V++R)) 0):=St.fV hg (by omega);obtain⟨z,hz,PE⟩:=(Ws.sl (s:=s.bz (.arr 1 194 [] 0)) o cp V R SN hc).items;cases V with
  | nil=>
   try refine go ?_
   refine HR hz ?_;try refine go ?_
   exact ai ⟨.sl s.n 0 [] [] St.bu (aq _),aF.push (aF.refl hs) _⟩
  | cons v V=>
   have tN:0+(dz (v::V)).length<=aL:=by rw [cQ,aN]; exact hV
   have PG:z=1:=by rcases PE with h | h; exact h; cases h
   try refine go ?_
   refine uf hz PG (by simp) (pg _) tN ?_ (es:=[]) (off:=0) (he:=rfl);try refine go ?_
   refine ai ⟨?_,aF.set (aF.push (aF.refl hs) _) _ (by rw [St.dV]; omega) (fun h=>by omega)⟩;have:=Ws.sl (s:=(s.bz (.arr 1 194 [] 0)).bF s.n (.arr 1 194 ([]++dz (v::V)) 0)) s.n (0+(dz (v::V)).length) (v::V) [] (by rw [dZ]; exact St.aO) (by rw [cQ]; omega);rw [show 0+(dz (v::V)).length=(v::V).length by rw [cQ]; omega]at this ⊢;exact this
def eh (ng:Bool)(V:List Nat):Bool×List Nat:=match bU V with
 | []=>(false,[])
 | v::W=>(ng,v::W)
theorem Hi (ng:Bool)(V:List Nat):eh ng (bU V)=eh ng V:=by unfold eh; rw [mL]
theorem GV (ng:Bool)(V:List Nat):eh (eh ng V).1 (eh ng V).2=eh ng V:=by
 unfold eh;cases h:bU V with
 | nil=>rfl
 | cons v W=>simp only; rw [← h,mL,h]
theorem KI (ng:Bool)(V:List Nat):eh (!(eh (!(eh ng V).1) (eh ng V).2).1) (eh (!(eh ng V).1) (eh ng V).2).2=eh ng V:=by
 unfold eh;cases h:bU V with
 | nil=>rfl
 | cons v W=>simp only; rw [← h,mL,h]; simp only; rw [← h,mL,h]; simp
theorem mh (ng:Bool)(V:List Nat):(eh ng V).2.length<=V.length:=by
 have:=j6 V;unfold eh;cases h:bU V with
 | nil=>simp
 | cons v W=>rw [h]at this; exact this
def qD (s:St)(d:D)(n:Bool×List Nat):Prop:=∃y,d= .agg [.bool n.1,y]/\Ws s y n.2
theorem qD.dK {W:Nat->Prop}{s s1:St}{d:D}{n:Bool×List Nat}(h:qD s d n)(hs:s.Ok)(hb:aF W s s1)(hw:∀j es st,s.get j=some (.arr 1 194 es st)-> ¬ W j):qD s1 d n:=by
 obtain⟨y,h1,h2⟩:=h;exact⟨y,h1,h2.dK hs hb hw⟩
theorem aba {s:St}{y:D}{V:List Nat}(h:Ws s y V):o8 s 1 y=some V.length:=by
 rcases h with ⟨nl,V,hn⟩ | _ | ⟨o,cp,V,R,hg,hc⟩
 ·simp [o8]
 ·rfl
 ·rfl
theorem yB (hT:TW T){s:St}{x:D}{ng:Bool}{V:List Nat}(hx:Ws s x V)(hV:V.length<=maxLen):cu T H 89 [.bool ng,x] s fun d s1=>s1=s/\qD s d (eh ng V):=by
 have lZ:maxLen=9223372036854775807:=by decide
 have Gj:=pE (H:=H) hT hx hV;have hle:=j6 V;unfold eh;rcases hx with ⟨nl,V,hn⟩ | _ | ⟨o,cp,V,R,hg,hc⟩
 all_goals
  refine ax hT.t89 ?_;try refine go ?_
  refine ak Gj ?_;rintro d s1 ⟨rfl,hd⟩;generalize bU _=W at hd hle ⊢;rcases hd with ⟨nl',W,Fm⟩ | _ | ⟨o',cp',W,R',V5,hc'⟩
  ·cases W with
   | nil=>
    try refine go ?_
    exact ai ⟨rfl,_,rfl,.nil⟩
   | cons v W=>
    have hq:((dz (v::W)).length:Int)≠0:=by rw [cQ,aV]; omega
    try refine go ?_
    exact ai ⟨rfl,_,rfl,.vs _ _ Fm⟩
  ·try refine go ?_
   exact ai ⟨rfl,_,rfl,.nil⟩
  ·cases W with
   | nil=>
    try refine go ?_
    exact ai ⟨rfl,_,rfl,.nil⟩
   | cons v W=>
    have hq:((v::W).length:Int)≠0:=by rw [aV]; omega
    try refine go ?_
    exact ai ⟨rfl,_,rfl,.sl _ _ _ _ V5 hc'⟩
end
open Go Go.Ab
def gH:List Nat->Nat
 | []=>0
 | a::r=>a+4294967296 * gH r
theorem DQ (V R:List Nat):gH (V++R)=gH V+4294967296 ^ V.length * gH R:=by
 induction V with
 | nil=>simp [gH]
 | cons a r ih=>simp only [iJ,gH,ih,aV,jk,Nat.mul_add]; rw [jQ (4294967296 ^ r.length) 4294967296,gS]; omega
theorem D8 {P:List Nat->Prop}(h0:P [])(h1:∀V v,P V->P (V++ [v]))(V:List Nat):P V:=by
 have key:∀W:List Nat,P W.reverse:=by
  intro W;induction W with
  | nil=>exact h0
  | cons a r ih=>rw [List.reverse_cons]; exact h1 _ _ ih
 have:=key V.reverse;rwa [List.reverse_reverse]at this
theorem vk (V:List Nat):gH (bU V)=gH V:=by
 refine D8 (P:=fun V=>gH (bU V)=gH V) rfl (fun V v ih=> ?_) V;by_cases h:v=0
 ·subst h; rw [lR,ih,DQ]; simp [gH]
 ·rw [lO h]
theorem vo (V:List Nat)(h:bU V≠ []):0 < gH (bU V):=by
 rcases wL V with h1 | ⟨W,v,h1,h2⟩
 ·exact absurd h1 h
 ·rw [h1,DQ];have:0 < 4294967296 ^ W.length * gH [v]:=Nat.mul_pos (Nat.pow_pos (by omega)) (by simp [gH]; omega);omega
theorem tI (V:List Nat):bU V=V.take (bU V).length:=by
 refine D8 (P:=fun V=>bU V=V.take (bU V).length) rfl (fun V v ih=> ?_) V;by_cases h:v=0
 ·subst h;rw [lR,List.take_append_of_le_length (j6 V)]; exact ih
 ·rw [lO h,eE]
def iH:List Nat->List Nat×Nat
 | []=>([],0)
 | a::r=>let q:=iH r; ((q.2 * 4294967296+a) / 1000000000::q.1,(q.2 * 4294967296+a) % 1000000000)
theorem yH:∀V:List Nat,(iH V).1.length=V.length
 | []=>rfl
 | a::r=>by simp [iH,yH r]
theorem xg:∀V:List Nat,(iH V).2 < 1000000000
 | []=>by simp [iH]
 | a::r=>by simp only [iH]; omega
theorem xI:∀V:List Nat,gH V=gH (iH V).1 * 1000000000+(iH V).2
 | []=>rfl
 | a::r=>by
  have:=xI r;simp only [iH,gH];omega
theorem xJ:∀V:List Nat,(∀v∈V,v < 4294967296)->∀v∈(iH V).1,v < 4294967296
 | [],_,v,hv=>by simp [iH]at hv
 | a::r,h,v,hv=>by
  simp only [iH,bR]at hv;rcases hv with rfl | hv
  ·have h1:=h a (by simp);have h2:=xg r;omega
  ·exact xJ r (fun v hv=>h v (by simp [hv])) v hv
theorem M1 (V:List Nat):gH (iH V).1=gH V / 1000000000:=by
 have:=xI V; have:=xg V; omega
theorem XO (V:List Nat):(iH V).2=gH V % 1000000000:=by
 have:=xI V; have:=xg V; omega
def eM (n:Nat):List Nat:=if h:n=0 then [] else n % 1000000000::eM (n / 1000000000)
 termination_by n
 decreasing_by omega
theorem vj:eM 0=[]:=by rw [eM,dif_pos rfl]
theorem nE {n:Nat}(h:n≠0):eM n=n % 1000000000::eM (n / 1000000000):=by rw [eM,dif_neg h]
theorem FQ (n:Nat):∀p∈eM n,p < 1000000000:=by
 induction n using Nat.strongRecOn with
 | ind n ih=>
  intro p hp;by_cases h:n=0
  ·rw [h,vj]at hp; cases hp
  ·rw [nE h]at hp;simp only [bR]at hp;rcases hp with rfl | hp
   ·omega
   ·exact ih _ (by omega) p hp
theorem DZ (n:Nat):∀k,n < 1000000000 ^ k->(eM n).length<=k:=by
 induction n using Nat.strongRecOn with
 | ind n ih=>
  intro k hk;by_cases h:n=0
  ·rw [h,vj]; simp
  ·cases k with
   | zero=>simp at hk; omega
   | succ k=>
    rw [nE h,aV];have:=ih (n / 1000000000) (by omega) k (by rw [jk]at hk; rw [Nat.div_lt_iff_lt_mul (by omega)]; exact hk);omega
def oR (n:Nat):List UInt8:=[n / 100000000,n / 10000000,n / 1000000,n / 100000,n / 10000,n / 1000,n / 100,n / 10,n].map fun d=>UInt8.ofNat (48+d % 10)
def jw (P:List Nat):List UInt8:=P.reverse.flatMap oR
def uM (ng:Bool)(V:List Nat):List UInt8:=if bU V=[] then [48] else (if ng then [45] else [])++(jw (eM (gH V))).dropWhile (· ==48)
noncomputable section
def D5:=RK.mk (a:=cf Tryz.f198 198)
def VB:=RK.mk (a:=cf Tryz.f199 199)
def UB:=RK.mk (a:=cf Tryz.f247 247)
def Tf:=RK.mk (a:=cf Tryz.f248 248)
def Tl:=RK.mk (a:=cf Tryz.f249 249)
def Ux:=RK.mk (a:=cf Tryz.f250 250)
def Tb:=RK.mk (a:=cf Tryz.f251 251)
def VL:=RK.mk (a:=cf Tryz.f252 252)
def SF:=RK.mk (a:=cf Tryz.f280 280)
def TR:=RK.mk (a:=cf Tryz.f281 281)
def U1:=RK.mk (a:=cf Tryz.f285 285)
def UF:=RK.mk (a:=cf Tryz.f302 302)
end
structure TX (T:Nat->Option dU):Prop where
 t198:T 198=some D5.1
 t199:T 199=some VB.1
 t247:T 247=some UB.1
 t248:T 248=some Tf.1
 t249:T 249=some Tl.1
 t250:T 250=some Ux.1
 t251:T 251=some Tb.1
 t252:T 252=some VL.1
 t280:T 280=some SF.1
 t281:T 281=some TR.1
 t285:T 285=some U1.1
 t302:T 302=some UF.1
theorem Nv {a b:Nat}(ha:a < 4294967296)(hb:b < 4294967296):IntKind.wrap .u64 (((BitVec.ofInt (IntKind.bits .u64) ((a * 4294967296:Nat):Int) ||| BitVec.ofInt (IntKind.bits .u64) (b:Int)).toNat:Nat):Int)=((a * 4294967296+b:Nat):Int):=by
 have e1:(BitVec.ofInt 64 ((a * 4294967296:Nat):Int)).toNat=a * 4294967296:=by
  rw [BitVec.ofInt_natCast,BitVec.toNat_ofNat,kT (by omega)]
 have e2:(BitVec.ofInt 64 ((b:Nat):Int)).toNat=b:=by
  rw [BitVec.ofInt_natCast,BitVec.toNat_ofNat,kT (by omega)]
 have e3:a * 4294967296 ||| b=a * 4294967296+b:=by
  have:=Nat.two_pow_add_eq_or_of_lt (i:=32) (b:=b) (by simpa using hb) a;rw [show (2:Nat) ^ 32=4294967296 by rfl,jQ]at this;exact this.symm
 show IntKind.wrap .u64 (((BitVec.ofInt 64 ((a * 4294967296:Nat):Int) ||| BitVec.ofInt 64 (b:Int)).toNat:Nat):Int)=_;rw [BitVec.toNat_or,e1,e2,e3];simp only [IntKind.wrap,IntKind.signed,IntKind.bits,pw,aY];rw [show ((2:Int) ^ 64)=18446744073709551616 from rfl];simp only [dF,jg];omega
theorem xw {n:Nat}(h:n < 18446744073709551616):IntKind.wrap .u64 (n:Int)=(n:Int):=by
 simp only [IntKind.wrap,IntKind.signed,IntKind.bits,pw,aY];rw [show ((2:Int) ^ 64)=18446744073709551616 from rfl];simp only [dF,jg];omega
theorem xl {n:Nat}(h:n < 4294967296):IntKind.wrap .u32 (n:Int)=(n:Int):=by
 simp only [IntKind.wrap,IntKind.signed,IntKind.bits,pw,aY];rw [show ((2:Int) ^ 32)=4294967296 from rfl];simp only [dF,jg];omega
def oP (x:Nat):D:= .int .u8 ((48+x % 10:Nat):Int)
def xb (n:Nat):Nat->List D
 | 0=> [.int .u8 0,.int .u8 0,.int .u8 0,.int .u8 0,.int .u8 0,.int .u8 0,.int .u8 0,.int .u8 0,.int .u8 0]
 | 1=> [.int .u8 0,.int .u8 0,.int .u8 0,.int .u8 0,.int .u8 0,.int .u8 0,.int .u8 0,.int .u8 0,oP (n / 10 ^ 0)]
 | 2=> [.int .u8 0,.int .u8 0,.int .u8 0,.int .u8 0,.int .u8 0,.int .u8 0,.int .u8 0,oP (n / 10 ^ 1),oP (n / 10 ^ 0)]
 | 3=> [.int .u8 0,.int .u8 0,.int .u8 0,.int .u8 0,.int .u8 0,.int .u8 0,oP (n / 10 ^ 2),oP (n / 10 ^ 1),oP (n / 10 ^ 0)]
 | 4=> [.int .u8 0,.int .u8 0,.int .u8 0,.int .u8 0,.int .u8 0,oP (n / 10 ^ 3),oP (n / 10 ^ 2),oP (n / 10 ^ 1),oP (n / 10 ^ 0)]
 | 5=> [.int .u8 0,.int .u8 0,.int .u8 0,.int .u8 0,oP (n / 10 ^ 4),oP (n / 10 ^ 3),oP (n / 10 ^ 2),oP (n / 10 ^ 1),oP (n / 10 ^ 0)]
 | 6=> [.int .u8 0,.int .u8 0,.int .u8 0,oP (n / 10 ^ 5),oP (n / 10 ^ 4),oP (n / 10 ^ 3),oP (n / 10 ^ 2),oP (n / 10 ^ 1),oP (n / 10 ^ 0)]
 | 7=> [.int .u8 0,.int .u8 0,oP (n / 10 ^ 6),oP (n / 10 ^ 5),oP (n / 10 ^ 4),oP (n / 10 ^ 3),oP (n / 10 ^ 2),oP (n / 10 ^ 1),oP (n / 10 ^ 0)]
 | 8=> [.int .u8 0,oP (n / 10 ^ 7),oP (n / 10 ^ 6),oP (n / 10 ^ 5),oP (n / 10 ^ 4),oP (n / 10 ^ 3),oP (n / 10 ^ 2),oP (n / 10 ^ 1),oP (n / 10 ^ 0)]
 | _=> [oP (n / 10 ^ 8),oP (n / 10 ^ 7),oP (n / 10 ^ 6),oP (n / 10 ^ 5),oP (n / 10 ^ 4),oP (n / 10 ^ 3),oP (n / 10 ^ 2),oP (n / 10 ^ 1),oP (n / 10 ^ 0)]
def dgF (n j:Nat):Env:=[(0,.int .u32 (n / 10 ^ j:Nat)),(2,(D.agg (xb n 0)).lv),(3,(D.agg (xb n j)).lv),(5,.int .i64 (j:Nat))]
theorem BX (x:Nat):D.int .u8 (IntKind.wrap .u8 (IntKind.wrap .u32 (48+Int.tmod (x:Int) 10)))=oP x:=by
 have e1:48+Int.tmod (x:Int) 10=((48+x % 10:Nat):Int):=by rw [bZ (by omega)]; omega
 rw [e1,xl (by omega)];have e2:IntKind.wrap .u8 ((48+x % 10:Nat):Int)=((48+x % 10:Nat):Int):=by
  simp only [IntKind.wrap,IntKind.signed,IntKind.bits,pw,aY];rw [show ((2:Int) ^ 8)=256 from rfl];simp only [dF,jg];omega
 rw [e2]; rfl
theorem BS {n:Nat}(h:n < 1000000000)(j:Nat):IntKind.wrap .u32 (Int.tdiv ((n / 10 ^ j:Nat):Int) 10)=((n / 10 ^ (j+1):Nat):Int):=by
 have e0:n / 10 ^ (j+1)=n / 10 ^ j / 10:=by rw [jk,Nat.div_div_eq_div_mul]
 have e1:Int.tdiv ((n / 10 ^ j:Nat):Int) 10=((n / 10 ^ (j+1):Nat):Int):=by
  rw [e0]; generalize n / 10 ^ j=x; rw [fk (by omega)]; omega
 have e2:n / 10 ^ (j+1)<=n:=Nat.div_le_self _ _;rw [e1,xl (by omega)]
theorem aat (n:Nat):xb n 9=(oR n).map fun c=> .int .u8 c.toNat:=by
 have key:∀x:Nat,(((UInt8.ofNat (48+x % 10)).toNat:Nat):Int)=((48+x % 10:Nat):Int):=fun x=>by
  rw [UInt8.toNat_ofNat']; omega
 simp only [xb,oR,bG,ef,oP,key,Nat.pow_zero,Nat.div_one]
section
variable {T:Nat->Option dU}{H:ay}{s:St}
theorem KS {b:Nat}{k:List iT}{l:List bg}{Q:QP}{t n:Nat}{e:Env}{ds:List (D×List D)}{g:Option (Nat×Bool)}{x y:bP}{m:List UInt8}(h:gG T H b l k ⟨(t,.str (m.drop n))::e,ds⟩ s Q)(hn:n<=m.length)(hw:aI e g=some true:=by rfl)(hx:x.ev e=some (.str m):=by rfl)(hy:y.ev e=some (.int .i64 (Nat.cast n)):=by rfl):gG T H b (⟨some t,.pj x (some y) none,g,none⟩::l) k ⟨e,ds⟩ s Q:=by
 have e1:Nat.ble n m.length=true:=au hn;have e2:Nat.ble m.length m.length=true:=au (aq _);have e3:lH 0 (some (.int .i64 (n:Int)))=some n:=by simp [lH,idx]
 have e4:sJ e (some y)=some (some (.int .i64 (n:Int))):=by simp [sJ,hy]
 refine du h hw ?_;simp only [cC,hx,e4,show sJ e none=some none from rfl,e3,show lH m.length none=some m.length from rfl,e1,e2,eE]
theorem Oe (hX:TX T){hi lo:Nat}(h1:hi < 1000000000)(h2:lo < 4294967296):cu T H 247 [.int .u32 hi,.int .u32 lo,.int .u32 1000000000] s fun d s1=>d= .gK [.int .u32 ((hi * 4294967296+lo) / 1000000000:Nat),.int .u32 ((hi * 4294967296+lo) % 1000000000:Nat)]/\s1=s:=by
 refine ax hX.t247 ?_;try refine go ?_
 have e1:IntKind.wrap .u64 (hi:Int)=(hi:Int):=xw (by omega);have e2:(hi:Int) * 2 ^ min (Int.toNat 32) (IntKind.bits .u64)=((hi * 4294967296:Nat):Int):=by
  rw [show (2:Int) ^ min (Int.toNat 32) (IntKind.bits .u64)=4294967296 from rfl]; omega
 have e3:IntKind.wrap .u64 ((hi * 4294967296:Nat):Int)=((hi * 4294967296:Nat):Int):=xw (by omega);have e4:IntKind.wrap .u64 (lo:Int)=(lo:Int):=xw (by omega);have e5:=Nv (a:=hi) (b:=lo) (by omega) h2;have e6:IntKind.wrap .u64 1000000000=1000000000:=rfl;have e7:Int.tdiv ((hi * 4294967296+lo:Nat):Int) 1000000000=(((hi * 4294967296+lo) / 1000000000:Nat):Int):=by
  rw [fk (by omega)]; omega
 have e8:Int.tmod ((hi * 4294967296+lo:Nat):Int) 1000000000=(((hi * 4294967296+lo) % 1000000000:Nat):Int):=by
  rw [bZ (by omega)]; omega
 have e9:IntKind.wrap .u64 (((hi * 4294967296+lo) / 1000000000:Nat):Int)=(((hi * 4294967296+lo) / 1000000000:Nat):Int):=xw (by omega);have e10:IntKind.wrap .u32 (((hi * 4294967296+lo) / 1000000000:Nat):Int)=(((hi * 4294967296+lo) / 1000000000:Nat):Int):=xl (by omega);have e11:IntKind.wrap .u32 (((hi * 4294967296+lo) % 1000000000:Nat):Int)=(((hi * 4294967296+lo) % 1000000000:Nat):Int):=xl (by omega);simp only [e1,e2,e3,e4,e5,e6,e7,e8,e9,e10,e11];exact ai ⟨rfl,rfl⟩
theorem Ki (hX:TX T){n:Nat}(hn:n < 1000000000):cu T H 248 [.int .u32 n] s fun d s1=>d= .agg ((oR n).map fun c=> .int .u8 c.toNat)/\s1=s:=by
 refine ax hX.t248 ?_;try refine go ?_
 refine ee 9 (fun j=>dgF n j) (fun j s' =>s' =s) rfl ?_ (hF:=by simp [dgF]; rfl);rintro j s' hj rfl;rcases (show j=0\/j=1\/j=2\/j=3\/j=4\/j=5\/j=6\/j=7\/j=8\/j=9 by omega) with rfl | rfl | rfl | rfl | rfl | rfl | rfl | rfl | rfl | rfl
 ·show eH T H _ _ ⟨[(0,.int .u32 (n / 10 ^ 0:Nat)),(2,(D.agg (xb n 0)).lv),(3,(D.agg (xb n 0)).lv),(5,.int .i64 0)],[]⟩ _ _;try refine go ?_
  rw [BX,BS hn];exact dw (by omega) rfl rfl rfl
 ·show eH T H _ _ ⟨[(0,.int .u32 (n / 10 ^ 1:Nat)),(2,(D.agg (xb n 0)).lv),(3,(D.agg (xb n 1)).lv),(5,.int .i64 1)],[]⟩ _ _;try refine go ?_
  rw [BX,BS hn];exact dw (by omega) rfl rfl rfl
 ·show eH T H _ _ ⟨[(0,.int .u32 (n / 10 ^ 2:Nat)),(2,(D.agg (xb n 0)).lv),(3,(D.agg (xb n 2)).lv),(5,.int .i64 2)],[]⟩ _ _;try refine go ?_
  rw [BX,BS hn];exact dw (by omega) rfl rfl rfl
 ·show eH T H _ _ ⟨[(0,.int .u32 (n / 10 ^ 3:Nat)),(2,(D.agg (xb n 0)).lv),(3,(D.agg (xb n 3)).lv),(5,.int .i64 3)],[]⟩ _ _;try refine go ?_
  rw [BX,BS hn];exact dw (by omega) rfl rfl rfl
 ·show eH T H _ _ ⟨[(0,.int .u32 (n / 10 ^ 4:Nat)),(2,(D.agg (xb n 0)).lv),(3,(D.agg (xb n 4)).lv),(5,.int .i64 4)],[]⟩ _ _;try refine go ?_
  rw [BX,BS hn];exact dw (by omega) rfl rfl rfl
 ·show eH T H _ _ ⟨[(0,.int .u32 (n / 10 ^ 5:Nat)),(2,(D.agg (xb n 0)).lv),(3,(D.agg (xb n 5)).lv),(5,.int .i64 5)],[]⟩ _ _;try refine go ?_
  rw [BX,BS hn];exact dw (by omega) rfl rfl rfl
 ·show eH T H _ _ ⟨[(0,.int .u32 (n / 10 ^ 6:Nat)),(2,(D.agg (xb n 0)).lv),(3,(D.agg (xb n 6)).lv),(5,.int .i64 6)],[]⟩ _ _;try refine go ?_
  rw [BX,BS hn];exact dw (by omega) rfl rfl rfl
 ·show eH T H _ _ ⟨[(0,.int .u32 (n / 10 ^ 7:Nat)),(2,(D.agg (xb n 0)).lv),(3,(D.agg (xb n 7)).lv),(5,.int .i64 7)],[]⟩ _ _;try refine go ?_
  rw [BX,BS hn];exact dw (by omega) rfl rfl rfl
 ·show eH T H _ _ ⟨[(0,.int .u32 (n / 10 ^ 8:Nat)),(2,(D.agg (xb n 0)).lv),(3,(D.agg (xb n 8)).lv),(5,.int .i64 8)],[]⟩ _ _;try refine go ?_
  rw [BX,BS hn];exact dw (by omega) rfl rfl rfl
 ·show eH T H _ _ ⟨[(0,.int .u32 (n / 10 ^ 9:Nat)),(2,(D.agg (xb n 0)).lv),(3,(D.agg (xb n 9)).lv),(5,.int .i64 9)],[]⟩ _ _;try refine go ?_
  refine ai ⟨?_,rfl⟩;rw [← aat]; rfl
theorem Ed (hX:TX T){l:List UInt8}{c:UInt8}(hl:l.length<=1000000000):cu T H 281 [.str l,.int .u8 c.toNat] s fun d s1=>d= .str (l.dropWhile (· ==c))/\s1=s:=by
 refine ax hX.t281 ?_;try refine go ?_
 refine cg (fun m env s' =>s' =s/\∃l',l'.length<=m/\l'.dropWhile (· ==c)=l.dropWhile (· ==c)/\l'.length<=l.length/\env=[(0,.str l'),(1,.int .u8 c.toNat)]) l.length rfl ⟨rfl,l,aq _,rfl,aq _,rfl⟩ ?_;rintro m env s' ⟨rfl,l',hm,hd,Ff,rfl⟩;cases l' with
 | nil=>
  try refine go ?_
  exact ai ⟨by rw [← hd],rfl⟩
 | cons a r=>
  have h0:(0:Int) < ((a::r).length:Nat):=by rw [aV]; omega
  try refine go ?_
  rcases Decidable.em (a=c) with hac | hac
  ·subst hac;rw [show ((a.toNat:Int)==(a.toNat:Int))=true from beq_self_eq_true _];try refine go ?_
   refine KS (n:=1) (m:=a::r) ?_ (by rw [aV]; omega);rw [show (a::r).drop 1=r from rfl];try refine go ?_
   rw [aV]at hm Ff;refine bf r.length (by omega) rfl ⟨rfl,r,aq _, ?_,by omega,rfl⟩;rw [← hd,List.dropWhile_cons_of_pos (by simp)]
  ·rw [show ((a.toNat:Int)==(c.toNat:Int))=false from by rw [bJ]; intro h; exact hac (UInt8.toNat_inj.1 (by omega))];try refine go ?_
   refine ai ⟨?_,rfl⟩;rw [← hd,List.dropWhile_cons_of_neg (by simpa using hac)];rfl
end
def TU (T:Nat->Option dU)(H:ay):Prop:=∀(s:St) (l:List UInt8),l.length<=1000000000->cu T H 137 [.str l] s fun d s1=>d= .bool (Lib.validD l)/\s1=s
noncomputable section
def U0:=RK.mk (a:=cf Tryz.f176 176)
def N4:=RK.mk (a:=cf Tryz.f178 178)
def Uc:=RK.mk (a:=cf Tryz.f180 180)
def Ve:=RK.mk (a:=cf Tryz.f204 204)
def SQ:=RK.mk (a:=cf Tryz.f210 210)
def Sy:=RK.mk (a:=cf Tryz.f220 220)
def SX:=RK.mk (a:=cf Tryz.f226 226)
def UD:=RK.mk (a:=cf Tryz.f227 227)
def Uh:=RK.mk (a:=cf Tryz.f228 228)
def Uq:=RK.mk (a:=cf Tryz.f229 229)
def UT:=RK.mk (a:=cf Tryz.f230 230)
def TK:=RK.mk (a:=cf Tryz.f231 231)
def Sz:=RK.mk (a:=cf Tryz.f232 232)
def Tq:=RK.mk (a:=cf Tryz.f233 233)
def Sp:=RK.mk (a:=cf Tryz.f253 253)
def Vr:=RK.mk (a:=cf Tryz.f260 260)
def SV:=RK.mk (a:=cf Tryz.f261 261)
def TG:=RK.mk (a:=cf Tryz.f262 262)
def SD:=RK.mk (a:=cf Tryz.f263 263)
def Vi:=RK.mk (a:=cf Tryz.f264 264)
def Pc:=RK.mk (a:=cf Tryz.f265 265)
def TF:=RK.mk (a:=cf Tryz.f266 266)
def Mp:=RK.mk (a:=cf Tryz.f267 267)
def Vw:=RK.mk (a:=cf Tryz.f268 268)
def So:=RK.mk (a:=cf Tryz.f269 269)
def SP:=RK.mk (a:=cf Tryz.f270 270)
def Uy:=RK.mk (a:=cf Tryz.f286 286)
def T0:=RK.mk (a:=cf Tryz.f287 287)
def Tk:=RK.mk (a:=cf Tryz.f289 289)
def UM:=RK.mk (a:=cf Tryz.f290 290)
def Vj:=RK.mk (a:=cf Tryz.f291 291)
def VG:=RK.mk (a:=cf Tryz.f306 306)
def SR:=RK.mk (a:=cf Tryz.f386 386)
def VF:=RK.mk (a:=cf Tryz.f387 387)
def U9:=RK.mk (a:=cf Tryz.f388 388)
def S1:=RK.mk (a:=cf Tryz.f390 390)
def Ss:=RK.mk (a:=cf Tryz.f391 391)
def UX:=RK.mk (a:=cf Tryz.f392 392)
end
structure TT (T:Nat->Option dU):Prop where
 t176:T 176=some U0.1
 t178:T 178=some N4.1
 t180:T 180=some Uc.1
 t204:T 204=some Ve.1
 t210:T 210=some SQ.1
 t220:T 220=some Sy.1
 t226:T 226=some SX.1
 t227:T 227=some UD.1
 t228:T 228=some Uh.1
 t229:T 229=some Uq.1
 t230:T 230=some UT.1
 t231:T 231=some TK.1
 t232:T 232=some Sz.1
 t233:T 233=some Tq.1
 t253:T 253=some Sp.1
 t260:T 260=some Vr.1
 t261:T 261=some SV.1
 t262:T 262=some TG.1
 t263:T 263=some SD.1
 t264:T 264=some Vi.1
 t265:T 265=some Pc.1
 t266:T 266=some TF.1
 t267:T 267=some Mp.1
 t268:T 268=some Vw.1
 t269:T 269=some So.1
 t270:T 270=some SP.1
 t286:T 286=some Uy.1
 t287:T 287=some T0.1
 t289:T 289=some Tk.1
 t290:T 290=some UM.1
 t291:T 291=some Vj.1
 t306:T 306=some VG.1
 t386:T 386=some SR.1
 t387:T 387=some VF.1
 t388:T 388=some U9.1
 t390:T 390=some S1.1
 t391:T 391=some Ss.1
 t392:T 392=some UX.1
def VY:Bool->Nat
 | true=>424
 | false=>427
def Ow:Bool->Nat
 | true=>464
 | false=>465
def w9:Bool->IntKind
 | true=> .i8
 | false=> .i16
def K6:Bool->Int
 | true=>1
 | false=>2
structure cr (s:St)(co ro log:Nat)(b:Bool)(st:Nat)(C:List Int):Prop where
 go:s.get co=some (.var 377 (.agg [.int .i64 (log:Nat),.ia (VY b) (.agg [.sl ro 0 (2 ^ log) (2 ^ log),.int .i64 (K6 b)])]))
 gr:s.get ro=some (.arr 1 (Ow b) (C.map fun v=>D.int (w9 b) v) st)
 ln:C.length=2 ^ log
 st:st<=2 ^ log
 lo:3<=log
 hi:log<=if b then 7 else 15
 ne:co≠ro
theorem cr.dK {W:Nat->Prop}{s s1:St}{co ro log st:Nat}{b:Bool}{C:List Int}(h:cr s co ro log b st C)(hs:s.Ok)(hb:aF W s s1)(h1: ¬ W co)(h2: ¬ W ro):cr s1 co ro log b st C:=
 ⟨hb.get hs h.go h1,hb.get hs h.gr h2,h.ln,h.st,h.lo,h.hi,h.ne⟩
theorem cr.pow {s:St}{co ro log st:Nat}{b:Bool}{C:List Int}(h:cr s co ro log b st C):8<=2 ^ log/\2 ^ log<=32768:=by
 have h1:=h.lo;have h2:log<=15:=by have:=h.hi; split at this <;> omega
 have e1:2 ^ 3<=2 ^ log:=c9 (by decide) h1;have e2:2 ^ log<=2 ^ 15:=c9 (by decide) h2;exact⟨e1,e2⟩
section
variable {T:Nat->Option dU}{H:ay}
theorem BQ (hT:TT T){s:St}{co ro log st:Nat}{b:Bool}{C:List Int}(h:cr s co ro log b st C):cu T H 268 [.ptr co 0] s fun d s1=>s1=s/\d= .bool false:=by
 obtain⟨h1,h2,h3,h4,h5,h6,h7⟩:=h;refine ax hT.t268 ?_;try refine go ?_
 exact ai ⟨rfl,rfl⟩
theorem Gs (hT:TT T){s:St}{co ro log st:Nat}{b:Bool}{C:List Int}(h:cr s co ro log b st C):cu T H 229 [.ptr co 0] s fun d s1=>s1=s/\d= .int .i64 (log:Nat):=by
 have hn:=BQ (H:=H) hT h;obtain⟨h1,h2,h3,h4,h5,h6,h7⟩:=h;refine ax hT.t229 ?_;try refine go ?_
 refine ak hn ?_;rintro d s1 ⟨rfl,rfl⟩;try refine go ?_
 exact ai ⟨rfl,rfl⟩
theorem IP (hT:TT T){s:St}{ro log:Nat}{b:Bool}:cu T H (if b then 387 else 391) [.agg [.sl ro 0 (2 ^ log) (2 ^ log),.int .i64 (K6 b)]] s fun d s1=>s1=s/\d= .int .i64 (2 ^ log:Nat):=by
 cases b
 ·refine ax hT.t391 ?_;try refine go ?_
  exact ai ⟨rfl,rfl⟩
 ·refine ax hT.t387 ?_;try refine go ?_
  exact ai ⟨rfl,rfl⟩
theorem Hy (hT:TT T){s:St}{co ro log st:Nat}{b:Bool}{C:List Int}(h:cr s co ro log b st C):cu T H 291 [.ptr co 0] s fun d s1=>s1=s/\d= .int .i64 (2 ^ log:Nat):=by
 have hn:=BQ (H:=H) hT h;have hl:=IP (H:=H) hT (s:=s) (ro:=ro) (log:=log) (b:=b);obtain⟨h1,h2,h3,h4,h5,h6,h7⟩:=h;cases b
 ·refine ax hT.t291 ?_
  repeat' first | refine go ?_ | (refine ak hn ?_; rintro d s1 ⟨rfl,rfl⟩) | (refine ak hl ?_; rintro d s1 ⟨rfl,rfl⟩)
  exact ai ⟨rfl,rfl⟩
 ·refine ax hT.t291 ?_
  repeat' first | refine go ?_ | (refine ak hn ?_; rintro d s1 ⟨rfl,rfl⟩) | (refine ak hl ?_; rintro d s1 ⟨rfl,rfl⟩)
  exact ai ⟨rfl,rfl⟩
theorem QG {N:Nat}(h:N<=32768):IntKind.wrap .i64 (Int.tdiv (IntKind.wrap .i64 (2 * (N:Int))) 3)=((2 * N / 3:Nat):Int):=by
 rw [wrap_small (n:=2 * (N:Int)) (by omega) (by omega)];have e:Int.tdiv (2 * (N:Int)) 3=((2 * N / 3:Nat):Int):=by
  rw [fk (by omega)]; omega
 rw [e,wrap_small (by omega) (by omega)]
theorem xf (hT:TT T){s:St}{co ro log st:Nat}{b:Bool}{C:List Int}(h:cr s co ro log b st C):cu T H 262 [.ptr co 0] s fun d s1=>s1=s/\d= .int .i64 (2 * 2 ^ log / 3:Nat):=by
 have hz:=Hy (H:=H) hT h;have hp:=h.pow;have hr:=QG hp.2;refine ax hT.t262 ?_;try refine go ?_
 refine ak hz ?_;rintro d s1 ⟨rfl,rfl⟩;try refine go ?_
 rw [hr];exact ai ⟨rfl,rfl⟩
theorem Ai (hT:TT T){s:St}{co ro log st i:Nat}{b:Bool}{C:List Int}(h:cr s co ro log b st C)(hi:i < 2 ^ log):cu T H 269 [.ptr co 0,.int .i64 (i:Nat)] s fun d s1=>s1=s/\d= .int .i64 0:=by
 have hn:=BQ (H:=H) hT h;have hz:=Hy (H:=H) hT h;refine ax hT.t269 ?_;try refine go ?_
 refine ak hn ?_;rintro d s1 ⟨rfl,rfl⟩;try refine go ?_
 refine ak hz ?_;rintro d s1 ⟨rfl,rfl⟩;try refine go ?_
 exact ai ⟨rfl,rfl⟩
theorem Wa (hT:TT T){s:St}{co ro log st:Nat}{b:Bool}{C:List Int}(h:cr s co ro log b st C){v:Int}(hv:v= -1\/0<=v/\v < (2 * 2 ^ log / 3:Nat)):cu T H 290 [.ptr co 0,.int .i64 v] s fun d s1=>s1=s/\d= .bool true:=by
 have hz:=xf (H:=H) hT h;refine ax hT.t290 ?_;rcases hv with rfl | ⟨h1,h2⟩
 ·try refine go ?_
  exact ai ⟨rfl,rfl⟩
 ·try refine go ?_
  refine ak hz ?_;rintro d s1 ⟨rfl,rfl⟩;try refine go ?_
  exact ai ⟨rfl,rfl⟩
end
theorem RE {n:Int}(h1: -128<=n)(h2:n < 128):IntKind.wrap .i8 n=n:=by
 simp only [IntKind.wrap,IntKind.signed,IntKind.bits,fM,aY,ge_iff_le];rw [show ((2:Int) ^ (8 - 1))=128 from rfl,show ((2:Int) ^ 8)=256 from rfl];split <;> omega
theorem LW {n:Int}(h1: -32768<=n)(h2:n < 32768):IntKind.wrap .i16 n=n:=by
 simp only [IntKind.wrap,IntKind.signed,IntKind.bits,fM,aY,ge_iff_le];rw [show ((2:Int) ^ (16 - 1))=32768 from rfl,show ((2:Int) ^ 16)=65536 from rfl];split <;> omega
section
variable {T:Nat->Option dU}{H:ay}
theorem N7 (hT:TT T){s:St}{ro st i:Nat}{N:Nat}{C:List Int}(hg:s.get ro=some (.arr 1 (Ow true) (C.map fun v=>D.int (w9 true) v) st))(hl:C.length=N)(dN:st<=N)(hi:i < N)(hb:∀v∈C, -1<=v/\v < 32768):
  cu T H 386 [.agg [.sl ro 0 N N,.int .i64 (K6 true)],.int .i64 (i:Nat)] s fun d s1=>s1=s/\∃v,C[i]? =some v/\d= .int .i64 v:=by
 have hn:(C.map fun v=>D.int (w9 true) v).length=N:=by simp [hl]
 have hi' :i < C.length:=by omega
 have he:(C.map fun v=>D.int (w9 true) v)[0+i]? =some (.int (w9 true) C[i]):=by simp [hi']
 have hv:=hb C[i] (bH hi');have Ug:C[i]? =some C[i]:=ab hi';generalize C[i]=v at he hv Ug;have hw:IntKind.wrap .i64 v=v:=wrap_small (by omega) (by omega);refine ax hT.t386 ?_;try refine go ?_
 rw [hw];exact ai ⟨rfl,v,Ug,rfl⟩
theorem JP (hT:TT T){s:St}{ro st i:Nat}{N:Nat}{C:List Int}(hg:s.get ro=some (.arr 1 (Ow false) (C.map fun v=>D.int (w9 false) v) st))(hl:C.length=N)(dN:st<=N)(hi:i < N)(hb:∀v∈C, -1<=v/\v < 32768):
  cu T H 390 [.agg [.sl ro 0 N N,.int .i64 (K6 false)],.int .i64 (i:Nat)] s fun d s1=>s1=s/\∃v,C[i]? =some v/\d= .int .i64 v:=by
 have hn:(C.map fun v=>D.int (w9 false) v).length=N:=by simp [hl]
 have hi' :i < C.length:=by omega
 have he:(C.map fun v=>D.int (w9 false) v)[0+i]? =some (.int (w9 false) C[i]):=by simp [hi']
 have hv:=hb C[i] (bH hi');have Ug:C[i]? =some C[i]:=ab hi';generalize C[i]=v at he hv Ug;have hw:IntKind.wrap .i64 v=v:=wrap_small (by omega) (by omega);refine ax hT.t390 ?_;try refine go ?_
 rw [hw];exact ai ⟨rfl,v,Ug,rfl⟩
theorem HL (hT:TT T){s:St}{co ro log st i:Nat}{b:Bool}{C:List Int}(h:cr s co ro log b st C)(hi:i < 2 ^ log)(hb:∀v∈C, -1<=v/\v < 32768):
  cu T H 230 [.ptr co 0,.int .i64 (i:Nat)] s fun d s1=>s1=s/\∃v,C[i]? =some v/\d= .gK [.int .i64 v,.int .i64 0]:=by
 have hw:=Ai (H:=H) hT h hi;have h1:=h.go;cases b
 ·have hg:=JP (H:=H) hT h.gr h.ln h.st hi hb;refine ax hT.t230 ?_;try refine go ?_
  refine ak hw ?_;rintro d s1 ⟨rfl,rfl⟩;try refine go ?_
  refine ak hg ?_;rintro d s1 ⟨rfl,v,hv,rfl⟩;try refine go ?_
  exact ai ⟨rfl,v,hv,rfl⟩
 ·have hg:=N7 (H:=H) hT h.gr h.ln h.st hi hb;refine ax hT.t230 ?_;try refine go ?_
  refine ak hw ?_;rintro d s1 ⟨rfl,rfl⟩;try refine go ?_
  refine ak hg ?_;rintro d s1 ⟨rfl,v,hv,rfl⟩;try refine go ?_
  exact ai ⟨rfl,v,hv,rfl⟩
theorem cr.put {s:St}{co ro log st i:Nat}{b:Bool}{C:List Int}{v:Int}(h:cr s co ro log b st C):cr (s.bF ro (.arr 1 (Ow b) (((C.map fun v=>D.int (w9 b) v)).set i (.int (w9 b) v)) (C.map fun v=>D.int (w9 b) v).length)) co ro log b (2 ^ log) (C.set i v):=by
 refine⟨St.eS h.go h.ne, ?_,by rw [ic]; exact h.ln,aq _,h.lo,h.hi,h.ne⟩;rw [St.aO,aJ,h.ln,jj]
theorem DN (hT:TT T){s:St}{co ro log st i:Nat}{C:List Int}{v:Int}(hs:s.Ok)(h:cr s co ro log true st C)(hi:i < 2 ^ log)(hv: -1<=v/\v < 128):
  cu T H 388 [.agg [.sl ro 0 (2 ^ log) (2 ^ log),.int .i64 (K6 true)],.int .i64 (i:Nat),.int .i64 v] s fun d s1=>cr s1 co ro log true (2 ^ log) (C.set i v)/\aF (fun j=>j=ro) s s1:=by
 have hg:=h.gr;have lr:=hs.lt hg;have hn:(C.map fun v=>D.int (w9 true) v).length=2 ^ log:=by simp [h.ln]
 have dN:=h.st;have hi' :i < C.length:=by rw [h.ln]; exact hi
 have he:(C.map fun v=>D.int (w9 true) v)[0+i]? =some (.int (w9 true) C[i]):=by simp [hi']
 have hw:IntKind.wrap .i8 v=v:=RE (by omega) (by omega);have tW:=h.put (i:=0+i) (v:=v);rw [aN]at tW;refine ax hT.t388 ?_;try refine go ?_
 rw [hw];refine iu ⟨?_,aF.set (aF.refl hs) _ lr (fun _=>rfl)⟩;rw [aN];exact tW
theorem AX (hT:TT T){s:St}{co ro log st i:Nat}{C:List Int}{v:Int}(hs:s.Ok)(h:cr s co ro log false st C)(hi:i < 2 ^ log)(hv: -1<=v/\v < 32768):
  cu T H 392 [.agg [.sl ro 0 (2 ^ log) (2 ^ log),.int .i64 (K6 false)],.int .i64 (i:Nat),.int .i64 v] s fun d s1=>cr s1 co ro log false (2 ^ log) (C.set i v)/\aF (fun j=>j=ro) s s1:=by
 have hg:=h.gr;have lr:=hs.lt hg;have hn:(C.map fun v=>D.int (w9 false) v).length=2 ^ log:=by simp [h.ln]
 have dN:=h.st;have hi' :i < C.length:=by rw [h.ln]; exact hi
 have he:(C.map fun v=>D.int (w9 false) v)[0+i]? =some (.int (w9 false) C[i]):=by simp [hi']
 have hw:IntKind.wrap .i16 v=v:=LW (by omega) (by omega);have tW:=h.put (i:=0+i) (v:=v);rw [aN]at tW;refine ax hT.t392 ?_;try refine go ?_
 rw [hw];refine iu ⟨?_,aF.set (aF.refl hs) _ lr (fun _=>rfl)⟩;rw [aN];exact tW
theorem PN (hT:TT T){s:St}{co ro log st i:Nat}{b:Bool}{C:List Int}{v:Int}(hs:s.Ok)(h:cr s co ro log b st C)(hi:i < 2 ^ log)(hv:v= -1\/0<=v/\v < (2 * 2 ^ log / 3:Nat)):
  cu T H 261 [.ptr co 0,.int .i64 (i:Nat),.int .i64 v] s fun d s1=>d= .int .i64 0/\cr s1 co ro log b (2 ^ log) (C.set i v)/\aF (fun j=>j=ro) s s1:=by
 have hw:=Ai (H:=H) hT h hi;have hm:=Wa (H:=H) hT h hv;have h1:=h.go;have hp:=h.pow;have hh:=h.hi;have hl:=h.lo;cases b
 ·have hg:=AX (H:=H) hT hs h hi (v:=v) (by omega);refine ax hT.t261 ?_;try refine go ?_
  refine ak hw ?_;rintro d s1 ⟨rfl,rfl⟩;try refine go ?_
  refine ak hm ?_;rintro d s1 ⟨rfl,rfl⟩;try refine go ?_
  refine ak hg ?_;rintro d s1 ⟨q1,q2⟩;try refine go ?_
  exact ai ⟨rfl,q1,q2⟩
 ·have hp7:2 ^ log<=128:=by
   have e2:2 ^ log<=2 ^ 7:=c9 (by decide) (by simpa using hh);exact e2
  have hg:=DN (H:=H) hT hs h hi (v:=v) (by omega);refine ax hT.t261 ?_;try refine go ?_
  refine ak hw ?_;rintro d s1 ⟨rfl,rfl⟩;try refine go ?_
  refine ak hm ?_;rintro d s1 ⟨rfl,rfl⟩;try refine go ?_
  refine ak hg ?_;rintro d s1 ⟨q1,q2⟩;try refine go ?_
  exact ai ⟨rfl,q1,q2⟩
end
end Go.Proofs.Tab
