/- Part. -/
import Derived.Test.YtdkejjahldkkoaaGreatDoorG21
import Derived.Lib.ValidU
import Derived.Lib.ItoaLen
set_option linter.unusedSectionVars false
set_option maxRecDepth 100000
set_option maxHeartbeats 4000000
set_option linter.unusedSimpArgs false
set_option linter.unusedVariables false
namespace Go.Proofs.Tab
open Go Go.Ab Go.Ab.Sm
theorem wrap_small {n:Int}(h1: -9223372036854775808<=n)(h2:n < 9223372036854775808):IntKind.wrap .i64 n=n:=by
 simp only [IntKind.wrap,IntKind.signed,IntKind.bits,fM,aX,ge_iff_le];rw [show ((2:Int) ^ (64 - 1))=9223372036854775808 from rfl,show ((2:Int) ^ 64)=18446744073709551616 from rfl];split <;> omega
abbrev dz (V:List Nat):List D:=V.map fun v:Nat=>D.int .u32 (v:Int)
theorem cN (V:List Nat):(dz V).length=V.length:=aH _
inductive Ws (s:St):D->List Nat->Prop
 | vs (nl:Bool) (V:List Nat) (hn:nl=true->V=[]):Ws s (.vs nl 1 (dz V)) V
 | nil:Ws s (.vs true 0 []) []
 | sl (o cp:Nat) (V R:List Nat) (h:s.get o=some (.arr 1 263 (dz (V++R)) 0)) (hc:V.length<=cp):Ws s (.sl o 0 V.length cp) V
def bU (V:List Nat):List Nat:=(V.reverse.dropWhile (· ==0)).reverse
theorem lR (V:List Nat):bU (V++ [0])=bU V:=by simp [bU]
theorem lN {V:List Nat}{v:Nat}(h:v≠0):bU (V++ [v])=V++ [v]:=by
 have:(v==0)=false:=by simp [h]
 simp [bU,this]
theorem oK {α:Type}(V:List α){n:Nat}(h:n < V.length):V.take (n+1)=V.take n++ [V[n]]:=by rw [gz,ae h]; rfl
theorem wW (V:List Nat):bU V=[]\/∃W v,bU V=W++ [v]/\v≠0:=by
 unfold bU;cases h:V.reverse.dropWhile (· ==0) with
 | nil=>exact .inl rfl
 | cons v W=>
  refine .inr ⟨W.reverse,v,by simp, ?_⟩;have:=List.head?_dropWhile_not (· ==0) V.reverse;rw [h]at this;simpa using this
theorem mG (V:List Nat):bU (bU V)=bU V:=by
 rcases wW V with h | ⟨W,v,h,hv⟩
 ·rw [h]; rfl
 ·rw [h,lN hv]
theorem jV (V:List Nat):(bU V).length<=V.length:=by
 unfold bU;rw [ix];have:=(mh (l:=V.reverse) (· ==0)).length_le;rwa [ix]at this
theorem Ws.items {s:St}{x:D}{V:List Nat}(h:Ws s x V):∃z,items s x=some (z,dz V)/\(z=1\/V=[]):=by
 rcases h with ⟨nl,V,hn⟩ | _ | ⟨o,cp,V,R,hg,hc⟩
 ·exact⟨1,rfl,.inl rfl⟩
 ·exact⟨0,rfl,.inr rfl⟩
 ·refine⟨1, ?_,.inl rfl⟩;have e1:Nat.ble (0+V.length) (dz (V++R)).length=true:=aq (by rw [cN,aB]; omega);have e2:Nat.ble 0 (0+cp)=true:=aq (aR _);simp only [Ab.items,hg,e1,e2]
  congr 2
  simp
theorem Ws.dU {W:Nat->Prop}{s s1:St}{x:D}{V:List Nat}(h:Ws s x V)(hs:s.Ok)(hb:aC W s s1)(hw:∀j es st,s.get j=some (.arr 1 263 es st)-> ¬ W j):Ws s1 x V:=by
 rcases h with ⟨nl,V,hn⟩ | _ | ⟨o,cp,V,R,hg,hc⟩
 ·exact .vs nl V hn
 ·exact .nil
 ·exact .sl o cp V R (hb.get hs hg (hw _ _ _ hg)) hc
theorem pd (V:List Nat):eG 1 (dz V)=true:=by
 induction V with
 | nil=>rfl
 | cons v V ih=>simp only [dz,bG,eG]at ih ⊢; rw [ih]; rfl
section
variable {T:Nat->Option dS}{H:au}
theorem pH (hT:TW T){s:St}{x:D}{V:List Nat}(hx:Ws s x V)(hV:V.length<=maxLen):cu T H 151 [x] s fun d s1=>s1=s/\Ws s d (bU V):=by
 have lW:maxLen=9223372036854775807:=by decide
 rcases hx with ⟨nl,V,qW⟩ | _ | ⟨o,cp,V,R,hg,hc⟩
 ·refine ay hT.t151 ?_;try refine go ?_
  refine cg (fun m env s' =>s' =s/\m<=V.length/\env=[(0,.vs nl 1 (dz (V.take m)))]/\bU (V.take m)=bU V) V.length rfl ⟨rfl,an _, ?_,by rw [eD]⟩ ?_
  ·rw [eD]; rfl
  rintro m env s' ⟨rfl,hm,rfl,ht⟩;have hl:(dz (V.take m)).length=m:=by rw [cN,cR]; omega
  cases m with
  | zero=>
   try refine go ?_
   refine ai ⟨rfl, ?_⟩;rw [← ht];exact .vs nl (V.take 0) (fun _=>rfl)
  | succ m=>
   have dQ:m < V.length:=by omega
   have hw:IntKind.wrap .i64 (((dz (V.take (m+1))).length:Int) - 1)=(m:Nat):=by rw [hl,wrap_small (by omega) (by omega)]; omega
   have he:(dz (V.take (m+1)))[m]? =some (.int .u32 (V[m]:Nat)):=by simp [dQ]
   have zP:(dz (V.take (m+1))).take m=dz (V.take m):=by simp [List.take_take]
   have zu:=oK V dQ;generalize hv:V[m]=v at he zu;by_cases h0:v=0
   ·try refine go ?_
    simp only [hw];try refine go ?_
    simp only [hw];refine QO (L:=dz (V.take (m+1))) (hi' :=m) (lo' :=0) (.inl rfl) rfl (show mq _ (some (D.int .i64 (m:Nat)))=some m from ju (kd:= .i64)) (aR _) (by omega) ?_;try refine go ?_
    rw [gv,zP];refine bg m (by omega) rfl ⟨rfl,by omega,rfl, ?_⟩;rw [← ht,zu,h0,lR]
   ·try refine go ?_
    simp only [hw];try refine go ?_
    refine ai ⟨rfl, ?_⟩;rw [← ht,zu,lN h0,← zu];exact .vs nl _ (fun h=>by rw [qW h]; rfl)
 ·refine ay hT.t151 ?_;try refine go ?_
  refine lQ ?_;try refine go ?_
  exact ai ⟨rfl,.nil⟩
 ·refine ay hT.t151 ?_;try refine go ?_
  refine cg (fun m env s' =>s' =s/\m<=V.length/\env=[(0,.sl o 0 m cp)]/\bU (V.take m)=bU V) V.length rfl ⟨rfl,an _,rfl,by rw [eD]⟩ ?_;rintro m env s' ⟨rfl,hm,rfl,ht⟩;have pQ:(dz (V++R)).length=V.length+R.length:=by rw [cN,aB]
  cases m with
  | zero=>
   try refine go ?_
   refine ai ⟨rfl, ?_⟩;rw [← ht];exact .sl o cp [] (V++R) hg (aR _)
  | succ m=>
   have dQ:m < V.length:=by omega
   have hw:IntKind.wrap .i64 (((m+1:Nat):Int) - 1)=(m:Nat):=by rw [wrap_small (by omega) (by omega)]; omega
   have he:(dz (V++R))[0+m]? =some (.int .u32 (V[m]:Nat)):=by simp [dQ,nG]
   have zu:=oK V dQ;generalize hv:V[m]=v at he zu;by_cases h0:v=0
   ·try refine go ?_
    simp only [hw];try refine go ?_
    simp only [hw];try refine go ?_
    refine bg m (by omega) rfl ⟨rfl,by omega,rfl, ?_⟩;rw [← ht,zu,h0,lR]
   ·try refine go ?_
    simp only [hw];try refine go ?_
    refine ai ⟨rfl, ?_⟩;rw [← ht,zu,lN h0,← zu];have:=Ws.sl (s:=s') o cp (V.take (m+1)) (V.drop (m+1)++R) (by rw [← List.append_assoc,gK]; exact hg) (by rw [cR]; omega);rw [cR,Nat.min_eq_left hm]at this;exact this
end
section
variable {T:Nat->Option dS}{H:au}
theorem D0 (hT:TW T){s:St}{x:D}{V:List Nat}(hs:s.Ok)(hx:Ws s x V)(hV:V.length<=aL):cu T H 150 [x] s fun d s1=>Ws s1 d V/\aC Nil s s1:=by
 rcases hx with ⟨nl,V,qW⟩ | _ | ⟨o,cp,V,R,hg,hc⟩
 ·cases nl with
  | true=>
   rw [qW rfl];refine ay hT.t150 ?_;try refine go ?_
   exact ai ⟨.nil,aC.refl hs⟩
  | false=>
   refine ay hT.t150 ?_;cases V with
   | nil=>
    try refine go ?_
    refine IZ (z:=1) rfl ?_;try refine go ?_
    exact ai ⟨.sl s.n 0 [] [] St.ba (an _),aC.push (aC.refl hs) _⟩
   | cons v V=>
    have tV:0+(dz (v::V)).length<=aL:=by rw [cN,aM]; exact hV
    refine run_seq ?_;try refine go ?_
    refine tY (z:=1) (m:=dz (v::V)) rfl rfl (by simp) (pd _) tV ?_ (es:=[]) (off:=0) (he:=rfl);try refine go ?_
    refine ai ⟨?_,aC.set (aC.push (aC.refl hs) _) _ (by rw [St.dN]; omega) (fun h=>by omega)⟩;have:=Ws.sl (s:=(s.bc (.arr 1 263 [] 0)).bD s.n (.arr 1 263 ([]++dz (v::V)) 0)) s.n (0+(dz (v::V)).length) (v::V) [] (by rw [dY]; exact St.aN) (by rw [cN]; omega);rw [show 0+(dz (v::V)).length=(v::V).length by rw [cN]; omega]at this ⊢;exact this
 ·refine ay hT.t150 ?_;try refine go ?_
  exact ai ⟨.nil,aC.refl hs⟩
 ·refine ay hT.t150 ?_;have lo:=hs.lt hg;have UB:(s.bc (.arr 1 263 [] 0)).get o=some (.arr 1 263 (dz (V++R)) 0):=St.fh hg (by omega);obtain⟨z,hz,Pz⟩:=(Ws.sl (s:=s.bc (.arr 1 263 [] 0)) o cp V R UB hc).items;cases V with
  | nil=>
   try refine go ?_
   refine IZ hz ?_;try refine go ?_
   exact ai ⟨.sl s.n 0 [] [] St.ba (an _),aC.push (aC.refl hs) _⟩
  | cons v V=>
   have tV:0+(dz (v::V)).length<=aL:=by rw [cN,aM]; exact hV
   have PQ:z=1:=by rcases Pz with h | h; exact h; cases h
   try refine go ?_
   refine tY hz PQ (by simp) (pd _) tV ?_ (es:=[]) (off:=0) (he:=rfl);try refine go ?_
   refine ai ⟨?_,aC.set (aC.push (aC.refl hs) _) _ (by rw [St.dN]; omega) (fun h=>by omega)⟩;have:=Ws.sl (s:=(s.bc (.arr 1 263 [] 0)).bD s.n (.arr 1 263 ([]++dz (v::V)) 0)) s.n (0+(dz (v::V)).length) (v::V) [] (by rw [dY]; exact St.aN) (by rw [cN]; omega);rw [show 0+(dz (v::V)).length=(v::V).length by rw [cN]; omega]at this ⊢;exact this
def dZ (ng:Bool)(V:List Nat):Bool×List Nat:=match bU V with
 | []=>(false,[])
 | v::W=>(ng,v::W)
theorem GN (ng:Bool)(V:List Nat):dZ ng (bU V)=dZ ng V:=by unfold dZ; rw [mG]
theorem Gp (ng:Bool)(V:List Nat):dZ (dZ ng V).1 (dZ ng V).2=dZ ng V:=by
 unfold dZ;cases h:bU V with
 | nil=>rfl
 | cons v W=>simp only; rw [← h,mG,h]
theorem Kg (ng:Bool)(V:List Nat):dZ (!(dZ (!(dZ ng V).1) (dZ ng V).2).1) (dZ (!(dZ ng V).1) (dZ ng V).2).2=dZ ng V:=by
 unfold dZ;cases h:bU V with
 | nil=>rfl
 | cons v W=>simp only; rw [← h,mG,h]; simp only; rw [← h,mG,h]; simp
theorem l7 (ng:Bool)(V:List Nat):(dZ ng V).2.length<=V.length:=by
 have:=jV V;unfold dZ;cases h:bU V with
 | nil=>simp
 | cons v W=>rw [h]at this; exact this
def qQ (s:St)(d:D)(n:Bool×List Nat):Prop:=∃y,d= .agg [.bool n.1,y]/\Ws s y n.2
theorem qQ.dU {W:Nat->Prop}{s s1:St}{d:D}{n:Bool×List Nat}(h:qQ s d n)(hs:s.Ok)(hb:aC W s s1)(hw:∀j es st,s.get j=some (.arr 1 263 es st)-> ¬ W j):qQ s1 d n:=by
 obtain⟨y,h1,h2⟩:=h;exact⟨y,h1,h2.dU hs hb hw⟩
theorem ab8 {s:St}{y:D}{V:List Nat}(h:Ws s y V):o7 s 1 y=some V.length:=by
 rcases h with ⟨nl,V,hn⟩ | _ | ⟨o,cp,V,R,hg,hc⟩
 ·simp [o7]
 ·rfl
 ·rfl
theorem zc (hT:TW T){s:St}{x:D}{ng:Bool}{V:List Nat}(hx:Ws s x V)(hV:V.length<=maxLen):cu T H 123 [.bool ng,x] s fun d s1=>s1=s/\qQ s d (dZ ng V):=by
 have lW:maxLen=9223372036854775807:=by decide
 have GD:=pH (H:=H) hT hx hV;have hle:=jV V;unfold dZ;rcases hx with ⟨nl,V,hn⟩ | _ | ⟨o,cp,V,R,hg,hc⟩
 all_goals
  refine ay hT.t123 ?_;try refine go ?_
  refine ak GD ?_;rintro d s1 ⟨rfl,hd⟩;generalize bU _=W at hd hle ⊢;rcases hd with ⟨nl',W,Fu⟩ | _ | ⟨o',cp',W,R',Wq,Zm⟩
  ·cases W with
   | nil=>
    try refine go ?_
    exact ai ⟨rfl,_,rfl,.nil⟩
   | cons v W=>
    have hq:((dz (v::W)).length:Int)≠0:=by rw [cN,aU]; omega
    try refine go ?_
    exact ai ⟨rfl,_,rfl,.vs _ _ Fu⟩
  ·try refine go ?_
   exact ai ⟨rfl,_,rfl,.nil⟩
  ·cases W with
   | nil=>
    try refine go ?_
    exact ai ⟨rfl,_,rfl,.nil⟩
   | cons v W=>
    have hq:((v::W).length:Int)≠0:=by rw [aU]; omega
    try refine go ?_
    exact ai ⟨rfl,_,rfl,.sl _ _ _ _ Wq Zm⟩
end
open Go Go.Ab
def gG:List Nat->Nat
 | []=>0
 | a::r=>a+4294967296 * gG r
theorem Es (V R:List Nat):gG (V++R)=gG V+4294967296 ^ V.length * gG R:=by
 induction V with
 | nil=>simp [gG]
 | cons a r ih=>simp only [iL,gG,ih,aU,jl,Nat.mul_add]; rw [jQ (4294967296 ^ r.length) 4294967296,gS]; omega
theorem ED {P:List Nat->Prop}(h0:P [])(h1:∀V v,P V->P (V++ [v]))(V:List Nat):P V:=by
 have key:∀W:List Nat,P W.reverse:=by
  intro W;induction W with
  | nil=>exact h0
  | cons a r ih=>rw [List.reverse_cons]; exact h1 _ _ ih
 have:=key V.reverse;rwa [List.reverse_reverse]at this
theorem vM (V:List Nat):gG (bU V)=gG V:=by
 refine ED (P:=fun V=>gG (bU V)=gG V) rfl (fun V v ih=> ?_) V;by_cases h:v=0
 ·subst h; rw [lR,ih,Es]; simp [gG]
 ·rw [lN h]
theorem vE (V:List Nat)(h:bU V≠ []):0 < gG (bU V):=by
 rcases wW V with h1 | ⟨W,v,h1,h2⟩
 ·exact absurd h1 h
 ·rw [h1,Es];have:0 < 4294967296 ^ W.length * gG [v]:=Nat.mul_pos (Nat.pow_pos (by omega)) (by simp [gG]; omega);omega
theorem tp (V:List Nat):bU V=V.take (bU V).length:=by
 refine ED (P:=fun V=>bU V=V.take (bU V).length) rfl (fun V v ih=> ?_) V;by_cases h:v=0
 ·subst h;rw [lR,List.take_append_of_le_length (jV V)]; exact ih
 ·rw [lN h,eD]
def iH:List Nat->List Nat×Nat
 | []=>([],0)
 | a::r=>let q:=iH r; ((q.2 * 4294967296+a) / 1000000000::q.1,(q.2 * 4294967296+a) % 1000000000)
theorem yr:∀V:List Nat,(iH V).1.length=V.length
 | []=>rfl
 | a::r=>by simp [iH,yr r]
theorem xA:∀V:List Nat,(iH V).2 < 1000000000
 | []=>by simp [iH]
 | a::r=>by simp only [iH]; omega
theorem zh:∀V:List Nat,gG V=gG (iH V).1 * 1000000000+(iH V).2
 | []=>rfl
 | a::r=>by
  have:=zh r;simp only [iH,gG];omega
theorem zr:∀V:List Nat,(∀v∈V,v < 4294967296)->∀v∈(iH V).1,v < 4294967296
 | [],_,v,hv=>by simp [iH]at hv
 | a::r,h,v,hv=>by
  simp only [iH,bS]at hv;rcases hv with rfl | hv
  ·have h1:=h a (by simp);have h2:=xA r;omega
  ·exact zr r (fun v hv=>h v (by simp [hv])) v hv
theorem Nx (V:List Nat):gG (iH V).1=gG V / 1000000000:=by
 have:=zh V; have:=xA V; omega
theorem Xa (V:List Nat):(iH V).2=gG V % 1000000000:=by
 have:=zh V; have:=xA V; omega
def eH (n:Nat):List Nat:=if h:n=0 then [] else n % 1000000000::eH (n / 1000000000)
 termination_by n
 decreasing_by omega
theorem v7:eH 0=[]:=by rw [eH,dif_pos rfl]
theorem nh {n:Nat}(h:n≠0):eH n=n % 1000000000::eH (n / 1000000000):=by rw [eH,dif_neg h]
theorem GH (n:Nat):∀p∈eH n,p < 1000000000:=by
 induction n using Nat.strongRecOn with
 | ind n ih=>
  intro p hp;by_cases h:n=0
  ·rw [h,v7]at hp; cases hp
  ·rw [nh h]at hp;simp only [bS]at hp;rcases hp with rfl | hp
   ·omega
   ·exact ih _ (by omega) p hp
theorem EX (n:Nat):∀k,n < 1000000000 ^ k->(eH n).length<=k:=by
 induction n using Nat.strongRecOn with
 | ind n ih=>
  intro k hk;by_cases h:n=0
  ·rw [h,v7]; simp
  ·cases k with
   | zero=>simp at hk; omega
   | succ k=>
    rw [nh h,aU];have:=ih (n / 1000000000) (by omega) k (by rw [jl]at hk; rw [Nat.div_lt_iff_lt_mul (by omega)]; exact hk);omega
def o5 (n:Nat):List UInt8:=[n / 100000000,n / 10000000,n / 1000000,n / 100000,n / 10000,n / 1000,n / 100,n / 10,n].map fun d=>UInt8.ofNat (48+d % 10)
def jv (P:List Nat):List UInt8:=P.reverse.flatMap o5
def uG (ng:Bool)(V:List Nat):List UInt8:=if bU V=[] then [48] else (if ng then [45] else [])++(jv (eH (gG V))).dropWhile (· ==48)
noncomputable section
def ZQ:=RK.mk (a:=cf Tryz.f16 16)
def aac:=RK.mk (a:=cf Tryz.f27 27)
def Dy:=RK.mk (a:=cf Tryz.f117 117)
def Td:=RK.mk (a:=cf Tryz.f152 152)
def S2:=RK.mk (a:=cf Tryz.f154 154)
def UP:=RK.mk (a:=cf Tryz.f155 155)
def U0:=RK.mk (a:=cf Tryz.f156 156)
def Tw:=RK.mk (a:=cf Tryz.f189 189)
end
structure TX (T:Nat->Option dS):Prop where
 t16:T 16=some ZQ.1
 t27:T 27=some aac.1
 t117:T 117=some Dy.1
 t152:T 152=some Td.1
 t154:T 154=some S2.1
 t155:T 155=some UP.1
 t156:T 156=some U0.1
 t189:T 189=some Tw.1
theorem NV {a b:Nat}(ha:a < 4294967296)(hb:b < 4294967296):IntKind.wrap .u64 (((BitVec.ofInt (IntKind.bits .u64) ((a * 4294967296:Nat):Int) ||| BitVec.ofInt (IntKind.bits .u64) (b:Int)).toNat:Nat):Int)=((a * 4294967296+b:Nat):Int):=by
 have e1:(BitVec.ofInt 64 ((a * 4294967296:Nat):Int)).toNat=a * 4294967296:=by
  rw [BitVec.ofInt_natCast,BitVec.toNat_ofNat,kQ (by omega)]
 have e2:(BitVec.ofInt 64 ((b:Nat):Int)).toNat=b:=by
  rw [BitVec.ofInt_natCast,BitVec.toNat_ofNat,kQ (by omega)]
 have e3:a * 4294967296 ||| b=a * 4294967296+b:=by
  have:=Nat.two_pow_add_eq_or_of_lt (i:=32) (b:=b) (by simpa using hb) a;rw [show (2:Nat) ^ 32=4294967296 by rfl,jQ]at this;exact this.symm
 show IntKind.wrap .u64 (((BitVec.ofInt 64 ((a * 4294967296:Nat):Int) ||| BitVec.ofInt 64 (b:Int)).toNat:Nat):Int)=_;rw [BitVec.toNat_or,e1,e2,e3];simp only [IntKind.wrap,IntKind.signed,IntKind.bits,pq,aX];rw [show ((2:Int) ^ 64)=18446744073709551616 from rfl];simp only [db,iw];omega
theorem xr {n:Nat}(h:n < 18446744073709551616):IntKind.wrap .u64 (n:Int)=(n:Int):=by
 simp only [IntKind.wrap,IntKind.signed,IntKind.bits,pq,aX];rw [show ((2:Int) ^ 64)=18446744073709551616 from rfl];simp only [db,iw];omega
theorem xI {n:Nat}(h:n < 4294967296):IntKind.wrap .u32 (n:Int)=(n:Int):=by
 simp only [IntKind.wrap,IntKind.signed,IntKind.bits,pq,aX];rw [show ((2:Int) ^ 32)=4294967296 from rfl];simp only [db,iw];omega
def pf (x:Nat):D:= .int .u8 ((48+x % 10:Nat):Int)
def xq (n:Nat):Nat->List D
 | 0=> [.int .u8 0,.int .u8 0,.int .u8 0,.int .u8 0,.int .u8 0,.int .u8 0,.int .u8 0,.int .u8 0,.int .u8 0]
 | 1=> [.int .u8 0,.int .u8 0,.int .u8 0,.int .u8 0,.int .u8 0,.int .u8 0,.int .u8 0,.int .u8 0,pf (n / 10 ^ 0)]
 | 2=> [.int .u8 0,.int .u8 0,.int .u8 0,.int .u8 0,.int .u8 0,.int .u8 0,.int .u8 0,pf (n / 10 ^ 1),pf (n / 10 ^ 0)]
 | 3=> [.int .u8 0,.int .u8 0,.int .u8 0,.int .u8 0,.int .u8 0,.int .u8 0,pf (n / 10 ^ 2),pf (n / 10 ^ 1),pf (n / 10 ^ 0)]
 | 4=> [.int .u8 0,.int .u8 0,.int .u8 0,.int .u8 0,.int .u8 0,pf (n / 10 ^ 3),pf (n / 10 ^ 2),pf (n / 10 ^ 1),pf (n / 10 ^ 0)]
 | 5=> [.int .u8 0,.int .u8 0,.int .u8 0,.int .u8 0,pf (n / 10 ^ 4),pf (n / 10 ^ 3),pf (n / 10 ^ 2),pf (n / 10 ^ 1),pf (n / 10 ^ 0)]
 | 6=> [.int .u8 0,.int .u8 0,.int .u8 0,pf (n / 10 ^ 5),pf (n / 10 ^ 4),pf (n / 10 ^ 3),pf (n / 10 ^ 2),pf (n / 10 ^ 1),pf (n / 10 ^ 0)]
 | 7=> [.int .u8 0,.int .u8 0,pf (n / 10 ^ 6),pf (n / 10 ^ 5),pf (n / 10 ^ 4),pf (n / 10 ^ 3),pf (n / 10 ^ 2),pf (n / 10 ^ 1),pf (n / 10 ^ 0)]
 | 8=> [.int .u8 0,pf (n / 10 ^ 7),pf (n / 10 ^ 6),pf (n / 10 ^ 5),pf (n / 10 ^ 4),pf (n / 10 ^ 3),pf (n / 10 ^ 2),pf (n / 10 ^ 1),pf (n / 10 ^ 0)]
 | _=> [pf (n / 10 ^ 8),pf (n / 10 ^ 7),pf (n / 10 ^ 6),pf (n / 10 ^ 5),pf (n / 10 ^ 4),pf (n / 10 ^ 3),pf (n / 10 ^ 2),pf (n / 10 ^ 1),pf (n / 10 ^ 0)]
def dgF (n j:Nat):Env:=[(0,.int .u32 (n / 10 ^ j:Nat)),(2,(D.agg (xq n 0)).lv),(3,(D.agg (xq n j)).lv),(5,.int .i64 (j:Nat))]
theorem B9 (x:Nat):D.int .u8 (IntKind.wrap .u8 (IntKind.wrap .u32 (48+Int.tmod (x:Int) 10)))=pf x:=by
 have e1:48+Int.tmod (x:Int) 10=((48+x % 10:Nat):Int):=by rw [bY (by omega)]; omega
 rw [e1,xI (by omega)];have e2:IntKind.wrap .u8 ((48+x % 10:Nat):Int)=((48+x % 10:Nat):Int):=by
  simp only [IntKind.wrap,IntKind.signed,IntKind.bits,pq,aX];rw [show ((2:Int) ^ 8)=256 from rfl];simp only [db,iw];omega
 rw [e2]; rfl
theorem CI {n:Nat}(h:n < 1000000000)(j:Nat):IntKind.wrap .u32 (Int.tdiv ((n / 10 ^ j:Nat):Int) 10)=((n / 10 ^ (j+1):Nat):Int):=by
 have e0:n / 10 ^ (j+1)=n / 10 ^ j / 10:=by rw [jl,Nat.div_div_eq_div_mul]
 have e1:Int.tdiv ((n / 10 ^ j:Nat):Int) 10=((n / 10 ^ (j+1):Nat):Int):=by
  rw [e0]; generalize n / 10 ^ j=x; rw [fj (by omega)]; omega
 have e2:n / 10 ^ (j+1)<=n:=Nat.div_le_self _ _;rw [e1,xI (by omega)]
theorem Z5 (n:Nat):xq n 9=(o5 n).map fun c=> .int .u8 c.toNat:=by
 have key:∀x:Nat,(((UInt8.ofNat (48+x % 10)).toNat:Nat):Int)=((48+x % 10:Nat):Int):=fun x=>by
  rw [UInt8.toNat_ofNat']; omega
 simp only [xq,o5,bG,ed,pf,key,Nat.pow_zero,Nat.div_one]
section
variable {T:Nat->Option dS}{H:au}{s:St}
theorem Kq {b:Nat}{k:List je}{l:List bj}{Q:QP}{t n:Nat}{e:Env}{ds:List (D×List D)}{g:Option (Nat×Bool)}{x y:bP}{m:List UInt8}(h:gN T H b l k ⟨(t,.str (m.drop n))::e,ds⟩ s Q)(hn:n<=m.length)(hw:aI e g=some true:=by rfl)(hx:x.ev e=some (.str m):=by rfl)(hy:y.ev e=some (.int .i64 (Nat.cast n)):=by rfl):gN T H b (⟨some t,.pz x (some y) none,g,none⟩::l) k ⟨e,ds⟩ s Q:=by
 have e1:Nat.ble n m.length=true:=aq hn;have e2:Nat.ble m.length m.length=true:=aq (an _);have e3:mq 0 (some (.int .i64 (n:Int)))=some n:=by simp [mq,idx]
 have e4:uz e (some y)=some (some (.int .i64 (n:Int))):=by simp [uz,hy]
 refine dC h hw ?_;simp only [cB,hx,e4,show uz e none=some none from rfl,e3,show mq m.length none=some m.length from rfl,e1,e2,eD]
theorem ME (hX:TX T){hi lo:Nat}(h1:hi < 1000000000)(h2:lo < 4294967296):cu T H 152 [.int .u32 hi,.int .u32 lo,.int .u32 1000000000] s fun d s1=>d= .gJ [.int .u32 ((hi * 4294967296+lo) / 1000000000:Nat),.int .u32 ((hi * 4294967296+lo) % 1000000000:Nat)]/\s1=s:=by
 refine ay hX.t152 ?_;try refine go ?_
 have e1:IntKind.wrap .u64 (hi:Int)=(hi:Int):=xr (by omega);have e2:(hi:Int) * 2 ^ min (Int.toNat 32) (IntKind.bits .u64)=((hi * 4294967296:Nat):Int):=by
  rw [show (2:Int) ^ min (Int.toNat 32) (IntKind.bits .u64)=4294967296 from rfl]; omega
 have e3:IntKind.wrap .u64 ((hi * 4294967296:Nat):Int)=((hi * 4294967296:Nat):Int):=xr (by omega);have e4:IntKind.wrap .u64 (lo:Int)=(lo:Int):=xr (by omega);have e5:=NV (a:=hi) (b:=lo) (by omega) h2;have e6:IntKind.wrap .u64 1000000000=1000000000:=rfl;have e7:Int.tdiv ((hi * 4294967296+lo:Nat):Int) 1000000000=(((hi * 4294967296+lo) / 1000000000:Nat):Int):=by
  rw [fj (by omega)]; omega
 have e8:Int.tmod ((hi * 4294967296+lo:Nat):Int) 1000000000=(((hi * 4294967296+lo) % 1000000000:Nat):Int):=by
  rw [bY (by omega)]; omega
 have e9:IntKind.wrap .u64 (((hi * 4294967296+lo) / 1000000000:Nat):Int)=(((hi * 4294967296+lo) / 1000000000:Nat):Int):=xr (by omega);have e10:IntKind.wrap .u32 (((hi * 4294967296+lo) / 1000000000:Nat):Int)=(((hi * 4294967296+lo) / 1000000000:Nat):Int):=xI (by omega);have e11:IntKind.wrap .u32 (((hi * 4294967296+lo) % 1000000000:Nat):Int)=(((hi * 4294967296+lo) % 1000000000:Nat):Int):=xI (by omega);simp only [e1,e2,e3,e4,e5,e6,e7,e8,e9,e10,e11];exact ai ⟨rfl,rfl⟩
theorem KJ (hX:TX T){n:Nat}(hn:n < 1000000000):cu T H 154 [.int .u32 n] s fun d s1=>d= .agg ((o5 n).map fun c=> .int .u8 c.toNat)/\s1=s:=by
 refine ay hX.t154 ?_;try refine go ?_
 refine eT 9 (fun j=>dgF n j) (fun j s' =>s' =s) rfl ?_ (hF:=by simp [dgF]; rfl);rintro j s' hj rfl;rcases (show j=0\/j=1\/j=2\/j=3\/j=4\/j=5\/j=6\/j=7\/j=8\/j=9 by omega) with rfl | rfl | rfl | rfl | rfl | rfl | rfl | rfl | rfl | rfl
 ·show eI T H _ _ ⟨[(0,.int .u32 (n / 10 ^ 0:Nat)),(2,(D.agg (xq n 0)).lv),(3,(D.agg (xq n 0)).lv),(5,.int .i64 0)],[]⟩ _ _;try refine go ?_
  rw [B9,CI hn];exact dO (by omega) rfl rfl rfl
 ·show eI T H _ _ ⟨[(0,.int .u32 (n / 10 ^ 1:Nat)),(2,(D.agg (xq n 0)).lv),(3,(D.agg (xq n 1)).lv),(5,.int .i64 1)],[]⟩ _ _;try refine go ?_
  rw [B9,CI hn];exact dO (by omega) rfl rfl rfl
 ·show eI T H _ _ ⟨[(0,.int .u32 (n / 10 ^ 2:Nat)),(2,(D.agg (xq n 0)).lv),(3,(D.agg (xq n 2)).lv),(5,.int .i64 2)],[]⟩ _ _;try refine go ?_
  rw [B9,CI hn];exact dO (by omega) rfl rfl rfl
 ·show eI T H _ _ ⟨[(0,.int .u32 (n / 10 ^ 3:Nat)),(2,(D.agg (xq n 0)).lv),(3,(D.agg (xq n 3)).lv),(5,.int .i64 3)],[]⟩ _ _;try refine go ?_
  rw [B9,CI hn];exact dO (by omega) rfl rfl rfl
 ·show eI T H _ _ ⟨[(0,.int .u32 (n / 10 ^ 4:Nat)),(2,(D.agg (xq n 0)).lv),(3,(D.agg (xq n 4)).lv),(5,.int .i64 4)],[]⟩ _ _;try refine go ?_
  rw [B9,CI hn];exact dO (by omega) rfl rfl rfl
 ·show eI T H _ _ ⟨[(0,.int .u32 (n / 10 ^ 5:Nat)),(2,(D.agg (xq n 0)).lv),(3,(D.agg (xq n 5)).lv),(5,.int .i64 5)],[]⟩ _ _;try refine go ?_
  rw [B9,CI hn];exact dO (by omega) rfl rfl rfl
 ·show eI T H _ _ ⟨[(0,.int .u32 (n / 10 ^ 6:Nat)),(2,(D.agg (xq n 0)).lv),(3,(D.agg (xq n 6)).lv),(5,.int .i64 6)],[]⟩ _ _;try refine go ?_
  rw [B9,CI hn];exact dO (by omega) rfl rfl rfl
 ·show eI T H _ _ ⟨[(0,.int .u32 (n / 10 ^ 7:Nat)),(2,(D.agg (xq n 0)).lv),(3,(D.agg (xq n 7)).lv),(5,.int .i64 7)],[]⟩ _ _;try refine go ?_
  rw [B9,CI hn];exact dO (by omega) rfl rfl rfl
 ·show eI T H _ _ ⟨[(0,.int .u32 (n / 10 ^ 8:Nat)),(2,(D.agg (xq n 0)).lv),(3,(D.agg (xq n 8)).lv),(5,.int .i64 8)],[]⟩ _ _;try refine go ?_
  rw [B9,CI hn];exact dO (by omega) rfl rfl rfl
 ·show eI T H _ _ ⟨[(0,.int .u32 (n / 10 ^ 9:Nat)),(2,(D.agg (xq n 0)).lv),(3,(D.agg (xq n 9)).lv),(5,.int .i64 9)],[]⟩ _ _;try refine go ?_
  refine ai ⟨?_,rfl⟩;rw [← Z5]; rfl
theorem Dp (hX:TX T){l:List UInt8}{c:UInt8}(hl:l.length<=1000000000):cu T H 189 [.str l,.int .u8 c.toNat] s fun d s1=>d= .str (l.dropWhile (· ==c))/\s1=s:=by
 refine ay hX.t189 ?_;try refine go ?_
 refine cg (fun m env s' =>s' =s/\∃l',l'.length<=m/\l'.dropWhile (· ==c)=l.dropWhile (· ==c)/\l'.length<=l.length/\env=[(0,.str l'),(1,.int .u8 c.toNat)]) l.length rfl ⟨rfl,l,an _,rfl,an _,rfl⟩ ?_;rintro m env s' ⟨rfl,l',hm,hd,Fs,rfl⟩;cases l' with
 | nil=>
  try refine go ?_
  exact ai ⟨by rw [← hd],rfl⟩
 | cons a r=>
  have h0:(0:Int) < ((a::r).length:Nat):=by rw [aU]; omega
  try refine go ?_
  rcases Decidable.em (a=c) with hac | hac
  ·subst hac;rw [show ((a.toNat:Int)==(a.toNat:Int))=true from beq_self_eq_true _];try refine go ?_
   refine Kq (n:=1) (m:=a::r) ?_ (by rw [aU]; omega);rw [show (a::r).drop 1=r from rfl];try refine go ?_
   rw [aU]at hm Fs;refine bg r.length (by omega) rfl ⟨rfl,r,an _, ?_,by omega,rfl⟩;rw [← hd,List.dropWhile_cons_of_pos (by simp)]
  ·rw [show ((a.toNat:Int)==(c.toNat:Int))=false from by rw [bQ]; intro h; exact hac (UInt8.toNat_inj.1 (by omega))];try refine go ?_
   refine ai ⟨?_,rfl⟩;rw [← hd,List.dropWhile_cons_of_neg (by simpa using hac)];rfl
end
structure TU (T:Nat->Option dS)(H:au):Prop where
 v:∀(s:St) (l:List UInt8),l.length<=1000000000->cu T H 72 [.str l] s fun d s1=>d= .bool (Lib.validD l)/\s1=s
 i:∀(s:St) (n:Nat),n < 1000000->cu T H 119 [.int .i64 (n:Nat)] s fun d s1=>s1=s/\d= .str (Lib.itoa (n:Nat))
theorem Sj {n:Nat}(h:n < 1000000):(Lib.itoa (n:Nat)).length<=1000:=cU (Lib.itoa_length_le (n:Nat) (by omega) (by omega)) (by decide)
noncomputable section
def U6:=RK.mk (a:=cf Tryz.f130 130)
def UQ:=RK.mk (a:=cf Tryz.f168 168)
def Md:=RK.mk (a:=cf Tryz.f170 170)
def SK:=RK.mk (a:=cf Tryz.f172 172)
def Ul:=RK.mk (a:=cf Tryz.f174 174)
def S7:=RK.mk (a:=cf Tryz.f184 184)
def UI:=RK.mk (a:=cf Tryz.f198 198)
def US:=RK.mk (a:=cf Tryz.f204 204)
def SL:=RK.mk (a:=cf Tryz.f209 209)
def UT:=RK.mk (a:=cf Tryz.f210 210)
def S6:=RK.mk (a:=cf Tryz.f211 211)
def UJ:=RK.mk (a:=cf Tryz.f212 212)
def Vk:=RK.mk (a:=cf Tryz.f213 213)
def SQ:=RK.mk (a:=cf Tryz.f214 214)
def Tx:=RK.mk (a:=cf Tryz.f215 215)
def S1:=RK.mk (a:=cf Tryz.f218 218)
def TQ:=RK.mk (a:=cf Tryz.f219 219)
def TO:=RK.mk (a:=cf Tryz.f232 232)
def UO:=RK.mk (a:=cf Tryz.f233 233)
def Vm:=RK.mk (a:=cf Tryz.f234 234)
def SH:=RK.mk (a:=cf Tryz.f235 235)
def Ta:=RK.mk (a:=cf Tryz.f236 236)
def OR:=RK.mk (a:=cf Tryz.f237 237)
def Uf:=RK.mk (a:=cf Tryz.f238 238)
def O3:=RK.mk (a:=cf Tryz.f239 239)
def TA:=RK.mk (a:=cf Tryz.f242 242)
def Vf:=RK.mk (a:=cf Tryz.f243 243)
def TN:=RK.mk (a:=cf Tryz.f244 244)
def Tu:=RK.mk (a:=cf Tryz.f245 245)
def UY:=RK.mk (a:=cf Tryz.f253 253)
def Ts:=RK.mk (a:=cf Tryz.f254 254)
def Ve:=RK.mk (a:=cf Tryz.f255 255)
def SZ:=RK.mk (a:=cf Tryz.f334 334)
def Vc:=RK.mk (a:=cf Tryz.f335 335)
def Ug:=RK.mk (a:=cf Tryz.f336 336)
def Uz:=RK.mk (a:=cf Tryz.f338 338)
def U1:=RK.mk (a:=cf Tryz.f339 339)
def Vb:=RK.mk (a:=cf Tryz.f340 340)
end
structure TT (T:Nat->Option dS):Prop where
 t130:T 130=some U6.1
 t168:T 168=some UQ.1
 t170:T 170=some Md.1
 t172:T 172=some SK.1
 t174:T 174=some Ul.1
 t184:T 184=some S7.1
 t198:T 198=some UI.1
 t204:T 204=some US.1
 t209:T 209=some SL.1
 t210:T 210=some UT.1
 t211:T 211=some S6.1
 t212:T 212=some UJ.1
 t213:T 213=some Vk.1
 t214:T 214=some SQ.1
 t215:T 215=some Tx.1
 t218:T 218=some S1.1
 t219:T 219=some TQ.1
 t232:T 232=some TO.1
 t233:T 233=some UO.1
 t234:T 234=some Vm.1
 t235:T 235=some SH.1
 t236:T 236=some Ta.1
 t237:T 237=some OR.1
 t238:T 238=some Uf.1
 t239:T 239=some O3.1
 t242:T 242=some TA.1
 t243:T 243=some Vf.1
 t244:T 244=some TN.1
 t245:T 245=some Tu.1
 t253:T 253=some UY.1
 t254:T 254=some Ts.1
 t255:T 255=some Ve.1
 t334:T 334=some SZ.1
 t335:T 335=some Vc.1
 t336:T 336=some Ug.1
 t338:T 338=some Uz.1
 t339:T 339=some U1.1
 t340:T 340=some Vb.1
def Vz:Bool->Nat
 | true=>392
 | false=>395
def M9:Bool->Nat
 | true=>431
 | false=>432
def xa:Bool->IntKind
 | true=> .i8
 | false=> .i16
def Lq:Bool->Int
 | true=>1
 | false=>2
structure cl (s:St)(co ro log:Nat)(b:Bool)(st:Nat)(C:List Int):Prop where
 go:s.get co=some (.var 374 (.agg [.int .i64 (log:Nat),.ig (Vz b) (.agg [.sl ro 0 (2 ^ log) (2 ^ log),.int .i64 (Lq b)])]))
 gr:s.get ro=some (.arr 1 (M9 b) (C.map fun v=>D.int (xa b) v) st)
 ln:C.length=2 ^ log
 st:st<=2 ^ log
 lo:3<=log
 hi:log<=if b then 7 else 15
 ne:co≠ro
theorem cl.dU {W:Nat->Prop}{s s1:St}{co ro log st:Nat}{b:Bool}{C:List Int}(h:cl s co ro log b st C)(hs:s.Ok)(hb:aC W s s1)(h1: ¬ W co)(h2: ¬ W ro):cl s1 co ro log b st C:=
 ⟨hb.get hs h.go h1,hb.get hs h.gr h2,h.ln,h.st,h.lo,h.hi,h.ne⟩
theorem cl.pow {s:St}{co ro log st:Nat}{b:Bool}{C:List Int}(h:cl s co ro log b st C):8<=2 ^ log/\2 ^ log<=32768:=by
 have h1:=h.lo;have h2:log<=15:=by have:=h.hi; split at this <;> omega
 have e1:2 ^ 3<=2 ^ log:=cZ (by decide) h1;have e2:2 ^ log<=2 ^ 15:=cZ (by decide) h2;exact⟨e1,e2⟩
section
variable {T:Nat->Option dS}{H:au}
theorem BS (hT:TT T){s:St}{co ro log st:Nat}{b:Bool}{C:List Int}(h:cl s co ro log b st C):cu T H 242 [.ptr co 0] s fun d s1=>s1=s/\d= .bool false:=by
 obtain⟨h1,h2,h3,h4,h5,h6,h7⟩:=h;refine ay hT.t242 ?_;try refine go ?_
 exact ai ⟨rfl,rfl⟩
theorem Gb (hT:TT T){s:St}{co ro log st:Nat}{b:Bool}{C:List Int}(h:cl s co ro log b st C):cu T H 211 [.ptr co 0] s fun d s1=>s1=s/\d= .int .i64 (log:Nat):=by
 have hn:=BS (H:=H) hT h;obtain⟨h1,h2,h3,h4,h5,h6,h7⟩:=h;refine ay hT.t211 ?_;try refine go ?_
 refine ak hn ?_;rintro d s1 ⟨rfl,rfl⟩;try refine go ?_
 exact ai ⟨rfl,rfl⟩
theorem HR (hT:TT T){s:St}{ro log:Nat}{b:Bool}:cu T H (if b then 335 else 339) [.agg [.sl ro 0 (2 ^ log) (2 ^ log),.int .i64 (Lq b)]] s fun d s1=>s1=s/\d= .int .i64 (2 ^ log:Nat):=by
 cases b
 ·refine ay hT.t339 ?_;try refine go ?_
  exact ai ⟨rfl,rfl⟩
 ·refine ay hT.t335 ?_;try refine go ?_
  exact ai ⟨rfl,rfl⟩
theorem IW (hT:TT T){s:St}{co ro log st:Nat}{b:Bool}{C:List Int}(h:cl s co ro log b st C):cu T H 255 [.ptr co 0] s fun d s1=>s1=s/\d= .int .i64 (2 ^ log:Nat):=by
 have hn:=BS (H:=H) hT h;have hl:=HR (H:=H) hT (s:=s) (ro:=ro) (log:=log) (b:=b);obtain⟨h1,h2,h3,h4,h5,h6,h7⟩:=h;cases b
 ·refine ay hT.t255 ?_
  repeat' first | refine go ?_ | (refine ak hn ?_; rintro d s1 ⟨rfl,rfl⟩) | (refine ak hl ?_; rintro d s1 ⟨rfl,rfl⟩)
  exact ai ⟨rfl,rfl⟩
 ·refine ay hT.t255 ?_
  repeat' first | refine go ?_ | (refine ak hn ?_; rintro d s1 ⟨rfl,rfl⟩) | (refine ak hl ?_; rintro d s1 ⟨rfl,rfl⟩)
  exact ai ⟨rfl,rfl⟩
theorem QW {N:Nat}(h:N<=32768):IntKind.wrap .i64 (Int.tdiv (IntKind.wrap .i64 (2 * (N:Int))) 3)=((2 * N / 3:Nat):Int):=by
 rw [wrap_small (n:=2 * (N:Int)) (by omega) (by omega)];have e:Int.tdiv (2 * (N:Int)) 3=((2 * N / 3:Nat):Int):=by
  rw [fj (by omega)]; omega
 rw [e,wrap_small (by omega) (by omega)]
theorem xC (hT:TT T){s:St}{co ro log st:Nat}{b:Bool}{C:List Int}(h:cl s co ro log b st C):cu T H 234 [.ptr co 0] s fun d s1=>s1=s/\d= .int .i64 (2 * 2 ^ log / 3:Nat):=by
 have hz:=IW (H:=H) hT h;have hp:=h.pow;have hr:=QW hp.2;refine ay hT.t234 ?_;try refine go ?_
 refine ak hz ?_;rintro d s1 ⟨rfl,rfl⟩;try refine go ?_
 rw [hr];exact ai ⟨rfl,rfl⟩
theorem Bq (hT:TT T){s:St}{co ro log st i:Nat}{b:Bool}{C:List Int}(h:cl s co ro log b st C)(hi:i < 2 ^ log):cu T H 243 [.ptr co 0,.int .i64 (i:Nat)] s fun d s1=>s1=s/\d= .int .i64 0:=by
 have hn:=BS (H:=H) hT h;have hz:=IW (H:=H) hT h;refine ay hT.t243 ?_;try refine go ?_
 refine ak hn ?_;rintro d s1 ⟨rfl,rfl⟩;try refine go ?_
 refine ak hz ?_;rintro d s1 ⟨rfl,rfl⟩;try refine go ?_
 exact ai ⟨rfl,rfl⟩
theorem Xo (hT:TT T){s:St}{co ro log st:Nat}{b:Bool}{C:List Int}(h:cl s co ro log b st C){v:Int}(hv:v= -1\/0<=v/\v < (2 * 2 ^ log / 3:Nat)):cu T H 254 [.ptr co 0,.int .i64 v] s fun d s1=>s1=s/\d= .bool true:=by
 have hz:=xC (H:=H) hT h;refine ay hT.t254 ?_;rcases hv with rfl | ⟨h1,h2⟩
 ·try refine go ?_
  exact ai ⟨rfl,rfl⟩
 ·try refine go ?_
  refine ak hz ?_;rintro d s1 ⟨rfl,rfl⟩;try refine go ?_
  exact ai ⟨rfl,rfl⟩
end
theorem QH {n:Int}(h1: -128<=n)(h2:n < 128):IntKind.wrap .i8 n=n:=by
 simp only [IntKind.wrap,IntKind.signed,IntKind.bits,fM,aX,ge_iff_le];rw [show ((2:Int) ^ (8 - 1))=128 from rfl,show ((2:Int) ^ 8)=256 from rfl];split <;> omega
theorem LW {n:Int}(h1: -32768<=n)(h2:n < 32768):IntKind.wrap .i16 n=n:=by
 simp only [IntKind.wrap,IntKind.signed,IntKind.bits,fM,aX,ge_iff_le];rw [show ((2:Int) ^ (16 - 1))=32768 from rfl,show ((2:Int) ^ 16)=65536 from rfl];split <;> omega
section
variable {T:Nat->Option dS}{H:au}
theorem Nd (hT:TT T){s:St}{ro st i:Nat}{N:Nat}{C:List Int}(hg:s.get ro=some (.arr 1 (M9 true) (C.map fun v=>D.int (xa true) v) st))(hl:C.length=N)(dT:st<=N)(hi:i < N)(hb:∀v∈C, -1<=v/\v < 32768):
  cu T H 334 [.agg [.sl ro 0 N N,.int .i64 (Lq true)],.int .i64 (i:Nat)] s fun d s1=>s1=s/\∃v,C[i]? =some v/\d= .int .i64 v:=by
 have hn:(C.map fun v=>D.int (xa true) v).length=N:=by simp [hl]
 have hi' :i < C.length:=by omega
 have he:(C.map fun v=>D.int (xa true) v)[0+i]? =some (.int (xa true) C[i]):=by simp [hi']
 have hv:=hb C[i] (bH hi');have Vq:C[i]? =some C[i]:=ae hi';generalize C[i]=v at he hv Vq;have hw:IntKind.wrap .i64 v=v:=wrap_small (by omega) (by omega);refine ay hT.t334 ?_;try refine go ?_
 rw [hw];exact ai ⟨rfl,v,Vq,rfl⟩
theorem I8 (hT:TT T){s:St}{ro st i:Nat}{N:Nat}{C:List Int}(hg:s.get ro=some (.arr 1 (M9 false) (C.map fun v=>D.int (xa false) v) st))(hl:C.length=N)(dT:st<=N)(hi:i < N)(hb:∀v∈C, -1<=v/\v < 32768):
  cu T H 338 [.agg [.sl ro 0 N N,.int .i64 (Lq false)],.int .i64 (i:Nat)] s fun d s1=>s1=s/\∃v,C[i]? =some v/\d= .int .i64 v:=by
 have hn:(C.map fun v=>D.int (xa false) v).length=N:=by simp [hl]
 have hi' :i < C.length:=by omega
 have he:(C.map fun v=>D.int (xa false) v)[0+i]? =some (.int (xa false) C[i]):=by simp [hi']
 have hv:=hb C[i] (bH hi');have Vq:C[i]? =some C[i]:=ae hi';generalize C[i]=v at he hv Vq;have hw:IntKind.wrap .i64 v=v:=wrap_small (by omega) (by omega);refine ay hT.t338 ?_;try refine go ?_
 rw [hw];exact ai ⟨rfl,v,Vq,rfl⟩
theorem HQ (hT:TT T){s:St}{co ro log st i:Nat}{b:Bool}{C:List Int}(h:cl s co ro log b st C)(hi:i < 2 ^ log)(hb:∀v∈C, -1<=v/\v < 32768):
  cu T H 212 [.ptr co 0,.int .i64 (i:Nat)] s fun d s1=>s1=s/\∃v,C[i]? =some v/\d= .gJ [.int .i64 v,.int .i64 0]:=by
 have hw:=Bq (H:=H) hT h hi;have h1:=h.go;cases b
 ·have hg:=I8 (H:=H) hT h.gr h.ln h.st hi hb;refine ay hT.t212 ?_;try refine go ?_
  refine ak hw ?_;rintro d s1 ⟨rfl,rfl⟩;try refine go ?_
  refine ak hg ?_;rintro d s1 ⟨rfl,v,hv,rfl⟩;try refine go ?_
  exact ai ⟨rfl,v,hv,rfl⟩
 ·have hg:=Nd (H:=H) hT h.gr h.ln h.st hi hb;refine ay hT.t212 ?_;try refine go ?_
  refine ak hw ?_;rintro d s1 ⟨rfl,rfl⟩;try refine go ?_
  refine ak hg ?_;rintro d s1 ⟨rfl,v,hv,rfl⟩;try refine go ?_
  exact ai ⟨rfl,v,hv,rfl⟩
theorem cl.put {s:St}{co ro log st i:Nat}{b:Bool}{C:List Int}{v:Int}(h:cl s co ro log b st C):cl (s.bD ro (.arr 1 (M9 b) (((C.map fun v=>D.int (xa b) v)).set i (.int (xa b) v)) (C.map fun v=>D.int (xa b) v).length)) co ro log b (2 ^ log) (C.set i v):=by
 refine⟨St.eP h.go h.ne, ?_,by rw [gE]; exact h.ln,an _,h.lo,h.hi,h.ne⟩;rw [St.aN,aH,h.ln,jk]
theorem EV (hT:TT T){s:St}{co ro log st i:Nat}{C:List Int}{v:Int}(hs:s.Ok)(h:cl s co ro log true st C)(hi:i < 2 ^ log)(hv: -1<=v/\v < 128):
  cu T H 336 [.agg [.sl ro 0 (2 ^ log) (2 ^ log),.int .i64 (Lq true)],.int .i64 (i:Nat),.int .i64 v] s fun d s1=>cl s1 co ro log true (2 ^ log) (C.set i v)/\aC (fun j=>j=ro) s s1:=by
 have hg:=h.gr;have lr:=hs.lt hg;have hn:(C.map fun v=>D.int (xa true) v).length=2 ^ log:=by simp [h.ln]
 have dT:=h.st;have hi' :i < C.length:=by rw [h.ln]; exact hi
 have he:(C.map fun v=>D.int (xa true) v)[0+i]? =some (.int (xa true) C[i]):=by simp [hi']
 have hw:IntKind.wrap .i8 v=v:=QH (by omega) (by omega);have uM:=h.put (i:=0+i) (v:=v);rw [aM]at uM;refine ay hT.t336 ?_;try refine go ?_
 rw [hw];refine gU ⟨?_,aC.set (aC.refl hs) _ lr (fun _=>rfl)⟩;rw [aM];exact uM
theorem A3 (hT:TT T){s:St}{co ro log st i:Nat}{C:List Int}{v:Int}(hs:s.Ok)(h:cl s co ro log false st C)(hi:i < 2 ^ log)(hv: -1<=v/\v < 32768):
  cu T H 340 [.agg [.sl ro 0 (2 ^ log) (2 ^ log),.int .i64 (Lq false)],.int .i64 (i:Nat),.int .i64 v] s fun d s1=>cl s1 co ro log false (2 ^ log) (C.set i v)/\aC (fun j=>j=ro) s s1:=by
 have hg:=h.gr;have lr:=hs.lt hg;have hn:(C.map fun v=>D.int (xa false) v).length=2 ^ log:=by simp [h.ln]
 have dT:=h.st;have hi' :i < C.length:=by rw [h.ln]; exact hi
 have he:(C.map fun v=>D.int (xa false) v)[0+i]? =some (.int (xa false) C[i]):=by simp [hi']
 have hw:IntKind.wrap .i16 v=v:=LW (by omega) (by omega);have uM:=h.put (i:=0+i) (v:=v);rw [aM]at uM;refine ay hT.t340 ?_;try refine go ?_
 rw [hw];refine gU ⟨?_,aC.set (aC.refl hs) _ lr (fun _=>rfl)⟩;rw [aM];exact uM
theorem Sr (hT:TT T){s:St}{co ro log st i:Nat}{b:Bool}{C:List Int}{v:Int}(hs:s.Ok)(h:cl s co ro log b st C)(hi:i < 2 ^ log)(hv:v= -1\/0<=v/\v < (2 * 2 ^ log / 3:Nat)):
  cu T H 233 [.ptr co 0,.int .i64 (i:Nat),.int .i64 v] s fun d s1=>d= .int .i64 0/\cl s1 co ro log b (2 ^ log) (C.set i v)/\aC (fun j=>j=ro) s s1:=by
 have hw:=Bq (H:=H) hT h hi;have hm:=Xo (H:=H) hT h hv;have h1:=h.go;have hp:=h.pow;have hh:=h.hi;have hl:=h.lo;cases b
 ·have hg:=A3 (H:=H) hT hs h hi (v:=v) (by omega);refine ay hT.t233 ?_;try refine go ?_
  refine ak hw ?_;rintro d s1 ⟨rfl,rfl⟩;try refine go ?_
  refine ak hm ?_;rintro d s1 ⟨rfl,rfl⟩;try refine go ?_
  refine ak hg ?_;rintro d s1 ⟨q1,q2⟩;try refine go ?_
  exact ai ⟨rfl,q1,q2⟩
 ·have hp7:2 ^ log<=128:=by
   have e2:2 ^ log<=2 ^ 7:=cZ (by decide) (by simpa using hh);exact e2
  have hg:=EV (H:=H) hT hs h hi (v:=v) (by omega);refine ay hT.t233 ?_;try refine go ?_
  refine ak hw ?_;rintro d s1 ⟨rfl,rfl⟩;try refine go ?_
  refine ak hm ?_;rintro d s1 ⟨rfl,rfl⟩;try refine go ?_
  refine ak hg ?_;rintro d s1 ⟨q1,q2⟩;try refine go ?_
  exact ai ⟨rfl,q1,q2⟩
end
end Go.Proofs.Tab
