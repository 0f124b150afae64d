/- Part. -/
import Derived.Test.YthaiegafejbmoaaGreatDoorG24
import Derived.Lib.ValidU
import Derived.Lib.ItoaLen
set_option maxRecDepth 100000
set_option maxHeartbeats 4000000
set_option linter.unusedSectionVars false
set_option linter.unusedSimpArgs false
set_option linter.unusedVariables false
namespace Go.Proofs.Tab
open Go Go.Ab
noncomputable section
def cd6:=RK.mk (a:=cf Tryz.f6 6)
def NC:=RK.mk (a:=cf Tryz.f7 7)
def cd8:=RK.mk (a:=cf Tryz.f8 8)
def cd9:=RK.mk (a:=cf Tryz.f9 9)
def Y4:=RK.mk (a:=cf Tryz.f15 15)
def Y5:=RK.mk (a:=cf Tryz.f16 16)
def Y6:=RK.mk (a:=cf Tryz.f18 18)
def Y7:=RK.mk (a:=cf Tryz.f19 19)
def Y8:=RK.mk (a:=cf Tryz.f20 20)
def Y9:=RK.mk (a:=cf Tryz.f21 21)
def Za:=RK.mk (a:=cf Tryz.f22 22)
def Zb:=RK.mk (a:=cf Tryz.f24 24)
def Zc:=RK.mk (a:=cf Tryz.f32 32)
def Zd:=RK.mk (a:=cf Tryz.f35 35)
def Ze:=RK.mk (a:=cf Tryz.f37 37)
def Zf:=RK.mk (a:=cf Tryz.f38 38)
def Zg:=RK.mk (a:=cf Tryz.f39 39)
def Zh:=RK.mk (a:=cf Tryz.f40 40)
def Zi:=RK.mk (a:=cf Tryz.f41 41)
def Zj:=RK.mk (a:=cf Tryz.f42 42)
def Zk:=RK.mk (a:=cf Tryz.f59 59)
def Zl:=RK.mk (a:=cf Tryz.f60 60)
def Zm:=RK.mk (a:=cf Tryz.f61 61)
def Zn:=RK.mk (a:=cf Tryz.f62 62)
def Zo:=RK.mk (a:=cf Tryz.f63 63)
def Zp:=RK.mk (a:=cf Tryz.f64 64)
def Zq:=RK.mk (a:=cf Tryz.f66 66)
def Zr:=RK.mk (a:=cf Tryz.f72 72)
def Zs:=RK.mk (a:=cf Tryz.f74 74)
def Zt:=RK.mk (a:=cf Tryz.f76 76)
def Zu:=RK.mk (a:=cf Tryz.f78 78)
def Uk:=RK.mk (a:=cf Tryz.f112 112)
def Us:=RK.mk (a:=cf Tryz.f269 269)
def Ut:=RK.mk (a:=cf Tryz.f270 270)
def Uu:=RK.mk (a:=cf Tryz.f271 271)
end
structure lC (T:Nat->Option dJ):Prop where
 t6:T 6=some cd6.1
 t7:T 7=some NC.1
 t8:T 8=some cd8.1
 t9:T 9=some cd9.1
 t15:T 15=some Y4.1
 t16:T 16=some Y5.1
 t18:T 18=some Y6.1
 t19:T 19=some Y7.1
 t20:T 20=some Y8.1
 t21:T 21=some Y9.1
 t22:T 22=some Za.1
 t24:T 24=some Zb.1
 t32:T 32=some Zc.1
 t35:T 35=some Zd.1
 t37:T 37=some Ze.1
 t38:T 38=some Zf.1
 t39:T 39=some Zg.1
 t40:T 40=some Zh.1
 t41:T 41=some Zi.1
 t42:T 42=some Zj.1
 t59:T 59=some Zk.1
 t60:T 60=some Zl.1
 t61:T 61=some Zm.1
 t62:T 62=some Zn.1
 t63:T 63=some Zo.1
 t64:T 64=some Zp.1
 t66:T 66=some Zq.1
 t72:T 72=some Zr.1
 t74:T 74=some Zs.1
 t76:T 76=some Zt.1
 t78:T 78=some Zu.1
 t112:T 112=some Uk.1
 t269:T 269=some Us.1
 t270:T 270=some Ut.1
 t271:T 271=some Uu.1
noncomputable section
def VZ:=RK.mk (a:=cf Tryz.f50 50)
def Wo:=RK.mk (a:=cf Tryz.f87 87)
def Mn:=RK.mk (a:=cf Tryz.f108 108)
def Mx:=RK.mk (a:=cf Tryz.f127 127)
def MF:=RK.mk (a:=cf Tryz.f150 150)
def MZ:=RK.mk (a:=cf Tryz.f176 176)
end
structure TW (T:Nat->Option dJ):Prop where
 t50:T 50=some VZ.1
 t87:T 87=some Wo.1
 t108:T 108=some Mn.1
 t127:T 127=some Mx.1
 t150:T 150=some MF.1
 t176:T 176=some MZ.1
open Go Go.Ab Go.Ab.Sm
theorem wrap_small {n:Int}(h1: -9223372036854775808<=n)(h2:n < 9223372036854775808):IntKind.wrap .i64 n=n:=by
 simp only [IntKind.wrap,IntKind.signed,IntKind.bits,fO,bf,ge_iff_le];rw [show ((2:Int) ^ (64 - 1))=9223372036854775808 from rfl,show ((2:Int) ^ 64)=18446744073709551616 from rfl];split <;> omega
abbrev eJ (V:List Nat):List D:=V.map fun v:Nat=>D.int .u32 (v:Int)
theorem dD (V:List Nat):(eJ V).length=V.length:=aY _
inductive Ws (s:St):D->List Nat->Prop
 | vs (nl:Bool) (V:List Nat) (hn:nl=true->V=[]):Ws s (.vs nl 1 (eJ V)) V
 | nil:Ws s (.vs true 0 []) []
 | sl (o cp:Nat) (V R:List Nat) (h:s.get o=some (.arr 1 26 (eJ (V++R)) 0)) (hc:V.length<=cp):Ws s (.sl o 0 V.length cp) V
def bV (V:List Nat):List Nat:=(V.reverse.dropWhile (· ==0)).reverse
theorem mR (V:List Nat):bV (V++ [0])=bV V:=by simp [bV]
theorem mC {V:List Nat}{v:Nat}(h:v≠0):bV (V++ [v])=V++ [v]:=by
 have:(v==0)=false:=by simp [h]
 simp [bV,this]
theorem sN {α:Type}(V:List α){n:Nat}(h:n < V.length):V.take (n+1)=V.take n++ [V[n]]:=by rw [gH,ak h]; rfl
theorem xj (V:List Nat):bV V=[]\/∃W v,bV V=W++ [v]/\v≠0:=by
 unfold bV;cases h:V.reverse.dropWhile (· ==0) with
 | nil=>exact .inl rfl
 | cons v W=>
  refine .inr ⟨W.reverse,v,by simp, ?_⟩;have:=List.head?_dropWhile_not (· ==0) V.reverse;rw [h]at this;simpa using this
theorem kY (V:List Nat):bV (bV V)=bV V:=by
 rcases xj V with h | ⟨W,v,h,hv⟩
 ·rw [h]; rfl
 ·rw [h,mC hv]
theorem jx (V:List Nat):(bV V).length<=V.length:=by
 unfold bV;rw [gQ];have:=(lF (l:=V.reverse) (· ==0)).length_le;rwa [gQ]at this
theorem Ws.items {s:St}{x:D}{V:List Nat}(h:Ws s x V):∃z,items s x=some (z,eJ V)/\(z=1\/V=[]):=by
 rcases h with ⟨nl,V,hn⟩ | _ | ⟨o,cp,V,R,hg,hc⟩
 ·exact⟨1,rfl,.inl rfl⟩
 ·exact⟨0,rfl,.inr rfl⟩
 ·refine⟨1, ?_,.inl rfl⟩;have e1:Nat.ble (0+V.length) (eJ (V++R)).length=true:=ax (by rw [dD,an]; omega);have e2:Nat.ble 0 (0+cp)=true:=ax (cH _);simp only [Ab.items,hg,e1,e2]
  congr 2
  simp
theorem Ws.dT {W:Nat->Prop}{s s1:St}{x:D}{V:List Nat}(h:Ws s x V)(hs:s.Ok)(hb:aH W s s1)(hw:∀j es st,s.get j=some (.arr 1 26 es st)-> ¬ W j):Ws s1 x V:=by
 rcases h with ⟨nl,V,hn⟩ | _ | ⟨o,cp,V,R,hg,hc⟩
 ·exact .vs nl V hn
 ·exact .nil
 ·exact .sl o cp V R (hb.get hs hg (hw _ _ _ hg)) hc
theorem qt (V:List Nat):eC 1 (eJ V)=true:=by
 induction V with
 | nil=>rfl
 | cons v V ih=>simp only [eJ,bT,eC]at ih ⊢; rw [ih]; rfl
section
variable {T:Nat->Option dJ}{H:au}
theorem pD (hT:TW T){s:St}{x:D}{V:List Nat}(hx:Ws s x V)(hV:V.length<=maxLen):bY T H 150 [x] s fun d s1=>s1=s/\Ws s d (bV V):=by
 have pW:maxLen=9223372036854775807:=by decide
 rcases hx with ⟨nl,V,qS⟩ | _ | ⟨o,cp,V,R,hg,hc⟩
 ·refine aD hT.t150 ?_;try refine go ?_
  refine fY (fun m env s' =>s' =s/\m<=V.length/\env=[(0,.vs nl 1 (eJ (V.take m)))]/\bV (V.take m)=bV V) V.length rfl ⟨rfl,aq _, ?_,by rw [fb]⟩ ?_
  ·rw [fb]; rfl
  rintro m env s' ⟨rfl,hm,rfl,ht⟩;have hl:(eJ (V.take m)).length=m:=by rw [dD,dB]; omega
  cases m with
  | zero=>
   try refine go ?_
   refine ai ⟨rfl, ?_⟩;rw [← ht];exact .vs nl (V.take 0) (fun _=>rfl)
  | succ m=>
   have eW:m < V.length:=by omega
   have hw:IntKind.wrap .i64 (((eJ (V.take (m+1))).length:Int) - 1)=(m:Nat):=by rw [hl,wrap_small (by omega) (by omega)]; omega
   have he:(eJ (V.take (m+1)))[m]? =some (.int .u32 (V[m]:Nat)):=by simp [eW]
   have Rj:(eJ (V.take (m+1))).take m=eJ (V.take m):=by simp [List.take_take]
   have xO:=sN V eW;generalize hv:V[m]=v at he xO;by_cases h0:v=0
   ·try refine go ?_
    simp only [hw];try refine go ?_
    simp only [hw];refine Tu (L:=eJ (V.take (m+1))) (hi' :=m) (lo' :=0) (.inl rfl) rfl (show mN _ (some (D.int .i64 (m:Nat)))=some m from ll (kd:= .i64)) (cH _) (by omega) ?_;try refine go ?_
    rw [iu,Rj];refine ec m (by omega) rfl ⟨rfl,by omega,rfl, ?_⟩;rw [← ht,xO,h0,mR]
   ·try refine go ?_
    simp only [hw];try refine go ?_
    refine ai ⟨rfl, ?_⟩;rw [← ht,xO,mC h0,← xO];exact .vs nl _ (fun h=>by rw [qS h]; rfl)
 ·refine aD hT.t150 ?_;try refine go ?_
  refine jw ?_;try refine go ?_
  exact ai ⟨rfl,.nil⟩
 ·refine aD hT.t150 ?_;try refine go ?_
  refine fY (fun m env s' =>s' =s/\m<=V.length/\env=[(0,.sl o 0 m cp)]/\bV (V.take m)=bV V) V.length rfl ⟨rfl,aq _,rfl,by rw [fb]⟩ ?_;rintro m env s' ⟨rfl,hm,rfl,ht⟩;have qx:(eJ (V++R)).length=V.length+R.length:=by rw [dD,an]
  cases m with
  | zero=>
   try refine go ?_
   refine ai ⟨rfl, ?_⟩;rw [← ht];exact .sl o cp [] (V++R) hg (cH _)
  | succ m=>
   have eW:m < V.length:=by omega
   have hw:IntKind.wrap .i64 (((m+1:Nat):Int) - 1)=(m:Nat):=by rw [wrap_small (by omega) (by omega)]; omega
   have he:(eJ (V++R))[0+m]? =some (.int .u32 (V[m]:Nat)):=by simp [eW,mI]
   have xO:=sN V eW;generalize hv:V[m]=v at he xO;by_cases h0:v=0
   ·try refine go ?_
    simp only [hw];try refine go ?_
    simp only [hw];try refine go ?_
    refine ec m (by omega) rfl ⟨rfl,by omega,rfl, ?_⟩;rw [← ht,xO,h0,mR]
   ·try refine go ?_
    simp only [hw];try refine go ?_
    refine ai ⟨rfl, ?_⟩;rw [← ht,xO,mC h0,← xO];have:=Ws.sl (s:=s') o cp (V.take (m+1)) (V.drop (m+1)++R) (by rw [← List.append_assoc,l8]; exact hg) (by rw [dB]; omega);rw [dB,Nat.min_eq_left hm]at this;exact this
end
section
variable {T:Nat->Option dJ}{H:au}
theorem DD (hT:TW T){s:St}{x:D}{V:List Nat}(hs:s.Ok)(hx:Ws s x V)(hV:V.length<=aM):bY T H 176 [x] s fun d s1=>Ws s1 d V/\aH Nil s s1:=by
 rcases hx with ⟨nl,V,qS⟩ | _ | ⟨o,cp,V,R,hg,hc⟩
 ·cases nl with
  | true=>
   rw [qS rfl];refine aD hT.t176 ?_;try refine go ?_
   exact ai ⟨.nil,aH.refl hs⟩
  | false=>
   refine aD hT.t176 ?_;cases V with
   | nil=>
    try refine go ?_
    refine Ix (z:=1) rfl ?_;try refine go ?_
    exact ai ⟨.sl s.n 0 [] [] St.bq (aq _),aH.push (aH.refl hs) _⟩
   | cons v V=>
    have Eh:0+(eJ (v::V)).length<=aM:=by rw [dD,aU]; exact hV
    refine run_seq ?_;try refine go ?_
    refine uP (z:=1) (m:=eJ (v::V)) rfl rfl (by simp) (qt _) Eh ?_ (es:=[]) (off:=0) (he:=rfl);try refine go ?_
    refine ai ⟨?_,aH.set (aH.push (aH.refl hs) _) _ (by rw [St.ck]; omega) (fun h=>by omega)⟩;have:=Ws.sl (s:=(s.aZ (.arr 1 26 [] 0)).bn s.n (.arr 1 26 ([]++eJ (v::V)) 0)) s.n (0+(eJ (v::V)).length) (v::V) [] (by rw [de]; exact St.aG) (by rw [dD]; omega);rw [show 0+(eJ (v::V)).length=(v::V).length by rw [dD]; omega]at this ⊢;exact this
 ·refine aD hT.t176 ?_;try refine go ?_
  exact ai ⟨.nil,aH.refl hs⟩
 ·refine aD hT.t176 ?_;have lo:=hs.lt hg;have Q6:(s.aZ (.arr 1 26 [] 0)).get o=some (.arr 1 26 (eJ (V++R)) 0):=St.dN hg (by omega);obtain⟨z,hz,Ro⟩:=(Ws.sl (s:=s.aZ (.arr 1 26 [] 0)) o cp V R Q6 hc).items;cases V with
  | nil=>
   try refine go ?_
   refine Ix hz ?_;try refine go ?_
   exact ai ⟨.sl s.n 0 [] [] St.bq (aq _),aH.push (aH.refl hs) _⟩
  | cons v V=>
   have Eh:0+(eJ (v::V)).length<=aM:=by rw [dD,aU]; exact hV
   have Ih:z=1:=by rcases Ro with h | h; exact h; cases h
   try refine go ?_
   refine uP hz Ih (by simp) (qt _) Eh ?_ (es:=[]) (off:=0) (he:=rfl);try refine go ?_
   refine ai ⟨?_,aH.set (aH.push (aH.refl hs) _) _ (by rw [St.ck]; omega) (fun h=>by omega)⟩;have:=Ws.sl (s:=(s.aZ (.arr 1 26 [] 0)).bn s.n (.arr 1 26 ([]++eJ (v::V)) 0)) s.n (0+(eJ (v::V)).length) (v::V) [] (by rw [de]; exact St.aG) (by rw [dD]; omega);rw [show 0+(eJ (v::V)).length=(v::V).length by rw [dD]; omega]at this ⊢;exact this
def db (ng:Bool)(V:List Nat):Bool×List Nat:=match bV V with
 | []=>(false,[])
 | v::W=>(ng,v::W)
theorem Gw (ng:Bool)(V:List Nat):db ng (bV V)=db ng V:=by unfold db; rw [kY]
theorem Gv (ng:Bool)(V:List Nat):db (db ng V).1 (db ng V).2=db ng V:=by
 unfold db;cases h:bV V with
 | nil=>rfl
 | cons v W=>simp only; rw [← h,kY,h]
theorem JK (ng:Bool)(V:List Nat):db (!(db (!(db ng V).1) (db ng V).2).1) (db (!(db ng V).1) (db ng V).2).2=db ng V:=by
 unfold db;cases h:bV V with
 | nil=>rfl
 | cons v W=>simp only; rw [← h,kY,h]; simp only; rw [← h,kY,h]; simp
theorem rE (ng:Bool)(V:List Nat):(db ng V).2.length<=V.length:=by
 have:=jx V;unfold db;cases h:bV V with
 | nil=>simp
 | cons v W=>rw [h]at this; exact this
def xB (s:St)(d:D)(n:Bool×List Nat):Prop:=∃y,d= .agg [.bool n.1,y]/\Ws s y n.2
theorem xB.dT {W:Nat->Prop}{s s1:St}{d:D}{n:Bool×List Nat}(h:xB s d n)(hs:s.Ok)(hb:aH W s s1)(hw:∀j es st,s.get j=some (.arr 1 26 es st)-> ¬ W j):xB s1 d n:=by
 obtain⟨y,h1,h2⟩:=h;exact⟨y,h1,h2.dT hs hb hw⟩
theorem ab9 {s:St}{y:D}{V:List Nat}(h:Ws s y V):pJ s 1 y=some V.length:=by
 rcases h with ⟨nl,V,hn⟩ | _ | ⟨o,cp,V,R,hg,hc⟩
 ·simp [pJ]
 ·rfl
 ·rfl
theorem Ah (hT:TW T){s:St}{x:D}{ng:Bool}{V:List Nat}(hx:Ws s x V)(hV:V.length<=maxLen):bY T H 108 [.bool ng,x] s fun d s1=>s1=s/\xB s d (db ng V):=by
 have pW:maxLen=9223372036854775807:=by decide
 have GK:=pD (H:=H) hT hx hV;have hle:=jx V;unfold db;rcases hx with ⟨nl,V,hn⟩ | _ | ⟨o,cp,V,R,hg,hc⟩
 all_goals
  refine aD hT.t108 ?_;try refine go ?_
  refine af GK ?_;rintro d s1 ⟨rfl,hd⟩;generalize bV _=W at hd hle ⊢;rcases hd with ⟨nl',W,OM⟩ | _ | ⟨o',cp',W,R',hg',hc'⟩
  ·cases W with
   | nil=>
    try refine go ?_
    exact ai ⟨rfl,_,rfl,.nil⟩
   | cons v W=>
    have hq:((eJ (v::W)).length:Int)≠0:=by rw [dD,aT]; omega
    try refine go ?_
    exact ai ⟨rfl,_,rfl,.vs _ _ OM⟩
  ·try refine go ?_
   exact ai ⟨rfl,_,rfl,.nil⟩
  ·cases W with
   | nil=>
    try refine go ?_
    exact ai ⟨rfl,_,rfl,.nil⟩
   | cons v W=>
    have hq:((v::W).length:Int)≠0:=by rw [aT]; omega
    try refine go ?_
    exact ai ⟨rfl,_,rfl,.sl _ _ _ _ hg' hc'⟩
end
def gx:List Nat->Nat
 | []=>0
 | a::r=>a+4294967296 * gx r
theorem FA (V R:List Nat):gx (V++R)=gx V+4294967296 ^ V.length * gx R:=by
 induction V with
 | nil=>simp [gx]
 | cons a r ih=>simp only [gz,gx,ih,aT,jE,Nat.mul_add]; rw [kr (4294967296 ^ r.length) 4294967296,gE]; omega
theorem Fj {P:List Nat->Prop}(h0:P [])(h1:∀V v,P V->P (V++ [v]))(V:List Nat):P V:=by
 have key:∀W:List Nat,P W.reverse:=by
  intro W;induction W with
  | nil=>exact h0
  | cons a r ih=>rw [List.reverse_cons]; exact h1 _ _ ih
 have:=key V.reverse;rwa [List.reverse_reverse]at this
theorem wD (V:List Nat):gx (bV V)=gx V:=by
 refine Fj (P:=fun V=>gx (bV V)=gx V) rfl (fun V v ih=> ?_) V;by_cases h:v=0
 ·subst h; rw [mR,ih,FA]; simp [gx]
 ·rw [mC h]
theorem wC (V:List Nat)(h:bV V≠ []):0 < gx (bV V):=by
 rcases xj V with h1 | ⟨W,v,h1,h2⟩
 ·exact absurd h1 h
 ·rw [h1,FA];have:0 < 4294967296 ^ W.length * gx [v]:=Nat.mul_pos (Nat.pow_pos (by omega)) (by simp [gx]; omega);omega
theorem tW (V:List Nat):bV V=V.take (bV V).length:=by
 refine Fj (P:=fun V=>bV V=V.take (bV V).length) rfl (fun V v ih=> ?_) V;by_cases h:v=0
 ·subst h;rw [mR,List.take_append_of_le_length (jx V)]; exact ih
 ·rw [mC h,fb]
def ij:List Nat->List Nat×Nat
 | []=>([],0)
 | a::r=>let q:=ij r; ((q.2 * 4294967296+a) / 1000000000::q.1,(q.2 * 4294967296+a) % 1000000000)
theorem yx:∀V:List Nat,(ij V).1.length=V.length
 | []=>rfl
 | a::r=>by simp [ij,yx r]
theorem xG:∀V:List Nat,(ij V).2 < 1000000000
 | []=>by simp [ij]
 | a::r=>by simp only [ij]; omega
theorem yz:∀V:List Nat,gx V=gx (ij V).1 * 1000000000+(ij V).2
 | []=>rfl
 | a::r=>by
  have:=yz r;simp only [ij,gx];omega
theorem yA:∀V:List Nat,(∀v∈V,v < 4294967296)->∀v∈(ij V).1,v < 4294967296
 | [],_,v,hv=>by simp [ij]at hv
 | a::r,h,v,hv=>by
  simp only [ij,aN]at hv;rcases hv with rfl | hv
  ·have h1:=h a (by simp);have h2:=xG r;omega
  ·exact yA r (fun v hv=>h v (by simp [hv])) v hv
theorem NP (V:List Nat):gx (ij V).1=gx V / 1000000000:=by
 have:=yz V; have:=xG V; omega
theorem WA (V:List Nat):(ij V).2=gx V % 1000000000:=by
 have:=yz V; have:=xG V; omega
def ep (n:Nat):List Nat:=if h:n=0 then [] else n % 1000000000::ep (n / 1000000000)
 termination_by n
 decreasing_by omega
theorem wh:ep 0=[]:=by rw [ep,dif_pos rfl]
theorem mQ {n:Nat}(h:n≠0):ep n=n % 1000000000::ep (n / 1000000000):=by rw [ep,dif_neg h]
theorem Ha (n:Nat):∀p∈ep n,p < 1000000000:=by
 induction n using Nat.strongRecOn with
 | ind n ih=>
  intro p hp;by_cases h:n=0
  ·rw [h,wh]at hp; cases hp
  ·rw [mQ h]at hp;simp only [aN]at hp;rcases hp with rfl | hp
   ·omega
   ·exact ih _ (by omega) p hp
theorem EV (n:Nat):∀k,n < 1000000000 ^ k->(ep n).length<=k:=by
 induction n using Nat.strongRecOn with
 | ind n ih=>
  intro k hk;by_cases h:n=0
  ·rw [h,wh]; simp
  ·cases k with
   | zero=>simp at hk; omega
   | succ k=>
    rw [mQ h,aT];have:=ih (n / 1000000000) (by omega) k (by rw [jE]at hk; rw [Nat.div_lt_iff_lt_mul (by omega)]; exact hk);omega
def oJ (n:Nat):List UInt8:=[n / 100000000,n / 10000000,n / 1000000,n / 100000,n / 10000,n / 1000,n / 100,n / 10,n].map fun d=>UInt8.ofNat (48+d % 10)
def jj (P:List Nat):List UInt8:=P.reverse.flatMap oJ
def ve (ng:Bool)(V:List Nat):List UInt8:=if bV V=[] then [48] else (if ng then [45] else [])++(jj (ep (gx V))).dropWhile (· ==48)
noncomputable section
def DA:=RK.mk (a:=cf Tryz.f124 124)
def Ul:=RK.mk (a:=cf Tryz.f177 177)
def Um:=RK.mk (a:=cf Tryz.f178 178)
def Un:=RK.mk (a:=cf Tryz.f179 179)
def Uo:=RK.mk (a:=cf Tryz.f180 180)
def Up:=RK.mk (a:=cf Tryz.f181 181)
def Uq:=RK.mk (a:=cf Tryz.f207 207)
def Ur:=RK.mk (a:=cf Tryz.f208 208)
end
structure TX (T:Nat->Option dJ):Prop where
 t124:T 124=some DA.1
 t177:T 177=some Ul.1
 t178:T 178=some Um.1
 t179:T 179=some Un.1
 t180:T 180=some Uo.1
 t181:T 181=some Up.1
 t207:T 207=some Uq.1
 t208:T 208=some Ur.1
theorem P8 {a b:Nat}(ha:a < 4294967296)(hb:b < 4294967296):IntKind.wrap .u64 (((BitVec.ofInt (IntKind.bits .u64) ((a * 4294967296:Nat):Int) ||| BitVec.ofInt (IntKind.bits .u64) (b:Int)).toNat:Nat):Int)=((a * 4294967296+b:Nat):Int):=by
 have e1:(BitVec.ofInt 64 ((a * 4294967296:Nat):Int)).toNat=a * 4294967296:=by
  rw [BitVec.ofInt_natCast,BitVec.toNat_ofNat,kq (by omega)]
 have e2:(BitVec.ofInt 64 ((b:Nat):Int)).toNat=b:=by
  rw [BitVec.ofInt_natCast,BitVec.toNat_ofNat,kq (by omega)]
 have e3:a * 4294967296 ||| b=a * 4294967296+b:=by
  have:=Nat.two_pow_add_eq_or_of_lt (i:=32) (b:=b) (by simpa using hb) a;rw [show (2:Nat) ^ 32=4294967296 by rfl,kr]at this;exact this.symm
 show IntKind.wrap .u64 (((BitVec.ofInt 64 ((a * 4294967296:Nat):Int) ||| BitVec.ofInt 64 (b:Int)).toNat:Nat):Int)=_;rw [BitVec.toNat_or,e1,e2,e3];simp only [IntKind.wrap,IntKind.signed,IntKind.bits,oh,bf];rw [show ((2:Int) ^ 64)=18446744073709551616 from rfl];simp only [cR,gS];omega
theorem x9 {n:Nat}(h:n < 18446744073709551616):IntKind.wrap .u64 (n:Int)=(n:Int):=by
 simp only [IntKind.wrap,IntKind.signed,IntKind.bits,oh,bf];rw [show ((2:Int) ^ 64)=18446744073709551616 from rfl];simp only [cR,gS];omega
theorem xZ {n:Nat}(h:n < 4294967296):IntKind.wrap .u32 (n:Int)=(n:Int):=by
 simp only [IntKind.wrap,IntKind.signed,IntKind.bits,oh,bf];rw [show ((2:Int) ^ 32)=4294967296 from rfl];simp only [cR,gS];omega
def oH (x:Nat):D:= .int .u8 ((48+x % 10:Nat):Int)
def xF (n:Nat):Nat->List D
 | 0=> [.int .u8 0,.int .u8 0,.int .u8 0,.int .u8 0,.int .u8 0,.int .u8 0,.int .u8 0,.int .u8 0,.int .u8 0]
 | 1=> [.int .u8 0,.int .u8 0,.int .u8 0,.int .u8 0,.int .u8 0,.int .u8 0,.int .u8 0,.int .u8 0,oH (n / 10 ^ 0)]
 | 2=> [.int .u8 0,.int .u8 0,.int .u8 0,.int .u8 0,.int .u8 0,.int .u8 0,.int .u8 0,oH (n / 10 ^ 1),oH (n / 10 ^ 0)]
 | 3=> [.int .u8 0,.int .u8 0,.int .u8 0,.int .u8 0,.int .u8 0,.int .u8 0,oH (n / 10 ^ 2),oH (n / 10 ^ 1),oH (n / 10 ^ 0)]
 | 4=> [.int .u8 0,.int .u8 0,.int .u8 0,.int .u8 0,.int .u8 0,oH (n / 10 ^ 3),oH (n / 10 ^ 2),oH (n / 10 ^ 1),oH (n / 10 ^ 0)]
 | 5=> [.int .u8 0,.int .u8 0,.int .u8 0,.int .u8 0,oH (n / 10 ^ 4),oH (n / 10 ^ 3),oH (n / 10 ^ 2),oH (n / 10 ^ 1),oH (n / 10 ^ 0)]
 | 6=> [.int .u8 0,.int .u8 0,.int .u8 0,oH (n / 10 ^ 5),oH (n / 10 ^ 4),oH (n / 10 ^ 3),oH (n / 10 ^ 2),oH (n / 10 ^ 1),oH (n / 10 ^ 0)]
 | 7=> [.int .u8 0,.int .u8 0,oH (n / 10 ^ 6),oH (n / 10 ^ 5),oH (n / 10 ^ 4),oH (n / 10 ^ 3),oH (n / 10 ^ 2),oH (n / 10 ^ 1),oH (n / 10 ^ 0)]
 | 8=> [.int .u8 0,oH (n / 10 ^ 7),oH (n / 10 ^ 6),oH (n / 10 ^ 5),oH (n / 10 ^ 4),oH (n / 10 ^ 3),oH (n / 10 ^ 2),oH (n / 10 ^ 1),oH (n / 10 ^ 0)]
 | _=> [oH (n / 10 ^ 8),oH (n / 10 ^ 7),oH (n / 10 ^ 6),oH (n / 10 ^ 5),oH (n / 10 ^ 4),oH (n / 10 ^ 3),oH (n / 10 ^ 2),oH (n / 10 ^ 1),oH (n / 10 ^ 0)]
def dgF (n j:Nat):Env:=[(0,.int .u32 (n / 10 ^ j:Nat)),(2,(D.agg (xF n 0)).lv),(3,(D.agg (xF n j)).lv),(5,.int .i64 (j:Nat))]
theorem Ca (x:Nat):D.int .u8 (IntKind.wrap .u8 (IntKind.wrap .u32 (48+Int.tmod (x:Int) 10)))=oH x:=by
 have e1:48+Int.tmod (x:Int) 10=((48+x % 10:Nat):Int):=by rw [eU (by omega)]; omega
 rw [e1,xZ (by omega)];have e2:IntKind.wrap .u8 ((48+x % 10:Nat):Int)=((48+x % 10:Nat):Int):=by
  simp only [IntKind.wrap,IntKind.signed,IntKind.bits,oh,bf];rw [show ((2:Int) ^ 8)=256 from rfl];simp only [cR,gS];omega
 rw [e2]; rfl
theorem Cb {n:Nat}(h:n < 1000000000)(j:Nat):IntKind.wrap .u32 (Int.tdiv ((n / 10 ^ j:Nat):Int) 10)=((n / 10 ^ (j+1):Nat):Int):=by
 have e0:n / 10 ^ (j+1)=n / 10 ^ j / 10:=by rw [jE,Nat.div_div_eq_div_mul]
 have e1:Int.tdiv ((n / 10 ^ j:Nat):Int) 10=((n / 10 ^ (j+1):Nat):Int):=by
  rw [e0]; generalize n / 10 ^ j=x; rw [ir (by omega)]; omega
 have e2:n / 10 ^ (j+1)<=n:=Nat.div_le_self _ _;rw [e1,xZ (by omega)]
theorem Zx (n:Nat):xF n 9=(oJ n).map fun c=> .int .u8 c.toNat:=by
 have key:∀x:Nat,(((UInt8.ofNat (48+x % 10)).toNat:Nat):Int)=((48+x % 10:Nat):Int):=fun x=>by
  rw [UInt8.toNat_ofNat']; omega
 simp only [xF,oJ,bT,eH,oH,key,Nat.pow_zero,Nat.div_one]
section
variable {T:Nat->Option dJ}{H:au}{s:St}
theorem KM {b:Nat}{k:List iI}{l:List bz}{Q:QP}{t n:Nat}{e:Env}{ds:List (D×List D)}{g:Option (Nat×Bool)}{x y:bO}{m:List UInt8}(h:iN T H b l k ⟨(t,.str (m.drop n))::e,ds⟩ s Q)(hn:n<=m.length)(hw:aJ e g=some true:=by rfl)(hx:x.ev e=some (.str m):=by rfl)(hy:y.ev e=some (.int .i64 (Nat.cast n)):=by rfl):iN T H b (⟨some t,.pa x (some y) none,g,none⟩::l) k ⟨e,ds⟩ s Q:=by
 have e1:Nat.ble n m.length=true:=ax hn;have e2:Nat.ble m.length m.length=true:=ax (aq _);have e3:mN 0 (some (.int .i64 (n:Int)))=some n:=by simp [mN,idx]
 have e4:wT e (some y)=some (some (.int .i64 (n:Int))):=by simp [wT,hy]
 refine dM h hw ?_;simp only [cg,hx,e4,show wT e none=some none from rfl,e3,show mN m.length none=some m.length from rfl,e1,e2,fb]
theorem Lz (hX:TX T){hi lo:Nat}(h1:hi < 1000000000)(h2:lo < 4294967296):bY T H 177 [.int .u32 hi,.int .u32 lo,.int .u32 1000000000] s fun d s1=>d= .gW [.int .u32 ((hi * 4294967296+lo) / 1000000000:Nat),.int .u32 ((hi * 4294967296+lo) % 1000000000:Nat)]/\s1=s:=by
 refine aD hX.t177 ?_;try refine go ?_
 have e1:IntKind.wrap .u64 (hi:Int)=(hi:Int):=x9 (by omega);have e2:(hi:Int) * 2 ^ min (Int.toNat 32) (IntKind.bits .u64)=((hi * 4294967296:Nat):Int):=by
  rw [show (2:Int) ^ min (Int.toNat 32) (IntKind.bits .u64)=4294967296 from rfl]; omega
 have e3:IntKind.wrap .u64 ((hi * 4294967296:Nat):Int)=((hi * 4294967296:Nat):Int):=x9 (by omega);have e4:IntKind.wrap .u64 (lo:Int)=(lo:Int):=x9 (by omega);have e5:=P8 (a:=hi) (b:=lo) (by omega) h2;have e6:IntKind.wrap .u64 1000000000=1000000000:=rfl;have e7:Int.tdiv ((hi * 4294967296+lo:Nat):Int) 1000000000=(((hi * 4294967296+lo) / 1000000000:Nat):Int):=by
  rw [ir (by omega)]; omega
 have e8:Int.tmod ((hi * 4294967296+lo:Nat):Int) 1000000000=(((hi * 4294967296+lo) % 1000000000:Nat):Int):=by
  rw [eU (by omega)]; omega
 have e9:IntKind.wrap .u64 (((hi * 4294967296+lo) / 1000000000:Nat):Int)=(((hi * 4294967296+lo) / 1000000000:Nat):Int):=x9 (by omega);have e10:IntKind.wrap .u32 (((hi * 4294967296+lo) / 1000000000:Nat):Int)=(((hi * 4294967296+lo) / 1000000000:Nat):Int):=xZ (by omega);have e11:IntKind.wrap .u32 (((hi * 4294967296+lo) % 1000000000:Nat):Int)=(((hi * 4294967296+lo) % 1000000000:Nat):Int):=xZ (by omega);simp only [e1,e2,e3,e4,e5,e6,e7,e8,e9,e10,e11];exact ai ⟨rfl,rfl⟩
theorem JC (hX:TX T){n:Nat}(hn:n < 1000000000):bY T H 178 [.int .u32 n] s fun d s1=>d= .agg ((oJ n).map fun c=> .int .u8 c.toNat)/\s1=s:=by
 refine aD hX.t178 ?_;try refine go ?_
 refine fw 9 (fun j=>dgF n j) (fun j s' =>s' =s) rfl ?_ (hF:=by simp [dgF]; rfl);rintro j s' hj rfl;rcases (show j=0\/j=1\/j=2\/j=3\/j=4\/j=5\/j=6\/j=7\/j=8\/j=9 by omega) with rfl | rfl | rfl | rfl | rfl | rfl | rfl | rfl | rfl | rfl
 ·show dR T H _ _ ⟨[(0,.int .u32 (n / 10 ^ 0:Nat)),(2,(D.agg (xF n 0)).lv),(3,(D.agg (xF n 0)).lv),(5,.int .i64 0)],[]⟩ _ _;try refine go ?_
  rw [Ca,Cb hn];exact dI (by omega) rfl rfl rfl
 ·show dR T H _ _ ⟨[(0,.int .u32 (n / 10 ^ 1:Nat)),(2,(D.agg (xF n 0)).lv),(3,(D.agg (xF n 1)).lv),(5,.int .i64 1)],[]⟩ _ _;try refine go ?_
  rw [Ca,Cb hn];exact dI (by omega) rfl rfl rfl
 ·show dR T H _ _ ⟨[(0,.int .u32 (n / 10 ^ 2:Nat)),(2,(D.agg (xF n 0)).lv),(3,(D.agg (xF n 2)).lv),(5,.int .i64 2)],[]⟩ _ _;try refine go ?_
  rw [Ca,Cb hn];exact dI (by omega) rfl rfl rfl
 ·show dR T H _ _ ⟨[(0,.int .u32 (n / 10 ^ 3:Nat)),(2,(D.agg (xF n 0)).lv),(3,(D.agg (xF n 3)).lv),(5,.int .i64 3)],[]⟩ _ _;try refine go ?_
  rw [Ca,Cb hn];exact dI (by omega) rfl rfl rfl
 ·show dR T H _ _ ⟨[(0,.int .u32 (n / 10 ^ 4:Nat)),(2,(D.agg (xF n 0)).lv),(3,(D.agg (xF n 4)).lv),(5,.int .i64 4)],[]⟩ _ _;try refine go ?_
  rw [Ca,Cb hn];exact dI (by omega) rfl rfl rfl
 ·show dR T H _ _ ⟨[(0,.int .u32 (n / 10 ^ 5:Nat)),(2,(D.agg (xF n 0)).lv),(3,(D.agg (xF n 5)).lv),(5,.int .i64 5)],[]⟩ _ _;try refine go ?_
  rw [Ca,Cb hn];exact dI (by omega) rfl rfl rfl
 ·show dR T H _ _ ⟨[(0,.int .u32 (n / 10 ^ 6:Nat)),(2,(D.agg (xF n 0)).lv),(3,(D.agg (xF n 6)).lv),(5,.int .i64 6)],[]⟩ _ _;try refine go ?_
  rw [Ca,Cb hn];exact dI (by omega) rfl rfl rfl
 ·show dR T H _ _ ⟨[(0,.int .u32 (n / 10 ^ 7:Nat)),(2,(D.agg (xF n 0)).lv),(3,(D.agg (xF n 7)).lv),(5,.int .i64 7)],[]⟩ _ _;try refine go ?_
  rw [Ca,Cb hn];exact dI (by omega) rfl rfl rfl
 ·show dR T H _ _ ⟨[(0,.int .u32 (n / 10 ^ 8:Nat)),(2,(D.agg (xF n 0)).lv),(3,(D.agg (xF n 8)).lv),(5,.int .i64 8)],[]⟩ _ _;try refine go ?_
  rw [Ca,Cb hn];exact dI (by omega) rfl rfl rfl
 ·show dR T H _ _ ⟨[(0,.int .u32 (n / 10 ^ 9:Nat)),(2,(D.agg (xF n 0)).lv),(3,(D.agg (xF n 9)).lv),(5,.int .i64 9)],[]⟩ _ _;try refine go ?_
  refine ai ⟨?_,rfl⟩;rw [← Zx]; rfl
theorem Fw (hX:TX T){l:List UInt8}{c:UInt8}(hl:l.length<=1000000000):bY T H 208 [.str l,.int .u8 c.toNat] s fun d s1=>d= .str (l.dropWhile (· ==c))/\s1=s:=by
 refine aD hX.t208 ?_;try refine go ?_
 refine fY (fun m env s' =>s' =s/\∃l',l'.length<=m/\l'.dropWhile (· ==c)=l.dropWhile (· ==c)/\l'.length<=l.length/\env=[(0,.str l'),(1,.int .u8 c.toNat)]) l.length rfl ⟨rfl,l,aq _,rfl,aq _,rfl⟩ ?_;rintro m env s' ⟨rfl,l',hm,hd,Q8,rfl⟩;cases l' with
 | nil=>
  try refine go ?_
  exact ai ⟨by rw [← hd],rfl⟩
 | cons a r=>
  have h0:(0:Int) < ((a::r).length:Nat):=by rw [aT]; omega
  try refine go ?_
  rcases Decidable.em (a=c) with hac | hac
  ·subst hac;rw [show ((a.toNat:Int)==(a.toNat:Int))=true from beq_self_eq_true _];try refine go ?_
   refine KM (n:=1) (m:=a::r) ?_ (by rw [aT]; omega);rw [show (a::r).drop 1=r from rfl];try refine go ?_
   rw [aT]at hm Q8;refine ec r.length (by omega) rfl ⟨rfl,r,aq _, ?_,by omega,rfl⟩;rw [← hd,List.dropWhile_cons_of_pos (by simp)]
  ·rw [show ((a.toNat:Int)==(c.toNat:Int))=false from by rw [eu]; intro h; exact hac (UInt8.toNat_inj.1 (by omega))];try refine go ?_
   refine ai ⟨?_,rfl⟩;rw [← hd,List.dropWhile_cons_of_neg (by simpa using hac)];rfl
end
structure TU (T:Nat->Option dJ)(H:au):Prop where
 v:∀(s:St) (l:List UInt8),l.length<=1000000000->bY T H 83 [.str l] s fun d s1=>d= .bool (Lib.validD l)/\s1=s
 i:∀(s:St) (n:Nat),n < 1000000->bY T H 125 [.int .i64 (n:Nat)] s fun d s1=>s1=s/\d= .str (Lib.itoa (n:Nat))
theorem SP {n:Nat}(h:n < 1000000):(Lib.itoa (n:Nat)).length<=1000:=bW (Lib.itoa_length_le (n:Nat) (by omega) (by omega)) (by decide)
noncomputable section
def Ms:=RK.mk (a:=cf Tryz.f118 118)
def HM:=RK.mk (a:=cf Tryz.f120 120)
def Mv:=RK.mk (a:=cf Tryz.f122 122)
def MA:=RK.mk (a:=cf Tryz.f130 130)
def MN:=RK.mk (a:=cf Tryz.f162 162)
def MR:=RK.mk (a:=cf Tryz.f168 168)
def MS:=RK.mk (a:=cf Tryz.f169 169)
def MT:=RK.mk (a:=cf Tryz.f170 170)
def MU:=RK.mk (a:=cf Tryz.f171 171)
def MV:=RK.mk (a:=cf Tryz.f172 172)
def MW:=RK.mk (a:=cf Tryz.f173 173)
def MX:=RK.mk (a:=cf Tryz.f174 174)
def MY:=RK.mk (a:=cf Tryz.f175 175)
def M0:=RK.mk (a:=cf Tryz.f183 183)
def M1:=RK.mk (a:=cf Tryz.f184 184)
def M5:=RK.mk (a:=cf Tryz.f196 196)
def M6:=RK.mk (a:=cf Tryz.f197 197)
def M7:=RK.mk (a:=cf Tryz.f198 198)
def M8:=RK.mk (a:=cf Tryz.f199 199)
def M9:=RK.mk (a:=cf Tryz.f200 200)
def HN:=RK.mk (a:=cf Tryz.f201 201)
def Na:=RK.mk (a:=cf Tryz.f202 202)
def HP:=RK.mk (a:=cf Tryz.f203 203)
def Nb:=RK.mk (a:=cf Tryz.f204 204)
def Nc:=RK.mk (a:=cf Tryz.f205 205)
def Nd:=RK.mk (a:=cf Tryz.f206 206)
def Nf:=RK.mk (a:=cf Tryz.f213 213)
def Ng:=RK.mk (a:=cf Tryz.f214 214)
def Ni:=RK.mk (a:=cf Tryz.f221 221)
def Nj:=RK.mk (a:=cf Tryz.f222 222)
def Nk:=RK.mk (a:=cf Tryz.f223 223)
def Nl:=RK.mk (a:=cf Tryz.f233 233)
def Nw:=RK.mk (a:=cf Tryz.f305 305)
def Nx:=RK.mk (a:=cf Tryz.f306 306)
def Ny:=RK.mk (a:=cf Tryz.f307 307)
def Nz:=RK.mk (a:=cf Tryz.f309 309)
def NA:=RK.mk (a:=cf Tryz.f310 310)
def NB:=RK.mk (a:=cf Tryz.f311 311)
end
structure TT (T:Nat->Option dJ):Prop where
 t118:T 118=some Ms.1
 t120:T 120=some HM.1
 t122:T 122=some Mv.1
 t130:T 130=some MA.1
 t162:T 162=some MN.1
 t168:T 168=some MR.1
 t169:T 169=some MS.1
 t170:T 170=some MT.1
 t171:T 171=some MU.1
 t172:T 172=some MV.1
 t173:T 173=some MW.1
 t174:T 174=some MX.1
 t175:T 175=some MY.1
 t183:T 183=some M0.1
 t184:T 184=some M1.1
 t196:T 196=some M5.1
 t197:T 197=some M6.1
 t198:T 198=some M7.1
 t199:T 199=some M8.1
 t200:T 200=some M9.1
 t201:T 201=some HN.1
 t202:T 202=some Na.1
 t203:T 203=some HP.1
 t204:T 204=some Nb.1
 t205:T 205=some Nc.1
 t206:T 206=some Nd.1
 t213:T 213=some Nf.1
 t214:T 214=some Ng.1
 t221:T 221=some Ni.1
 t222:T 222=some Nj.1
 t223:T 223=some Nk.1
 t233:T 233=some Nl.1
 t305:T 305=some Nw.1
 t306:T 306=some Nx.1
 t307:T 307=some Ny.1
 t309:T 309=some Nz.1
 t310:T 310=some NA.1
 t311:T 311=some NB.1
def Yf:Bool->Nat
 | true=>356
 | false=>359
def QL:Bool->Nat
 | true=>393
 | false=>394
def xy:Bool->IntKind
 | true=> .i8
 | false=> .i16
def Lu:Bool->Int
 | true=>1
 | false=>2
structure bS (s:St)(co ro log:Nat)(b:Bool)(st:Nat)(C:List Int):Prop where
 go:s.get co=some (.var 310 (.agg [.int .i64 (log:Nat),.eM (Yf b) (.agg [.sl ro 0 (2 ^ log) (2 ^ log),.int .i64 (Lu b)])]))
 gr:s.get ro=some (.arr 1 (QL b) (C.map fun v=>D.int (xy b) v) st)
 ln:C.length=2 ^ log
 st:st<=2 ^ log
 lo:3<=log
 hi:log<=if b then 7 else 15
 ne:co≠ro
theorem bS.dT {W:Nat->Prop}{s s1:St}{co ro log st:Nat}{b:Bool}{C:List Int}(h:bS s co ro log b st C)(hs:s.Ok)(hb:aH W s s1)(h1: ¬ W co)(h2: ¬ W ro):bS s1 co ro log b st C:=
 ⟨hb.get hs h.go h1,hb.get hs h.gr h2,h.ln,h.st,h.lo,h.hi,h.ne⟩
theorem bS.pow {s:St}{co ro log st:Nat}{b:Bool}{C:List Int}(h:bS s co ro log b st C):8<=2 ^ log/\2 ^ log<=32768:=by
 have h1:=h.lo;have h2:log<=15:=by have:=h.hi; split at this <;> omega
 have e1:2 ^ 3<=2 ^ log:=ee (by decide) h1;have e2:2 ^ log<=2 ^ 15:=ee (by decide) h2;exact⟨e1,e2⟩
section
variable {T:Nat->Option dJ}{H:au}
theorem CE (hT:TT T){s:St}{co ro log st:Nat}{b:Bool}{C:List Int}(h:bS s co ro log b st C):bY T H 204 [.ptr co 0] s fun d s1=>s1=s/\d= .bool false:=by
 obtain⟨h1,h2,h3,h4,h5,h6,h7⟩:=h;refine aD hT.t204 ?_;try refine go ?_
 exact ai ⟨rfl,rfl⟩
theorem GW (hT:TT T){s:St}{co ro log st:Nat}{b:Bool}{C:List Int}(h:bS s co ro log b st C):bY T H 171 [.ptr co 0] s fun d s1=>s1=s/\d= .int .i64 (log:Nat):=by
 have hn:=CE (H:=H) hT h;obtain⟨h1,h2,h3,h4,h5,h6,h7⟩:=h;refine aD hT.t171 ?_;try refine go ?_
 refine af hn ?_;rintro d s1 ⟨rfl,rfl⟩;try refine go ?_
 exact ai ⟨rfl,rfl⟩
theorem HQ (hT:TT T){s:St}{ro log:Nat}{b:Bool}:bY T H (if b then 306 else 310) [.agg [.sl ro 0 (2 ^ log) (2 ^ log),.int .i64 (Lu b)]] s fun d s1=>s1=s/\d= .int .i64 (2 ^ log:Nat):=by
 cases b
 ·refine aD hT.t310 ?_;try refine go ?_
  exact ai ⟨rfl,rfl⟩
 ·refine aD hT.t306 ?_;try refine go ?_
  exact ai ⟨rfl,rfl⟩
theorem I1 (hT:TT T){s:St}{co ro log st:Nat}{b:Bool}{C:List Int}(h:bS s co ro log b st C):bY T H 223 [.ptr co 0] s fun d s1=>s1=s/\d= .int .i64 (2 ^ log:Nat):=by
 have hn:=CE (H:=H) hT h;have hl:=HQ (H:=H) hT (s:=s) (ro:=ro) (log:=log) (b:=b);obtain⟨h1,h2,h3,h4,h5,h6,h7⟩:=h;cases b
 ·refine aD hT.t223 ?_
  repeat' first | refine go ?_ | (refine af hn ?_; rintro d s1 ⟨rfl,rfl⟩) | (refine af hl ?_; rintro d s1 ⟨rfl,rfl⟩)
  exact ai ⟨rfl,rfl⟩
 ·refine aD hT.t223 ?_
  repeat' first | refine go ?_ | (refine af hn ?_; rintro d s1 ⟨rfl,rfl⟩) | (refine af hl ?_; rintro d s1 ⟨rfl,rfl⟩)
  exact ai ⟨rfl,rfl⟩
theorem TD {N:Nat}(h:N<=32768):IntKind.wrap .i64 (Int.tdiv (IntKind.wrap .i64 (2 * (N:Int))) 3)=((2 * N / 3:Nat):Int):=by
 rw [wrap_small (n:=2 * (N:Int)) (by omega) (by omega)];have e:Int.tdiv (2 * (N:Int)) 3=((2 * N / 3:Nat):Int):=by
  rw [ir (by omega)]; omega
 rw [e,wrap_small (by omega) (by omega)]
theorem xV (hT:TT T){s:St}{co ro log st:Nat}{b:Bool}{C:List Int}(h:bS s co ro log b st C):bY T H 198 [.ptr co 0] s fun d s1=>s1=s/\d= .int .i64 (2 * 2 ^ log / 3:Nat):=by
 have hz:=I1 (H:=H) hT h;have hp:=h.pow;have hr:=TD hp.2;refine aD hT.t198 ?_;try refine go ?_
 refine af hz ?_;rintro d s1 ⟨rfl,rfl⟩;try refine go ?_
 rw [hr];exact ai ⟨rfl,rfl⟩
theorem A0 (hT:TT T){s:St}{co ro log st i:Nat}{b:Bool}{C:List Int}(h:bS s co ro log b st C)(hi:i < 2 ^ log):bY T H 205 [.ptr co 0,.int .i64 (i:Nat)] s fun d s1=>s1=s/\d= .int .i64 0:=by
 have hn:=CE (H:=H) hT h;have hz:=I1 (H:=H) hT h;refine aD hT.t205 ?_;try refine go ?_
 refine af hn ?_;rintro d s1 ⟨rfl,rfl⟩;try refine go ?_
 refine af hz ?_;rintro d s1 ⟨rfl,rfl⟩;try refine go ?_
 exact ai ⟨rfl,rfl⟩
theorem XI (hT:TT T){s:St}{co ro log st:Nat}{b:Bool}{C:List Int}(h:bS s co ro log b st C){v:Int}(hv:v= -1\/0<=v/\v < (2 * 2 ^ log / 3:Nat)):bY T H 222 [.ptr co 0,.int .i64 v] s fun d s1=>s1=s/\d= .bool true:=by
 have hz:=xV (H:=H) hT h;refine aD hT.t222 ?_;rcases hv with rfl | ⟨h1,h2⟩
 ·try refine go ?_
  exact ai ⟨rfl,rfl⟩
 ·try refine go ?_
  refine af hz ?_;rintro d s1 ⟨rfl,rfl⟩;try refine go ?_
  exact ai ⟨rfl,rfl⟩
end
end Go.Proofs.Tab
