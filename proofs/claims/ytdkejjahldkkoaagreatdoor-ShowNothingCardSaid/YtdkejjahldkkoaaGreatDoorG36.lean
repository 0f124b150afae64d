/- Part. -/
import Derived.Test.YtdkejjahldkkoaaGreatDoorG35
import Derived.Lib.ValidLaws
set_option linter.unusedSectionVars false
set_option maxRecDepth 100000
set_option maxHeartbeats 2000000
set_option linter.unusedSimpArgs false
set_option linter.unusedVariables false
namespace Go.Proofs.Tab
open Go Go.Ab Go.Ab.Sm
section
variable {T:Nat->Option dS}{H:au}{s:St}{to eo lo cm log so:Nat}{x:D}{E:List eS}{C:List Int}{b m u:Int}
def LV (s:St)(so to:Nat)(h u:Int)(log:Nat)(told:Int):Prop:=∃J vi,s.get so=some (.var 320 (W0 to h u log J false vi told))
def NxI (s:St)(so to lo cm log i:Nat)(x:D)(E:List eS)(C:List Int)(b m u h told:Int)(eo:Nat)(mm:Nat)(env:Env) (s' :St):Prop:=
 env=[(0,.ptr so 0)]/\aC (fun j=>j=so\/j=cm) s s' /\uN s' to eo lo cm log x E C b m u/\((∃J vi,mm=i - J+1/\J<=i/\s'.get so=some (.var 320 (W0 to h u log J false vi told)))\/∃J vi,mm=0/\s'.get so=some (.var 320 (W0 to h u log J true vi told)))
theorem G7 (hT:nH T){h told:Int}(hs:s.Ok)(ht:uN s to eo lo cm log x E C b m u)(hE:E.length<=20001)(Rw:E.length < 2 ^ log)(wL: -1<=told)(zd:LV s so to h u log told)(hso:so≠cm/\so≠to/\so≠lo/\(E≠ []->so≠eo)):
  cu T H 139 [.ptr so 0] s fun d s1=>((d= .gJ [.int .i64 (-1),.bool false])\/∃v:Nat,d= .gJ [.int .i64 (v:Nat),.bool true]/\told < (v:Int)/\v < E.length/\LV s1 so to h u log (v:Nat))/\uN s1 to eo lo cm log x E C b m u/\aC (fun j=>j=so\/j=cm) s s1:=by
 have hp:=mA ht.lh;obtain⟨J0,vi0,gsk⟩:=zd;obtain⟨h1,h2,h3,h4⟩:=hso;obtain⟨i,Xh,hi2,hi3⟩:=ht.la.empty (by rw [aH]; exact Rw) h J0;refine ay hT.t139 ?_;try refine go ?_
 refine cg (NxI s so to lo cm log i x E C b m u h told eo) (i - J0+1) rfl ⟨rfl,aC.refl hs,ht,.inl ⟨J0,vi0,rfl,Xh,gsk⟩⟩ ?_;rintro mm env s1 ⟨rfl,b1,tW,⟨J,vi,rfl,hJ,gs⟩ | ⟨J,vi,rfl,gs⟩⟩
 ·have ok1:=b1.ok;have gt:=tW.go;have MA:=tW.ct;obtain⟨c1,c2,c3,c4,gc⟩:=MA;obtain⟨stl,gl,Xz⟩:=tW.ce;have lso:=ok1.lt gs; have lcm:=ok1.lt gc;have Xe:=lM log h J;have hC:=tW.la.len;have zf:(gA log h J).1 < C.length:=by rw [hC]; exact Xe
  have vh:C[(gA log h J).1]? =some C[(gA log h J).1]:=ae zf;have hv:=tW.la.MN _ (bH zf);rw [aH]at hv;have oP:(ints C)[0+(gA log h J).1]? =some (.int .i64 (C[(gA log h J).1])):=by rw [aM]; exact ints_at vh
  have jg:=fw C;generalize C[(gA log h J).1]=v at vh hv oP;have WN:=fun (p:St)=>Fe (T:=T) (H:=H) (s:=p) (h:=h) (j:=J) hT tW.lh
  dsimp only [W0]at gs
  generalize Xn:(gA log h J).1=cc at Xe zf vh oP WN gs;generalize WX:(gA log h J).2=pp at WN gs;obtain⟨n1,n2,n3,n4⟩:=tW.ne;have acP:=gt;generalize 2 ^ log=N at gt Xz hC Xe hp;have k1:∀d1 d2:D,((s1.bD so (.var 320 d1)).bD cm (.var 85 d2)).get so=some (.var 320 d1):=fun d1 d2=>St.eP St.aN h1;have k2:∀d1 d2:D,((s1.bD so (.var 320 d1)).bD cm (.var 85 d2)).get to=_:=fun d1 d2=>St.eP (St.eP gt (bO h2)) n2;try refine go ?_
  simp only [beq_self_eq_true];try refine go ?_
  refine bf (WN _) ?_;rintro d p ⟨rfl,rfl⟩;refine⟨rfl,by simp [lost,eN.kind,cJ,dE,cE,aI,bz,bz.cV,fZ,bP.ev,Env.get,cP,D.flat,D.isAgg,cL,D.fv,D.beq,az,Obj.aV,bC,bu,D.bV,D.aV,k1,k2], ?_⟩;try refine go ?_
  refine My (fun p=>p.get so=some (.var 320 (W0 to h u log (J+1) false (IntKind.wrap .i64 (vi+1)) told))/\jF p cm/\aC (fun j=>j=so\/j=cm) s1 p) ⟨St.aN,⟨_,_,_,_,gI⟩, ?_⟩ ?_
  ·refine aC.set (aC.set (aC.set (aC.set (aC.refl ok1) _ ?_ ?_) _ ?_ ?_) _ ?_ ?_) _ ?_ ?_
   all_goals first
    | (intro _; exact .inl rfl)
    | (intro _; exact .inr rfl)
    | (simp only [St.fE,St.jw]; omega)
    | omega
  rintro p ⟨X0,ct2,bq⟩;have sO:=tW.dU ok1 bq (by omega) (fun hE=>by have:=h4 hE; have:=n4 hE; omega) (by omega) ct2;have ok2:=bq.ok;have aaM:=ok2.lt X0;have bs2:=b1.trans bq;have W4:=sO.go;have bset:∀d:D,aC (fun j=>j=so\/j=cm) p (p.bD so (.var 320 d)):=fun d=>aC.set (W:=fun j=>j=so\/j=cm) (aC.refl ok2) _ aaM (fun _=> .inl rfl)
  have HP:∀d:D,uN (p.bD so (.var 320 d)) to eo lo cm log x E C b m u:=fun d=>sO.dU ok2 (W:=fun j=>j=so) (aC.set (aC.refl ok2) _ aaM (fun _=>rfl)) (by omega) (fun hE=>by have:=h4 hE; omega) (by omega) (by
   obtain⟨a1,a2,a3,a4,g⟩:=ct2;exact⟨a1,a2,a3,a4,St.eP g (by omega)⟩)
  refine cY (fun zI=> ?_) (fun zI=> ?_)
  ·try refine go ?_
   exact bg 0 (by omega) rfl ⟨rfl,bs2.trans (bset _),HP _,.inr ⟨J+1,_,rfl,St.aN⟩⟩
  ·have kq: ¬ v= -1:=by simpa using zI
   obtain⟨w,rfl⟩:∃w:Nat,v=(w:Int):=⟨v.toNat,by omega⟩;have hJi:J≠i:=by
    rintro rfl;rw [Xn,vh]at hi3;simp only [aa]at hi3;omega
   have J6:w < E.length:=by omega
   have sS:=sO.en;rcases sS with _ | ⟨_,st,E,ge,dT⟩
   ·cases J6
   have pQ:=eO E;have qc:(E.map cF)[0+w]? =some (cF E[w]):=by rw [aM,aE,ae J6]; rfl
   generalize E[w]=en at qc;have cC:E≠ []:=by rintro rfl; cases J6
   rcases kS told (w:Int) with Me | Me
   ·have hd:decide ((w:Int) > told)=true:=cK Me;try refine go ?_
    simp only [hd];try refine go ?_
    refine cY (fun qd=> ?_) (fun qd=> ?_)
    ·try refine go ?_
     exact ai ⟨.inr ⟨w,rfl,Me,J6,_,_,St.aN⟩,HP _,bs2.trans (bset _)⟩
    ·try refine go ?_
     exact bg (i - (J+1)+1) (by omega) rfl ⟨rfl,bs2,sO,.inl ⟨J+1,_,rfl,by omega,X0⟩⟩
   ·have hd:=cM ((w:Int) > told);try refine go ?_
    simp only [hd];try refine go ?_
    exact bg (i - (J+1)+1) (by omega) rfl ⟨rfl,bs2,sO,.inl ⟨J+1,_,rfl,by omega,X0⟩⟩
 ·have ok1:=b1.ok;have lso:=ok1.lt gs;have gt:=tW.go
  have HP:∀d:D,uN (s1.bD so (.var 320 d)) to eo lo cm log x E C b m u:=fun d=>tW.dU ok1 (W:=fun j=>j=so) (aC.set (aC.refl ok1) _ lso (fun _=>rfl)) (by omega) (fun hE=>by have:=h4 hE; omega) (by omega) (by
   obtain⟨a1,a2,a3,a4,g⟩:=tW.ct;exact⟨a1,a2,a3,a4,St.eP g (by omega)⟩)
  try refine go ?_
  exact ai ⟨.inl rfl,HP _,b1.trans (aC.set (aC.refl ok1) _ lso (fun _=> .inl rfl))⟩
end
@[reducible] def MI (dv:Nat) (h k v:Int) (S:D) (kept at' :Int) (wa sa ov:Bool) (t0 t1:Int) (t2:Bool) (t3 t4 sc:Int):D:= .agg [.ptr dv 0,.int .i64 2,.int .i64 h,.int .i64 k,.int .i64 v,S,.int .i64 kept,.int .i64 at',.bool wa,.bool sa,.bool ov,.int .i64 t0,.int .i64 t1,.bool t2,.int .i64 t3,.int .i64 t4,.int .i64 sc]
theorem zp {s:St}{o:Nat}{a b:Ab.Obj}(hs:s.Ok)(h:o < s.n):aC (fun j=>j=o) s ((s.bD o a).bD o b):=aC.set (W:=fun j=>j=o) (aC.set (W:=fun j=>j=o) (aC.refl hs) _ h (fun _=>rfl)) _ h (fun _=>rfl)
section
variable {T:Nat->Option dS}{H:au}{s:St}{to eo lo cm log so mo dv:Nat}{x:D}{E:List eS}{C:List Int}{b m u:Int}
theorem EJ (hT:nH T)(hs:s.Ok)(hc:jF s cm):cu T H 134 [.ptr cm 0] s fun d s1=>d= .ptr s.n 0/\(∃lo m',uN s1 s.n 0 lo cm 3 (.vs true 0 []) [] (List.replicate (2 ^ 3) (-1)) 0 m' 0/\s.n<=lo)/\s.n < s1.n/\aC (fun j=>j=cm) s s1:=by
 have lc:cm < s.n:=by obtain ⟨a1,a2,a3,a4,g⟩:=hc; exact hs.lt g
 refine ay hT.t134 ?_;try refine go ?_
 refine pD (fun p=>p.get s.n=some (.var 274 (.agg [.vs true 0 [],.int .i64 0,.vs true 0 [],.int .i64 0,.int .i64 0,.int .i64 0,.int .i64 0,.ptr cm 0]))/\aC Nil s p/\s.n < p.n) ⟨St.ba,(aC.refl hs).push _,by rw [St.dN]; omega⟩ ?_;rintro p ⟨g1,b1,np⟩;have ok1:=b1.ok;refine ak (Bs (log:=3) hT ok1 g1 (hc.dU hs b1 id) (by decide) (by decide)) ?_;rintro d s2 ⟨⟨m',g2⟩,⟨st,g3,dT⟩,c3,n3,b3⟩;try refine go ?_
 refine ai ⟨rfl,⟨p.n,m',⟨g2,.nil 0,⟨st,g3,dT⟩,.nil,by decide,by decide,by decide,c3,fun _=>rfl⟩,by omega⟩,by omega, ?_⟩
 exact (b1.mono fun _ h=>h.elim).trans' b3 fun j hj hn=>by
  rcases hj with hj | hj
  ·omega
  ·exact hj
theorem DZ (hT:nH T){P:Nat}(hs:s.Ok)(hc:jF s cm)(hP:P<=65536):cu T H 88 [.int .i64 (P:Nat),.ptr cm 0] s fun d s1=>∃dv to lo m',d= .gJ [.ptr dv 0,.int .i64 0]/\s1.get dv=some (.var 255 (.agg [.int .i64 (P:Nat),.int .i64 0,.ptr to 0]))/\uN s1 to 0 lo cm 3 (.vs true 0 []) [] (List.replicate (2 ^ 3) (-1)) 0 m' 0/\s.n<=dv/\s.n<=to/\s.n<=lo/\aC (fun j=>j=cm) s s1:=by
 have lc:cm < s.n:=by obtain ⟨a1,a2,a3,a4,g⟩:=hc; exact hs.lt g
 have d1:=cM ((P:Int) < 0);have d2:=cM ((P:Int) > 65536);refine ay hT.t88 ?_;try refine go ?_
 refine ak (EJ hT hs hc) ?_;rintro d s1 ⟨rfl,⟨lo,m',ht,Kx⟩,n1,b1⟩;have ok1:=b1.ok;have bp:aC Nil s1 (s1.bc (.var 255 (.agg [.int .i64 (P:Nat),.int .i64 0,.ptr s.n 0]))):=(aC.refl ok1).push _;try refine go ?_
 exact ai ⟨s1.n,s.n,lo,m',rfl,St.ba,ht.dU ok1 bp id (fun _=>id) id (ht.ct.dU ok1 bp id),by omega,an _,Kx,b1.trans (bp.mono fun _ h=>h.elim)⟩
theorem Pa (hT:nH T){P Sh:Nat}(hs:s.Ok)(hc:jF s cm)(hP:P<=65536)(Lk:Sh<=256):cu T H 89 [.int .i64 (Sh:Nat),.int .i64 (P:Nat),.ptr cm 0] s fun d s1=>∃fo,d= .gJ [.ptr fo 0,.int .i64 0]/\s.n<=fo/\jF s1 cm/\aC (fun j=>j=cm) s s1:=by
 have d1:=cM ((P:Int) < 0);have d2:=cM ((P:Int) > 65536);have d3:=cM ((Sh:Int) < 0);have d4:=cM ((Sh:Int) > 256);refine ay hT.t89 ?_;try refine go ?_
 refine ak (EJ hT hs hc) ?_;rintro d s1 ⟨rfl,⟨lo,m',ht,Kx⟩,n1,b1⟩;have ok1:=b1.ok;try refine go ?_
 exact ai ⟨s1.n,rfl,by omega,ht.ct.dU ok1 ((aC.refl (W:=Nil) ok1).push _) id,b1.push _⟩
theorem MJ (hT:nH T){fo:Nat}(hs:s.Ok):cu T H 90 [.ptr fo 0] s fun d s1=>d= .ptr s.n 0/\aC Nil s s1:=by
 refine ay hT.t90 ?_;try refine go ?_
 exact ai ⟨rfl,(aC.refl hs).push _⟩
theorem K5 (hT:nH T){h k v:Int}(hs:s.Ok):cu T H 96 [.ptr dv 0,.int .i64 2,.int .i64 h,.int .i64 k,.int .i64 v] s fun d s1=>d= .ptr s.n 0/\s1.get s.n=some (.var 266 (MI dv h k v .cT 0 0 false false false 0 0 false 0 0 0))/\s1.n=s.n+1/\aC Nil s s1:=by
 refine ay hT.t96 ?_;try refine go ?_
 exact ai ⟨rfl,St.ba,rfl,(aC.refl hs).push _⟩
theorem Nl (hT:nH T){h k v kept at' t0 t1 t3 t4 sc:Int}{t2 c sa:Bool}{S:D}(hs:s.Ok)(gm:s.get mo=some (.var 266 (MI dv h k v S kept at' true sa false t0 t1 t2 t3 t4 sc))):cu T H 98 [.ptr mo 0,.bool c] s fun d s1=>s1.get mo=some (.var 266 (MI dv h k v S kept at' false c false t0 t1 t2 t3 t4 sc))/\s1.n=s.n/\aC (fun j=>j=mo) s s1:=by
 have lm:=hs.lt gm;refine ay hT.t98 ?_;try refine go ?_
 exact ai ⟨St.aN,rfl,zp hs lm⟩
theorem yI (hT:nH T){h k v kept at' t0 t1 t3 t4 sc c0 c1 c3 c4:Int}{t2 wa sa ov c2:Bool}{S:D}(hs:s.Ok)(gm:s.get mo=some (.var 266 (MI dv h k v S kept at' wa sa ov t0 t1 t2 t3 t4 sc))):cu T H 180 [.ptr mo 0,.agg [.int .i64 c0,.int .i64 c1,.bool c2,.int .i64 c3,.int .i64 c4]] s fun d s1=>d= .agg [.int .i64 c0,.int .i64 c1,.bool c2,.int .i64 c3,.int .i64 c4]/\s1.n=s.n/\aC (fun j=>j=mo) s s1:=by
 have lm:=hs.lt gm;refine ay hT.t180 ?_;try refine go ?_
 exact ai ⟨rfl,rfl,zp hs lm⟩
end
section
variable {T:Nat->Option dS}{H:au}{s:St}{to eo lo cm log so mo dv N:Nat}{x:D}{E:List eS}{C:List Int}{b m u:Int}
def l8 (s:St)(N cm dv:Nat)(K:Int->Prop)(n:Nat):Prop:=∃to eo lo log x E C b m u most ver,s.get dv=some (.var 255 (.agg [.int .i64 most,.int .i64 ver,.ptr to 0]))/\uN s to eo lo cm log x E C b m u/\N<=dv/\N<=to/\(E≠ []->N<=eo)/\N<=lo/\cm < N/\E.length<=n/\∀e∈E,K e.k
theorem uN.ndv (h:uN s to eo lo cm log x E C b m u){d:D}(g:s.get dv=some (.var 255 d)):dv≠to/\dv≠lo/\dv≠cm/\(E≠ []->dv≠eo):=by
 obtain⟨st,g1,_⟩:=h.ce;obtain⟨a1,a2,a3,a4,g2⟩:=h.ct;have g3:=h.go;refine⟨?_, ?_, ?_,fun hE=> ?_⟩
 ·rintro rfl; rw [g3]at g; simp at g
 ·rintro rfl; rw [g1]at g; cases g
 ·rintro rfl; rw [g2]at g; simp at g
 ·rcases h.en with _ | ⟨_,tR,E,g4,_⟩
  ·exact absurd rfl hE
  ·rintro rfl; rw [g4]at g; cases g
theorem mem_keys {E E' :List eS}{K:Int->Prop}(h:E'.map eS.k=E.map eS.k)(hK:∀e∈E,K e.k):∀e∈E',K e.k:=fun e he=>by
 have:e.k∈E'.map eS.k:=List.mem_map_of_mem he;rw [h]at this;obtain⟨e',h1,h2⟩:=jO.mp this;rw [← h2]; exact hK e' h1
theorem I2 (hT:nH T){h k v kept t0 t1 t3 t4 sc most ver:Int} {at' :Nat}{t2 wa sa ov:Bool}{S:D}{K:Int->Prop}{n:Nat}(hs:s.Ok)(gm:s.get mo=some (.var 266 (MI dv h k v S kept (at' :Nat) wa sa ov t0 t1 t2 t3 t4 sc)))(gd:s.get dv=some (.var 255 (.agg [.int .i64 most,.int .i64 ver,.ptr to 0])))(ht:uN s to eo lo cm log x E C b m u)(oP:at' < E.length)
  (k1:N<=dv)(k2:N<=to)(k3:E≠ []->N<=eo)(k4:N<=lo)(k5:cm < N)(k6:N<=mo)(hn:E.length<=n)(hK:∀e∈E,K e.k):
  cu T H 138 [.ptr mo 0] s fun d s1=>(∃c1 c3 c4:Int,∃c2,d= .agg [.int .i64 2,.int .i64 c1,.bool c2,.int .i64 c3,.int .i64 c4])/\l8 s1 N cm dv K n/\aC (fun j=>N<=j) s s1:=by
 have gt:=ht.go;obtain⟨m1,m2,m3,m4⟩:=ht.ndv gd;have lm:=hs.lt gm; have ld:=hs.lt gd; have lt:=hs.lt gt;have nmd:mo≠dv:=by rintro rfl; rw [gm]at gd; simp at gd
 have nmt:mo≠to:=by rintro rfl; rw [gm]at gt; simp at gt
 have nml:mo≠lo:=by obtain ⟨st,g1,_⟩:=ht.ce; rintro rfl; rw [gm]at g1; cases g1
 have nme:E≠ []->mo≠eo:=fun hE=>by
  rcases ht.en with _ | ⟨_,tR,E,g4,_⟩
  ·exact absurd rfl hE
  ·rintro rfl; rw [gm]at g4; cases g4
 have sS:=ht.en;rcases sS with _ | ⟨_,st,E,ge,dT⟩
 ·cases oP
 have cC:E≠ []:=by rintro rfl; cases oP
 have nme:=nme cC; have m4:=m4 cC; have k3:=k3 cC;have le:=hs.lt ge;have pQ:=eO E;have qc:(E.map cF)[0+at']? =some (cF E[at']):=by rw [aM,aE,ae oP]; rfl
 generalize E[at']=en at qc;refine ay hT.t138 ?_;try refine go ?_
 refine Cs (fun p=>p.get s.n=some (.var 270 (cF en))/\aC Nil s p/\s.n < p.n) ⟨St.aN, ?_,by simp only [St.fE,St.jw]; omega⟩ ?_
 ·exact aC.set (W:=Nil) (aC.set (W:=Nil) (aC.up (aC.refl hs) 1) _ (by simp only [St.jw]; omega) (fun h=>by omega)) _ (by simp only [St.fE,St.jw]; omega) (fun h=>by omega)
 rintro p ⟨gx,bp,np⟩;have okp:=bp.ok;have gmp:=bp.get hs gm id;have gdp:=bp.get hs gd id;have XM:=ht.dU hs bp id (fun _=>id) id (ht.ct.dU hs bp id);have gtp:=XM.go;refine bf (Se hT okp XM oP) ?_;rintro d p2 ⟨rfl,⟨E',sO,e2,e4⟩,b2,n2⟩;have ok2:=b2.ok;have Lg:=b2.get okp gmp (fun h=>by omega);have Q3:=b2.get okp gdp (fun h=>by omega);have W4:=sO.go;have VT:=b2.get okp gx (fun h=>by omega);have gt3:p2.get to=some _:=b2.get okp gtp (fun h=>by have:=XM.ne.2.2.2 cC; omega);refine⟨rfl,by simp [lost,eN.kind,cJ,dE,cE,aI,bz,bz.cV,fZ,bP.ev,Env.get,cP,D.flat,D.isAgg,cL,D.fv,D.beq,az,Obj.aV,bC,bu,D.bV,D.aV,gmp,gdp,gtp,Lg,Q3,gt3], ?_⟩;try refine go ?_
 have ld2:=ok2.lt Q3;refine Cs (fun q=>q.get dv=some (.var 255 (.agg [.int .i64 most,.int .i64 (IntKind.wrap .i64 (ver+1)),.ptr to 0]))/\aC (fun j=>j=dv) p2 q) ⟨St.aN,aC.set (W:=fun j=>j=dv) (aC.refl ok2) _ ld2 (fun _=>rfl)⟩ ?_;rintro q ⟨gdq,bq⟩;have okq:=bq.ok;have gmq:=bq.get ok2 Lg nmd;have Z1:=sO.dU ok2 bq (bO m1) (fun _=>bO m4) (bO m2) (sO.ct.dU ok2 bq (bO m3));have gxq:=bq.get ok2 VT (by omega);refine bf (yI hT okq gmq) ?_;rintro d p4 ⟨rfl,n4',b4⟩;refine⟨rfl,by simp [lost,eN.kind,cJ,dE,cE,aI,bz,bz.cV,fZ,bP.ev,Env.get,cP,D.flat,D.isAgg,cL,D.fv,D.beq,az,Obj.aV,bC,bu,D.bV,D.aV,gmq,gxq], ?_⟩;refine od ?_;try refine go ?_
 have hd4:=b4.get okq gdq (bO nmd);have ht4:=Z1.dU okq b4 (bO nmt) (fun _=>bO nme) (bO nml) (Z1.ct.dU okq b4 (by omega));have bN:aC (fun j=>N<=j) s p4:=(((bp.mono fun _ h=>h.elim).trans (b2.mono fun j hj=>by obtain ⟨_,rfl⟩:=hj; exact k3)).trans (bq.mono fun j hj=>by subst hj; exact k1)).trans (b4.mono fun j hj=>by subst hj; exact k6);exact ai ⟨⟨_,_,_,_,rfl⟩,⟨to,eo,lo,log,_,E',C,b,m,u,most,_,hd4,ht4,k1,k2,fun _=>k3,k4,k5,by omega,mem_keys e4 hK⟩,bN⟩
end
section
variable {T:Nat->Option dS}{H:au}{s:St}{to eo lo cm log so mo dv N:Nat}{x:D}{E:List eS}{C:List Int}{b m u:Int}
theorem O6 (hT:nH T){most ver:Int}{c0 c1 c2 n4 n5 n6 n7:D}{n:Int}(gd:s.get dv=some (.var 255 (.agg [.int .i64 most,.int .i64 ver,.ptr to 0])))(gt:s.get to=some (.var 274 (.agg [c0,c1,c2,.int .i64 n,n4,n5,n6,n7]))):cu T H 182 [.ptr dv 0] s fun d s1=>d= .int .i64 n/\s1=s:=by
 refine ay hT.t182 ?_;try refine go ?_
 exact ai ⟨rfl,rfl⟩
theorem Ms (hT:nH T){h k v kept at' t0 t1 t3 t4 sc most ver:Int}{t2 wa sa ov:Bool}{S:D}{K:Int->Prop}{n:Nat}(hs:s.Ok)(gm:s.get mo=some (.var 266 (MI dv h k v S kept at' wa sa ov t0 t1 t2 t3 t4 sc)))(gd:s.get dv=some (.var 255 (.agg [.int .i64 most,.int .i64 ver,.ptr to 0])))(ht:uN s to eo lo cm log x E C b m u)
  (k1:N<=dv)(k2:N<=to)(k3:E≠ []->N<=eo)(k4:N<=lo)(k5:cm < N)(k6:N<=mo)(kN:N<=s.n)(hn:E.length<=n)(qX:n<=20000)(hK:∀e∈E,K e.k)(hk:K k):
  cu T H 140 [.ptr mo 0] s fun d s1=>(∃c0 c1 c3 c4:Int,∃c2,d= .agg [.int .i64 c0,.int .i64 c1,.bool c2,.int .i64 c3,.int .i64 c4]/\c0≠1)/\l8 s1 N cm dv K (n+1)/\aC (fun j=>N<=j\/j=cm) s s1:=by
 have gt:=ht.go;obtain⟨m1,m2,m3,m4⟩:=ht.ndv gd;have lm:=hs.lt gm; have ld:=hs.lt gd; have lt:=hs.lt gt;have nmd:mo≠dv:=by rintro rfl; rw [gm]at gd; simp at gd
 have nmt:mo≠to:=by rintro rfl; rw [gm]at gt; simp at gt
 have nml:mo≠lo:=by obtain ⟨st,g1,_⟩:=ht.ce; rintro rfl; rw [gm]at g1; cases g1
 have nmc:mo≠cm:=by omega
 have nme:E≠ []->mo≠eo:=fun hE=>by
  rcases ht.en with _ | ⟨_,tR,E,g4,_⟩
  ·exact absurd rfl hE
  ·rintro rfl; rw [gm]at g4; cases g4
 have hlen:=O6 (T:=T) (H:=H) (s:= { s with ro:=true}) hT gd gt;refine ay hT.t140 ?_;try refine go ?_
 refine qy hlen ?_;rintro d s1 ⟨rfl,rfl⟩;refine⟨rfl, ?_⟩;try refine go ?_
 have hD:l8 s N cm dv K (n+1):=⟨to,eo,lo,log,x,E,C,b,m,u,most,ver,gd,ht,k1,k2,k3,k4,k5,by omega,hK⟩;refine cY (fun _=> ?_) (fun _=> ?_)
 ·try refine go ?_
  refine ak (yI hT hs gm) ?_;rintro d p ⟨rfl,n1,b1⟩;try refine go ?_
  have tW:=ht.dU hs b1 (bO nmt) (fun hE=>bO (nme hE)) (bO nml) (ht.ct.dU hs b1 (bO nmc));exact ai ⟨⟨3,0,0,0,false,rfl,by decide⟩,⟨to,eo,lo,log,x,E,C,b,m,u,most,ver,b1.get hs gd (bO nmd),tW,k1,k2,k3,k4,k5,by omega,hK⟩,b1.mono fun j hj=>by subst hj; exact .inl k6⟩
 ·try refine go ?_
  refine bf (PZ hT hs ht (by omega)) ?_;rintro d p ⟨rfl,eo',lo',log',x',C',b',m',u',bb,tW,he,Kx,b1⟩;have ok1:=b1.ok;have Ig:=b1.get hs gm (fun h=>by rcases h with h | ⟨hE,h⟩ | h | h; omega; exact nme hE h; omega; omega);have Ed:=b1.get hs gd (fun h=>by rcases h with h | ⟨hE,h⟩ | h | h; omega; exact m4 hE h; omega; omega);have bn1:=b1.n;refine⟨rfl,by simp [lost,eN.kind,cJ,dE,cE,aI,bz,bz.cV,fZ,bP.ev,Env.get,cP,D.flat,D.isAgg,cL,D.fv,D.beq,az,Obj.aV,bC,bu,D.bV,D.aV,gm,gd,Ig,Ed], ?_⟩;try refine go ?_
  have ld1:=ok1.lt Ed;have acF :=tW;obtain⟨m5,m6,m7,m8⟩:=tW.ndv Ed;have nme' :eo' ≠mo:=by
   rcases he with ⟨hE,rfl⟩ | he
   ·exact bO (nme hE)
   ·omega
  have nml' :lo' ≠mo:=by omega
  refine pD (fun q=>q.get dv=some (.var 255 (.agg [.int .i64 most,.int .i64 (IntKind.wrap .i64 (ver+1)),.ptr to 0]))/\aC (fun j=>j=dv) p q) ⟨St.aN,aC.set (W:=fun j=>j=dv) (aC.refl ok1) _ ld1 (fun _=>rfl)⟩ ?_;rintro q ⟨gdq,bq⟩;have okq:=bq.ok;have gmq:=bq.get ok1 Ig nmd;have Z1:=tW.dU ok1 bq (bO m5) (fun h=>bO (m8 h)) (bO m6) (tW.ct.dU ok1 bq (bO m7));refine ak (yI hT okq gmq) ?_;rintro d p4 ⟨rfl,n4',b4⟩;try refine go ?_
  have hd4:=b4.get okq gdq (bO nmd);have ht4:=Z1.dU okq b4 (bO nmt) (fun _=>nme') nml' (Z1.ct.dU okq b4 (bO nmc))
  have bN:aC (fun j=>N<=j\/j=cm) s p4:=((b1.mono fun j hj=>by
   rcases hj with h | ⟨hE,h⟩ | h | h
   ·exact .inl (by omega)
   ·have:=k3 hE; exact .inl (by omega)
   ·exact .inl (by omega)
   ·exact .inr h).trans (bq.mono fun j hj=>by subst hj; exact .inl k1)).trans (b4.mono fun j hj=>by subst hj; exact .inl k6)
  refine ai ⟨⟨2,0,v,(E.length:Nat),false,rfl,by decide⟩,⟨to,eo',lo',log',x',_,C',b',m',u',most,_,hd4,ht4,k1,k2,fun _=> ?_,by omega,k5,by rw [aB,aW]; omega,fun e Ol => ?_⟩,bN⟩
  ·rcases he with ⟨hE,rfl⟩ | he
   ·exact k3 hE
   ·omega
  ·rw [bK,cG]at Ol;rcases Ol with h | rfl
   ·exact hK e h
   ·exact hk
end
section
variable {T:Nat->Option dS}{H:au}{s:St}{mo dv cm N n:Nat}{h k v told:Int}{K:Int->Prop}
def Lo (s:St)(N cm mo dv:Nat)(h k v:Int)(K:Int->Prop)(n:Nat)(told:Int)(wa sa:Bool):Prop:=
 ∃to eo lo log x E C b m u most ver so at' t0 t1 t2 t3 t4 sc,s.get mo=some (.var 266 (MI dv h k v (.ptr so 0) ver at' wa sa false t0 t1 t2 t3 t4 sc))/\s.get dv=some (.var 255 (.agg [.int .i64 most,.int .i64 ver,.ptr to 0]))/\uN s to eo lo cm log x E C b m u/\LV s so to h u log told/\
  N<=dv/\N<=to/\(E≠ []->N<=eo)/\N<=lo/\cm < N/\N<=mo/\N<=so/\N<=s.n/\E.length<=n/\(∀e∈E,K e.k)/\ -1<=told/\((wa=true\/sa=true)->∃i:Nat,at' =(i:Int)/\i < E.length)
def Mx (s:St)(N cm mo dv:Nat)(h k v:Int)(K:Int->Prop)(n:Nat)(told:Int)(d:D)(s1:St):Prop:=
 (∃c0 c1 c3 c4:Int,∃c2,d= .agg [.int .i64 c0,.int .i64 c1,.bool c2,.int .i64 c3,.int .i64 c4]/\(c0≠1/\l8 s1 N cm dv K (n+1)\/c0=1/\K c1/\∃told' :Nat,told < (told' :Int)/\told' < n/\Lo s1 N cm mo dv h k v K n (told' :Nat) true false))/\aC (fun j=>N<=j\/j=cm) s s1
theorem l8.up {n' :Nat}(h:l8 s N cm dv K n)(hn:n<=n'):l8 s N cm dv K n' :=by
 obtain⟨a1,a2,a3,a4,a5,a6,a7,a8,a9,zT,Mg,a12,q1,q2,q3,q4,q5,q6,q7,q8,q9⟩:=h;exact⟨a1,a2,a3,a4,a5,a6,a7,a8,a9,zT,Mg,a12,q1,q2,q3,q4,q5,q6,q7,by omega,q9⟩
theorem Ko (hT:nH T)(hs:s.Ok)(hm:Lo s N cm mo dv h k v K n told false true):cu T H 97 [.ptr mo 0] s (Mx s N cm mo dv h k v K n told):=by
 obtain⟨to,eo,lo,log,x,E,C,b,m,u,most,ver,so,at',t0,t1,t2,t3,t4,sc,gm,gd,ht,zd,k1,k2,k3,k4,k5,k6,k7,k8,k9,Lm,Ud,WJ⟩:=hm;obtain⟨i,rfl,hi⟩:=WJ (.inr rfl);have Od:=I2 (H:=H) (N:=N) (K:=K) (n:=n) hT hs gm gd ht hi k1 k2 k3 k4 k5 k6 k9 Lm;refine ay hT.t97 ?_;try refine go ?_
 simp only [bne_self_eq_false];try refine go ?_
 refine ak Od ?_;rintro d s1 ⟨⟨c1,c3,c4,c2,rfl⟩,hD,b1⟩;try refine go ?_
 exact ai ⟨⟨2,_,_,_,_,rfl,.inl ⟨by decide,hD.up (by omega)⟩⟩,b1.mono fun j hj=> .inl hj⟩
def MaF (s:St)(N cm mo dv:Nat)(h k v:Int)(K:Int->Prop)(n:Nat):Prop:=s.get mo=some (.var 266 (MI dv h k v .cT 0 0 false false false 0 0 false 0 0 0))/\N<=mo/\N<=s.n/\l8 s N cm dv K n
theorem AR (hT:nH T)(hs:s.Ok)(qX:n<=20000)(hk:K k)(hm:Lo s N cm mo dv h k v K n told false false\/told= -1/\MaF s N cm mo dv h k v K n):cu T H 97 [.ptr mo 0] s (Mx s N cm mo dv h k v K n told):=by
 refine ay hT.t97 ?_;rcases hm with hm | ⟨rfl,gm,k6,k8,to,eo,lo,log,x,E,C,b,m,u,most,ver,gd,ht,k1,k2,k3,k4,k5,k9,Lm⟩;obtain⟨to,eo,lo,log,x,E,C,b,m,u,most,ver,so,at',t0,t1,t2,t3,t4,sc,gm,gd,ht,zd,k1,k2,k3,k4,k5,k6,k7,kN,k9,Lm,Ud,WJ⟩:=hm;have bq0:aC (fun j=>N<=j\/j=cm) s s:=aC.refl hs;have nmd:mo≠dv:=by rintro rfl; rw [gm]at gd; simp at gd
 have nmt:mo≠to:=by have gt:=ht.go; rintro rfl; rw [gm]at gt; simp at gt
 have nml:mo≠lo:=by obtain ⟨st,g1,_⟩:=ht.ce; rintro rfl; rw [gm]at g1; cases g1
 have nme:E≠ []->mo≠eo:=fun hE=>by
  rcases ht.en with _ | ⟨_,tR,E,g4,_⟩
  ·exact absurd rfl hE
  ·rintro rfl; rw [gm]at g4; cases g4
 have ok:=hs;try refine go ?_
 simp only [bne_self_eq_false];try refine go ?_
 rotate_left;have zd:=LG (H:=H) (h:=h) hT hs ht;have gt:=ht.go;have nmd:mo≠dv:=by rintro rfl; rw [gm]at gd; simp at gd
 have nmt:mo≠to:=by rintro rfl; rw [gm]at gt; simp at gt
 have nml:mo≠lo:=by obtain ⟨st,g1,_⟩:=ht.ce; rintro rfl; rw [gm]at g1; cases g1
 have nme:E≠ []->mo≠eo:=fun hE=>by
  rcases ht.en with _ | ⟨_,tR,E,g4,_⟩
  ·exact absurd rfl hE
  ·rintro rfl; rw [gm]at g4; cases g4
 have lm:=hs.lt gm;try refine go ?_
 refine bf zd ?_;rintro d p ⟨rfl,gs,np,bp⟩;have okp:=bp.ok;have gmp:=bp.get hs gm id;have gdp:=bp.get hs gd id;have gtp:=bp.get hs gt id;have lmp:=okp.lt gmp;have XM:=ht.dU hs bp id (fun _=>id) id (ht.ct.dU hs bp id);refine⟨rfl,by simp [lost,eN.kind,cJ,dE,cE,aI,bz,bz.cV,fZ,bP.ev,Env.get,cP,D.flat,D.isAgg,cL,D.fv,D.beq,az,Obj.aV,bC,bu,D.bV,D.aV,gm,gd,gt,gmp,gdp,gtp], ?_⟩;try refine go ?_
 refine pD (fun q=>(∃sc,q.get mo=some (.var 266 (MI dv h k v (.ptr s.n 0) ver 0 false false false 0 0 false 0 0 sc)))/\aC (fun j=>j=mo) p q) ⟨⟨_,St.aN⟩,aC.set (W:=fun j=>j=mo) (aC.set (W:=fun j=>j=mo) (aC.set (W:=fun j=>j=mo) (aC.set (W:=fun j=>j=mo) (aC.refl okp) _ lmp (fun _=>rfl)) _ lmp (fun _=>rfl)) _ lmp (fun _=>rfl)) _ lmp (fun _=>rfl)⟩ ?_;rintro q ⟨⟨sc,gm⟩,bq⟩;have ok:=bq.ok;have gd:=bq.get okp gdp (bO nmd);have zd:LV q s.n to h u log (-1):=⟨0,0,bq.get okp gs (by omega)⟩;have ht:=XM.dU okp bq (bO nmt) (fun hE=>bO (nme hE)) (bO nml) (XM.ct.dU okp bq (by omega));have bq0:aC (fun j=>N<=j\/j=cm) s q:=(bp.mono fun _ h=>h.elim).trans (bq.mono fun j hj=>by subst hj; exact .inl k6);have kN:N<=q.n:=by have:=bp.n; have:=bq.n; omega
 have k7:N<=s.n:=k8;have Ud:(-1:Int)<= -1:=Int.le_refl _;obtain⟨so,hso⟩:∃so,so=s.n:=⟨_,rfl⟩;rw [← hso]at zd k7 gm ⊢
 all_goals
  have hsq:so≠cm/\so≠to/\so≠lo/\(E≠ []->so≠eo):=by
   obtain⟨J,vi,g⟩:=zd;refine⟨?_, ?_, ?_,fun hE=> ?_⟩
   ·obtain⟨a1,a2,a3,a4,g2⟩:=ht.ct;rintro rfl; rw [g]at g2; simp at g2
   ·have gt:=ht.go;rintro rfl; rw [g]at gt; simp at gt
   ·obtain⟨st,g1,_⟩:=ht.ce;rintro rfl; rw [g]at g1; cases g1
   ·rcases ht.en with _ | ⟨_,tR,E,g4,_⟩
    ·exact absurd rfl hE
    ·rintro rfl; rw [g]at g4; cases g4
  have nms:mo≠so:=by
   obtain⟨J,vi,g⟩:=zd;rintro rfl; rw [gm]at g; simp at g
  have nds:dv≠so:=by
   obtain⟨J,vi,g⟩:=zd;rintro rfl; rw [gd]at g; simp at g
  have Rw:E.length < 2 ^ log:=by
   have h1:=ht.rm;have h2:=(mA ht.lh).1;generalize 2 ^ log=M at h1 h2 ⊢;omega
  refine ak (G7 hT ok ht (by omega) Rw Ud zd hsq) ?_;rintro d p2 ⟨hd,sO,b2⟩;have ok2:=b2.ok;have Lg:=b2.get ok gm (fun h=>by omega);have Q3:=b2.get ok gd (fun h=>by have:=(ht.ndv gd).2.2.1; omega);have SG :=b2.n
  have bq2:aC (fun j=>N<=j\/j=cm) s p2:=bq0.trans (b2.mono fun j hj=>by
   rcases hj with rfl | rfl
   ·exact .inl k7
   ·exact .inr rfl)
  rcases hd with rfl | ⟨w,rfl,Me,J6,aca⟩
  ·try refine go ?_
   refine ak (Ms (N:=N) (K:=K) (n:=n) hT ok2 Lg Q3 sO k1 k2 k3 k4 k5 k6 (by omega) k9 qX Lm hk) ?_;rintro d p3 ⟨⟨c0,c1,c3,c4,c2,rfl,JO⟩,hD,b3⟩;try refine go ?_
   exact ai ⟨⟨c0,c1,c3,c4,c2,rfl,.inl ⟨JO,hD⟩⟩,bq2.trans b3⟩
  ·have lm2:=ok2.lt Lg;have sS:=sO.en;rcases sS with _ | ⟨_,st,E,ge,dT⟩
   ·cases J6
   have cC:E≠ []:=by rintro rfl; cases J6
   have nme:=nme cC;have pQ:=eO E;obtain⟨en,hEw⟩:∃en,E[w]? =some en:=⟨_,ae J6⟩;have qc:(E.map cF)[0+w]? =some (cF en):=by rw [aM,aE,hEw]; rfl
   have abl:K en.k:=Lm en (aK hEw);have W4:=sO.go;try refine go ?_
   refine My (fun q=>(∃t0 t1 t2 t3 t4 sc,q.get mo=some (.var 266 (MI dv h k v (.ptr so 0) ver (w:Nat) false false false t0 t1 t2 t3 t4 sc)))/\aC (fun j=>j=mo) p2 q) ⟨⟨_,_,_,_,_,_,St.aN⟩,aC.set (W:=fun j=>j=mo) (aC.refl ok2) _ lm2 (fun _=>rfl)⟩ ?_;rintro q ⟨⟨t0,t1,t2,t3,t4,sc,K9⟩,b3⟩;have ok3:=b3.ok;have lm3:=ok3.lt K9;have gd3:=b3.get ok2 Q3 (bO nmd);have ge3:=b3.get ok2 ge (bO nme);have Jj:=sO.dU ok2 b3 (bO nmt) (fun _=>bO nme) (bO nml) (sO.ct.dU ok2 b3 (by omega));have gt3:=Jj.go;have n3' :=b3.n;refine cY (fun _=> ?_) (fun _=> ?_)
   ·try refine go ?_
    refine ak (I2 (N:=N) (K:=K) (n:=n) hT ok3 K9 gd3 Jj J6 k1 k2 k3 k4 k5 k6 k9 Lm) ?_;rintro d p4 ⟨⟨c1,c3,c4,c2,rfl⟩,hD,b4⟩;try refine go ?_
    exact ai ⟨⟨2,_,_,_,_,rfl,.inl ⟨by decide,hD.up (by omega)⟩⟩,(bq2.trans (b3.mono fun j hj=>by subst hj; exact .inl k6)).trans (b4.mono fun j hj=> .inl hj)⟩
   ·try refine go ?_
    refine CB (fun r=>r.get mo=some (.var 266 (MI dv h k v (.ptr so 0) ver (w:Nat) true false false 1 en.k false 0 0 sc))/\aC (fun j=>j=mo) q r) ⟨St.aN,zp ok3 lm3⟩ ?_;rintro r ⟨gm4,b4⟩;have ok4:=b4.ok;have gd4:=b4.get ok3 gd3 (bO nmd);have ht4:=Jj.dU ok3 b4 (bO nmt) (fun _=>bO nme) (bO nml) (Jj.ct.dU ok3 b4 (by omega));have aco:LV r so to h u log (w:Nat):=by
     obtain⟨J,vi,g⟩:=aca;exact⟨J,vi,b4.get ok3 (b3.get ok2 g (bO nms)) (bO nms)⟩
    have n4' :=b4.n;exact ai ⟨⟨1,en.k,0,0,false,rfl,.inr ⟨rfl,abl,w,Me,by omega,to,eo,lo,log,_,E,C,b,m,u,most,ver,so,_,_,_,_,_,_,_,gm4,gd4,ht4,aco,k1,k2,k3,k4,k5,k6,k7,by omega,k9,Lm,by omega,fun _=>⟨w,rfl,J6⟩⟩⟩,(bq2.trans (b3.mono fun j hj=>by subst hj; exact .inl k6)).trans (b4.mono fun j hj=>by subst hj; exact .inl k6)⟩
end
def lf:Nat->List UInt8->List Nat
 | 0,_=> []
 | n+1,l=>if l=[] then [] else (Lib.decodeL l).1::lf n (l.drop (Lib.decodeL l).2)
theorem PD {x:Int}{n:Nat}(h:x=(n:Int)):x.toNat.toUInt8=UInt8.ofNat n:=by subst h; rfl
theorem WK {r:Nat}(h:r<=1114111):(Utf8.encode (r:Int)).data.toList=Lib.encodeRune r:=by
 by_cases hv:55296<=r/\r<=57343
 ·have v:Utf8.valid (r:Int)=false:=by simp [Utf8.valid]; omega
  rw [Lib.encodeRune,Lib.encodeRuneZ_bad (by omega)];simp [Utf8.encode,v,Utf8.runeError]
 have v:Utf8.valid (r:Int)=true:=by simp [Utf8.valid]; omega
 by_cases c1:r < 128
 ·rw [Lib.encodeRune,Lib.encodeRuneZ_one (by omega) (by omega),bG,ed,PD (n:=r) rfl];simp [Utf8.encode,v,c1]
 by_cases c2:r < 2048
 ·rw [Lib.encodeRune,Lib.encodeRuneZ_two (by omega) (by omega)];simp only [bG,ed];rw [PD (n:=192+r / 64) (by omega),PD (n:=128+r % 64) (by omega)];simp [Utf8.encode,v,c1,c2]
 by_cases c3:r < 65536
 ·rw [Lib.encodeRune,Lib.encodeRuneZ_three (by omega)];simp only [bG,ed];rw [PD (n:=224+r / 4096) (by omega),PD (n:=128+r / 64 % 64) (by omega),PD (n:=128+r % 64) (by omega)];simp [Utf8.encode,v,c1,c2,c3]
 ·rw [Lib.encodeRune,Lib.encodeRuneZ_four (by omega) (by omega)];simp only [bG,ed];rw [PD (n:=240+r / 262144) (by omega),PD (n:=128+r / 4096 % 64) (by omega),PD (n:=128+r / 64 % 64) (by omega),PD (n:=128+r % 64) (by omega)];simp [Utf8.encode,v,c1,c2,c3]
def rD (l:List UInt8):List UInt8:=Lib.mapD (fun x=>x) l
theorem pc (l:List UInt8)(cC:l≠ []):rD l=Lib.encodeRune (Lib.decodeL l).1++rD (l.drop (Lib.decodeL l).2):=by
 unfold rD;rw [Lib.mapD_step _ l cC,bJ (by omega)]
theorem AF:∀(n:Nat) (l:List UInt8),l.length<=n->l.length<=(rD l).length
 | 0,l,h=>by omega
 | n+1,l,h=>by
  by_cases cC:l=[]
  ·subst cC; exact aR _
  have hw:=Lib.decodeL_width l;have hle:=Lib.decodeL_le l cC;have hl:=dV.2 cC;have ih:=AF n (l.drop (Lib.decodeL l).2) (by rw [eB]; omega);rw [eB]at ih;by_cases hv:(Lib.decodeL l).1=65533/\(Lib.decodeL l).2=1
  ·rw [pc l cC,aB,hv.1];have:(Lib.encodeRune ((65533:Nat):Int)).length=3:=by decide
   omega
  ·rw [pc l cC,Lib.encode_decode l cC hv,aB,cR]; omega
theorem An:∀(n:Nat) (l:List UInt8),l.length<=n->(rD l=l↔Lib.validD l=true)
 | 0,l,h=>by
  have:l=[]:=ef (by omega);subst this;simp [Lib.validD_nil,rD,Lib.mapD_nil]
 | n+1,l,h=>by
  by_cases cC:l=[]
  ·subst cC; simp [Lib.validD_nil,rD,Lib.mapD_nil]
  have hw:=Lib.decodeL_width l;have hle:=Lib.decodeL_le l cC;have hl:=dV.2 cC;have ih:=An n (l.drop (Lib.decodeL l).2) (by rw [eB]; omega);rw [Lib.validD_step l cC];by_cases hv:(Lib.decodeL l).1=65533/\(Lib.decodeL l).2=1
  ·rw [bJ hv];refine⟨fun e=> ?_,fun e=>by cases e⟩;have h3:=congrArg List.length e;rw [pc l cC,aB,hv.1,hv.2]at h3;have h4:(Lib.encodeRune ((65533:Nat):Int)).length=3:=by decide
   have h5:=AF n (l.drop 1) (by rw [eB]; omega);rw [eB]at h5;omega
  ·rw [aJ hv,← ih,pc l cC,Lib.encode_decode l cC hv];refine⟨fun e=> ?_,fun e=>by rw [e,gK]⟩;have h3:l=l.take (Lib.decodeL l).2++l.drop (Lib.decodeL l).2:=(gK _ _).symm;exact List.append_cancel_left (e.trans h3)
theorem wN:∀(n:Nat) (l:List UInt8),l.length<=n->lX ((lf n l).map fun r:Nat=>D.int .i32 (r:Int))=some (rD l)
 | 0,l,h=>by
  have:l=[]:=ef (by omega);subst this;simp [lf,lX,rD,Lib.mapD_nil]
 | n+1,l,h=>by
  by_cases cC:l=[]
  ·subst cC; simp [lf,lX,rD,Lib.mapD_nil]
  have hw:=Lib.decodeL_width l;have hl:=dV.2 cC;have ih:=wN n (l.drop (Lib.decodeL l).2) (by rw [eB]; omega);rw [lf,aJ cC,bG,lX,ih,pc l cC,WK (Lib.decodeL_rune l)]
abbrev BT (V:List Nat):List D:=V.map fun r:Nat=>D.int .i32 (r:Int)
theorem yi (V:List Nat):(BT V).length=V.length:=aH _
theorem wS {n:Nat}{l:List UInt8}(h:l≠ []):lf (n+1) l=(Lib.decodeL l).1::lf n (l.drop (Lib.decodeL l).2):=by rw [lf,aJ h]
theorem GO (n:Nat):lf n []=[]:=by cases n <;> rfl
theorem wm:∀(n:Nat) (l:List UInt8),(lf n l).length<=l.length
 | 0,l=>aR _
 | n+1,l=>by
  by_cases cC:l=[]
  ·subst cC; exact an _
  have hw:=Lib.decodeL_width l;have hl:=dV.2 cC;have ih:=wm n (l.drop (Lib.decodeL l).2);rw [eB]at ih;rw [wS cC,aU]; omega
inductive Runes (s s1:St):D->List Nat->Prop
 | nil:Runes s s1 (.vs true 0 []) []
 | sl (o:Nat) (V:List Nat) (h:s1.get o=some (.arr 1 21 (BT V) 0)) (hn:s.n < o) (cC:V≠ []):Runes s s1 (.sl o 0 V.length V.length) V
section
variable {T:Nat->Option dS}{H:au}{s:St}
def PcI (s:St)(l:List UInt8)(m:Nat)(env:Env) (s' :St):Prop:=aC Nil s s' /\∃pos V d,l.length - pos<=m/\s'.get s.n=some (.lz l pos)/\Runes s s' d V/\V++lf m (l.drop pos)=lf l.length l/\env=[(3,d),(7,.ptr s.n 0)]
theorem yE (hT:nB T)(hs:s.Ok){l:List UInt8}(hl:l.length<=1000000):cu T H 84 [.str l] s fun d s1=>Row s1 1 d (BT (lf l.length l))/\aC Nil s s1:=by
 have lW:aL=2147483648:=rfl;have vk:=wm l.length l;refine ay hT.t84 ?_;try refine go ?_
 refine iZ ?_ rfl (D3 hs rfl);try refine go ?_
 refine cg (PcI s l) l.length rfl ⟨aC.push (aC.refl hs) _,0,[],_,by omega,St.ba,.nil,rfl,rfl⟩ ?_;rintro m env s1 ⟨b1,pos,V,d,hm,hg,hr,hV,rfl⟩;have ok1:=b1.ok;have ln:=ok1.lt hg;by_cases hp:pos < l.length
 ·have hd:=qS ⟨l.toArray⟩ pos;have hdl:Lib.decodeL (l.drop pos)=Utf8.decode ⟨l.toArray⟩ pos:=by
   have:=Lib.decodeL_drop ⟨l.toArray⟩ pos;simpa using this
  have cC:l.drop pos≠ []:=by intro h; have:=congrArg List.length h; rw [eB,bL]at this; omega
  obtain⟨m',rfl⟩:∃m',m=m' +1:=⟨m - 1,by omega⟩;rw [wS cC,List.drop_drop,hdl]at hV;have XX:(V++ [(Utf8.decode ⟨l.toArray⟩ pos).1])++lf m' (l.drop (pos+(Utf8.decode ⟨l.toArray⟩ pos).2))=lf l.length l:=by rw [← hV]; simp
  have hVl:V.length+1<=1000000:=by have:=congrArg List.length XX; rw [aB,aB,aW]at this; omega
  have ei:BT (V++ [(Utf8.decode ⟨l.toArray⟩ pos).1])=BT V++ [.int .i32 ((Utf8.decode ⟨l.toArray⟩ pos).1:Nat)]:=by simp
  have eil:=yi V;generalize hdc:(Utf8.decode ⟨l.toArray⟩ pos).1=r at XX ei;have bs:aC Nil s (s1.bD s.n (.lz l (pos+(Utf8.decode ⟨l.toArray⟩ pos).2))):=aC.set b1 _ ln (fun h=>by omega);have n1:=b1.n;have oks:=bs.ok;have gs:(s1.bD s.n (.lz l (pos+(Utf8.decode ⟨l.toArray⟩ pos).2))).get s.n=some (.lz l (pos+(Utf8.decode ⟨l.toArray⟩ pos).2)):=St.aN;rcases hr with _ | ⟨o,V,h,hn,Xs⟩
  ·try refine go ?_
   refine iZ ?_ rfl (B6 ok1 rfl hg hp);rw [hdc];try refine go ?_
   refine bg m' (by omega) rfl ⟨?_,_,[r],_,by omega, ?_,.sl s1.n [r] St.ba (by omega) (by simp),XX,rfl⟩
   ·exact aC.push bs _
   ·exact St.fh gs (by rw [St.fE]; omega)
  ·have lo:=ok1.lt h;have h' :(s1.bD s.n (.lz l (pos+(Utf8.decode ⟨l.toArray⟩ pos).2))).get o=some (.arr 1 21 (BT V) 0):=St.eP h (by omega);try refine go ?_
   refine iZ ?_ rfl (B6 ok1 rfl hg hp);rw [hdc];try refine go ?_
   have jr:=Runes.sl (s:=s) (s1:=(s1.bD s.n (.lz l (pos+(Utf8.decode ⟨l.toArray⟩ pos).2))).bD o (.arr 1 21 (BT V++ [.int .i32 (r:Nat)]) 0)) o (V++ [r]) (by rw [ei]; exact St.aN) hn (by simp);rw [aB,aW]at jr;refine bg m' (by omega) rfl ⟨?_,_,V++ [r],_,by omega, ?_,jr,XX,rfl⟩
   ·exact aC.set bs _ (by rw [St.fE]; exact lo) (fun h=>by omega)
   ·exact St.eP gs (by omega)
 ·have h0:l.drop pos=[]:=List.drop_eq_nil_of_le (by omega);rw [h0,GO,dY]at hV;rw [← hV];rcases hr with _ | ⟨o,V,h,hn,Xs⟩
  ·try refine go ?_
   refine iZ ?_ rfl (BQ rfl hg hp);try refine go ?_
   exact ai ⟨.vs true 0 _ (.inr rfl),b1⟩
  ·try refine go ?_
   refine iZ ?_ rfl (BQ rfl hg hp);try refine go ?_
   refine ai ⟨?_,b1⟩;have:=Row.sl (s:=s1) (sz:=1) o 0 V.length _ 0 _ (BT V) h (by rw [gv,eD]) (by simp) (aR _) (by simp);rwa [yi]at this
theorem Mv (hT:nB T)(hs:s.Ok){l:List UInt8}(hl:l.length<=1000000):cu T H 43 [.str l] s fun d s1=>d= .bool (Lib.validD l)/\aC Nil s s1:=by
 refine ay hT.t43 ?_;try refine go ?_
 refine ak (yE hT hs hl) ?_;rintro d s1 ⟨h1,b1⟩;have hc:=wN l.length l (an _);have hk:=An l.length l (an _);have hb:(rD l==l)=Lib.validD l:=by
  cases hv:Lib.validD l with
  | true=>rw [hk.2 hv]; simp
  | false=>
   rw [bQ];intro h; rw [hk.1 h]at hv; cases hv
 refine FW h1 hc ?_;try refine go ?_
 exact ai ⟨by rw [← hb],b1⟩
theorem Q9 (hT:nB T)(hs:s.Ok){l:List UInt8}(hl:l.length<=1000000):cu T H 44 [.str l] s fun d s1=>(∃n:Nat,d= .int .i64 n/\n<=l.length)/\aC Nil s s1:=by
 refine ay hT.t44 ?_;try refine go ?_
 refine ak (yE hT hs hl) ?_;rintro d s1 ⟨h1,b1⟩;try refine tM ?_
 exact ai ⟨⟨(BT (lf l.length l)).length,rfl,by rw [yi]; exact wm _ _⟩,b1⟩
end
end Go.Proofs.Tab
