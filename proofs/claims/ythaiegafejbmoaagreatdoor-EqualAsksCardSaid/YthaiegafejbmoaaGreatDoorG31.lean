/- Part. -/
import Derived.Test.YthaiegafejbmoaaGreatDoorG30
set_option linter.unusedSectionVars false
set_option maxRecDepth 100000
set_option maxHeartbeats 2000000
set_option linter.unusedSimpArgs false
set_option linter.unusedVariables false
namespace Go.Proofs.Tab
open Go Go.Ab Go.Ab.Sm
structure Bd (s:St)(bx:Nat)(y:D)(m:List UInt8):Prop where
 gb:∃a,(a= .dU\/a= .ptr bx 0)/\s.get bx=some (.var 287 (.agg [a,y]))
 hy:(y= .vs true 0 []/\m=[])\/(m≠ []/\∃o,y= .sl o 0 m.length m.length/\s.get o=some (.arr 1 5 (m.map fun c=> .int .u8 c.toNat) 0))
abbrev Rr (bx:Nat)(y:D):Nat->Prop:=fun j=>j=bx\/∃l c,y= .sl j 0 l c
theorem Bd.dT {W:Nat->Prop}{s s1:St}{bx:Nat}{y:D}{m:List UInt8}(h:Bd s bx y m)(hs:s.Ok)(hb:aH W s s1)(h1: ¬ W bx)(h2:∀o l c,y= .sl o 0 l c-> ¬ W o):Bd s1 bx y m:=by
 obtain⟨⟨a,ha,hg⟩,hy⟩:=h;refine⟨⟨a,ha,hb.get hs hg h1⟩, ?_⟩;rcases hy with hy | ⟨h3,o,h4,h5⟩
 ·exact .inl hy
 ·exact .inr ⟨h3,o,h4,hb.get hs h5 (h2 o _ _ h4)⟩
section
variable {T:Nat->Option dJ}{H:au}{b:Nat}{k:List iI}{l:List bz}{s:St}{Q:QP}{t:Nat}{e:Env}{ds:List (D×List D)}{g:Option (Nat×Bool)}
theorem P7 {x:bO}{o c ty:Nat}{v:D}(h:iN T H b l k ⟨(t,.ptr o c)::e,ds⟩ s Q)(hw:aJ e g=some true:=by rfl)(hx:x.ev e=some (.ptr o c):=by rfl)(hg:s.get o=some (.var ty v):=by exact gI)(hl:Nat.blt c v.flat.length=true:=by rfl):iN T H b (⟨some t,.Fz x,g,none⟩::l) k ⟨e,ds⟩ s Q:=
 dM h hw (by simp only [cg,hx,hg,hl])
theorem P6 {x:bO}{o c ty:Nat}{v:D}{q:List (Nat×Nat×Nat)}(h:iN T H b l k ⟨(t,.ptr o c)::e,ds⟩ s Q)(hw:aJ e g=some true:=by rfl)(hx:x.ev e=some (.ptr o c):=by rfl)(hg:s.get o=some (.var ty v):=by exact gI)(hl:Bu ty c v.flat.length q=true:=by rfl):iN T H b (⟨some t,.upto q x,g,none⟩::l) k ⟨e,ds⟩ s Q:=
 dM h hw (by simp only [cg,hx,hg,hl])
theorem G6 {x y:bO}{o c ty:Nat}{v:D}{neg oc:Bool}(h:iN T H b l k ⟨(t,.bool (true !=neg))::e,ds⟩ s Q)(hw:aJ e g=some true:=by rfl)(hx:x.ev e=some (.ptr o c):=by rfl)(hy:y.ev e=some (.ptr o c):=by rfl)(hg:s.get o=some (.var ty v):=by exact gI)(h0:sC oc .ptr (.ptr o c) (.ptr o c)=none:=by rfl):iN T H b (⟨some t,.eq .ptr neg oc x y,g,none⟩::l) k ⟨e,ds⟩ s Q:=
 dM h hw (by simp only [cg,hx,hy,h0,Q0,hg,aA,dS])
theorem uo (hT:TX T){bx:Nat}{a y:D}(hs:s.Ok)(ha:a= .dU\/a= .ptr bx 0)(hg:s.get bx=some (.var 287 (.agg [a,y])))(hy:y.sc=true):
  bY T H 207 [.ptr bx 0] s fun d s1=>s1.get bx=some (.var 287 (.agg [.ptr bx 0,y]))/\aH (fun j=>j=bx) s s1:=by
 have l1:=hs.lt hg;refine aD hT.t207 ?_;rcases ha with rfl | rfl
 ·repeat' first | refine go ?_ | refine P7 ?_ | refine P6 ?_
  exact iG ⟨gI,bI⟩
 ·try refine go ?_
  refine G6 ?_;try refine go ?_
  exact iG ⟨hg,aH.refl hs⟩
theorem sn (m:List UInt8):(m.map fun c=>D.int .u8 c.toNat).length=m.length:=aY _
theorem Dy (m:List UInt8):eC 1 (m.map fun c=>D.int .u8 c.toNat)=true:=by
 induction m with
 | nil=>rfl
 | cons a r ih=>simp only [bT,eC,ih]; rfl
theorem LK (hT:TX T){bx po tyo:Nat}{y:D}{m p:List UInt8}(hs:s.Ok)(h:Bd s bx y m)(hp:p≠ [])(hl:m.length+p.length<=4000000)(hpo:s.get po=some (.arr 1 tyo (p.map fun c=> .int .u8 c.toNat) 0))(npo:∀l c,y≠ .sl po 0 l c):
  bY T H 179 [.ptr bx 0,.sl po 0 p.length p.length] s fun _ s1=>∃y',Bd s1 bx y' (m++p)/\aH (Rr bx y) s s1/\∀o l c,y' = .sl o 0 l c->(y= .sl o 0 m.length m.length\/s.n<=o):=by
 obtain⟨⟨a,ha,hg⟩,hy⟩:=h;have l1:=hs.lt hg;have SB:0 < p.length:=fh.2 hp;have nbp:po≠bx:=by rintro rfl; rw [hg]at hpo; cases hpo
 have hit:∀s1:St,s1.get po=some (.arr 1 tyo (p.map fun c=> .int .u8 c.toNat) 0)->items s1 (.sl po 0 p.length p.length)=some (1,p.map fun c=> .int .u8 c.toNat):=fun s1 hq=>by
  have e1:Nat.ble (0+p.length) (p.map fun c=>D.int .u8 c.toNat).length=true:=ax (by rw [sn]; omega);have e2:Nat.ble 0 (0+p.length)=true:=ax (cH _);simp only [items,hq,e1,e2,iu];rw [fc (by rw [sn]; exact aq _)]
 have dn:(p.map fun c=>D.int .u8 c.toNat)≠ []:=by simpa using hp
 have FR:=sn p;refine aD hT.t179 ?_;rcases hy with ⟨rfl,rfl⟩ | ⟨hm,o,rfl,ho⟩
 ·try refine go ?_
  refine af (uo hT hs ha hg rfl) ?_;rintro d s1 ⟨q1,q2⟩;have q3:=q2.ok;have l2:=q3.lt q1;have Xs:=q2.get hs hpo nbp;try refine go ?_
  refine P1 (hit s1 Xs) rfl dn (Dy p) (by rw [FR]; simp only [aM]; omega) ?_;rw [FR];try refine go ?_
  have q5:=q2.n;refine ai ⟨.sl s1.n 0 p.length p.length,⟨⟨_,.inr rfl,St.aG⟩,.inr ⟨hp,s1.n,rfl,gI⟩⟩, ?_, ?_⟩
  ·refine (q2.mono fun j hj=> .inl hj).trans' (W' :=fun j=>j=bx) ?_ fun j hj _=> .inl hj;exact aH.set (aH.push (aH.refl q3) _) _ (by rw [St.ck]; omega) (fun _=>rfl)
  ·intro o l c e;simp only [D.sl.injEq]at e;exact .inr (by omega)
 ·have H9:=sn m;try refine go ?_
  refine af (uo hT hs ha hg rfl) ?_;rintro d s1 ⟨q1,q2⟩;have q3:=q2.ok;have l2:=q3.lt q1;have ne:o≠bx:=by rintro rfl; rw [hg]at ho; cases ho
  have q4:=q2.get hs ho ne;have l3:=q3.lt q4;have Xs:=q2.get hs hpo nbp;try refine go ?_
  refine uP (hit s1 Xs) rfl dn (Dy p) (by rw [FR]; simp only [aM]; omega) ?_ (o:=o) (off:=0) (len:=m.length) (cp:=m.length) (es:=m.map fun c=> .int .u8 c.toNat) (he:=by rw [H9]; omega);rw [FR];try refine go ?_
  refine ai ⟨.sl o 0 (m.length+p.length) (m.length+p.length),⟨⟨_,.inr rfl,St.aG⟩,.inr ⟨by simp [hp],o,by rw [an], ?_⟩⟩, ?_, ?_⟩
  ·rw [eX];exact gI
  ·refine (q2.mono fun j hj=> .inl hj).trans' (W' :=fun j=>j=bx\/j=o) ?_ fun j hj _=>(by rcases hj with rfl | rfl; exact .inl rfl; exact .inr ⟨_,_,rfl⟩);exact aH.set (aH.set (aH.refl q3) _ l3 (fun _=> .inr rfl)) _ (by rw [St.ej]; omega) (fun _=> .inl rfl)
  ·intro o' l c e;simp only [D.sl.injEq]at e;exact .inl (by rw [e.1])
theorem DN {kk:Nat}{l:List (bz×List Nat)}{acc:List Fp}{x:bO}{o off len cp sz ty st:Nat}{es:List D}(h:fF T H b kk l (acc++ [cl b e ⟨some t,.qM x,g,none⟩]) k ⟨(t,.jN o off 0 (off+cp))::e,ds⟩ s Q)(hg:s.get o=some (.arr sz ty es st))(hp:0 < cp)(hw:aJ e g=some true:=by rfl)(hx:x.ev e=some (.sl o off len cp):=by rfl)(kB:Env.cE e (some t)=false:=by rfl):fF T H b kk ((⟨some t,.qM x,g,none⟩,[])::l) acc k ⟨e,ds⟩ s Q:=by
 have e1:Nat.blt 0 cp=true:=ax hp;exact fk rfl kB (lP rfl) h hw (by simp only [cg,hx,hg,e1]) rfl
theorem JD {kk:Nat}{l:List (bz×List Nat)}{acc:List Fp}{x y:bO}{o en ty st n:Nat}{es:List D}{m:List UInt8}(h:fF T H b kk l (acc++ [cl b e ⟨some t,.CW ty x y,g,none⟩]) k ⟨(t,.str m)::e,ds⟩ (s.bn o .dead) Q)(hs:s.Ok)(hg:s.get o=some (.arr 1 ty es st))(hn:0 < n)(xu:n<=aM)(h1:n<=en)(h2:en<=es.length)(h3:st<=en)(hm:bytesOf ((es.drop 0).take n)=some m)(hw:aJ e g=some true:=by rfl)(hx:x.ev e=some (.jN o 0 0 en):=by rfl)(hy:y.ev e=some (.int .i64 (Nat.cast n)):=by rfl)(kB:Env.cE e (some t)=false:=by rfl):fF T H b kk ((⟨some t,.CW ty x y,g,none⟩,[])::l) acc k ⟨e,ds⟩ s Q:=by
 have e1:Nat.ble n aM=true:=ax xu;have e2:Nat.ble (0+n) en=true:=ax (by omega);have e3:Nat.ble en es.length=true:=ax h2;have e4:Nat.ble st en=true:=ax h3;have e5:=ur ((0:Int) < (n:Int));refine fk rfl kB (lP rfl) h hw ?_ rfl;simp only [cg,hx,hy,hg,aA,dS,decide_true,aQ,e1,e2,e3,e4,e5,hm,hs.set,nY]
theorem wJ:∀m:List UInt8,bytesOf (m.map fun c=> .int .u8 c.toNat)=some m
 | []=>rfl
 | c::m=>by
  simp only [bT,bytesOf,wJ m];simp
theorem KX (hT:TX T){bx:Nat}{y:D}{m:List UInt8}(hs:s.Ok)(h:Bd s bx y m)(hl:m.length<=4000000):
  bY T H 181 [.ptr bx 0] s fun d s1=>d= .str m/\aH (Rr bx y) s s1:=by
 obtain⟨⟨a,ha,hg⟩,hy⟩:=h;refine aD hT.t181 ?_;rcases hy with ⟨rfl,rfl⟩ | ⟨hm,o,rfl,ho⟩
 ·try refine go ?_
  exact ai ⟨rfl,aH.refl hs⟩
 ·have H9:(m.map fun c=>D.int .u8 c.toNat).length=m.length:=aY _;have hm0:0 < m.length:=fh.2 hm;have lo:=hs.lt ho;try refine go ?_
  refine DN ?_ ho hm0;try refine go ?_
  refine JD (en:=0+m.length) (n:=m.length) (m:=m) ?_ hs ho hm0 (by simp only [aM]; omega) (by omega) (by omega) (by omega) (by rw [iu,fc (by omega)]; exact wJ m);try refine go ?_
  exact ai ⟨rfl,aH.set (aH.refl hs) _ lo (fun _=> .inr ⟨_,_,rfl⟩)⟩
end
section
variable {T:Nat->Option dJ}{H:au}{s:St}
theorem Jp (hT:TW T){x:D}{V:List Nat}(hs:s.Ok)(hx:Ws s x V)(dn:V≠ [])(hV:V.length<=aM):bY T H 176 [x] s fun d s1=>d= .sl s.n 0 V.length V.length/\s1.get s.n=some (.arr 1 26 (eJ V) 0)/\aH (fun _=>False) s s1:=by
 rcases hx with ⟨nl,V,qS⟩ | _ | ⟨o,cp,V,R,hg,hc⟩
 ·cases nl with
  | true=>exact absurd (qS rfl) dn
  | false=>
   refine aD hT.t176 ?_;cases V with
   | nil=>exact absurd rfl dn
   | cons v V=>
    have Eh:0+(eJ (v::V)).length<=aM:=by rw [dD,aU]; exact hV
    refine run_seq ?_;try refine go ?_
    refine uP (z:=1) (m:=eJ (v::V)) rfl rfl (by simp) (qt _) Eh ?_ (es:=[]) (off:=0) (he:=rfl);try refine go ?_
    refine ai ⟨?_,St.aG,aH.set (aH.push (aH.refl hs) _) _ (by rw [St.ck]; omega) (fun h=>by omega)⟩;rw [show 0+(eJ (v::V)).length=(v::V).length by rw [dD]; omega];rfl
 ·exact absurd rfl dn
 ·refine aD hT.t176 ?_;have lo:=hs.lt hg;have Q6:(s.aZ (.arr 1 26 [] 0)).get o=some (.arr 1 26 (eJ (V++R)) 0):=St.dN hg (by omega);obtain⟨z,hz,Ro⟩:=(Ws.sl (s:=s.aZ (.arr 1 26 [] 0)) o cp V R Q6 hc).items;cases V with
  | nil=>exact absurd rfl dn
  | cons v V=>
   have Eh:0+(eJ (v::V)).length<=aM:=by rw [dD,aU]; exact hV
   have Ih:z=1:=by rcases Ro with h | h; exact h; cases h
   try refine go ?_
   refine uP hz Ih (by simp) (qt _) Eh ?_ (es:=[]) (off:=0) (he:=rfl);try refine go ?_
   refine ai ⟨?_,St.aG,aH.set (aH.push (aH.refl hs) _) _ (by rw [St.ck]; omega) (fun h=>by omega)⟩;rw [show 0+(eJ (v::V)).length=(v::V).length by rw [dD]; omega];rfl
theorem T6 (hT:TW T){o cp st:Nat}{V R:List Nat}(hg:s.get o=some (.arr 1 26 (eJ (V++R)) st))(cG:st<=cp)(hc:V.length<=cp)(hV:V.length<=1000000000):bY T H 150 [.sl o 0 V.length cp] s fun d s1=>s1=s/\d= .sl o 0 (bV V).length cp:=by
 refine aD hT.t150 ?_;try refine go ?_
 refine fY (fun m env s' =>s' =s/\m<=V.length/\env=[(0,.sl o 0 m cp)]/\bV (V.take m)=bV V) V.length rfl ⟨rfl,aq _,rfl,by rw [fb]⟩ ?_;rintro m env s' ⟨rfl,hm,rfl,ht⟩;have qx:(eJ (V++R)).length=V.length+R.length:=by rw [dD,an]
 cases m with
 | zero=>
  try refine go ?_
  refine ai ⟨rfl, ?_⟩;rw [← ht];rfl
 | succ m=>
  have eW:m < V.length:=by omega
  have hw:IntKind.wrap .i64 (((m+1:Nat):Int) - 1)=(m:Nat):=by rw [wrap_small (by omega) (by omega)]; omega
  have he:(eJ (V++R))[0+m]? =some (.int .u32 (V[m]:Nat)):=by simp [eW,mI]
  have xO:=sN V eW;generalize hv:V[m]=v at he xO;by_cases h0:v=0
  ·try refine go ?_
   simp only [hw];try refine go ?_
   simp only [hw];try refine go ?_
   refine ec m (by omega) rfl ⟨rfl,by omega,rfl, ?_⟩;rw [← ht,xO,h0,mR]
  ·try refine go ?_
   simp only [hw];try refine go ?_
   refine ai ⟨rfl, ?_⟩;rw [← ht,xO,mC h0,← xO,dB,Nat.min_eq_left hm];rfl
theorem A1 {W:List Nat}{i:Nat}(h:i < W.length):ij (W.drop i)=(((ij (W.drop (i+1))).2 * 4294967296+W[i]) / 1000000000::(ij (W.drop (i+1))).1,((ij (W.drop (i+1))).2 * 4294967296+W[i]) % 1000000000):=by
 rw [fg h]; rfl
def rA (W:List Nat)(j:Nat):List Nat:=W.take (W.length - j)++(ij (W.drop (W.length - j))).1
theorem WB (W:List Nat):rA W 0=W:=by simp [rA,ij]
theorem WC (W:List Nat):rA W W.length=(ij W).1:=by simp [rA]
theorem NR {W:List Nat}(j:Nat):(rA W j).length=W.length:=by simp [rA,yx]
theorem NQ {W:List Nat}{i j:Nat}(h:i+1+j=W.length)(hl:i < W.length):(rA W j)[i]? =some W[i]:=by
 rw [rA,aK (by rw [dB]; omega),List.getElem?_take_of_lt (by omega),ak hl]
theorem NS {W:List Nat}{i j:Nat}(h:i+1+j=W.length)(hl:i < W.length):(rA W j).set i (((ij (W.drop (W.length - j))).2 * 4294967296+W[i]) / 1000000000)=rA W (j+1):=by
 have e1:W.length - j=i+1:=by omega
 have e2:W.length - (j+1)=i:=by omega
 simp only [rA,e1,e2];rw [A1 hl,sN W hl,fS,l7 _ _ (by rw [dB]; omega)];rw [show i - (List.take i W).length=0 by rw [dB]; omega];rfl
theorem WE {W:List Nat}{i j:Nat}(h:i+1+j=W.length)(hl:i < W.length):(ij (W.drop (W.length - (j+1)))).2=((ij (W.drop (W.length - j))).2 * 4294967296+W[i]) % 1000000000:=by
 have e1:W.length - j=i+1:=by omega
 have e2:W.length - (j+1)=i:=by omega
 rw [e1,e2,A1 hl]
noncomputable def QI:AC:=match DA.1.body with
 | .seq _ (.seq _ (.seq _ (.seq _ (.seq (.block _ (.loop _ (.seq _ (.block _ (.seq _ (.seq (.seq _ (.block _ r)) _)))))) _))))=>r
 | _=> .skip
theorem Tx (hX:TX T){a0 a2 a4:D}{o cp st:Nat}{W R:List Nat}{k:List iI}{Q:QP}{E:Env}(hs:s.Ok)(hg:s.get o=some (.arr 1 26 (eJ (W++R)) st))(cG:st<=cp)(hc:cp=W.length+R.length)(hn:0 < W.length)(hl:W.length<=100000)(hw:∀v∈W,v < 4294967296)
  (hE:E.bM [1,2,3,4,5,6,9]=[(1,a0),(2,a2),(3,.sl o 0 W.length cp),(4,a4),(5,.int .u32 0),(6,.int .i64 ((W.length:Int) - 1 - (0:Nat)))])
  (h:∀s1 Aa,s1.get o=some (.arr 1 26 (eJ ((ij W).1++R)) Aa)->Aa<=cp->aH (fun j=>j=o) s s1->∀d1 d2:D,lB T H .normal k ⟨[(26,.bool false),(25,d1),(1,a0),(2,a2),(3,.sl o 0 W.length cp),(4,a4),(5,.int .u32 ((ij W).2:Nat)),(6,d2)],[]⟩ s1 Q):
  dR T H QI (.block 2::k) ⟨E,[]⟩ s Q:=by
 show dR T H (.loop _ _) (.block 2::k) ⟨E,[]⟩ s Q;have lo:=hs.lt hg;refine fw W.length (fun j=> [(1,a0),(2,a2),(3,.sl o 0 W.length cp),(4,a4),(5,.int .u32 ((ij (W.drop (W.length - j))).2:Nat)),(6,.int .i64 ((W.length:Int) - 1 - (j:Nat)))]) (fun j s' =>∃Aa,s'.get o=some (.arr 1 26 (eJ (rA W j++R)) Aa)/\Aa<=cp/\aH (fun j=>j=o) s s') ⟨st,by rw [WB]; exact hg,cG,aH.refl hs⟩ ?_ (hF:=by rw [hE]; simp [ij]);rintro j s' hj ⟨Aa,q1,q0,q2⟩;rcases aP j W.length with h1 | h1
 ·obtain⟨i,hi⟩:∃i,i=W.length - 1 - j:=⟨_,rfl⟩;have uz:i+1+j=W.length:=by omega
  have s9:i < W.length:=by omega
  have e1:(W.length:Int) - 1 - (j:Nat)=(i:Int):=by omega
  have e2:IntKind.wrap .i64 ((i:Int) - 1)=(W.length:Int) - 1 - ((j+1:Nat):Int):=by rw [wrap_small (by omega) (by omega)]; omega
  have d1:=NQ uz s9;have d2:=NS uz s9;have d3:=WE uz s9;have d4:=hw _ (cA s9);have d5:=xG (W.drop (W.length - j));have d6:=NR (W:=W) j;rw [e1];show dR T H _ _ ⟨[(1,a0),(2,a2),(3,.sl o 0 W.length cp),(4,a4),(5,.int .u32 ((ij (W.drop (W.length - j))).2:Nat)),(6,.int .i64 (i:Nat))],[]⟩ _ _;generalize hV2:rA W (j+1)=V2 at d2;generalize FT:(ij (W.drop (W.length - (j+1)))).2=r2 at d3;generalize (ij (W.drop (W.length - j))).2=r at *;generalize W[i]=w at *;have g1:(eJ (rA W j++R))[0+i]? =some (.int .u32 (w:Nat)):=by
   rw [aU,eJ,aO,aK (by omega),d1]; rfl
  have g2:(eJ (rA W j++R)).length=W.length+R.length:=by rw [dD,an,d6]
  have g3:0+cp=(eJ (rA W j++R)).length:=by omega
  have lo2:=q2.ok.lt q1;have ok2:=q2.ok;try refine go ?_
  refine af (Lz hX d5 d4) ?_;rintro d s2 ⟨rfl,rfl⟩;try refine go ?_
  rw [e2];refine dI h1 ⟨(eJ (rA W j++R)).length, ?_, ?_,aH.set q2 _ lo2 fun _=>rfl⟩ rfl ?_
  ·rw [St.aG,hV2,← d2,aU,eJ,eJ,← List.map_set,List.set_append_left _ _ (by omega)]
  ·rw [g2]; omega
  ·show _=[(1,a0),(2,a2),(3,D.sl o 0 W.length cp),(4,a4),(5,.int .u32 ((ij (W.drop (W.length - (j+1)))).2:Nat)),(6,.int .i64 ((W.length:Int) - 1 - ((j+1:Nat):Int)))];rw [FT,d3];rfl
 ·have Ss:j=W.length:=by omega
  subst Ss;have hd:=qV ((W.length:Int) - 1 - (W.length:Nat) >= 0);rw [WC]at q1;rw [ef,iu];try refine go ?_
  exact h _ _ q1 q0 q2 _ _
end
inductive xn (s:St)(n0:Nat):D->List Nat->Prop
 | nil:xn s n0 (.vs true 0 []) []
 | sl (o:Nat) (P:List Nat) (h:s.get o=some (.arr 1 26 (eJ P) 0)) (h0:n0<=o) (hp:P≠ []):xn s n0 (.sl o 0 P.length P.length) P
theorem xn.dT {W:Nat->Prop}{s s1:St}{n0:Nat}{d:D}{P:List Nat}(h:xn s n0 d P)(hs:s.Ok)(hb:aH W s s1)(hw:∀o l c,d= .sl o 0 l c-> ¬ W o):xn s1 n0 d P:=by
 rcases h with _ | ⟨o,P,h,h0,hp⟩
 ·exact .nil
 ·exact .sl o P (hb.get hs h (hw _ _ _ rfl)) h0 hp
theorem K2 (V:List Nat):bV V++V.drop (bV V).length=V:=by
 have h:=tW V;have e:bV V++V.drop (bV V).length=V.take (bV V).length++V.drop (bV V).length:=by rw [← h]
 rw [e,l8]
theorem I5:∀V:List Nat,(∀v∈V,v < 4294967296)->gx V < 4294967296 ^ V.length
 | [],_=>by simp [gx]
 | a::r,h=>by
  have h1:=h a (by simp);have h2:=I5 r fun v hv=>h v (by simp [hv]);rw [gx,aT,jE];omega
theorem wk {V:List Nat}(hw:∀v∈V,v < 4294967296):(ep (gx V)).length<=2 * V.length:=by
 refine EV _ _ (cC (I5 V hw) ?_);rw [Nat.pow_mul];exact Nat.pow_le_pow_left (by decide) _
noncomputable def QG:AC:=match DA.1.body with
 | .seq _ (.seq _ (.seq _ (.seq _ (.seq (.block _ r) _))))=>r
 | _=> .skip
section
variable {T:Nat->Option dJ}{H:au}{s:St}
theorem SY (hW:TW T)(hX:TX T){a0:D}{o cp n0:Nat}{V:List Nat}{k:List iI}{Q:QP}{E:Env}(hs:s.Ok)(hg:s.get o=some (.arr 1 26 (eJ V) 0))(hc:cp=V.length)(Bi:n0<=o)(Li:n0<=s.n)(hl:V.length<=100000)(hw:∀v∈V,v < 4294967296)(ht:bV V=V)
  (hE:E.bM [1,2,3,4,9]=[(1,a0),(2,.str []),(3,.sl o 0 V.length cp),(4,.vs true 0 [])])
  (h:∀s1 dP,xn s1 n0 dP (ep (gx V))->aH (fun j=>n0<=j) s s1->∀d1 d2 d3:D,lB T H .normal k ⟨[(21,.bool false),(20,d1),(19,d2),(1,a0),(2,.str []),(3,d3),(4,dP)],[]⟩ s1 Q):
  dR T H QG (.block 0::k) ⟨E,[]⟩ s Q:=by
 show dR T H (.loop _ _) (.block 0::k) ⟨E,[]⟩ s Q;refine fY (fun m env s' =>∃W R P dP st,env=[(1,a0),(2,.str []),(3,.sl o 0 W.length cp),(4,dP)]/\m=gx W/\s'.get o=some (.arr 1 26 (eJ (W++R)) st)/\st<=cp/\cp=W.length+R.length/\(∀v∈W,v < 4294967296)/\bV W=W/\xn s' n0 dP P/\P++ep (gx W)=ep (gx V)/\(∀l c,dP≠ .sl o 0 l c)/\aH (fun j=>n0<=j) s s') (gx V) rfl ⟨V,[],[],_,0,hE,rfl,by rw [de]; exact hg,cH _,hc,hw,ht,.nil,rfl,(fun _ _ h=>by cases h),aH.refl hs⟩ ?_;rintro m env s' ⟨W,R,P,dP,st,rfl,rfl,q1,q2,q3,q4,q5,q6,q7,q8,q9⟩;by_cases hW0:W=[]
 ·subst hW0;rw [show gx []=0 from rfl,wh,de]at q7;subst q7;show dR T H _ _ ⟨[(1,a0),(2,.str []),(3,.sl o 0 0 cp),(4,dP)],[]⟩ _ _;try refine go ?_
  exact h _ dP q6 q9 _ _ _
 ·have hp0:0 < W.length:=fh.2 hW0;have hwl:W.length<=100000:=by omega
  have SB:(0:Int) < (W.length:Nat):=by omega
  have e1:IntKind.wrap .i64 ((W.length:Int) - 1)=(W.length:Int) - 1 - (0:Nat):=by rw [wrap_small (by omega) (by omega)]; omega
  have ok1:=q9.ok;have lo:=ok1.lt q1;try refine go ?_
  rw [e1];refine Tx (W:=W) (R:=R) hX ok1 q1 q2 q3 hp0 hwl q4 rfl ?_;intro s1 Aa z1 z2 z3 d1 d2;have hP:P.length+1<=200000:=by
   have:=wk hw;rw [← q7,an]at this;have h2:(ep (gx W)).length≠0:=by
    rw [mQ (by have:=wC W (by rw [q5]; exact hW0); rw [q5]at this; omega)]; simp
   omega
  have kB:gx W≠0:=by have:=wC W (by rw [q5]; exact hW0); rw [q5]at this; omega
  have ok2:=z3.ok;have lo2:=ok2.lt z1;have UO:=z3.n;have hd2:=yx W;have q6' :=q6.dT ok1 z3 (fun o' l c e h=>q8 l c (by rw [← h]; exact e));have b1:aH (fun j=>n0<=j) s s1:=q9.trans (z3.mono fun j hj=>by subst hj; exact Bi);have fin:∀ {s2 dP2 E2},E2.bM [1,2,3,4,9]=[(1,a0),(2,D.str []),(3,D.sl o 0 (bV (ij W).1).length cp),(4,dP2)]->s2.get o=some (.arr 1 26 (eJ ((ij W).1++R)) Aa)->xn s2 n0 dP2 (P++ [(ij W).2])->(∀l c,dP2≠ .sl o 0 l c)->aH (fun j=>n0<=j) s1 s2->lB T H .normal (iI.loop (fun m env s' =>∃W R P dP st,env=[(1,a0),(2,.str []),(3,.sl o 0 W.length cp),(4,dP)]/\m=gx W/\s'.get o=some (.arr 1 26 (eJ (W++R)) st)/\st<=cp/\cp=W.length+R.length/\(∀v∈W,v < 4294967296)/\bV W=W/\xn s' n0 dP P/\P++ep (gx W)=ep (gx V)/\(∀l c,dP≠ .sl o 0 l c)/\aH (fun j=>n0<=j) s s') [1,2,3,4,9] (gx W)::iI.block 0::k) ⟨E2,[]⟩ s2 Q:=by
   intro s2 dP2 E2 y1 y2 y3 y4 y5;have t1:=tW (ij W).1;have t2:=jx (ij W).1;refine ec (gx (bV (ij W).1)) ?_ rfl ⟨bV (ij W).1,(ij W).1.drop (bV (ij W).1).length++R,P++ [(ij W).2],dP2,Aa,y1,rfl, ?_,z2, ?_, ?_,kY _,y3, ?_,y4,b1.trans y5⟩
   ·rw [wD,NP]; omega
   ·rw [← List.append_assoc];rw [K2]; exact y2
   ·rw [an,km]; omega
   ·intro v hv;rw [t1]at hv;exact yA W q4 v (fG hv)
   ·rw [wD,NP,WA,fS,← q7,mQ kB]; rfl
  have GK:∀s2:St,s2.get o=some (.arr 1 26 (eJ ((ij W).1++R)) Aa)->bY T H 150 [.sl o 0 W.length cp] s2 fun d s3=>s3=s2/\d= .sl o 0 (bV (ij W).1).length cp:=fun s2 y=>by
   have:=T6 (H:=H) (V:=(ij W).1) (R:=R) hW y z2 (by omega) (by omega);rwa [hd2]at this
  rcases q6' with _ | ⟨po,P,hp,h0,Xr⟩
  ·try refine go ?_
   refine af (GK _ (St.dN z1 (by omega))) ?_;rintro d s2 ⟨rfl,rfl⟩;try refine go ?_
   refine fin (dP2:= .sl s1.n 0 1 1) rfl (St.dN z1 (by omega)) (.sl s1.n [(ij W).2] St.bq (by have:=q9.n; omega) (by simp)) (fun l c h=> ?_) (aH.push (aH.refl ok2) _);simp only [D.sl.injEq]at h;omega
  ·have npo:po≠o:=by rintro rfl; exact q8 _ _ rfl
   try refine go ?_
   refine af (GK _ (St.cu z1 (by omega))) ?_;rintro d s2 ⟨rfl,rfl⟩;try refine go ?_
   refine fin (dP2:= .sl po 0 (P.length+1) (P.length+1)) rfl (St.cu z1 (by omega)) ?_ (fun l c h=> ?_) (aH.set (aH.refl ok2) _ (ok2.lt hp) (fun _=>h0))
   ·have:=xn.sl (s:=s1.bn po (.arr 1 26 (eJ P++ [.int .u32 ((ij W).2:Nat)]) 0)) (n0:=n0) po (P++ [(ij W).2]) (by rw [St.aG,eJ,eJ,eX]; rfl) h0 (by simp);rw [an]at this;exact this
   ·simp only [D.sl.injEq]at h;omega
end
noncomputable def CU:AC:=match DA.1.body with
 | .seq _ (.seq _ (.seq _ (.seq _ (.seq _ (.seq _ (.seq (.seq _ (.block _ r)) _))))))=>r
 | _=> .skip
noncomputable def Vg:AC:=match CU with
 | .iF _ _ _ a _=>a
 | _=> .skip
noncomputable def Vh:AC:=match CU with
 | .iF _ _ _ _ b=>b
 | _=> .skip
section
variable {T:Nat->Option dJ}{H Y:au}
theorem Hs (hX:TX T){s:St}{y bx n:Nat}{i:Int}{yd:D}{m:List UInt8}(hY:mF T H y [49,50] [(7,.ptr bx 0)] Vg Vh Y)(hs:s.Ok)(hl:s.get (y+1)=some (.loop y .ready))
  (hb:Bd s bx yd m)(hn:n < 1000000000)(hm:m.length+9<=4000000):
  ∃s',Y 0 (.lv (.yl y)::[.int .i64 i,.int .u32 n]) s=some (.bool true,s')/\s'.get (y+1)=some (.loop y .ready)/\(∃yd',Bd s' bx yd' (m++oJ n)/\∀o l c,yd' = .sl o 0 l c->(yd= .sl o 0 m.length m.length\/s.n<=o))/\aH (fun j=>j=y+1\/Rr bx yd j) s s' :=by
 have ly:=hs.lt hl;have nb:bx≠y+1:=by
  rintro rfl;obtain⟨⟨a,ha,hg⟩,hy⟩:=hb;rw [hl]at hg; cases hg
 have nd:∀o l c,yd= .sl o 0 l c->o≠y+1:=by
  rintro o l c h rfl;obtain⟨⟨a,ha,hg⟩,hy⟩:=hb;rcases hy with ⟨h1,h2⟩ | ⟨h1,o',h2,h3⟩
  ·rw [h1]at h; cases h
  ·rw [h2]at h;simp only [D.sl.injEq]at h;rw [h.1,hl]at h3; cases h3
 have kv:aH (fun j=>j=y+1) s (s.bn (y+1) (.loop y .busy)):=aH.set (aH.refl hs) _ ly (fun _=>rfl);have kb:=hb.dT hs kv nb nd;have lO:=kv.ok;have YO:y+1 < (s.bn (y+1) (.loop y .busy)).n:=ly;have ek:(s.bn (y+1) (.loop y .busy)).n=s.n:=rfl
 obtain⟨c,s',q1,q2⟩:=se (e:=[(50,.int .u32 n),(49,.int .i64 i),(7,.ptr bx 0)]) (xs:=[.int .i64 i,.int .u32 n]) hY (fun c s' =>c=true/\s'.get (y+1)=some (.loop y .ready)/\(∃yd',Bd s' bx yd' (m++oJ n)/\∀o l c,yd' = .sl o 0 l c->(yd= .sl o 0 m.length m.length\/s.n<=o))/\aH (fun j=>j=y+1\/Rr bx yd j) s s') rfl hl hs (by
  show dR T H (.AL _) [] _ s _;try refine go ?_
  refine qK ⟨rfl,rfl, ?_⟩;generalize qz:s.bn (y+1) (.loop y .busy)=s1 at kv kb YO lO ek ⊢;have sS:s1.get (y+1)=some (.loop y .busy):=by rw [← qz]; exact St.aG
  show dR T H (.block _ _) [] _ s1 _;try refine go ?_
  refine af (JC hX hn) ?_;rintro d s2 ⟨rfl,rfl⟩;try refine go ?_
  refine dM ?_ rfl (Jg (o:=s2.n) (ty:=288) (oI) rfl St.aG rfl);generalize Ll:(s2.aZ (Ab.Obj.var 288 (D.agg [D.int .u8 0,D.int .u8 0,D.int .u8 0,D.int .u8 0,D.int .u8 0,D.int .u8 0,D.int .u8 0,D.int .u8 0,D.int .u8 0]))).bn s2.n _=s3;have b3:aH (fun _=>False) s2 s3:=by
   rw [← Ll];exact aH.set (aH.push (aH.refl lO) _) _ (by rw [St.ck]; omega) (fun h=>by omega)
  have n3:s3.n=s2.n+1:=by rw [← Ll,St.ej,St.ck]
  have hf:(D.agg (over [D.int .u8 0,D.int .u8 0,D.int .u8 0,D.int .u8 0,D.int .u8 0,D.int .u8 0,D.int .u8 0,D.int .u8 0,D.int .u8 0] 0 (D.agg (List.map (fun c=>D.int .u8 ↑c.toNat) (oJ n))).flat)).flat=(oJ n).map fun c=> .int .u8 c.toNat:=rfl;rw [hf];clear Ll;generalize hs4:(s3.bn s2.n Ab.Obj.dead).aZ (Ab.Obj.arr 1 288 ((oJ n).map fun c=> .int .u8 c.toNat) 0)=s4;have b4:aH (fun _=>False) s2 s4:=by
   rw [← hs4];exact aH.push (aH.set b3 _ (by omega) (fun h=>by omega)) _
  have g4:s4.get s3.n=some (Ab.Obj.arr 1 288 ((oJ n).map fun c=> .int .u8 c.toNat) 0):=by
   rw [← hs4]; exact St.bq
  have k4:=kb.dT lO b4 (fun h=>h) (fun _ _ _ _ h=>h);have l4:=b4.get lO sS (fun h=>h);have lb:bx < s2.n:=by
   obtain⟨⟨a,ha,hg⟩,hy⟩:=kb;exact lO.lt hg
  have ld:∀o l c,yd= .sl o 0 l c->o < s2.n:=by
   rintro o l c h;obtain⟨⟨a,ha,hg⟩,hy⟩:=kb;rcases hy with ⟨h1,h2⟩ | ⟨h1,o',h2,h3⟩
   ·rw [h1]at h; cases h
   ·rw [h2]at h;simp only [D.sl.injEq]at h;rw [← h.1]; exact lO.lt h3
  try refine go ?_
  refine af (LK (p:=oJ n) hX b4.ok k4 (by simp [oJ]) hm g4 (fun l c h=>by have:=ld _ _ _ h; omega)) ?_;rintro d s5 ⟨yd',z1,z2,z3⟩;try refine go ?_
  have l5:=z2.get b4.ok l4 (by rintro (h | ⟨l,c,h⟩); exact nb h.symm; exact nd _ _ _ h rfl);have b6:aH (fun j=>j=y+1) s5 (s5.bn (y+1) (.loop y .ready)):=aH.set (aH.refl z2.ok) _ (z2.ok.lt l5) (fun _=>rfl);have n4:s2.n<=s4.n:=b4.n;refine qK ⟨rfl,l5,z2.ok,rfl,St.aG,⟨yd',z1.dT z2.ok b6 nb ?_, ?_⟩, ?_⟩
  ·rintro o l c h he;rcases z3 _ _ _ h with h | h
   ·exact nd _ _ _ h he
   ·omega
  ·intro o l c h;rcases z3 _ _ _ h with h | h
   ·exact .inl h
   ·exact .inr (by omega)
  ·exact (kv.mono fun j hj=> .inl hj).trans ((b4.mono fun _ h=>h.elim).trans ((z2.mono fun j hj=> .inr hj).trans (b6.mono fun j hj=> .inl hj))))
 obtain⟨rfl,q3⟩:=q2;exact⟨s',q1,q3⟩
theorem QJ (hV:TV T)(hX:TX T){s:St}{bx bo n0:Nat}{x:D}{P:List Nat}{E:Env}{k:List iI}{Q:QP}(hs:s.Ok)(hx:xn s n0 x P)(hl:P.length<=200000)(hp:∀p∈P,p < 1000000000)(hb:Bd s bx (.vs true 0 []) [])(gb:s.get bo=some (.var 28 x))
  (hg:bO.ev E (.t 48)=some (.fn (.func 192) [] [.ptr bo 0]))(hk:E.bM [7,9]=[(7,.ptr bx 0)])
  (hq:∀s1 yd,Bd s1 bx yd (jj P)->(∀o l c,yd= .sl o 0 l c->s.n<=o)->aH (fun j=>j=bx) s s1->lB T H .normal k ⟨E,[(.lX,[])]⟩ s1 Q):
  dR T H CU k ⟨E,[]⟩ s Q:=by
 show dR T H (.iF _ _ _ _ _) k ⟨E,[]⟩ s Q;refine tV (gf:=192) (caps:=[.ptr bo 0]) (fun Y hY=> ?_) hg hs.ro (by rw [hk]; rfl);have ZR :mF T H s.n [49,50] [(7,.ptr bx 0)] Vg Vh Y:=by
  have:=hY;simp only at this;rw [hk]at this;exact this
 clear hY;have lb:=hs.lt gb;have lx:bx < s.n:=by
  obtain⟨⟨a,ha,hg⟩,hy⟩:=hb;exact hs.lt hg
 have nbx:bo≠bx:=by
  rintro rfl;obtain⟨⟨a,ha,hg⟩,hy⟩:=hb;rw [gb]at hg; simp at hg
 have W0:aH (fun _=>False) s ((s.aZ .dead).aZ (.loop s.n .ready)):=aH.push (aH.push (aH.refl hs) _) _
 have fin:∀ {s2:St} {yd:D},aH (fun j=>j=bx) s s2->s2.get (s.n+1)=some (.loop s.n .ready)->Bd s2 bx yd (jj P)->(∀o l c,yd= .sl o 0 l c->s.n<=o)->(∀l c,yd≠ .sl (s.n+1) 0 l c)->
   ∃st x s3,s2.get (s.n+1)=some (.loop s.n st)/\Ch st=some x/\s2.set (s.n+1) .dead=some s3/\lB T H x k { (⟨E,[]⟩:Fr) with defers:=(.lX,[])::[]} s3 Q:=by
  intro s2 yd jb Lg hB ho dn;have yP:aH (fun j=>j=s.n+1) s2 (s2.bn (s.n+1) .dead):=aH.set (aH.refl jb.ok) _ (jb.ok.lt Lg) (fun _=>rfl);exact⟨.ready,.normal,_,Lg,rfl,jb.ok.set _ _,hq _ yd (hB.dT jb.ok yP (by omega) (by rintro o l c h rfl; exact dn _ _ h)) ho (jb.trans' yP fun j hj Ss=>by omega)⟩
 let I:Nat->St->Prop:=fun j s' =>aH (fun j=>j=bx) s s' /\s'.get (s.n+1)=some (.loop s.n .ready)/\∃yd,Bd s' bx yd ((P.reverse.take j).flatMap oJ)/\(∀o l c,yd= .sl o 0 l c->s.n<=o)/\(∀l c,yd≠ .sl (s.n+1) 0 l c)
 have Sl:I 0 ((s.aZ .dead).aZ (.loop s.n .ready)):=⟨W0.mono fun _ h=>h.elim,St.bq,_,hb.dT hs W0 (fun h=>h) (fun _ _ _ _ h=>h),(fun _ _ _ h=>by cases h),(fun _ _ h=>by cases h)⟩;have hYZ:∀ {Z:St->Prop} j s' (n:Nat) (i:Int),j < P.length->P[P.length - 1 - j]? =some n->I j s' ->∃c s2,Y 0 (.lv (.yl s.n)::[.int .i64 i,.int .u32 (n:Nat)]) s' =some (.bool c,s2)/\(c=true->I (j+1) s2)/\(c=false->Z s2):=by
  rintro Z j s' n i hj hn ⟨q1,q2,yd,q3,q4,q5⟩;have H9:∀L:List Nat,(L.flatMap oJ).length=9 * L.length:=by
   intro L;induction L with
   | nil=>rfl
   | cons a r ih=>rw [iR,an,ih,aT]; simp only [oJ,aY,aT,b9]; omega
  have hm:((P.reverse.take j).flatMap oJ).length+9<=4000000:=by
   rw [H9,dB,gQ]; omega
  obtain⟨s2,y1,y2,⟨yd2,y3,y4⟩,y5⟩:=Hs (H:=H) (i:=i) hX ZR q1.ok q2 q3 (hp n (bG hn)) hm;have e1:P.reverse.take (j+1)=P.reverse.take j++ [n]:=by
   rw [gH,List.getElem?_reverse hj,hn]; rfl
  have e2:(P.reverse.take (j+1)).flatMap oJ=(P.reverse.take j).flatMap oJ++oJ n:=by
   rw [e1,nB]; simp
  have Rg:=q1.ok.lt q2;refine⟨true,s2,y1,fun _=>⟨q1.trans' y5 ?_,y2,yd2,by rw [e2]; exact y3, ?_, ?_⟩,fun h=>by cases h⟩
  ·rintro j2 (h | h | ⟨l,c,h⟩) Ss
   ·omega
   ·exact h
   ·have:=q4 _ _ _ h; omega
  ·intro o l c h;rcases y4 _ _ _ h with h | h
   ·exact q4 _ _ _ h
   ·omega
  ·intro l c h;rcases y4 _ _ _ h with h | h
   ·exact q5 _ _ h
   ·omega
 rcases hx with _ | ⟨o,P,go,h0,Xr⟩
 ·refine (Dm hV (W0.get hs gb (fun h=>h))).mono ?_;rintro d s1 rfl;obtain⟨q1,q2,yd,q3,q4,q5⟩:=Sl;exact fin q1 q2 q3 q4 q5
 ·have lo:=hs.lt go;have nob:o≠bx:=by
   rintro rfl;obtain⟨⟨a,ha,hg⟩,hy⟩:=hb;rw [go]at hg; cases hg
  refine HH (V:=P) (R:=[]) hV I _ Sl (by omega) (fun j s' hj=>⟨hj.1.get hs gb nbx,by rw [de]; exact hj.1.get hs go nob⟩) (fun j s' n hj hn hI=>hYZ j s' n _ hj hn hI) (fun s2 ⟨q1,q2,yd,q3,q4,q5⟩=>fin q1 q2 (by rw [show P.reverse.take P.length=P.reverse from fc (by rw [gQ]; exact aq _)]at q3; exact q3) q4 q5)
end
section
variable {T:Nat->Option dJ}{H:au}{s:St}
theorem xT {b:Nat}{k:List iI}{l:List bz}{Q:QP}{t:Nat}{e:Env}{ds:List (D×List D)}{g:Option (Nat×Bool)}{x y:bO}{m c:List UInt8}(h:iN T H b l k ⟨(t,.str (m++c))::e,ds⟩ s Q)(hn:m.length+c.length<=4611686018427387904)(hw:aJ e g=some true:=by rfl)(hx:x.ev e=some (.str m):=by rfl)(hy:y.ev e=some (.str c):=by rfl):iN T H b (⟨some t,.bin .add x y,g,none⟩::l) k ⟨e,ds⟩ s Q:=by
 have e1:Nat.ble (m.length+c.length) 4611686018427387904=true:=ax hn;refine dM h hw ?_;simp only [cg,hx,hy,Me,yk,e1,pw]
theorem Fx (hX:TX T){m:List UInt8}(hl:m.length<=1000000000):bY T H 180 [.str m,.str [48]] s fun d s1=>d= .str (m.dropWhile (· ==48))/\s1=s:=by
 refine aD hX.t180 ?_;cases m with
 | nil=>
  try refine go ?_
  exact ai ⟨rfl,rfl⟩
 | cons a r=>
  have h0:((a::r)==([]:List UInt8))=false:=rfl;try refine go ?_
  refine af (Fw (c:=48) hX hl) ?_;rintro d s2 ⟨rfl,rfl⟩;try refine go ?_
  exact ai ⟨rfl,rfl⟩
theorem Ws.shape {x:D}{V:List Nat}(hx:Ws s x V):(∃o n cp,x= .sl o 0 n cp)\/∃nl z L,x= .vs nl z L:=by
 rcases hx with ⟨nl,V,qS⟩ | _ | ⟨o,cp,V,R,hg,hc⟩
 ·exact .inr ⟨_,_,_,rfl⟩
 ·exact .inr ⟨_,_,_,rfl⟩
 ·exact .inl ⟨_,_,_,rfl⟩
theorem Ws.zero {x:D}(hx:Ws s x []):(∃o cp,x= .sl o 0 0 cp)\/∃nl z,x= .vs nl z []:=by
 generalize hV:([]:List Nat)=V at hx;rcases hx with ⟨nl,V,qS⟩ | _ | ⟨o,cp,V,R,hg,hc⟩
 ·subst hV; exact .inr ⟨_,_,rfl⟩
 ·exact .inr ⟨_,_,rfl⟩
 ·subst hV; exact .inl ⟨_,_,rfl⟩
theorem QV (hW:TW T)(hV:TV T)(hX:TX T){x:D}{ng:Bool}{V:List Nat}(hs:s.Ok)(hx:Ws s x V)(hl:V.length<=100000)(hw:∀v∈V,v < 4294967296):bY T H 124 [.agg [.bool ng,x]] s fun d s1=>d= .str (ve ng V)/\aH (fun _=>False) s s1:=by
 have pW:maxLen=9223372036854775807:=by decide
 refine aD hX.t124 ?_;have h1:=pD (H:=H) hW hx (by omega);have h2:=jx V;have h3:=tW V;have hpc:∀ {s' :St} {n0:Nat} {dP:D},bV V≠ []->xn s' n0 dP (ep (gx (bV V)))->∃po,dP= .sl po 0 (ep (gx (bV V))).length (ep (gx (bV V))).length:=by
  intro s' n0 dP h0 h;have hv:=wC V h0;have dn:ep (gx (bV V))≠ []:=by rw [mQ (by omega)]; simp
  generalize ep (gx (bV V))=P at h dn;rcases h with _ | ⟨o,P,h,_,_⟩
  ·exact absurd rfl dn
  ·exact⟨o,rfl⟩
 have Ie:bV V≠ []->ve ng V=(if ng then [45] else [])++(jj (ep (gx (bV V)))).dropWhile (· ==48):=by
  intro h0;rw [ve,aI h0,wD]
 have FR:(ep (gx (bV V))).length<=200000:=by
  have:=wk (V:=bV V) (fun v hv=>hw v (by rw [h3]at hv; exact fG hv));omega
 have H9:(jj (ep (gx (bV V)))).length<=4000000:=by
  have key:∀L:List Nat,(L.flatMap oJ).length=9 * L.length:=by
   intro L;induction L with
   | nil=>rfl
   | cons a r ih=>rw [iR,an,ih,aT]; simp only [oJ,aY,aT,b9]; omega
  rw [jj,key,gQ]; omega
 rcases hx.shape with ⟨o,n,cp,rfl⟩ | ⟨nl,z,L,rfl⟩
 all_goals
  try refine go ?_
  refine af h1 ?_;rintro d s1 ⟨rfl,h4⟩;by_cases h0:bV V=[]
  ·rw [h0]at h4;have Ie:ve ng V=[48]:=by rw [ve,bQ h0]
   rcases h4.shape with ⟨o',n',cp',rfl⟩ | ⟨nl',z',L',rfl⟩
   all_goals
    try refine go ?_
    refine af (DD hW hs h4 (by decide)) ?_;rintro d2 s2 ⟨h5,h6⟩;rcases h5.zero with ⟨o2,cp2,rfl⟩ | ⟨Da,z2,rfl⟩
    all_goals
     try refine go ?_
     rw [Ie];exact ai ⟨rfl,h6.mono fun _ h=>h.elim⟩
  ·have h7:=Jp (H:=H) hW hs h4 h0 (by simp only [aM]; omega);rcases h4.shape with ⟨o',n',cp',rfl⟩ | ⟨nl',z',L',rfl⟩
   all_goals
    try refine go ?_
    refine af h7 ?_;rintro d2 s2 ⟨rfl,h5,h6⟩;have hp0:0 < (bV V).length:=fh.2 h0;have SB:(((bV V).length:Int)==0)=false:=by rw [eu]; omega
    try refine go ?_
    have abE:=h6.ok;refine SY (V:=bV V) (n0:=s1.n) hW hX abE h5 rfl (aq _) h6.n (by omega) (fun v hv=>hw v (by rw [h3]at hv; exact fG hv)) (kY _) rfl ?_;intro s3 dP y1 y2 d1 d2 d3;obtain⟨po,rfl⟩:∃po,dP= .sl po 0 (ep (gx (bV V))).length (ep (gx (bV V))).length:=hpc h0 y1;have aat:=y2.ok;try refine go ?_
    refine af (ru hV (oI)) ?_;rintro d s4 ⟨rfl,rfl⟩;try refine go ?_
    have b5:aH (fun _=>False) s3 ((s3.aZ (.var 287 (.agg [.dU,.vs true 0 []]))).aZ (.var 28 (.sl po 0 (ep (gx (bV V))).length (ep (gx (bV V))).length))):=aH.push (aH.push (aH.refl aat) _) _;refine QJ (bx:=s3.n) (P:=ep (gx (bV V))) (n0:=s1.n) hV hX b5.ok (y1.dT aat b5 (fun _ _ _ _ h=>h)) FR (Ha _) ⟨⟨.dU,.inl rfl,gI⟩,.inl ⟨rfl,rfl⟩⟩ St.bq rfl rfl ?_;intro s6 yd w1 w2 w3;have xu:=h6.n;have hn3:=y2.n;have hn5:=b5.n;have hn6:=w3.n;try refine go ?_
    refine af (KX hX w3.ok w1 H9) ?_;rintro d s7 ⟨rfl,x1⟩;have Yx:aH (fun _=>False) s1 s7:=by
     have b0:=h6.trans' y2 (fun j (hj:s1.n<=j) h=>by omega);have b1:=b0.trans' b5 (fun _ h _=>h);have b2:=b1.trans' w3 (fun j (hj:j=s3.n) h=>by omega)
     exact b2.trans' x1 (fun j hj h=>by
      rcases hj with hj | ⟨l,c,hj⟩
      ·omega
      ·have:=w2 _ _ _ hj; omega)
    try refine go ?_
    refine af (Fx hX (by omega)) ?_;rintro d s8 ⟨rfl,rfl⟩;rw [Ie h0];cases ng
    ·try refine go ?_
     exact ai ⟨rfl,Yx⟩
    ·try refine go ?_
     refine xT (m:=[45]) (c:=(jj (ep (gx (bV V)))).dropWhile (· ==48)) ?_ (by have:=(lF (l:=jj (ep (gx (bV V)))) (· ==48)).length_le; rw [aC]; omega);try refine go ?_
     exact ai ⟨rfl,Yx⟩
end
end Go.Proofs.Tab
