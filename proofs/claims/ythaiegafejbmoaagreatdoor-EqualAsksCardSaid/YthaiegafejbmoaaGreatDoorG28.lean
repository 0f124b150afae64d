/- Part. -/
import Derived.Test.YthaiegafejbmoaaGreatDoorG27
set_option linter.unusedSectionVars false
set_option maxRecDepth 100000
set_option maxHeartbeats 4000000
set_option linter.unusedSimpArgs false
set_option linter.unusedVariables false
namespace Go.Proofs.Tab
open Go Go.Ab Go.Ab.Sm
theorem gN.pos {log:Nat}{hs C:List Int}(hl:gN log hs C)(hn:hs.length<=2 ^ log):∀(v:Nat) (h:Int),hs[v]? =some h->∃j,C[(kj log h j).1]? =some (v:Int)/\∀i,i < j->∃w:Int,C[(kj log h i).1]? =some w/\0<=w/\w < (v:Int):=by
 induction hl with
 | nil=>intro v h hv; simp at hv
 | @snoc hs C C' g h0 h1 ih=>
  rw [an,aC]at hn;have hlen:=h0.len;rcases h1 with ⟨j,hj,e1,e2,rfl⟩ | ⟨e1,_⟩
  ·have bM:∀(c:Nat) (w:Int),C[c]? =some w->0<=w->(C.set (kj log g j).1 (hs.length:Nat))[c]? =some w:=by
    intro c w hc hw;rw [lG];split
    ·rename_i e;rw [← e,e1]at hc;simp only [aa]at hc;omega
    ·exact hc
   intro v h hv;rcases aP v hs.length with eW | vO
   ·rw [aK eW]at hv;obtain⟨p,p1,p2⟩:=ih (by omega) v h hv;refine⟨p,bM _ _ p1 (by omega),fun i hi=> ?_⟩;obtain⟨w,w1,w2,w3⟩:=p2 i hi;exact⟨w,bM _ _ w1 w2,w2,w3⟩
   ·rw [aF vO]at hv;have kB:v=hs.length:=by
     have:=(aj.mp hv).1;simp at this; omega
    subst kB;simp only [ef,aS,aa]at hv;subst hv;refine⟨j, ?_,fun i hi=> ?_⟩
    ·rw [lG,bQ rfl,bQ (by rw [hlen]; exact pO _ _ _)]
    ·have qY:(kj log g i).1 < C.length:=by rw [hlen]; exact pO _ _ _
     have dn:=e2 i hi;rw [ak qY]at dn;have hv:=h0.T8 _ (cA qY);simp only [ne_eq,aa]at dn;refine⟨C[(kj log g i).1],bM _ _ (ak qY) (by omega),by omega,by omega⟩
  ·exfalso;obtain⟨i,_,h3,h4⟩:=h0.empty (by omega) g 0;exact e1 i (by omega) h4
def Seen (log:Nat)(h:Int)(E:List dY)(C:List Int)(J:Nat)(told:Int):Prop:=(∀i,i < J->C[(kj log h i).1]? ≠some (-1))/\∀i,i < J->∀(v:Nat) (e:dY),C[(kj log h i).1]? =some (v:Int)->E[v]? =some e->e.h=h->(v:Int)<=told
def mg (E:List dY)(h told:Int):Option Nat->Prop
 | some v=>told < (v:Int)/\(∃e,E[v]? =some e/\e.h=h)/\∀(w:Nat) (e:dY),told < (w:Int)->w < v->E[w]? =some e->e.h≠h
 | none=>∀(w:Nat) (e:dY),told < (w:Int)->E[w]? =some e->e.h≠h
section
variable {log:Nat}{h:Int}{E:List dY}{C:List Int}{J:Nat}{told:Int}
theorem Seen.start:Seen log h E C 0 (-1):=⟨fun i hi=>absurd hi (jM i),fun i hi=>absurd hi (jM i)⟩
theorem Ib {v:Nat}{e:dY}(he:E[v]? =some e):(iC E)[v]? =some e.h:=by rw [aO,he]; rfl
theorem Seen.over (hs:Seen log h E C J told)(hl:gN log (iC E) C)(hn:E.length<=2 ^ log)(hv:C[(kj log h J).1]? =some (-1)):mg E h told none:=by
 intro w e hw he hh;obtain⟨p,p1,p2⟩:=hl.pos (by rw [aY]; exact hn) w h (by rw [Ib he,hh]);rcases gJ p J with h1 | h1 | h1
 ·have:=hs.2 p h1 w e p1 he hh; omega
 ·subst h1; rw [hv]at p1; simp only [aa]at p1; omega
 ·obtain⟨x,x1,x2,x3⟩:=p2 J h1;rw [hv]at x1; simp only [aa]at x1; omega
theorem Seen.pass {v:Int}(hs:Seen log h E C J told)(hv:C[(kj log h J).1]? =some v)(h0:0<=v)(dn: ¬ (told < v/\∃e,E[v.toNat]? =some e/\e.h=h)):Seen log h E C (J+1) told:=by
 refine⟨fun i hi=> ?_,fun i hi w e hw he hh=> ?_⟩
 ·rcases aP i J with h1 | h1
  ·exact hs.1 i h1
  ·rw [show i=J by omega,hv]; simp <;> omega
 ·rcases aP i J with h1 | h1
  ·exact hs.2 i h1 w e hw he hh
  ·rw [show i=J by omega,hv]at hw;simp only [aa]at hw;subst hw;rcases jB told (w:Int) with h2 | h2
   ·exact absurd ⟨h2,e,by simpa using he,hh⟩ dn
   ·exact h2
theorem Seen.tell {v:Nat}{e:dY}(hs:Seen log h E C J told)(hl:gN log (iC E) C)(hn:E.length<=2 ^ log)(hv:C[(kj log h J).1]? =some (v:Int))(ht:told < (v:Int))(he:E[v]? =some e)(hh:e.h=h):mg E h told (some v)/\Seen log h E C (J+1) (v:Int):=by
 have at_:∀(w:Nat) (x:dY),E[w]? =some x->x.h=h->∃p,C[(kj log h p).1]? =some (w:Int)/\∀i,i < p->∃y:Int,C[(kj log h i).1]? =some y/\0<=y/\y < (w:Int):=fun w x hx YL=>hl.pos (by rw [aY]; exact hn) w h (by rw [Ib hx,YL]);refine⟨⟨ht,⟨e,he,hh⟩,fun w x hw hwv hx YL=> ?_⟩,fun i hi=> ?_,fun i hi w x hw hx YL=> ?_⟩
 ·obtain⟨p,p1,p2⟩:=at_ w x hx YL;obtain⟨q,q1,q2⟩:=at_ v e he hh;rcases gJ p J with h1 | h1 | h1
  ·have:=hs.2 p h1 w x p1 hx YL; omega
  ·subst h1; rw [hv]at p1; simp only [aa]at p1; omega
  ·obtain⟨y,y1,y2,y3⟩:=p2 J h1;rw [hv]at y1; simp only [aa]at y1; omega
 ·rcases aP i J with h1 | h1
  ·exact hs.1 i h1
  ·rw [show i=J by omega,hv]; simp <;> omega
 ·rcases aP i J with h1 | h1
  ·have:=hs.2 i h1 w x hw hx YL; omega
  ·rw [show i=J by omega,hv]at hw;simp only [aa]at hw;omega
end
@[reducible] def qe (to:Nat) (h:Int) (log J:Nat) (turns:Int) (visited told:Int) (ended:Bool):D:=
 .agg [.ptr to 0,.int .i64 h,.int .i64 ((kj log h J).1:Nat),.int .u64 ((kj log h J).2:Nat),.int .i64 turns,.int .i64 visited,.int .i64 told,.bool ended]
theorem uq {s:St}{b kk o:Nat}{y:Option Ab.Obj}{ro:Bool}(h:s.get o=y)(ho:o < b):(⟨s.n,pT kk b s.h,s.lk,ro⟩:St).get o=y:=by
 simp only [St.get]at h ⊢;rw [lL,aI (by omega)]; exact h
theorem bS.cut {s:St}{co ro log st bb kk:Nat}{b:Bool}{C:List Int}{r:Bool}(h:bS s co ro log b st C)(h1:co < bb)(h2:ro < bb):bS ⟨s.n,pT kk bb s.h,s.lk,r⟩ co ro log b st C:=
 ⟨uq h.go h1,uq h.gr h2,h.ln,h.st,h.lo,h.hi,h.ne⟩
section
variable {T:Nat->Option dJ}{H Y:au}
theorem HD (hT:TT T){s:St}{to eo co ro log st:Nat}{b:Bool}{x:D}{E:List dY}{C:List Int}{h:Int}(hs:s.Ok)(ht:jW s to eo co ro log b st x E C):
  bY T H 118 [.ptr to 0,.int .i64 h] s fun d s1=>d= .ptr s.n 0/\s1.get s.n=some (.var 281 (qe to h log 0 (E.length:Nat) 0 (-1) false))/\aH Nil s s1:=by
 have gt:=ht.go;have uA:log<=15:=by have:=ht.ce.hi; split at this <;> omega
 have lt:=hs.lt gt; have lr:=hs.lt ht.ce.gr; have lc:=hs.lt ht.ce.go;have xp:=uh (H:=H) hT gt;have oN:bS ⟨(s.up 1).n,pT (0+1) s.n (s.up 1).h,(s.up 1).lk,true⟩ co ro log b st C:=bS.cut (s:=s.up 1) ⟨ht.ce.go,ht.ce.gr,ht.ce.ln,ht.ce.st,ht.ce.lo,ht.ce.hi,ht.ce.ne⟩ lc lr;have hlg:=GW (H:=H) hT oN;have Xe:=N8 (H:=H) (h:=h) (log:=log) (s:=⟨(s.up 1).n,pT (0+1) s.n (s.up 1).h,(s.up 1).lk,true⟩) hT uA;refine aD hT.t118 ?_;try refine go ?_
 refine af xp ?_;rintro d s2 rfl;try refine go ?_
 refine mq hlg ?_;rintro d s3 ⟨rfl,rfl⟩;refine⟨rfl, ?_⟩;try refine go ?_
 refine mq Xe ?_;rintro d s3 ⟨rfl,rfl⟩;refine⟨rfl, ?_⟩;have hb:aH Nil s2 ((s2.up 1).bn (s2.n+0) (.var 281 (qe to h log 0 (E.length:Nat) 0 (-1) false))):=aH.set (W:=Nil) (aH.up (aH.refl hs) 1) _ (by rw [St.iK]; omega) (fun h=>by omega);try refine go ?_
 simp only [CY];exact ai ⟨rfl,St.aG,hb⟩
theorem aaJ (hT:TT T){s:St}{so to co ro log st J:Nat}{b:Bool}{x n1 n2 n3 n4:D}{C:List Int}{h turns visited told:Int}{ended:Bool}(hs:s.Ok)(gt:s.get to=some (.var 279 (.agg [.dU,x,.ptr co 0,n1,n2,n3,n4])))(hc:bS s co ro log b st C)
  (gs:s.get so=some (.var 281 (qe to h log J turns visited told ended))):
  bY T H 174 [.ptr so 0] s fun _ s1=>s1.get so=some (.var 281 (qe to h log (J+1) turns visited told ended))/\aH (fun j=>j=so) s s1:=by
 have uA:log<=15:=by have:=hc.hi; split at this <;> omega
 have nst:to≠so:=by rintro rfl; rw [gt]at gs; simp at gs
 have ncs:co≠so:=by rintro rfl; have:=hc.go; rw [this]at gs; simp at gs
 have nrs:ro≠so:=by rintro rfl; have:=hc.gr; rw [this]at gs; cases gs
 have ls:=hs.lt gs;have hp:=EW uA;have e1:=QN uA;have e2:=CA hp.1 hp.2;have q1:=pO log h J;have q2:=vg log h J;have q3:=Ag log h J;have q4:IntKind.wrap .u64 ((kj log h J).1:Int)=((kj log h J).1:Int):=by
  generalize (kj log h J).1=c at q1 ⊢;generalize 2 ^ log=N at q1 hp;exact kQ (by omega) (by omega)
 have q5:=ug (a:=5 * (kj log h J).1+(kj log h J).2 / 32+1) (log:=log) (by
  generalize (kj log h J).1=c at q1 ⊢;generalize 2 ^ log=N at q1 hp;omega) uA
 have q6:=step_eq q1 q2 hp.2;have q7:(kj log h (J+1)).1=(5 * (kj log h J).1+(kj log h J).2 / 32+1) % 2 ^ log:=by rw [q3]; rfl
 have q8:(kj log h (J+1)).2=(kj log h J).2 / 32:=by rw [q3]; rfl
 have q10:=pO log h (J+1);have q9:IntKind.wrap .i64 ((kj log h (J+1)).1:Int)=((kj log h (J+1)).1:Int):=by
  generalize (kj log h (J+1)).1=c at q10 ⊢;generalize 2 ^ log=N at q10 hp;exact wrap_small (by omega) (by omega)
 have kv:∀d:D,aH (fun j=>j=so) s (s.bn so (.var 281 d)):=fun d=>aH.set (W:=fun j=>j=so) (aH.refl hs) _ ls (fun _=>rfl);have hgs:∀d:D,(s.bn so (.var 281 d)).get so=some (.var 281 d):=fun _=>St.aG;have H7:∀d:D,(s.bn so (.var 281 d)).get to=_:=fun d=>(kv d).get hs gt nst;have hlg:∀d:D,bY T H 171 [.ptr co 0] (s.bn so (.var 281 d)) _:=fun d=>GW (H:=H) hT (hc.dT hs (kv d) ncs nrs);rw [← q8]at q5 q6 q7;refine aD hT.t174 ?_;try refine go ?_
 rw [aaQ,← q8];simp only [q4,q6];refine aV (hlg _) ?_;rintro d s2 ⟨rfl,rfl⟩;refine⟨rfl,by simp [lost,eE.kind,cF,dG,cl,aJ,bD,bD.cL,gF,bO.ev,Env.get,cQ,D.flat,D.isAgg,cK,D.fC,D.beq,aA,Obj.a8,bH,bC,D.bU,D.a8,hgs,H7], ?_⟩;try refine go ?_
 rw [e1,e2,q5,← q7,q9];have jb:∀d1 d2:D,aH (fun j=>j=so) s ((s.bn so (.var 281 d1)).bn so (.var 281 d2)):=fun d1 d2=>aH.set (W:=fun j=>j=so) (kv d1) _ ls (fun _=>rfl);exact iG ⟨St.aG,jb _ _⟩
end
section
variable {T:Nat->Option dJ}{H Y:au}
noncomputable def PA:AC:=match HM.1.body with
 | .seq _ (.seq _ (.seq _ (.seq (.block _ c) _)))=>c
 | _=> .skip
noncomputable def Ku:AC:=match PA with
 | .loop _ a=>a
 | _=> .skip
theorem GY (hT:TT T){s:St}{so to eo co ro log st J:Nat}{b:Bool}{x:D}{E:List dY}{C:List Int}{h told v:Int}{k:List iI}{Q:QP}(hs:s.Ok)(ht:jW s to eo co ro log b st x E C)(hE:E.length<=30000)(te: -1<=told/\told < 30000)
  (gs:s.get so=some (.var 281 (qe to h log J (E.length:Nat) (J:Nat) told false)))(hJ:J<=100000)(hv:C[(kj log h J).1]? =some v)(neso:E≠ []->eo≠so)
  (hQ1:v= -1->∀s1 env,aH (fun j=>j=so) s s1->lB T H (.exit 0) k ⟨env,[]⟩ s1 Q)
  (hQ2:0<=v-> ¬ (told < v/\∃e,E[v.toNat]? =some e/\e.h=h)->∀s1 env,env.bM [0,6]=[(0,.ptr so 0),(6,.ptr so 0)]->aH (fun j=>j=so) s s1->s1.get so=some (.var 281 (qe to h log (J+1) (E.length:Nat) (J+1:Nat) told false))->lB T H .normal k ⟨env,[]⟩ s1 Q)
  (hQ3:∀w:Nat,v=(w:Int)->told < v->(∃e,E[w]? =some e/\e.h=h)->∀s1 env,Env.get env 2=some (.int .i64 (w:Nat))->Env.get env 3=some (.bool true)->aH (fun j=>j=so) s s1->s1.get so=some (.var 281 (qe to h log (J+1) (E.length:Nat) (J+1:Nat) (w:Nat) false))->lB T H .ret k ⟨env,[]⟩ s1 Q):
  dR T H Ku k ⟨[(0,.ptr so 0),(6,.ptr so 0)],[]⟩ s Q:=by
 have gt:=ht.go;have hc:=ht.ce;have C5:∀v∈C, -1<=v/\v < 32768:=fun v hv=>by have:=ht.cv v hv; omega
 have hvv:=ht.cv v (bG hv);have nst:to≠so:=by rintro rfl; rw [gt]at gs; simp at gs
 have ncs:co≠so:=by rintro rfl; have:=hc.go; rw [this]at gs; simp at gs
 have nrs:ro≠so:=by rintro rfl; have:=hc.gr; rw [this]at gs; cases gs
 have ls:=hs.lt gs;have jn:=HJ (H:=H) (i:=(kj log h J).1) hT hc (pO _ _ _) C5;have kv:∀d:D,aH (fun j=>j=so) s (s.bn so (.var 281 d)):=fun d=>aH.set (W:=fun j=>j=so) (aH.refl hs) _ ls (fun _=>rfl);have jb:∀d d2:D,aH (fun j=>j=so) s ((s.bn so (.var 281 d)).bn so (.var 281 d2)):=fun d d2=>aH.set (W:=fun j=>j=so) (kv d) _ ls (fun _=>rfl);have hw:IntKind.wrap .i64 ((J:Int)+1)=((J+1:Nat):Int):=by rw [wrap_small (by omega) (by omega)]; omega
 have H7:∀d:D,(s.bn so (.var 281 d)).get to=_:=fun d=>(kv d).get hs gt nst;show dR T H (.seq _ _) _ _ s _;try refine go ?_
 refine aV jn ?_;rintro d s2 ⟨rfl,v',Xz,rfl⟩;rw [hv]at Xz;simp only [aa]at Xz;subst Xz;refine⟨rfl,by simp [lost,eE.kind,cF,dG,cl,aJ,bD,bD.cL,gF,bO.ev,Env.get,cQ,D.flat,D.isAgg,cK,D.fC,D.beq,aA,Obj.a8,bH,bC,D.bU,D.a8,gs,gt], ?_⟩;try refine go ?_
 refine af (Kt hT) ?_;rintro d s3 rfl;try refine go ?_
 refine eF (fun xr=> ?_) (fun xr=> ?_)
 ·have ql:v= -1:=by simpa using xr
  try refine go ?_
  exact hQ1 ql _ _ (jb _ _)
 ·have kB:0<=v:=by
   have: ¬ v= -1:=by simpa using xr
   omega
  obtain⟨w,rfl⟩:=Int.eq_ofNat_of_zero_le kB;have hwE:w < E.length:=by omega
  have D8:E≠ []:=by rintro rfl; simp at hwE
  have dn:=neso D8;have Rl:E[w]? =some E[w]:=ak hwE;generalize E[w]=en at Rl;have Ia:bY T H 174 [.ptr so 0] (s2.bn so (.var 281 (qe to h log J (E.length:Nat) (J+1:Nat) told false))) _:=aaJ (H:=H) hT (kv _).ok (H7 _) (hc.dT hs (kv _) ncs nrs) St.aG;have he:=ht.en;rcases he with _ | ⟨_,kX,E,g,cG⟩
  ·exact absurd rfl D8
  have vO:(E.map dw)[0+w]? =some (dw en):=by rw [aU,aO,Rl]; rfl
  have qx:=gu E;try refine go ?_
  refine af Ia ?_;rintro d s4 ⟨g4,q4⟩;have kk:aH (fun j=>j=so) s2 s4:=(kv _).trans q4;have gt4:=kk.get hs gt nst;have ge4:=kk.get hs g dn;have ok4:=kk.ok;have ls4:=ok4.lt g4;clear Ia jn;rcases jB told (w:Int) with htw | htw
  ·have hd:decide ((w:Int) > told)=true:=du htw;try refine go ?_
   simp only [hd];try refine go ?_
   refine eF (fun oN=> ?_) (fun oN=> ?_)
   ·have hh:en.h=h:=by simpa using oN
    try refine go ?_
    have yP:∀d:D,aH (fun j=>j=so) s4 (s4.bn so (.var 281 d)):=fun d=>aH.set (W:=fun j=>j=so) (aH.refl ok4) _ ls4 (fun _=>rfl);exact hQ3 w rfl htw ⟨en,Rl,hh⟩ _ _ rfl rfl (kk.trans (yP _)) St.aG
   ·have hh:en.h≠h:=by simpa using oN
    try refine go ?_
    exact hQ2 kB (fun ⟨_,e,UG,hh2⟩=>by rw [aQ,Rl]at UG; simp only [aa]at UG; subst UG; exact hh hh2) _ _ rfl kk g4
  ·have hd:=qV ((w:Int) > told);try refine go ?_
   simp only [hd];try refine go ?_
   exact hQ2 kB (fun hx=>by omega) _ _ rfl kk g4
theorem HB (hT:TT T){s:St}{so to eo co ro log st J:Nat}{b:Bool}{x:D}{E:List dY}{C:List Int}{h told:Int}(hs:s.Ok)(ht:jW s to eo co ro log b st x E C)(hE:E.length<=30000)(te: -1<=told/\told < 30000)
  (gs:s.get so=some (.var 281 (qe to h log J (E.length:Nat) (J:Nat) told false)))(Rg:Seen log h E C J told)(neso:E≠ []->eo≠so):
  bY T H 120 [.ptr so 0] s fun d s1=>aH (fun j=>j=so) s s1/\((∃v:Nat,d= .gW [.int .i64 (v:Nat),.bool true]/\mg E h told (some v)/\∃J',s1.get so=some (.var 281 (qe to h log J' (E.length:Nat) (J' :Nat) (v:Nat) false))/\Seen log h E C J' (v:Nat))\/
   (d= .gW [.int .i64 (-1),.bool false]/\mg E h told none)):=by
 have gt:=ht.go;have hc:=ht.ce;have abG:=hc.pow;have nst:to≠so:=by rintro rfl; rw [gt]at gs; simp at gs
 have ls:=hs.lt gs;have hn:E.length < 2 ^ log:=by have:=ht.rm; omega
 obtain⟨i0,i1,i2,i3⟩:=ht.la.empty (by rw [aY]; exact hn) h 0;have kv:∀d:D,aH (fun j=>j=so) s (s.bn so (.var 281 d)):=fun d=>aH.set (W:=fun j=>j=so) (aH.refl hs) _ ls (fun _=>rfl)
 have hJ:∀ {s' :St} {J' :Nat},Seen log h E C J' told->J' <=i0:=fun hq=>by
  rcases aP i0 _ with h1 | h1
  ·exact absurd i3 (hq.1 i0 h1)
  ·exact h1
 have GC:(((E.length:Nat):Int) !=((E.length:Nat):Int))=false:=bne_self_eq_false _;refine aD hT.t120 ?_;try refine go ?_
 simp only [GC];refine fY (fun m env s' =>env=[(0,.ptr so 0),(6,.ptr so 0)]/\∃J',m=i0+1 - J' /\Seen log h E C J' told/\s'.get so=some (.var 281 (qe to h log J' (E.length:Nat) (J' :Nat) told false))/\aH (fun j=>j=so) s s') (i0+1 - J) rfl ⟨rfl,J,rfl,Rg,St.aG,kv _⟩ ?_;rintro m env s' ⟨rfl,J',rfl,w1,w2,w3⟩;have hJ' :=hJ (s' :=s') w1;have SH :jW s' to eo co ro log b st x E C:=by
  refine⟨w3.get hs gt nst,ht.en.dT hs w3 (fun es st hq=> ?_),hc.dT hs w3 ?_ ?_,ht.la,ht.rm⟩
  ·rintro rfl; rw [gs]at hq; cases hq
  ·rintro rfl; have:=hc.go; rw [this]at gs; simp at gs
  ·rintro rfl; have:=hc.gr; rw [this]at gs; cases gs
 have qY:(kj log h J').1 < C.length:=by rw [hc.ln]; exact pO _ _ _
 refine GY hT w3.ok SH hE te w2 (by omega) (ak qY) neso ?_ ?_ ?_
 ·intro hv s1 env q1;try refine go ?_
  refine ai ⟨w3.trans q1,.inr ⟨rfl,w1.over ht.la (Nat.le_of_lt hn) ?_⟩⟩;rw [ak qY,hv]
 ·intro hv dn s1 env q1 q2 q3;have w4:=w1.pass (ak qY) hv dn;have hJ4:=hJ (s' :=s1) w4;try refine go ?_
  exact ec (i0+1 - (J' +1)) (by omega) rfl ⟨q1,J' +1,rfl,w4,q3,w3.trans q2⟩
 ·intro w hv htw he s1 env q1 q2 q3 q4;obtain⟨e,he,hh⟩:=he;have hvw:C[(kj log h J').1]? =some (w:Int):=by rw [ak qY,hv]
  have ⟨z1,z2⟩:=w1.tell ht.la (Nat.le_of_lt hn) hvw (by rw [← hv]; exact htw) he hh;try refine go ?_
  refine ai (r:=[.int .i64 (w:Nat),.bool true]) ⟨w3.trans q3,.inl ⟨w,rfl,z1,J' +1,q4,z2⟩⟩ rfl ?_ rfl;show jH env s1 [.tmp 2,.tmp 3]=_;simp only [jH,bO.ev,q1,q2]
end
section
variable {T:Nat->Option dJ}{H Y:au}
theorem N1 {E:List dY}{i:Nat}{e:dY}{v:Int}(hi:E[i]? =some e):(E.map dw).set i (.agg [.bool true,.int .i64 e.h,.int .i64 e.k,.int .i64 v,.int .i64 e.b])=(E.set i { e with v:=v}).map dw:=by
 rw [List.map_set]
theorem SE {E:List dY}{i:Nat}{e:dY}{v:Int}(hi:E[i]? =some e):iC (E.set i { e with v:=v})=iC E:=by
 apply iQ;intro j;simp only [iC,aO,lG];split
 ·rename_i h;subst h;split
  ·rw [hi]; rfl
  ·rename_i h2;have:=(aj.mp hi).1;omega
 ·rfl
theorem Vx (hT:TT T){s:St}{to eo co ro log st i:Nat}{b:Bool}{x:D}{E:List dY}{C:List Int}{e:dY}{v:Int}{W:Nat->Prop}(hs:s.Ok)(ht:jW s to eo co ro log b st x E C)(hi:E[i]? =some e)(hE:E.length<=30000)(we:W eo):
  bY T H 162 [.ptr to 0,.int .i64 (i:Nat),.int .i64 v] s fun d s1=>d= .int .i64 0/\jW s1 to eo co ro log b st x (E.set i { e with v:=v}) C/\aH W s s1:=by
 have hl:i < E.length:=(aj.mp hi).1;have gt:=ht.go;have he:=ht.en;rcases he with _ | ⟨_,kX,E,g,cG⟩
 ·simp at hl
 have vO:(E.map dw)[0+i]? =some (dw e):=by rw [aU,aO,hi]; rfl
 have qx:=gu E;have D8:E≠ []:=by rintro rfl; simp at hl
 obtain⟨m1,m2,m3,m4⟩:=ht.nt;obtain⟨m5,m6,m7⟩:=m4 D8;have le:=hs.lt g;have hw:=BY (H:=H) hT gt g cG hl hE;refine aD hT.t162 ?_;try refine go ?_
 refine af hw ?_;rintro d s1 ⟨rfl,rfl⟩;try refine go ?_
 have hb:∀es:List D,∀n:Nat,aH (fun j=>j=eo) s1 (s1.bn eo (.arr 5 236 es n)):=fun es n=>aH.set (W:=fun j=>j=eo) (aH.refl hs) _ le (fun _=>rfl);have Q8 :(E.set i { e with v:=v}).length=E.length:=iL;have vm:=N1 (v:=v) hi;have C8:(s1.bn eo (.arr 5 236 ((E.map dw).set (0+i) (.agg [.bool true,.int .i64 e.h,.int .i64 e.k,.int .i64 v,.int .i64 e.b])) (E.map dw).length)).get eo=some (.arr 5 236 ((E.set i { e with v:=v}).map dw) (E.map dw).length):=by
  rw [aU,vm]; exact St.aG
 refine ai ⟨rfl,⟨?_, ?_,ht.ce.dT hs (hb _ _) (bE m6) (bE m7), ?_, ?_⟩,(hb _ _).mono fun j hj=>by subst hj; exact we⟩
 ·rw [Q8]; exact (hb _ _).get hs gt (bE m5)
 ·have:=F1.sl eo _ _ C8 (by rw [Q8,gu]; exact aq _);rw [Q8]at this;exact this
 ·rw [SE hi]; exact ht.la
 ·rw [Q8]; exact ht.rm
end
open Go Go.Ab
noncomputable section
def Wh:=RK.mk (a:=cf Tryz.f73 73)
def RT:=RK.mk (a:=cf Tryz.f75 75)
def Wi:=RK.mk (a:=cf Tryz.f77 77)
def Wu:=RK.mk (a:=cf Tryz.f91 91)
def Mq:=RK.mk (a:=cf Tryz.f116 116)
def Mr:=RK.mk (a:=cf Tryz.f117 117)
def Mt:=RK.mk (a:=cf Tryz.f119 119)
def Mu:=RK.mk (a:=cf Tryz.f121 121)
def MD:=RK.mk (a:=cf Tryz.f134 134)
def MJ:=RK.mk (a:=cf Tryz.f159 159)
def MK:=RK.mk (a:=cf Tryz.f160 160)
def ML:=RK.mk (a:=cf Tryz.f161 161)
def MO:=RK.mk (a:=cf Tryz.f163 163)
def MP:=RK.mk (a:=cf Tryz.f166 166)
def MQ:=RK.mk (a:=cf Tryz.f167 167)
end
structure TP (T:Nat->Option dJ):Prop where
 t73:T 73=some Wh.1
 t75:T 75=some RT.1
 t77:T 77=some Wi.1
 t91:T 91=some Wu.1
 t116:T 116=some Mq.1
 t117:T 117=some Mr.1
 t119:T 119=some Mt.1
 t121:T 121=some Mu.1
 t134:T 134=some MD.1
 t159:T 159=some MJ.1
 t160:T 160=some MK.1
 t161:T 161=some ML.1
 t163:T 163=some MO.1
 t166:T 166=some MP.1
 t167:T 167=some MQ.1
@[reducible] def fM (kind ky:Int) (fnd:Bool) (v e:Int):D:= .agg [.int .i64 kind,.int .i64 ky,.bool fnd,.int .i64 v,.int .i64 e]
@[reducible] def sW (to:Nat) (most ver:Int):D:= .agg [.ptr to 0,.int .i64 most,.int .u64 ver]
section
variable {T:Nat->Option dJ}{H Y:au}
theorem IP (hT:TT T)(hP:TP T){s:St}{most:Nat}(hs:s.Ok)(hm:most<=65536):
  bY T H 91 [.int .i64 (most:Nat),.dU] s fun d s1=>∃to dv co ro b st C,d= .gW [.ptr dv 0,.int .i64 0]/\s.n<=to/\s.n<=dv/\s.n<=co/\s.n<=ro/\dv≠to/\s1.get dv=some (.var 229 (sW to (most:Nat) 0))/\jW s1 to 0 co ro 3 b st (.vs true 0 []) [] C/\aH Nil s s1:=by
 have hn:=I4 (H:=H) hT hs;refine aD hP.t91 ?_;try refine go ?_
 refine af hn ?_;rintro d s1 ⟨rfl,co,ro,b,st,C,h1,h2,h3,h4,h5,h6⟩;have ok1:=h6.ok;try refine go ?_
 have hb:∀x,aH (fun _=>False) s1 (s1.aZ x):=fun x=>aH.push (aH.refl ok1) x;have l1:=ok1.lt h3; have l2:=ok1.lt h4.go; have l3:=ok1.lt h4.gr;have Li:=h6.n;refine ai ⟨s.n,s1.n,co,ro,b,st,C,rfl,aq _,by omega,by omega,by omega,by omega,St.bq,⟨(hb _).get ok1 h3 (fun h=>h),.nil 0,h4.dT ok1 (hb _) (fun h=>h) (fun h=>h),h5,cH _⟩,h6.trans ((hb _).mono fun j hj=>hj.elim)⟩
theorem Ty (hT:TT T)(hP:TP T){s:St}{dv to n:Nat}{most ver:Int}{x c n2 n3 n4:D}(gd:s.get dv=some (.var 229 (sW to most ver)))(gt:s.get to=some (.var 279 (.agg [.dU,x,c,.int .i64 (n:Nat),n2,n3,n4]))):
  bY T H 134 [.ptr dv 0] s fun d s1=>d= .int .i64 (n:Nat)/\s1=s:=by
 have hl:=T2 (H:=H) hT gt;refine aD hP.t134 ?_;try refine go ?_
 refine af hl ?_;rintro d s1 ⟨rfl,rfl⟩;try refine go ?_
 exact ai ⟨rfl,rfl⟩
theorem yo (hP:TP T){s:St}{dv to:Nat}{most ver:Int}(hs:s.Ok)(gd:s.get dv=some (.var 229 (sW to most ver))):
  bY T H 163 [.ptr dv 0] s fun _ s1=>(∃ver',s1.get dv=some (.var 229 (sW to most ver')))/\aH (fun j=>j=dv) s s1:=by
 have ld:=hs.lt gd;have hb:∀d:D,aH (fun j=>j=dv) s (s.bn dv (.var 229 d)):=fun d=>aH.set (W:=fun j=>j=dv) (aH.refl hs) _ ld (fun _=>rfl);refine aD hP.t163 ?_;try refine go ?_
 exact iG ⟨⟨_,St.aG⟩,hb _⟩
theorem A6 (hP:TP T){s:St}{dv to:Nat}{most ver:Int}(gd:s.get dv=some (.var 229 (sW to most ver))):
  bY T H 117 [.ptr dv 0] s fun d s1=>d= .ptr to 0/\s1=s:=by
 refine aD hP.t117 ?_;try refine go ?_
 exact ai ⟨rfl,rfl⟩
theorem D3 (hP:TP T){s:St}{n:Nat}{e:dY}:bY T H 160 [.int .i64 (n:Nat),dw e] s fun d s1=>d=fM 2 0 true e.v (n:Nat)/\s1=s:=by
 refine aD hP.t160 ?_;try refine go ?_
 exact ai ⟨rfl,rfl⟩
theorem xQ {s:St}{o c:Nat}{es:List (Nat×D×D)}{env:Env}{m k v:bO}{n:Int}{d:D}(hs:s.Ok)(hg:s.get o=some (.map es c))(hm:m.ev env=some (.mp o))(hk:k.ev env=some (.int .i64 n))(hv:v.ev env=some d)(hf:findKey .int (.int .i64 n) es 0=some none):
  cg fm env s none (.AF .int m k v)=some (.gW [],s.bn o (.map (es++ [(c,.int .i64 n,d)]) (c+1))):=by
 have e1:oT .int (.int .i64 n)=true:=rfl;simp only [cg,hm,hk,hv,hg,e1,hf,hs.set,nY]
def aaO:List (Nat×D×D):=[(0,.int .i64 1,.agg [.fn (.func 159) [] [],.fn (.func 166) [] []]),(1,.int .i64 2,.agg [.fn (.func 161) [] [],.fn (.func 167) [] []]),
 (2,.int .i64 3,.agg [.fn (.func 164) [] [],.fn (.func 166) [] []]),(3,.int .i64 4,.agg [.fn (.func 159) [] [],.fn (.func 167) [] []])]
theorem IW (hP:TP T){s:St}(hs:s.Ok):bY T H 116 [] s fun d s1=>d= .mp s.n/\s1.get s.n=some (.map aaO 4)/\aH Nil s s1:=by
 have yO:aH Nil s (s.aZ (.map [] 0)):=aH.push (aH.refl hs) _;have step:∀ {t:St} (h:aH Nil s t/\s.n < t.n) (es:List (Nat×D×D)) (c:Nat),aH Nil s (t.bn s.n (.map es c))/\s.n < (t.bn s.n (.map es c)).n:=fun {t} h es c=>⟨aH.set (W:=Nil) h.1 _ h.2 (fun h=>by omega),h.2⟩;have k0:aH Nil s (s.aZ (.map [] 0))/\s.n < (s.aZ (.map [] 0)).n:=⟨yO,by rw [St.ck]; omega⟩;refine aD hP.t116 ?_;try refine go ?_
 refine qF ?_ rfl (xQ k0.1.ok St.bq rfl rfl rfl rfl);try refine go ?_
 refine qF ?_ rfl (xQ (step k0 _ _).1.ok St.aG rfl rfl rfl rfl);try refine go ?_
 refine qF ?_ rfl (xQ (step (step k0 _ _) _ _).1.ok St.aG rfl rfl rfl rfl);try refine go ?_
 refine qF ?_ rfl (xQ (step (step (step k0 _ _) _ _) _ _).1.ok St.aG rfl rfl rfl rfl);try refine go ?_
 exact ai ⟨rfl,St.aG,(step (step (step (step k0 _ _) _ _) _ _) _ _).1⟩
end
@[reducible] def tg (sk:D) (dv:Nat) (h k v state entry scans ver t0 t1:Int) (t2:Bool) (t3 t4:Int):D:=
 .agg [sk,.ptr dv 0,.fn (.func 161) [] [],.fn (.func 167) [] [],.int .i64 h,.int .i64 k,.int .i64 v,.int .i64 state,.int .i64 entry,.int .i64 scans,.int .u64 ver,.int .i64 t0,.int .i64 t1,.bool t2,.int .i64 t3,.int .i64 t4]
section
variable {T:Nat->Option dJ}{H Y:au}
theorem Ly (hP:TP T){s:St}{dv to:Nat}{h k v most ver:Int}(hs:s.Ok)(gd:s.get dv=some (.var 229 (sW to most ver))):
  bY T H 73 [.ptr dv 0,.int .i64 2,.int .i64 h,.int .i64 k,.int .i64 v] s fun d s1=>∃mo,d= .ptr mo 0/\s.n<=mo/\s1.get mo=some (.var 226 (tg .dU dv h k v 0 0 0 0 0 0 false 0 0))/\aH Nil s s1:=by
 have hr:=IW (H:=H) hP hs;refine aD hP.t73 ?_;try refine go ?_
 refine af hr ?_;rintro d s1 ⟨rfl,g1,b1⟩;have ok1:=b1.ok;try refine go ?_
 have:=b1.n;exact ai ⟨s1.n,rfl,this,St.bq,aH.push b1 _⟩
theorem Rv (hP:TP T){s:St}{mo:Nat}{sk:D}{dv:Nat}{h k v entry scans ver t0 t1 t3 t4:Int}{t2 same:Bool}(hs:s.Ok)(gm:s.get mo=some (.var 226 (tg sk dv h k v 2 entry scans ver t0 t1 t2 t3 t4))):
  bY T H 77 [.ptr mo 0,.bool same] s fun d s1=>d= .int .i64 0/\s1.get mo=some (.var 226 (tg sk dv h k v (if same then 3 else 1) entry scans ver t0 t1 t2 t3 t4))/\aH (fun j=>j=mo) s s1:=by
 have lm:=hs.lt gm;have hb:∀d:D,aH (fun j=>j=mo) s (s.bn mo (.var 226 d)):=fun d=>aH.set (W:=fun j=>j=mo) (aH.refl hs) _ lm (fun _=>rfl);cases same
 ·refine aD hP.t77 ?_;try refine go ?_
  exact ai ⟨rfl,St.aG,hb _⟩
 ·refine aD hP.t77 ?_;try refine go ?_
  exact ai ⟨rfl,St.aG,hb _⟩
theorem Gt (hP:TP T){s:St}{mo:Nat}{sk:D}{dv:Nat}{h k v st entry scans ver t0 t1 t3 t4 u0 u1 u3 u4:Int}{t2 u2:Bool}(hs:s.Ok)(gm:s.get mo=some (.var 226 (tg sk dv h k v st entry scans ver t0 t1 t2 t3 t4))):
  bY T H 121 [.ptr mo 0,fM u0 u1 u2 u3 u4] s fun d s1=>d=fM u0 u1 u2 u3 u4/\aH (fun j=>j=mo) s s1:=by
 have lm:=hs.lt gm;have hb:∀d:D,aH (fun j=>j=mo) s (s.bn mo (.var 226 d)):=fun d=>aH.set (W:=fun j=>j=mo) (aH.refl hs) _ lm (fun _=>rfl);have jb:∀d e:D,aH (fun j=>j=mo) s ((s.bn mo (.var 226 d)).bn mo (.var 226 e)):=fun d e=>aH.set (W:=fun j=>j=mo) (hb d) _ lm (fun _=>rfl);refine aD hP.t121 ?_;try refine go ?_
 exact ai ⟨rfl,jb _ _⟩
end
def dQ (W:Nat->Prop)(s:St)(dv:Nat)(most:Nat)(E:List dY):Prop:=∃to eo co ro log b st x C ver,s.get dv=some (.var 229 (sW to (most:Nat) ver))/\jW s to eo co ro log b st x E C/\W dv/\W to/\W eo/\W co/\W ro/\E.length<=20000
def Own (n:Nat)(W:Nat->Prop)(o:Nat):Prop:=W o\/n<=o
section
variable {T:Nat->Option dJ}{H Y:au}
theorem dQ.dT {W W' :Nat->Prop}{s s1:St}{dv most:Nat}{E:List dY}(h:dQ W s dv most E)(hs:s.Ok)(hb:aH W' s s1)(hd:∀o,o < s.n->W o-> ¬ W' o):dQ W s1 dv most E:=by
 obtain⟨to,eo,co,ro,log,b,st,x,C,ver,h1,h2,w1,w2,w3,w4,w5,h3⟩:=h;refine⟨to,eo,co,ro,log,b,st,x,C,ver,hb.get hs h1 (hd _ (hs.lt h1) w1),⟨hb.get hs h2.go (hd _ (hs.lt h2.go) w2),h2.en.dT hs hb (fun es st hq=>hd _ (hs.lt hq) w3),h2.ce.dT hs hb (hd _ (hs.lt h2.ce.go) w4) (hd _ (hs.lt h2.ce.gr) w5),h2.la,h2.rm⟩,w1,w2,w3,w4,w5,h3⟩
theorem jW.dT {W:Nat->Prop}{s s1:St}{to eo co ro log st:Nat}{b:Bool}{x:D}{E:List dY}{C:List Int}(h2:jW s to eo co ro log b st x E C)(hs:s.Ok)(hb:aH W s s1)(n1: ¬ W to)(n2:∀es st,s.get eo=some (.arr 5 236 es st)-> ¬ W eo)(n3: ¬ W co)(n4: ¬ W ro):jW s1 to eo co ro log b st x E C:=
 ⟨hb.get hs h2.go n1,h2.en.dT hs hb n2,h2.ce.dT hs hb n3 n4,h2.la,h2.rm⟩
theorem Cc {s:St}{dv to eo co ro log st:Nat}{b:Bool}{x d:D}{E:List dY}{C:List Int}(h1:s.get dv=some (.var 229 d))(h2:jW s to eo co ro log b st x E C):to≠dv/\co≠dv/\ro≠dv/\∀es st,s.get eo=some (.arr 5 236 es st)->eo≠dv:=by
 refine⟨?_, ?_, ?_,fun es st hq=> ?_⟩
 ·rintro rfl; rw [h2.go]at h1; simp at h1
 ·rintro rfl; rw [h2.ce.go]at h1; simp at h1
 ·rintro rfl; rw [h2.ce.gr]at h1; cases h1
 ·rintro rfl; rw [hq]at h1; cases h1
theorem T7 (hT:TT T)(hP:TP T){W:Nat->Prop}{s:St}{mo dv most n:Nat}{sk:D}{E:List dY}{e:dY}{h k v st entry scans ver t0 t1 t3 t4:Int}{t2:Bool}(hs:s.Ok)(gm:s.get mo=some (.var 226 (tg sk dv h k v st entry scans ver t0 t1 t2 t3 t4)))(hm: ¬ W mo)(hd:dQ W s dv most E)(hi:E[n]? =some e):
  bY T H 161 [.ptr mo 0,.int .i64 (n:Nat),dw e] s fun d s1=>d=fM 2 0 true e.v (n:Nat)/\dQ W s1 dv most (E.set n { e with v:=v})/\aH W s s1:=by
 obtain⟨to,eo,co,ro,log,b,st',x,C,ver',h1,h2,w1,w2,w3,w4,w5,h3⟩:=hd;have uB:=Vx (H:=H) (v:=v) (W:=fun j=>j=eo) hT hs h2 hi (by omega) rfl;have nde:dv≠eo:=by
  rintro rfl;have:=h2.en;rcases this with _ | ⟨_,_,_,g,_⟩
  ·simp at hi
  ·rw [h1]at g; cases g
 refine aD hP.t161 ?_;try refine go ?_
 refine aV uB ?_;rintro d s1 ⟨rfl,z1,z2⟩;refine⟨rfl,by simp [lost,eE.kind,cF,dG,cl,aJ,bD,bD.cL,gF,bO.ev,Env.get,cQ,D.flat,D.isAgg,cK,D.fC,D.beq,aA,Obj.a8,bH,bC,D.bU,D.a8,z1], ?_⟩;have ok1:=z2.ok;have xo:=z2.get hs gm (by rintro rfl; exact hm w3);have Cl:=z2.get hs h1 nde;have Z2:=yo (H:=H) hP ok1 Cl;try refine go ?_
 refine af Z2 ?_;rintro d s2 ⟨⟨Yi,gd2⟩,y2⟩;have ok2:=y2.ok;obtain⟨m1,m2,m3,m4⟩:=Cc Cl z1;have z3:=z1.dT ok1 y2 m1 m4 m2 m3;try refine go ?_
 refine af (D3 hP) ?_;rintro d s3 ⟨rfl,rfl⟩;try refine go ?_
 refine ai ⟨rfl,⟨to,eo,co,ro,log,b,st',x,C,Yi,gd2,z3,w1,w2,w3,w4,w5, ?_⟩,(z2.mono fun j hj=>by subst hj; exact w3).trans (y2.mono fun j hj=>by subst hj; exact w1)⟩;rw [iL]; exact h3
end
section
variable {T:Nat->Option dJ}{H Y:au}
theorem Ry (hT:TT T)(hP:TP T){W:Nat->Prop}{s:St}{mo dv most:Nat}{sk:D}{E:List dY}{h k v st entry scans ver t0 t1 t3 t4:Int}{t2:Bool}(hs:s.Ok)(gm:s.get mo=some (.var 226 (tg sk dv h k v st entry scans ver t0 t1 t2 t3 t4)))(hm: ¬ W mo)(hd:dQ W s dv most E)(gR:E.length < 20000):
  bY T H 167 [.ptr mo 0] s fun d s1=>aH W s s1/\((E.length < most/\d=fM 2 0 false v (E.length:Nat)/\dQ (Own s.n W) s1 dv most (E++ [dY.mk h k v (E.length:Nat)]))\/(most<=E.length/\d=fM 3 0 false 0 0/\s1=s)):=by
 have lm:=hs.lt gm;obtain⟨to,eo',co,ro,log,b,st',x,C,ver',h1,Bh,w1,w2,w3',w4,w5,h3⟩:=hd;obtain⟨m1,m2,m3,m4'⟩:=Cc h1 Bh
 obtain⟨eo,h2,w3,m4⟩:∃eo,jW s to eo co ro log b st' x E C/\W eo/\eo≠dv:=by
  have he:=Bh.en;rcases he with _ | ⟨_,kX,E,g,cG⟩
  ·exact⟨to,⟨Bh.go,.nil to,Bh.ce,Bh.la,Bh.rm⟩,w2,m1⟩
  ·exact⟨eo',Bh,w3',m4' _ _ g⟩
 have gt:=h2.go;have hlen:=Ty (H:=H) (s:= { s with ro:=true}) hT hP h1 h2.go;by_cases aaa:most<=E.length
 ·refine aD hP.t167 ?_;try refine go ?_
  refine qv hlen ?_;rintro d s1 ⟨rfl,rfl⟩;refine⟨rfl, ?_⟩;try refine go ?_
  refine eF (fun hc=> ?_) (fun hc=> ?_)
  ·try refine go ?_
   exact ai ⟨aH.refl hs,.inr ⟨aaa,rfl,rfl⟩⟩
  ·exfalso;simp at hc;omega
 ·have Oq:=Vk (H:=H) (h:=h) (ky:=k) (v:=v) (W:=fun j=>j=to\/j=eo\/j=ro\/j=co) hT hs h2 h3 (.inl rfl) (.inr (.inl rfl)) (.inr (.inr (.inl rfl))) (.inr (.inr (.inr rfl)));refine aD hP.t167 ?_;try refine go ?_
  refine qv hlen ?_;rintro d s1 ⟨rfl,rfl⟩;refine⟨rfl, ?_⟩;try refine go ?_
  refine eF (fun hc=> ?_) (fun hc=> ?_)
  ·exfalso;simp at hc;omega
  ·try refine go ?_
   refine aV Oq ?_;rintro d s1 ⟨rfl,z1⟩;obtain⟨eo2,co2,ro2,log2,b2,xh,x2,C2,y1,y2,y3,y4,y5⟩:=z1;have ok1:=y5.ok;have nm: ¬ (mo=to\/mo=eo\/mo=ro\/mo=co):=by rintro (rfl | rfl | rfl | rfl) <;> exact hm (by assumption)
   have xo:=y5.get hs gm nm;have Cl:=y5.get hs h1 (by rintro (rfl | rfl | rfl | rfl) <;> simp_all);have Z2:=yo (H:=H) hP ok1 Cl;have lo:∀o,(o=to\/o=eo\/o=ro\/o=co)\/s.n<=o->Own s.n W o:=by
    rintro o ((rfl | rfl | rfl | rfl) | h)
    ·exact .inl w2
    ·exact .inl w3
    ·exact .inl w5
    ·exact .inl w4
    ·exact .inr h
   refine⟨rfl,by rfl, ?_⟩;try refine go ?_
   refine af Z2 ?_;rintro d s2 ⟨⟨Yi,gd2⟩,q2⟩;obtain⟨p1,p2,p3,p4⟩:=Cc Cl y1;have sZ:=q2.get ok1 xo (by rintro rfl; exact hm w1);have y6:=y1.dT ok1 q2 p1 p4 p2 p3;try refine go ?_
   refine ai ⟨?_,.inl ⟨by omega,rfl,⟨to,eo2,co2,ro2,log2,b2,xh,x2,C2,Yi,gd2,y6,.inl w1,.inl w2,lo _ y2,lo _ y3,lo _ y4, ?_⟩⟩⟩
   ·exact (y5.mono (by rintro j (rfl | rfl | rfl | rfl) <;> assumption)).trans (q2.mono fun j hj=>by subst hj; exact w1)
   ·rw [an,aC]; omega
end
section
variable {T:Nat->Option dJ}{H:au}{b kk:Nat}{k:List iI}{s:St}{Q:QP}{l:List (bz×List Nat)}{acc:List Fp}{q:List Nat}{t:Nat}{e:Env}{ds:List (D×List D)}{g:Option (Nat×Bool)}
theorem oK {fp:Fp}{f:bO}{gf:Nat}{args:List bO}{x x1 x2 y:List D}{R:D->St->Prop}(hE:bY T H gf y s R)(h:∀d s1,R d s1->Env.cE ((t,d)::e) (some t)=false/\lost acc s s1 ⟨some t,.oG f args,g,none⟩ q=false/\fF T H b kk l (acc++ [ZA fp s s1]) k ⟨(t,d)::e,ds⟩ s1 Q)
  (hw:aJ e g=some true:=by rfl)(hv:f.ev e=some (.fn (.func gf) x1 x2):=by rfl)(hx:tF e args=some x:=by rfl)(hy:x1++x++x2=y:=by rfl)(hf:cl b e ⟨some t,.oG f args,g,none⟩=fp:=by exact fI)(hc:eQ acc fp q=true:=by exact cI)(kB:Env.cE e (some t)=false:=by rfl)(hs:s.Ok:=by exact oI):
  fF T H b kk ((⟨some t,.oG f args,g,none⟩,q)::l) acc k ⟨e,ds⟩ s Q:=by
 subst hf;subst hy;obtain⟨d,s1,h1,h2⟩:=hE;obtain⟨h3,h4,h5⟩:=h d s1 h2;exact⟨sd (r:=(d,s1)) hc kB ⟨s,h1,fun C hC=>gG (o:=⟨some t,.oG f args,g,none⟩) (fr:=⟨e,ds⟩) hw (by simp only [cg,hv,hx]; exact Gn hs.ro hC)⟩ h3 h4 h5.out⟩
end
section
variable {T:Nat->Option dJ}{H Y:au}
theorem OC (hT:TT T)(hP:TP T){W:Nat->Prop}{s:St}{mo dv most n:Nat}{sk:D}{E:List dY}{e:dY}{h k v st entry scans ver t0 t1 t3 t4:Int}{t2:Bool}(hs:s.Ok)(gm:s.get mo=some (.var 226 (tg sk dv h k v st entry scans ver t0 t1 t2 t3 t4)))(hm: ¬ W mo)(hd:dQ W s dv most E)(hi:E[n]? =some e):
  bY T H 119 [.ptr mo 0,.int .i64 (n:Nat)] s fun d s1=>d=fM 2 0 true e.v (n:Nat)/\dQ W s1 dv most (E.set n { e with v:=v})/\aH (fun j=>W j\/j=mo) s s1:=by
 have OZ:=T7 (H:=H) hT hP hs gm hm hd hi;have lm:=hs.lt gm;have Ld:=hd;obtain⟨to,eo,co,ro,log,b,st',x,C,ver',h1,h2,w1,w2,w3,w4,w5,h3⟩:=hd;have gt:=h2.go;have Ax:∃kX,x= .sl eo 0 E.length E.length/\s.get eo=some (.arr 5 236 (E.map dw) kX)/\kX<=E.length:=by
  have he:=h2.en;rcases he with _ | ⟨_,kX,E,g,cG⟩
  ·simp at hi
  ·exact⟨kX,rfl,g,cG⟩
 obtain⟨kX,rfl,ge,cG⟩:=Ax;have uy:=HA (H:=H) hT gt ge cG hi (by omega);refine aD hP.t119 ?_;try refine go ?_
 refine af uy ?_;rintro d s1 ⟨rfl,rfl⟩;try refine go ?_
 refine oK OZ ?_;rintro d s2 ⟨rfl,y1,y2⟩;refine⟨rfl,by simp [lost,eE.kind,cF,dG,cl,aJ,bD,bD.cL,gF,bO.ev,Env.get,cQ,D.flat,D.isAgg,cK,D.fC,D.beq,aA,Obj.a8,bH,bC,D.bU,D.a8,gm], ?_⟩;have ok2:=y2.ok;have sZ:=y2.get hs gm hm;have rH:=Gt (H:=H) (u0:=2) (u1:=0) (u2:=true) (u3:=e.v) (u4:=(n:Nat)) hP ok2 sZ;try refine go ?_
 refine aV rH ?_;rintro d s3 ⟨rfl,z1⟩;refine⟨rfl,by simp [lost,eE.kind,cF,dG,cl,aJ,bD,bD.cL,gF,bO.ev,Env.get,cQ,D.flat,D.isAgg,cK,D.fC,D.beq,aA,Obj.a8,bH,bC,D.bU,D.a8,sZ], ?_⟩;have y3:=y1.dT ok2 z1 (by rintro o ho hw rfl; exact hm hw)
 repeat' first | refine go ?_ | refine fW ?_
 exact ai ⟨rfl,y3,(y2.mono fun j hj=> .inl hj).trans (z1.mono fun j hj=> .inr hj)⟩
end
end Go.Proofs.Tab
