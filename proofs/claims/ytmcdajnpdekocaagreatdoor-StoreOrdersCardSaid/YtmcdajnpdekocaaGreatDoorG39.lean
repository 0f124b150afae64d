/- Part. -/
import Derived.Test.YtmcdajnpdekocaaGreatDoorG38
set_option linter.unusedSectionVars false
set_option linter.unusedSimpArgs false
set_option linter.unusedVariables false
set_option maxRecDepth 100000
set_option maxHeartbeats 2000000
namespace Go.Proofs.YtmcdajnpdekocaaGreatDoor.Tab
open Go Go.Ab Go.Ab.Sm
theorem zCe.pos {log:Nat}{hs C:List Int}(hl:zCe log hs C)(hn:hs.length≤2 ^ log):∀(v:Nat) (h:Int),hs[v]? =some h→∃j,C[(trl log h j).1]? =some (v:Int)∧∀i,i < j→∃w:Int,C[(trl log h i).1]? =some w∧0≤w∧w < (v:Int):=by
 induction hl with
 | nil=>intro v h hv; simp at hv
 | @snoc hs C C' g h0 h1 ih=>
  rw [List.length_append,List.length_singleton]at hn
  have hlen:=h0.len
  rcases h1 with ⟨j,hj,e1,e2,rfl⟩ | ⟨e1,_⟩
  ·have keep:∀(c:Nat) (w:Int),C[c]? =some w→0≤w→(C.set (trl log g j).1 (hs.length:Nat))[c]? =some w:=by
    intro c w hc hw
    rw [List.getElem?_set]
    split
    ·rename_i e
     rw [← e,e1]at hc
     simp only [Option.some.injEq]at hc
     omega
    ·exact hc
   intro v h hv
   rcases Nat.lt_or_ge v hs.length with hlt | hge
   ·rw [List.getElem?_append_left hlt]at hv
    obtain⟨p,p1,p2⟩:=ih (by omega) v h hv
    refine⟨p,keep _ _ p1 (by omega),fun i hi=> ?_⟩
    obtain⟨w,w1,w2,w3⟩:=p2 i hi
    exact⟨w,keep _ _ w1 w2,w2,w3⟩
   ·rw [List.getElem?_append_right hge]at hv
    have hv0:v=hs.length:=by
     have:=(List.getElem?_eq_some_iff.mp hv).1
     simp at this; omega
    subst hv0
    simp only [Nat.sub_self,List.getElem?_cons_zero,Option.some.injEq]at hv
    subst hv
    refine⟨j, ?_,fun i hi=> ?_⟩
    ·rw [List.getElem?_set,if_pos rfl,if_pos (by rw [hlen]; exact zFz _ _ _)]
    ·have hin:(trl log g i).1 < C.length:=by rw [hlen]; exact zFz _ _ _
     have hne:=e2 i hi
     rw [List.getElem?_eq_getElem hin]at hne
     have hv:=h0.vals _ (List.getElem_mem hin)
     simp only [ne_eq,Option.some.injEq]at hne
     refine⟨C[(trl log g i).1],keep _ _ (List.getElem?_eq_getElem hin) (by omega),by omega,by omega⟩
  ·exfalso
   obtain⟨i,_,h3,h4⟩:=h0.empty (by omega) g 0
   exact e1 i (by omega) h4
def Seen (log:Nat)(h:Int)(E:List Ent)(C:List Int)(J:Nat)(told:Int):Prop:=(∀i,i < J→C[(trl log h i).1]? ≠some (-1))∧∀i,i < J→∀(v:Nat) (e:Ent),C[(trl log h i).1]? =some (v:Int)→E[v]? =some e→e.h=h→(v:Int)≤told
def zIi (E:List Ent)(h told:Int):Option Nat→Prop
 | some v=>told < (v:Int)∧(∃e,E[v]? =some e∧e.h=h)∧∀(w:Nat) (e:Ent),told < (w:Int)→w < v→E[w]? =some e→e.h≠h
 | none=>∀(w:Nat) (e:Ent),told < (w:Int)→E[w]? =some e→e.h≠h
section
variable {log:Nat}{h:Int}{E:List Ent}{C:List Int}{J:Nat}{told:Int}
theorem Seen.start:Seen log h E C 0 (-1):=⟨fun i hi=>absurd hi (Nat.not_lt_zero i),fun i hi=>absurd hi (Nat.not_lt_zero i)⟩
theorem yBj {v:Nat}{e:Ent}(he:E[v]? =some e):(hsh E)[v]? =some e.h:=by rw [List.getElem?_map,he]; rfl
theorem Seen.over (hs:Seen log h E C J told)(hl:zCe log (hsh E) C)(hn:E.length≤2 ^ log)(hv:C[(trl log h J).1]? =some (-1)):zIi E h told none:=by
 intro w e hw he hh
 obtain⟨p,p1,p2⟩:=hl.pos (by rw [List.length_map]; exact hn) w h (by rw [yBj he,hh])
 rcases Nat.lt_trichotomy p J with h1 | h1 | h1
 ·have:=hs.2 p h1 w e p1 he hh; omega
 ·subst h1; rw [hv]at p1; simp only [Option.some.injEq]at p1; omega
 ·obtain⟨x,x1,x2,x3⟩:=p2 J h1
  rw [hv]at x1; simp only [Option.some.injEq]at x1; omega
theorem Seen.pass {v:Int}(hs:Seen log h E C J told)(hv:C[(trl log h J).1]? =some v)(h0:0≤v)(hne: ¬ (told < v∧∃e,E[v.toNat]? =some e∧e.h=h)):Seen log h E C (J+1) told:=by
 refine⟨fun i hi=> ?_,fun i hi w e hw he hh=> ?_⟩
 ·rcases Nat.lt_or_ge i J with h1 | h1
  ·exact hs.1 i h1
  ·rw [show i=J by omega,hv]; simp <;> omega
 ·rcases Nat.lt_or_ge i J with h1 | h1
  ·exact hs.2 i h1 w e hw he hh
  ·rw [show i=J by omega,hv]at hw
   simp only [Option.some.injEq]at hw
   subst hw
   rcases Int.lt_or_le told (w:Int) with h2 | h2
   ·exact absurd ⟨h2,e,by simpa using he,hh⟩ hne
   ·exact h2
theorem Seen.tell {v:Nat}{e:Ent}(hs:Seen log h E C J told)(hl:zCe log (hsh E) C)(hn:E.length≤2 ^ log)(hv:C[(trl log h J).1]? =some (v:Int))(ht:told < (v:Int))(he:E[v]? =some e)(hh:e.h=h):zIi E h told (some v)∧Seen log h E C (J+1) (v:Int):=by
 have at_:∀(w:Nat) (x:Ent),E[w]? =some x→x.h=h→∃p,C[(trl log h p).1]? =some (w:Int)∧∀i,i < p→∃y:Int,C[(trl log h i).1]? =some y∧0≤y∧y < (w:Int):=fun w x hx hxh=>hl.pos (by rw [List.length_map]; exact hn) w h (by rw [yBj hx,hxh])
 refine⟨⟨ht,⟨e,he,hh⟩,fun w x hw hwv hx hxh=> ?_⟩,fun i hi=> ?_,fun i hi w x hw hx hxh=> ?_⟩
 ·obtain⟨p,p1,p2⟩:=at_ w x hx hxh
  obtain⟨q,q1,q2⟩:=at_ v e he hh
  rcases Nat.lt_trichotomy p J with h1 | h1 | h1
  ·have:=hs.2 p h1 w x p1 hx hxh; omega
  ·subst h1; rw [hv]at p1; simp only [Option.some.injEq]at p1; omega
  ·obtain⟨y,y1,y2,y3⟩:=p2 J h1
   rw [hv]at y1; simp only [Option.some.injEq]at y1; omega
 ·rcases Nat.lt_or_ge i J with h1 | h1
  ·exact hs.1 i h1
  ·rw [show i=J by omega,hv]; simp <;> omega
 ·rcases Nat.lt_or_ge i J with h1 | h1
  ·have:=hs.2 i h1 w x hw hx hxh; omega
  ·rw [show i=J by omega,hv]at hw
   simp only [Option.some.injEq]at hw
   omega
end
@[reducible] def seekD (to:Nat) (h:Int) (log J:Nat) (turns:Int) (visited told:Int) (ended:Bool):D:=
 .agg [.ptr to 0,.int .i64 h,.int .i64 ((trl log h J).1:Nat),.int .u64 ((trl log h J).2:Nat),.int .i64 turns,.int .i64 visited,.int .i64 told,.bool ended]
theorem yBq {s:St}{b kk o:Nat}{y:Option Ab.Obj}{ro:Bool}(h:s.get o=y)(ho:o < b):(⟨s.n,cutN kk b s.h,s.lk,ro⟩:St).get o=y:=by
 simp only [St.get]at h ⊢
 rw [zFr,if_neg (by omega)]; exact h
theorem CeA.cut {s:St}{co ro log st bb kk:Nat}{b:Bool}{C:List Int}{r:Bool}(h:CeA s co ro log b st C)(h1:co < bb)(h2:ro < bb):CeA ⟨s.n,cutN kk bb s.h,s.lk,r⟩ co ro log b st C:=
 ⟨yBq h.go h1,yBq h.gr h2,h.ln,h.st,h.lo,h.hi,h.ne⟩
section
variable {T:Nat→Option AFn}{H Y:zAa}
theorem Seek_ev (hT:TT T){s:St}{to eo co ro log st:Nat}{b:Bool}{x:D}{E:List Ent}{C:List Int}{h:Int}(hs:s.Ok)(ht:zQb s to eo co ro log b st x E C):
  EvP T H 111 [.ptr to 0,.int .i64 h] s fun d s1=>d= .ptr s.n 0∧s1.get s.n=some (.var 259 (seekD to h log 0 (E.length:Nat) 0 (-1) false))∧Beh Nil s s1:=by
 have gt:=ht.go
 have hlog:log≤15:=by have:=ht.ce.hi; split at this <;> omega
 have lt:=hs.lt gt; have lr:=hs.lt ht.ce.gr; have lc:=hs.lt ht.ce.go
 have hbeg:=zJe (H:=H) hT gt
 have hc2:CeA ⟨(s.up 1).n,cutN (0+1) s.n (s.up 1).h,(s.up 1).lk,true⟩ co ro log b st C:=CeA.cut (s:=s.up 1) ⟨ht.ce.go,ht.ce.gr,ht.ce.ln,ht.ce.st,ht.ce.lo,ht.ce.hi,ht.ce.ne⟩ lc lr
 have hlg:=zZq (H:=H) hT hc2
 have hfirst:=first_ev (H:=H) (h:=h) (log:=log) (s:=⟨(s.up 1).n,cutN (0+1) s.n (s.up 1).h,(s.up 1).lk,true⟩) hT hlog
 refine evI hT.t111 ?_
 try refine go ?_
 refine clE hbeg ?_
 rintro d s2 rfl
 try refine go ?_
 refine zIe hlg ?_
 rintro d s3 ⟨rfl,rfl⟩
 refine⟨rfl, ?_⟩
 try refine go ?_
 refine zIe hfirst ?_
 rintro d s3 ⟨rfl,rfl⟩
 refine⟨rfl, ?_⟩
 have hb:Beh Nil s2 ((s2.up 1).set0 (s2.n+0) (.var 259 (seekD to h log 0 (E.length:Nat) 0 (-1) false))):=Beh.set (W:=Nil) (Beh.up (Beh.refl hs) 1) _ (by rw [St.n_up]; omega) (fun h=>by omega)
 try refine go ?_
 simp only [zSw]
 exact rtF ⟨rfl,St.gsE,hb⟩
theorem on_ev (hT:TT T){s:St}{so to co ro log st J:Nat}{b:Bool}{x n1 n2 n3 n4:D}{C:List Int}{h turns visited told:Int}{ended:Bool}(hs:s.Ok)(gt:s.get to=some (.var 183 (.agg [.nilp,x,.ptr co 0,n1,n2,n3,n4])))(hc:CeA s co ro log b st C)
  (gs:s.get so=some (.var 259 (seekD to h log J turns visited told ended))):
  EvP T H 143 [.ptr so 0] s fun _ s1=>s1.get so=some (.var 259 (seekD to h log (J+1) turns visited told ended))∧Beh (fun j=>j=so) s s1:=by
 have hlog:log≤15:=by have:=hc.hi; split at this <;> omega
 have nst:to≠so:=by rintro rfl; rw [gt]at gs; simp at gs
 have ncs:co≠so:=by rintro rfl; have:=hc.go; rw [this]at gs; simp at gs
 have nrs:ro≠so:=by rintro rfl; have:=hc.gr; rw [this]at gs; cases gs
 have ls:=hs.lt gs
 have hp:=zZe hlog
 have e1:=ushl1 hlog
 have e2:=zTh hp.1 hp.2
 have q1:=zFz log h J
 have q2:=zIv log h J
 have q3:=zNk log h J
 have q4:IntKind.wrap .u64 ((trl log h J).1:Int)=((trl log h J).1:Int):=by
  generalize (trl log h J).1=c at q1 ⊢
  generalize 2 ^ log=N at q1 hp
  exact zCv (by omega) (by omega)
 have q5:=zJf (a:=5 * (trl log h J).1+(trl log h J).2 / 32+1) (log:=log) (by
  generalize (trl log h J).1=c at q1 ⊢
  generalize 2 ^ log=N at q1 hp
  omega) hlog
 have q6:=zZx q1 q2 hp.2
 have q7:(trl log h (J+1)).1=(5 * (trl log h J).1+(trl log h J).2 / 32+1) % 2 ^ log:=by rw [q3]; rfl
 have q8:(trl log h (J+1)).2=(trl log h J).2 / 32:=by rw [q3]; rfl
 have q10:=zFz log h (J+1)
 have q9:IntKind.wrap .i64 ((trl log h (J+1)).1:Int)=((trl log h (J+1)).1:Int):=by
  generalize (trl log h (J+1)).1=c at q10 ⊢
  generalize 2 ^ log=N at q10 hp
  exact wrap_small (by omega) (by omega)
 have hb1:∀d:D,Beh (fun j=>j=so) s (s.set0 so (.var 259 d)):=fun d=>Beh.set (W:=fun j=>j=so) (Beh.refl hs) _ ls (fun _=>rfl)
 have hgs:∀d:D,(s.set0 so (.var 259 d)).get so=some (.var 259 d):=fun _=>St.gsE
 have hgt:∀d:D,(s.set0 so (.var 259 d)).get to=_:=fun d=>(hb1 d).get hs gt nst
 have hlg:∀d:D,EvP T H 140 [.ptr co 0] (s.set0 so (.var 259 d)) _:=fun d=>zZq (H:=H) hT (hc.beh hs (hb1 d) ncs nrs)
 rw [← q8]at q5 q6 q7
 refine evI hT.t143 ?_
 try refine go ?_
 rw [shr5,← q8]
 simp only [q4,q6]
 refine dpC (hlg _) ?_
 rintro d s2 ⟨rfl,rfl⟩
 refine⟨rfl,by simp [lost,AOp.kind,lAs,zAf,fpOf,wtD,fpRd,fpRd.objs,fpRg,Opd.ev,Env.get,sOb,D.flat,D.isAgg,cEq,D.beqs,D.beq,Nat.beq_refl,Obj.beq_rfl,laR,soR,D.bsR,D.beq_rfl,hgs,hgt], ?_⟩
 try refine go ?_
 rw [e1,e2,q5,← q7,q9]
 have hb2:∀d1 d2:D,Beh (fun j=>j=so) s ((s.set0 so (.var 259 d1)).set0 so (.var 259 d2)):=fun d1 d2=>Beh.set (W:=fun j=>j=so) (hb1 d1) _ ls (fun _=>rfl)
 exact zBx ⟨St.gsE,hb2 _ _⟩
end
section
variable {T:Nat→Option AFn}{H Y:zAa}
def nextLoop:AC:=match yEb.body with
 | .seq _ (.seq _ (.seq _ (.seq (.block _ c) _)))=>c
 | _=> .skip
def yFp:AC:=match nextLoop with
 | .loop _ a=>a
 | _=> .skip
theorem zYc (hT:TT T){s:St}{so to eo co ro log st J:Nat}{b:Bool}{x:D}{E:List Ent}{C:List Int}{h told v:Int}{k:List Kont}{Q:QP}(hs:s.Ok)(ht:zQb s to eo co ro log b st x E C)(hE:E.length≤2000)(htold: -1≤told∧told < 2000)
  (gs:s.get so=some (.var 259 (seekD to h log J (E.length:Nat) (J:Nat) told false)))(hJ:J≤100000)(hv:C[(trl log h J).1]? =some v)(neso:E≠ []→eo≠so)
  (hQ1:v= -1→∀s1 env,Beh (fun j=>j=so) s s1→Ret T H (.exit 0) k ⟨env,[]⟩ s1 Q)
  (hQ2:0≤v→ ¬ (told < v∧∃e,E[v.toNat]? =some e∧e.h=h)→∀s1 env,env.keep [0,6]=[(0,.ptr so 0),(6,.ptr so 0)]→Beh (fun j=>j=so) s s1→s1.get so=some (.var 259 (seekD to h log (J+1) (E.length:Nat) (J+1:Nat) told false))→Ret T H .normal k ⟨env,[]⟩ s1 Q)
  (hQ3:∀w:Nat,v=(w:Int)→told < v→(∃e,E[w]? =some e∧e.h=h)→∀s1 env,Env.get env 2=some (.int .i64 (w:Nat))→Env.get env 3=some (.bool true)→Beh (fun j=>j=so) s s1→s1.get so=some (.var 259 (seekD to h log (J+1) (E.length:Nat) (J+1:Nat) (w:Nat) false))→Ret T H .ret k ⟨env,[]⟩ s1 Q):
  Run T H yFp k ⟨[(0,.ptr so 0),(6,.ptr so 0)],[]⟩ s Q:=by
 have gt:=ht.go
 have hc:=ht.ce
 have hcv:∀v∈C, -1≤v∧v < 32768:=fun v hv=>by have:=ht.cv v hv; omega
 have hvv:=ht.cv v (List.mem_of_getElem? hv)
 have nst:to≠so:=by rintro rfl; rw [gt]at gs; simp at gs
 have ncs:co≠so:=by rintro rfl; have:=hc.go; rw [this]at gs; simp at gs
 have nrs:ro≠so:=by rintro rfl; have:=hc.gr; rw [this]at gs; cases gs
 have ls:=hs.lt gs
 have hget:=yEl (H:=H) (i:=(trl log h J).1) hT hc (zFz _ _ _) hcv
 have hb1:∀d:D,Beh (fun j=>j=so) s (s.set0 so (.var 259 d)):=fun d=>Beh.set (W:=fun j=>j=so) (Beh.refl hs) _ ls (fun _=>rfl)
 have hb2:∀d d2:D,Beh (fun j=>j=so) s ((s.set0 so (.var 259 d)).set0 so (.var 259 d2)):=fun d d2=>Beh.set (W:=fun j=>j=so) (hb1 d) _ ls (fun _=>rfl)
 have hw:IntKind.wrap .i64 ((J:Int)+1)=((J+1:Nat):Int):=by rw [wrap_small (by omega) (by omega)]; omega
 have hgt:∀d:D,(s.set0 so (.var 259 d)).get to=_:=fun d=>(hb1 d).get hs gt nst
 show Run T H (.seq _ _) _ _ s _
 try refine go ?_
 refine dpC hget ?_
 rintro d s2 ⟨rfl,v',hv',rfl⟩
 rw [hv]at hv'
 simp only [Option.some.injEq]at hv'
 subst hv'
 refine⟨rfl,by simp [lost,AOp.kind,lAs,zAf,fpOf,wtD,fpRd,fpRd.objs,fpRg,Opd.ev,Env.get,sOb,D.flat,D.isAgg,cEq,D.beqs,D.beq,Nat.beq_refl,Obj.beq_rfl,laR,soR,D.bsR,D.beq_rfl,gs,gt], ?_⟩
 try refine go ?_
 refine clE (yFq hT) ?_
 rintro d s3 rfl
 try refine go ?_
 refine zAg (fun hc1=> ?_) (fun hc1=> ?_)
 ·have hv1:v= -1:=by simpa using hc1
  try refine go ?_
  exact hQ1 hv1 _ _ (hb2 _ _)
 ·have hv0:0≤v:=by
   have: ¬ v= -1:=by simpa using hc1
   omega
  obtain⟨w,rfl⟩:=Int.eq_ofNat_of_zero_le hv0
  have hwE:w < E.length:=by omega
  have hE0:E≠ []:=by rintro rfl; simp at hwE
  have hne:=neso hE0
  have hw0:E[w]? =some E[w]:=List.getElem?_eq_getElem hwE
  generalize E[w]=en at hw0
  have hon:EvP T H 143 [.ptr so 0] (s2.set0 so (.var 259 (seekD to h log J (E.length:Nat) (J+1:Nat) told false))) _:=on_ev (H:=H) hT (hb1 _).ok (hgt _) (hc.beh hs (hb1 _) ncs nrs) St.gsE
  have he:=ht.en
  rcases he with _ | ⟨_,st0,E,g,hst⟩
  ·exact absurd rfl hE0
  have hge:(E.map entD)[0+w]? =some (entD en):=by rw [Nat.zero_add,List.getElem?_map,hw0]; rfl
  have hln:=zAv E
  try refine go ?_
  refine clE hon ?_
  rintro d s4 ⟨g4,q4⟩
  have kk:Beh (fun j=>j=so) s2 s4:=(hb1 _).trans q4
  have gt4:=kk.get hs gt nst
  have ge4:=kk.get hs g hne
  have ok4:=kk.ok
  have ls4:=ok4.lt g4
  clear hon hget
  rcases Int.lt_or_le told (w:Int) with htw | htw
  ·have hd:decide ((w:Int) > told)=true:=decide_eq_true htw
   try refine go ?_
   simp only [hd]
   try refine go ?_
   refine zAg (fun hc2=> ?_) (fun hc2=> ?_)
   ·have hh:en.h=h:=by simpa using hc2
    try refine go ?_
    have hb3:∀d:D,Beh (fun j=>j=so) s4 (s4.set0 so (.var 259 d)):=fun d=>Beh.set (W:=fun j=>j=so) (Beh.refl ok4) _ ls4 (fun _=>rfl)
    exact hQ3 w rfl htw ⟨en,hw0,hh⟩ _ _ rfl rfl (kk.trans (hb3 _)) St.gsE
   ·have hh:en.h≠h:=by simpa using hc2
    try refine go ?_
    exact hQ2 hv0 (fun ⟨_,e,he2,hh2⟩=>by rw [Int.toNat_natCast,hw0]at he2; simp only [Option.some.injEq]at he2; subst he2; exact hh hh2) _ _ rfl kk g4
  ·have hd:decide ((w:Int) > told)=false:=decide_eq_false (by omega)
   try refine go ?_
   simp only [hd]
   try refine go ?_
   exact hQ2 hv0 (fun hx=>by omega) _ _ rfl kk g4
theorem Next_ev (hT:TT T){s:St}{so to eo co ro log st J:Nat}{b:Bool}{x:D}{E:List Ent}{C:List Int}{h told:Int}(hs:s.Ok)(ht:zQb s to eo co ro log b st x E C)(hE:E.length≤2000)(htold: -1≤told∧told < 2000)
  (gs:s.get so=some (.var 259 (seekD to h log J (E.length:Nat) (J:Nat) told false)))(hsn:Seen log h E C J told)(neso:E≠ []→eo≠so):
  EvP T H 113 [.ptr so 0] s fun d s1=>Beh (fun j=>j=so) s s1∧((∃v:Nat,d= .tup [.int .i64 (v:Nat),.bool true]∧zIi E h told (some v)∧∃J',s1.get so=some (.var 259 (seekD to h log J' (E.length:Nat) (J' :Nat) (v:Nat) false))∧Seen log h E C J' (v:Nat))∨
   (d= .tup [.int .i64 (-1),.bool false]∧zIi E h told none)):=by
 have gt:=ht.go
 have hc:=ht.ce
 have hpow:=hc.pow
 have nst:to≠so:=by rintro rfl; rw [gt]at gs; simp at gs
 have ls:=hs.lt gs
 have hn:E.length < 2 ^ log:=by have:=ht.rm; omega
 obtain⟨i0,i1,i2,i3⟩:=ht.la.empty (by rw [List.length_map]; exact hn) h 0
 have hb1:∀d:D,Beh (fun j=>j=so) s (s.set0 so (.var 259 d)):=fun d=>Beh.set (W:=fun j=>j=so) (Beh.refl hs) _ ls (fun _=>rfl)
 have hJ:∀ {s' :St} {J' :Nat},Seen log h E C J' told→J' ≤i0:=fun hq=>by
  rcases Nat.lt_or_ge i0 _ with h1 | h1
  ·exact absurd i3 (hq.1 i0 h1)
  ·exact h1
 have hbn:(((E.length:Nat):Int) !=((E.length:Nat):Int))=false:=bne_self_eq_false _
 refine evI hT.t113 ?_
 try refine go ?_
 simp only [hbn]
 refine zAm (fun m env s' =>env=[(0,.ptr so 0),(6,.ptr so 0)]∧∃J',m=i0+1 - J' ∧Seen log h E C J' told∧s'.get so=some (.var 259 (seekD to h log J' (E.length:Nat) (J' :Nat) told false))∧Beh (fun j=>j=so) s s') (i0+1 - J) rfl ⟨rfl,J,rfl,hsn,St.gsE,hb1 _⟩ ?_
 rintro m env s' ⟨rfl,J',rfl,w1,w2,w3⟩
 have hJ' :=hJ (s' :=s') w1
 have ht' :zQb s' to eo co ro log b st x E C:=by
  refine⟨w3.get hs gt nst,ht.en.beh hs w3 (fun es st hq=> ?_),hc.beh hs w3 ?_ ?_,ht.la,ht.rm⟩
  ·rintro rfl; rw [gs]at hq; cases hq
  ·rintro rfl; have:=hc.go; rw [this]at gs; simp at gs
  ·rintro rfl; have:=hc.gr; rw [this]at gs; cases gs
 have hin:(trl log h J').1 < C.length:=by rw [hc.ln]; exact zFz _ _ _
 refine zYc hT w3.ok ht' hE htold w2 (by omega) (List.getElem?_eq_getElem hin) neso ?_ ?_ ?_
 ·intro hv s1 env q1
  try refine go ?_
  refine rtF ⟨w3.trans q1,.inr ⟨rfl,w1.over ht.la (Nat.le_of_lt hn) ?_⟩⟩
  rw [List.getElem?_eq_getElem hin,hv]
 ·intro hv hne s1 env q1 q2 q3
  have w4:=w1.pass (List.getElem?_eq_getElem hin) hv hne
  have hJ4:=hJ (s' :=s1) w4
  try refine go ?_
  exact rtN (i0+1 - (J' +1)) (by omega) rfl ⟨q1,J' +1,rfl,w4,q3,w3.trans q2⟩
 ·intro w hv htw he s1 env q1 q2 q3 q4
  obtain⟨e,he,hh⟩:=he
  have hvw:C[(trl log h J').1]? =some (w:Int):=by rw [List.getElem?_eq_getElem hin,hv]
  have ⟨z1,z2⟩:=w1.tell ht.la (Nat.le_of_lt hn) hvw (by rw [← hv]; exact htw) he hh
  try refine go ?_
  refine rtF (r:=[.int .i64 (w:Nat),.bool true]) ⟨w3.trans q3,.inl ⟨w,rfl,z1,J' +1,q4,z2⟩⟩ rfl ?_ rfl
  show resD env s1 [.tmp 2,.tmp 3]=_
  simp only [resD,Opd.ev,q1,q2]
end
section
variable {T:Nat→Option AFn}{H Y:zAa}
theorem ents_set {E:List Ent}{i:Nat}{e:Ent}{v:Int}(hi:E[i]? =some e):(E.map entD).set i (.agg [.bool true,.int .i64 e.h,.int .i64 e.k,.int .i64 v,.int .i64 e.b])=(E.set i { e with v:=v}).map entD:=by
 rw [List.map_set]
theorem hsh_set {E:List Ent}{i:Nat}{e:Ent}{v:Int}(hi:E[i]? =some e):hsh (E.set i { e with v:=v})=hsh E:=by
 apply List.ext_getElem?
 intro j
 simp only [hsh,List.getElem?_map,List.getElem?_set]
 split
 ·rename_i h
  subst h
  split
  ·rw [hi]; rfl
  ·rename_i h2
   have:=(List.getElem?_eq_some_iff.mp hi).1
   omega
 ·rfl
theorem Put_ev (hT:TT T){s:St}{to eo co ro log st i:Nat}{b:Bool}{x:D}{E:List Ent}{C:List Int}{e:Ent}{v:Int}{W:Nat→Prop}(hs:s.Ok)(ht:zQb s to eo co ro log b st x E C)(hi:E[i]? =some e)(hE:E.length≤2000)(we:W eo):
  EvP T H 127 [.ptr to 0,.int .i64 (i:Nat),.int .i64 v] s fun d s1=>d= .int .i64 0∧zQb s1 to eo co ro log b st x (E.set i { e with v:=v}) C∧Beh W s s1:=by
 have hl:i < E.length:=(List.getElem?_eq_some_iff.mp hi).1
 have gt:=ht.go
 have he:=ht.en
 rcases he with _ | ⟨_,st0,E,g,hst⟩
 ·simp at hl
 have hge:(E.map entD)[0+i]? =some (entD e):=by rw [Nat.zero_add,List.getElem?_map,hi]; rfl
 have hln:=zAv E
 have hE0:E≠ []:=by rintro rfl; simp at hl
 obtain⟨m1,m2,m3,m4⟩:=ht.nt
 obtain⟨m5,m6,m7⟩:=m4 hE0
 have le:=hs.lt g
 have hw:=zOu (H:=H) hT gt g hst hl hE
 refine evI hT.t127 ?_
 try refine go ?_
 refine clE hw ?_
 rintro d s1 ⟨rfl,rfl⟩
 try refine go ?_
 have hb:∀es:List D,∀n:Nat,Beh (fun j=>j=eo) s1 (s1.set0 eo (.arr 5 243 es n)):=fun es n=>Beh.set (W:=fun j=>j=eo) (Beh.refl hs) _ le (fun _=>rfl)
 have hl' :(E.set i { e with v:=v}).length=E.length:=List.length_set
 have hes:=ents_set (v:=v) hi
 have hg2:(s1.set0 eo (.arr 5 243 ((E.map entD).set (0+i) (.agg [.bool true,.int .i64 e.h,.int .i64 e.k,.int .i64 v,.int .i64 e.b])) (E.map entD).length)).get eo=some (.arr 5 243 ((E.set i { e with v:=v}).map entD) (E.map entD).length):=by
  rw [Nat.zero_add,hes]; exact St.gsE
 refine rtF ⟨rfl,⟨?_, ?_,ht.ce.beh hs (hb _ _) (Ne.symm m6) (Ne.symm m7), ?_, ?_⟩,(hb _ _).mono fun j hj=>by subst hj; exact we⟩
 ·rw [hl']; exact (hb _ _).get hs gt (Ne.symm m5)
 ·have:=EnAt.sl eo _ _ hg2 (by rw [hl',zAv]; exact Nat.le_refl _)
  rw [hl']at this
  exact this
 ·rw [hsh_set hi]; exact ht.la
 ·rw [hl']; exact ht.rm
end
@[reducible] def turnD (kind ky:Int) (fnd:Bool) (v e:Int):D:= .agg [.int .i64 kind,.int .i64 ky,.bool fnd,.int .i64 v,.int .i64 e]
@[reducible] def dictD (to:Nat) (most ver:Int):D:= .agg [.ptr to 0,.int .i64 most,.int .u64 ver]
section
variable {T:Nat→Option AFn}{H Y:zAa}
theorem yAf (hT:TT T)(hP:TP T){s:St}{most:Nat}(hs:s.Ok)(hm:most≤65536):
  EvP T H 75 [.int .i64 (most:Nat),.nilp] s fun d s1=>∃to dv co ro b st C,d= .tup [.ptr dv 0,.int .i64 0]∧s.n≤to∧s.n≤dv∧s.n≤co∧s.n≤ro∧dv≠to∧s1.get dv=some (.var 134 (dictD to (most:Nat) 0))∧zQb s1 to 0 co ro 3 b st (.vs true 0 []) [] C∧Beh Nil s s1:=by
 have hn:=zZw (H:=H) hT hs
 refine evI hP.t75 ?_
 try refine go ?_
 refine clE hn ?_
 rintro d s1 ⟨rfl,co,ro,b,st,C,h1,h2,h3,h4,h5,h6⟩
 have ok1:=h6.ok
 try refine go ?_
 have hb:∀x,Beh (fun _=>False) s1 (s1.push0 x):=fun x=>Beh.push (Beh.refl ok1) x
 have l1:=ok1.lt h3; have l2:=ok1.lt h4.go; have l3:=ok1.lt h4.gr
 have hn1:=h6.n
 refine rtF ⟨s.n,s1.n,co,ro,b,st,C,rfl,Nat.le_refl _,by omega,by omega,by omega,by omega,St.gpE,⟨(hb _).get ok1 h3 (fun h=>h),.nil 0,h4.beh ok1 (hb _) (fun h=>h) (fun h=>h),h5,Nat.zero_le _⟩,h6.trans ((hb _).mono fun j hj=>hj.elim)⟩
theorem plen_ev (hT:TT T)(hP:TP T){s:St}{dv to n:Nat}{most ver:Int}{x c n2 n3 n4:D}(gd:s.get dv=some (.var 134 (dictD to most ver)))(gt:s.get to=some (.var 183 (.agg [.nilp,x,c,.int .i64 (n:Nat),n2,n3,n4]))):
  EvP T H 27 [.ptr dv 0] s fun d s1=>d= .int .i64 (n:Nat)∧s1=s:=by
 have hl:=tlen_ev (H:=H) hT gt
 refine evI hP.t27 ?_
 try refine go ?_
 refine clE hl ?_
 rintro d s1 ⟨rfl,rfl⟩
 try refine go ?_
 exact rtF ⟨rfl,rfl⟩
theorem zMr (hP:TP T){s:St}{dv to:Nat}{most ver:Int}(hs:s.Ok)(gd:s.get dv=some (.var 134 (dictD to most ver))):
  EvP T H 128 [.ptr dv 0] s fun _ s1=>(∃ver',s1.get dv=some (.var 134 (dictD to most ver')))∧Beh (fun j=>j=dv) s s1:=by
 have ld:=hs.lt gd
 have hb:∀d:D,Beh (fun j=>j=dv) s (s.set0 dv (.var 134 d)):=fun d=>Beh.set (W:=fun j=>j=dv) (Beh.refl hs) _ ld (fun _=>rfl)
 refine evI hP.t128 ?_
 try refine go ?_
 exact zBx ⟨⟨_,St.gsE⟩,hb _⟩
theorem yGp (hP:TP T){s:St}{dv to:Nat}{most ver:Int}(gd:s.get dv=some (.var 134 (dictD to most ver))):
  EvP T H 110 [.ptr dv 0] s fun d s1=>d= .ptr to 0∧s1=s:=by
 refine evI hP.t110 ?_
 try refine go ?_
 exact rtF ⟨rfl,rfl⟩
theorem found_ev (hP:TP T){s:St}{n:Nat}{e:Ent}:EvP T H 125 [.int .i64 (n:Nat),entD e] s fun d s1=>d=turnD 2 0 true e.v (n:Nat)∧s1=s:=by
 refine evI hP.t125 ?_
 try refine go ?_
 exact rtF ⟨rfl,rfl⟩
theorem zNb {s:St}{o c:Nat}{es:List (Nat×D×D)}{env:Env}{m k v:Opd}{n:Int}{d:D}(hs:s.Ok)(hg:s.get o=some (.map es c))(hm:m.ev env=some (.mp o))(hk:k.ev env=some (.int .i64 n))(hv:v.ev env=some d)(hf:findKey .int (.int .i64 n) es 0=some none):
  opF zAq env s none (.mupd .int m k v)=some (.tup [],s.set0 o (.map (es++ [(c,.int .i64 n,d)]) (c+1))):=by
 have e1:keyD .int (.int .i64 n)=true:=rfl
 simp only [opF,hm,hk,hv,hg,e1,hf,hs.set,ofS]
def rowsM:List (Nat×D×D):=[(0,.int .i64 1,.agg [.fn (.func 124) [] [],.fn (.func 131) [] []]),(1,.int .i64 2,.agg [.fn (.func 126) [] [],.fn (.func 132) [] []]),
 (2,.int .i64 3,.agg [.fn (.func 129) [] [],.fn (.func 131) [] []]),(3,.int .i64 4,.agg [.fn (.func 124) [] [],.fn (.func 132) [] []])]
theorem rows_ev (hP:TP T){s:St}(hs:s.Ok):EvP T H 106 [] s fun d s1=>d= .mp s.n∧s1.get s.n=some (.map rowsM 4)∧Beh Nil s s1:=by
 have hb0:Beh Nil s (s.push0 (.map [] 0)):=Beh.push (Beh.refl hs) _
 have step:∀ {t:St} (h:Beh Nil s t∧s.n < t.n) (es:List (Nat×D×D)) (c:Nat),Beh Nil s (t.set0 s.n (.map es c))∧s.n < (t.set0 s.n (.map es c)).n:=fun {t} h es c=>⟨Beh.set (W:=Nil) h.1 _ h.2 (fun h=>by omega),h.2⟩
 have k0:Beh Nil s (s.push0 (.map [] 0))∧s.n < (s.push0 (.map [] 0)).n:=⟨hb0,by rw [St.nP0]; omega⟩
 refine evI hP.t106 ?_
 try refine go ?_
 refine zGh ?_ rfl (zNb k0.1.ok St.gpE rfl rfl rfl rfl)
 try refine go ?_
 refine zGh ?_ rfl (zNb (step k0 _ _).1.ok St.gsE rfl rfl rfl rfl)
 try refine go ?_
 refine zGh ?_ rfl (zNb (step (step k0 _ _) _ _).1.ok St.gsE rfl rfl rfl rfl)
 try refine go ?_
 refine zGh ?_ rfl (zNb (step (step (step k0 _ _) _ _) _ _).1.ok St.gsE rfl rfl rfl rfl)
 try refine go ?_
 exact rtF ⟨rfl,St.gsE,(step (step (step (step k0 _ _) _ _) _ _) _ _).1⟩
end
@[reducible] def machD (sk:D) (dv:Nat) (h k v state entry scans ver t0 t1:Int) (t2:Bool) (t3 t4:Int):D:=
 .agg [sk,.ptr dv 0,.fn (.func 126) [] [],.fn (.func 132) [] [],.int .i64 h,.int .i64 k,.int .i64 v,.int .i64 state,.int .i64 entry,.int .i64 scans,.int .u64 ver,.int .i64 t0,.int .i64 t1,.bool t2,.int .i64 t3,.int .i64 t4]
section
variable {T:Nat→Option AFn}{H Y:zAa}
theorem Begin_ev (hP:TP T){s:St}{dv to:Nat}{h k v most ver:Int}(hs:s.Ok)(gd:s.get dv=some (.var 134 (dictD to most ver))):
  EvP T H 92 [.ptr dv 0,.int .i64 2,.int .i64 h,.int .i64 k,.int .i64 v] s fun d s1=>∃mo,d= .ptr mo 0∧s.n≤mo∧s1.get mo=some (.var 235 (machD .nilp dv h k v 0 0 0 0 0 0 false 0 0))∧Beh Nil s s1:=by
 have hr:=rows_ev (H:=H) hP hs
 refine evI hP.t92 ?_
 try refine go ?_
 refine clE hr ?_
 rintro d s1 ⟨rfl,g1,b1⟩
 have ok1:=b1.ok
 try refine go ?_
 have:=b1.n
 exact rtF ⟨s1.n,rfl,this,St.gpE,Beh.push b1 _⟩
theorem Tell_ev (hP:TP T){s:St}{mo:Nat}{sk:D}{dv:Nat}{h k v entry scans ver t0 t1 t3 t4:Int}{t2 same:Bool}(hs:s.Ok)(gm:s.get mo=some (.var 235 (machD sk dv h k v 2 entry scans ver t0 t1 t2 t3 t4))):
  EvP T H 95 [.ptr mo 0,.bool same] s fun d s1=>d= .int .i64 0∧s1.get mo=some (.var 235 (machD sk dv h k v (if same then 3 else 1) entry scans ver t0 t1 t2 t3 t4))∧Beh (fun j=>j=mo) s s1:=by
 have lm:=hs.lt gm
 have hb:∀d:D,Beh (fun j=>j=mo) s (s.set0 mo (.var 235 d)):=fun d=>Beh.set (W:=fun j=>j=mo) (Beh.refl hs) _ lm (fun _=>rfl)
 cases same
 ·refine evI hP.t95 ?_
  try refine go ?_
  exact rtF ⟨rfl,St.gsE,hb _⟩
 ·refine evI hP.t95 ?_
  try refine go ?_
  exact rtF ⟨rfl,St.gsE,hb _⟩
theorem zZs (hP:TP T){s:St}{mo:Nat}{sk:D}{dv:Nat}{h k v st entry scans ver t0 t1 t3 t4 u0 u1 u3 u4:Int}{t2 u2:Bool}(hs:s.Ok)(gm:s.get mo=some (.var 235 (machD sk dv h k v st entry scans ver t0 t1 t2 t3 t4))):
  EvP T H 114 [.ptr mo 0,turnD u0 u1 u2 u3 u4] s fun d s1=>d=turnD u0 u1 u2 u3 u4∧Beh (fun j=>j=mo) s s1:=by
 have lm:=hs.lt gm
 have hb:∀d:D,Beh (fun j=>j=mo) s (s.set0 mo (.var 235 d)):=fun d=>Beh.set (W:=fun j=>j=mo) (Beh.refl hs) _ lm (fun _=>rfl)
 have hb2:∀d e:D,Beh (fun j=>j=mo) s ((s.set0 mo (.var 235 d)).set0 mo (.var 235 e)):=fun d e=>Beh.set (W:=fun j=>j=mo) (hb d) _ lm (fun _=>rfl)
 refine evI hP.t114 ?_
 try refine go ?_
 exact rtF ⟨rfl,hb2 _ _⟩
end
def zAw (W:Nat→Prop)(s:St)(dv:Nat)(most:Nat)(E:List Ent):Prop:=∃to eo co ro log b st x C ver,s.get dv=some (.var 134 (dictD to (most:Nat) ver))∧zQb s to eo co ro log b st x E C∧W dv∧W to∧W eo∧W co∧W ro∧E.length≤1000
def Own (n:Nat)(W:Nat→Prop)(o:Nat):Prop:=W o∨n≤o
section
variable {T:Nat→Option AFn}{H Y:zAa}
theorem zAw.beh {W W' :Nat→Prop}{s s1:St}{dv most:Nat}{E:List Ent}(h:zAw W s dv most E)(hs:s.Ok)(hb:Beh W' s s1)(hd:∀o,o < s.n→W o→ ¬ W' o):zAw W s1 dv most E:=by
 obtain⟨to,eo,co,ro,log,b,st,x,C,ver,h1,h2,w1,w2,w3,w4,w5,h3⟩:=h
 refine⟨to,eo,co,ro,log,b,st,x,C,ver,hb.get hs h1 (hd _ (hs.lt h1) w1),⟨hb.get hs h2.go (hd _ (hs.lt h2.go) w2),h2.en.beh hs hb (fun es st hq=>hd _ (hs.lt hq) w3),h2.ce.beh hs hb (hd _ (hs.lt h2.ce.go) w4) (hd _ (hs.lt h2.ce.gr) w5),h2.la,h2.rm⟩,w1,w2,w3,w4,w5,h3⟩
theorem zQb.beh {W:Nat→Prop}{s s1:St}{to eo co ro log st:Nat}{b:Bool}{x:D}{E:List Ent}{C:List Int}(h2:zQb s to eo co ro log b st x E C)(hs:s.Ok)(hb:Beh W s s1)(n1: ¬ W to)(n2:∀es st,s.get eo=some (.arr 5 243 es st)→ ¬ W eo)(n3: ¬ W co)(n4: ¬ W ro):zQb s1 to eo co ro log b st x E C:=
 ⟨hb.get hs h2.go n1,h2.en.beh hs hb n2,h2.ce.beh hs hb n3 n4,h2.la,h2.rm⟩
theorem zTq {s:St}{dv to eo co ro log st:Nat}{b:Bool}{x d:D}{E:List Ent}{C:List Int}(h1:s.get dv=some (.var 134 d))(h2:zQb s to eo co ro log b st x E C):to≠dv∧co≠dv∧ro≠dv∧∀es st,s.get eo=some (.arr 5 243 es st)→eo≠dv:=by
 refine⟨?_, ?_, ?_,fun es st hq=> ?_⟩
 ·rintro rfl; rw [h2.go]at h1; simp at h1
 ·rintro rfl; rw [h2.ce.go]at h1; simp at h1
 ·rintro rfl; rw [h2.ce.gr]at h1; cases h1
 ·rintro rfl; rw [hq]at h1; cases h1
theorem turn_ev (hT:TT T)(hP:TP T){W:Nat→Prop}{s:St}{mo dv most n:Nat}{sk:D}{E:List Ent}{e:Ent}{h k v st entry scans ver t0 t1 t3 t4:Int}{t2:Bool}(hs:s.Ok)(gm:s.get mo=some (.var 235 (machD sk dv h k v st entry scans ver t0 t1 t2 t3 t4)))(hm: ¬ W mo)(hd:zAw W s dv most E)(hi:E[n]? =some e):
  EvP T H 126 [.ptr mo 0,.int .i64 (n:Nat),entD e] s fun d s1=>d=turnD 2 0 true e.v (n:Nat)∧zAw W s1 dv most (E.set n { e with v:=v})∧Beh W s s1:=by
 obtain⟨to,eo,co,ro,log,b,st',x,C,ver',h1,h2,w1,w2,w3,w4,w5,h3⟩:=hd
 have hput:=Put_ev (H:=H) (v:=v) (W:=fun j=>j=eo) hT hs h2 hi (by omega) rfl
 have nde:dv≠eo:=by
  rintro rfl
  have:=h2.en
  rcases this with _ | ⟨_,_,_,g,_⟩
  ·simp at hi
  ·rw [h1]at g; cases g
 refine evI hP.t126 ?_
 try refine go ?_
 refine dpC hput ?_
 rintro d s1 ⟨rfl,z1,z2⟩
 refine⟨rfl,by simp [lost,AOp.kind,lAs,zAf,fpOf,wtD,fpRd,fpRd.objs,fpRg,Opd.ev,Env.get,sOb,D.flat,D.isAgg,cEq,D.beqs,D.beq,Nat.beq_refl,Obj.beq_rfl,laR,soR,D.bsR,D.beq_rfl,z1], ?_⟩
 have ok1:=z2.ok
 have gm1:=z2.get hs gm (by rintro rfl; exact hm w3)
 have gd1:=z2.get hs h1 nde
 have hch:=zMr (H:=H) hP ok1 gd1
 try refine go ?_
 refine clE hch ?_
 rintro d s2 ⟨⟨ver2,gd2⟩,y2⟩
 have ok2:=y2.ok
 obtain⟨m1,m2,m3,m4⟩:=zTq gd1 z1
 have z3:=z1.beh ok1 y2 m1 m4 m2 m3
 try refine go ?_
 refine clE (found_ev hP) ?_
 rintro d s3 ⟨rfl,rfl⟩
 try refine go ?_
 refine rtF ⟨rfl,⟨to,eo,co,ro,log,b,st',x,C,ver2,gd2,z3,w1,w2,w3,w4,w5, ?_⟩,(z2.mono fun j hj=>by subst hj; exact w3).trans (y2.mono fun j hj=>by subst hj; exact w1)⟩
 rw [List.length_set]; exact h3
end
section
variable {T:Nat→Option AFn}{H Y:zAa}
theorem add5_ev (hT:TT T)(hP:TP T){W:Nat→Prop}{s:St}{mo dv most:Nat}{sk:D}{E:List Ent}{h k v st entry scans ver t0 t1 t3 t4:Int}{t2:Bool}(hs:s.Ok)(gm:s.get mo=some (.var 235 (machD sk dv h k v st entry scans ver t0 t1 t2 t3 t4)))(hm: ¬ W mo)(hd:zAw W s dv most E)(hmost:most≤1000):
  EvP T H 132 [.ptr mo 0] s fun d s1=>Beh W s s1∧((E.length < most∧d=turnD 2 0 false v (E.length:Nat)∧zAw (Own s.n W) s1 dv most (E++ [Ent.mk h k v (E.length:Nat)]))∨(most≤E.length∧d=turnD 3 0 false 0 0∧s1=s)):=by
 have lm:=hs.lt gm
 obtain⟨to,eo',co,ro,log,b,st',x,C,ver',h1,h2',w1,w2,w3',w4,w5,h3⟩:=hd
 obtain⟨m1,m2,m3,m4'⟩:=zTq h1 h2'
 obtain⟨eo,h2,w3,m4⟩:∃eo,zQb s to eo co ro log b st' x E C∧W eo∧eo≠dv:=by
  have he:=h2'.en
  rcases he with _ | ⟨_,st0,E,g,hst⟩
  ·exact⟨to,⟨h2'.go,.nil to,h2'.ce,h2'.la,h2'.rm⟩,w2,m1⟩
  ·exact⟨eo',h2',w3',m4' _ _ g⟩
 have gt:=h2.go
 have hlen:=plen_ev (H:=H) (s:= { s with ro:=true}) hT hP h1 h2.go
 by_cases hfull:most≤E.length
 ·refine evI hP.t132 ?_
  try refine go ?_
  refine zId hlen ?_
  rintro d s1 ⟨rfl,rfl⟩
  refine⟨rfl, ?_⟩
  try refine go ?_
  refine zAg (fun hc=> ?_) (fun hc=> ?_)
  ·try refine go ?_
   exact rtF ⟨Beh.refl hs,.inr ⟨hfull,rfl,rfl⟩⟩
  ·exfalso
   simp at hc
   omega
 ·have hadd:=Add_ev (H:=H) (h:=h) (ky:=k) (v:=v) (W:=fun j=>j=to∨j=eo∨j=ro∨j=co) hT hs h2 h3 (.inl rfl) (.inr (.inl rfl)) (.inr (.inr (.inl rfl))) (.inr (.inr (.inr rfl)))
  refine evI hP.t132 ?_
  try refine go ?_
  refine zId hlen ?_
  rintro d s1 ⟨rfl,rfl⟩
  refine⟨rfl, ?_⟩
  try refine go ?_
  refine zAg (fun hc=> ?_) (fun hc=> ?_)
  ·exfalso
   simp at hc
   omega
  ·try refine go ?_
   refine dpC hadd ?_
   rintro d s1 ⟨rfl,z1⟩
   obtain⟨eo2,co2,ro2,log2,b2,st2,x2,C2,y1,y2,y3,y4,y5⟩:=z1
   have ok1:=y5.ok
   have nm: ¬ (mo=to∨mo=eo∨mo=ro∨mo=co):=by rintro (rfl | rfl | rfl | rfl) <;> exact hm (by assumption)
   have gm1:=y5.get hs gm nm
   have gd1:=y5.get hs h1 (by rintro (rfl | rfl | rfl | rfl) <;> simp_all)
   have hch:=zMr (H:=H) hP ok1 gd1
   have lo:∀o,(o=to∨o=eo∨o=ro∨o=co)∨s.n≤o→Own s.n W o:=by
    rintro o ((rfl | rfl | rfl | rfl) | h)
    ·exact .inl w2
    ·exact .inl w3
    ·exact .inl w5
    ·exact .inl w4
    ·exact .inr h
   refine⟨rfl,by rfl, ?_⟩
   try refine go ?_
   refine clE hch ?_
   rintro d s2 ⟨⟨ver2,gd2⟩,q2⟩
   obtain⟨p1,p2,p3,p4⟩:=zTq gd1 y1
   have gm2:=q2.get ok1 gm1 (by rintro rfl; exact hm w1)
   have y6:=y1.beh ok1 q2 p1 p4 p2 p3
   try refine go ?_
   refine rtF ⟨?_,.inl ⟨by omega,rfl,⟨to,eo2,co2,ro2,log2,b2,st2,x2,C2,ver2,gd2,y6,.inl w1,.inl w2,lo _ y2,lo _ y3,lo _ y4, ?_⟩⟩⟩
   ·exact (y5.mono (by rintro j (rfl | rfl | rfl | rfl) <;> assumption)).trans (q2.mono fun j hj=>by subst hj; exact w1)
   ·rw [List.length_append,List.length_singleton]; omega
end
end Go.Proofs.YtmcdajnpdekocaaGreatDoor.Tab
