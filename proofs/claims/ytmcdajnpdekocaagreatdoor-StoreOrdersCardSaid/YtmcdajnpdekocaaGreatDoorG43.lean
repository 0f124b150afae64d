/- Part. -/
import Derived.Test.YtmcdajnpdekocaaGreatDoorG42
set_option linter.unusedSectionVars false
set_option linter.unusedSimpArgs false
set_option linter.unusedVariables false
set_option maxRecDepth 100000
set_option maxHeartbeats 1000000
namespace Go.Proofs.YtmcdajnpdekocaaGreatDoor.Tab
open Go Go.Ab Go.Ab.Sm
inductive PcAt (s:St)(n0:Nat):D→List Nat→Prop
 | nil:PcAt s n0 (.vs true 0 []) []
 | sl (o:Nat) (P:List Nat) (h:s.get o=some (.arr 1 140 (u32s P) 0)) (h0:n0≤o) (hp:P≠ []):PcAt s n0 (.sl o 0 P.length P.length) P
theorem PcAt.beh {W:Nat→Prop}{s s1:St}{n0:Nat}{d:D}{P:List Nat}(h:PcAt s n0 d P)(hs:s.Ok)(hb:Beh W s s1)(hw:∀o l c,d= .sl o 0 l c→ ¬ W o):PcAt s1 n0 d P:=by
 rcases h with _ | ⟨o,P,h,h0,hp⟩
 ·exact .nil
 ·exact .sl o P (hb.get hs h (hw _ _ _ rfl)) h0 hp
theorem yEr (V:List Nat):zPm V++V.drop (zPm V).length=V:=by
 have h:=zHv V
 have e:zPm V++V.drop (zPm V).length=V.take (zPm V).length++V.drop (zPm V).length:=by rw [← h]
 rw [e,List.take_append_drop]
theorem zZu:∀V:List Nat,(∀v∈V,v < 4294967296)→valN V < 4294967296 ^ V.length
 | [],_=>by simp [valN]
 | a::r,h=>by
  have h1:=h a (by simp)
  have h2:=zZu r fun v hv=>h v (by simp [hv])
  rw [valN,List.length_cons,Nat.pow_succ]
  omega
theorem zJz {V:List Nat}(hw:∀v∈V,v < 4294967296):(zAd (valN V)).length≤2 * V.length:=by
 refine zUa _ _ (Nat.lt_of_lt_of_le (zZu V hw) ?_)
 rw [Nat.pow_mul]
 exact Nat.pow_le_pow_left (by decide) _
def yIh:AC:=match code30.body with
 | .seq _ (.seq _ (.seq _ (.seq _ (.seq (.block _ r) _))))=>r
 | _=> .skip
section
variable {T:Nat→Option AFn}{H:zAa}{s:St}
theorem loop_ev (hW:TW T)(hX:TX T){a0:D}{o cp n0:Nat}{V:List Nat}{k:List Kont}{Q:QP}{E:Env}(hs:s.Ok)(hg:s.get o=some (.arr 1 140 (u32s V) 0))(hc:cp=V.length)(hn0:n0≤o)(hn1:n0≤s.n)(hl:V.length≤100000)(hw:∀v∈V,v < 4294967296)(ht:zPm V=V)
  (hE:E.keep [1,2,3,4,9]=[(1,a0),(2,.str []),(3,.sl o 0 V.length cp),(4,.vs true 0 [])])
  (h:∀s1 dP,PcAt s1 n0 dP (zAd (valN V))→Beh (fun j=>n0≤j) s s1→∀d1 d2 d3:D,Ret T H .normal k ⟨[(21,.bool false),(20,d1),(19,d2),(1,a0),(2,.str []),(3,d3),(4,dP)],[]⟩ s1 Q):
  Run T H yIh (.block 0::k) ⟨E,[]⟩ s Q:=by
 show Run T H (.loop _ _) (.block 0::k) ⟨E,[]⟩ s Q
 refine zAm (fun m env s' =>∃W R P dP st,env=[(1,a0),(2,.str []),(3,.sl o 0 W.length cp),(4,dP)]∧m=valN W∧s'.get o=some (.arr 1 140 (u32s (W++R)) st)∧st≤cp∧cp=W.length+R.length∧(∀v∈W,v < 4294967296)∧zPm W=W∧PcAt s' n0 dP P∧P++zAd (valN W)=zAd (valN V)∧(∀l c,dP≠ .sl o 0 l c)∧Beh (fun j=>n0≤j) s s') (valN V) rfl ⟨V,[],[],_,0,hE,rfl,by rw [List.append_nil]; exact hg,Nat.zero_le _,hc,hw,ht,.nil,rfl,(fun _ _ h=>by cases h),Beh.refl hs⟩ ?_
 rintro m env s' ⟨W,R,P,dP,st,rfl,rfl,q1,q2,q3,q4,q5,q6,q7,q8,q9⟩
 by_cases hW0:W=[]
 ·subst hW0
  rw [show valN []=0 from rfl,zKa,List.append_nil]at q7
  subst q7
  show Run T H _ _ ⟨[(1,a0),(2,.str []),(3,.sl o 0 0 cp),(4,dP)],[]⟩ _ _
  try refine go ?_
  exact h _ dP q6 q9 _ _ _
 ·have hp0:0 < W.length:=List.length_pos_iff.2 hW0
  have hwl:W.length≤100000:=by omega
  have hp1:(0:Int) < (W.length:Nat):=by omega
  have e1:IntKind.wrap .i64 ((W.length:Int) - 1)=(W.length:Int) - 1 - (0:Nat):=by rw [wrap_small (by omega) (by omega)]; omega
  have ok1:=q9.ok
  have lo:=ok1.lt q1
  try refine go ?_
  rw [e1]
  refine pass_ev (W:=W) (R:=R) hX ok1 q1 q2 q3 hp0 hwl q4 rfl ?_
  intro s1 st1 z1 z2 z3 d1 d2
  have hP:P.length+1≤200000:=by
   have:=zJz hw
   rw [← q7,List.length_append]at this
   have h2:(zAd (valN W)).length≠0:=by
    rw [zDn (by have:=zJv W (by rw [q5]; exact hW0); rw [q5]at this; omega)]; simp
   omega
  have hv0:valN W≠0:=by have:=zJv W (by rw [q5]; exact hW0); rw [q5]at this; omega
  have ok2:=z3.ok
  have lo2:=ok2.lt z1
  have hnn:=z3.n
  have hd2:=zNz W
  have q6' :=q6.beh ok1 z3 (fun o' l c e h=>q8 l c (by rw [← h]; exact e))
  have b1:Beh (fun j=>n0≤j) s s1:=q9.trans (z3.mono fun j hj=>by subst hj; exact hn0)
  have fin:∀ {s2 dP2 E2},E2.keep [1,2,3,4,9]=[(1,a0),(2,D.str []),(3,D.sl o 0 (zPm (divN W).1).length cp),(4,dP2)]→s2.get o=some (.arr 1 140 (u32s ((divN W).1++R)) st1)→PcAt s2 n0 dP2 (P++ [(divN W).2])→(∀l c,dP2≠ .sl o 0 l c)→Beh (fun j=>n0≤j) s1 s2→Ret T H .normal (Kont.loop (fun m env s' =>∃W R P dP st,env=[(1,a0),(2,.str []),(3,.sl o 0 W.length cp),(4,dP)]∧m=valN W∧s'.get o=some (.arr 1 140 (u32s (W++R)) st)∧st≤cp∧cp=W.length+R.length∧(∀v∈W,v < 4294967296)∧zPm W=W∧PcAt s' n0 dP P∧P++zAd (valN W)=zAd (valN V)∧(∀l c,dP≠ .sl o 0 l c)∧Beh (fun j=>n0≤j) s s') [1,2,3,4,9] (valN W)::Kont.block 0::k) ⟨E2,[]⟩ s2 Q:=by
   intro s2 dP2 E2 y1 y2 y3 y4 y5
   have t1:=zHv (divN W).1
   have t2:=zBy (divN W).1
   refine rtN (valN (zPm (divN W).1)) ?_ rfl ⟨zPm (divN W).1,(divN W).1.drop (zPm (divN W).1).length++R,P++ [(divN W).2],dP2,st1,y1,rfl, ?_,z2, ?_, ?_,zDe _,y3, ?_,y4,b1.trans y5⟩
   ·rw [zJu,divN_q]; omega
   ·rw [← List.append_assoc]
    rw [yEr]; exact y2
   ·rw [List.length_append,List.length_drop]; omega
   ·intro v hv
    rw [t1]at hv
    exact zMp W q4 v (List.mem_of_mem_take hv)
   ·rw [zJu,divN_q,divN_r,List.append_assoc,← q7,zDn hv0]; rfl
  have htr:∀s2:St,s2.get o=some (.arr 1 140 (u32s ((divN W).1++R)) st1)→EvP T H 54 [.sl o 0 W.length cp] s2 fun d s3=>s3=s2∧d= .sl o 0 (zPm (divN W).1).length cp:=fun s2 y=>by
   have:=trim_sl (H:=H) (V:=(divN W).1) (R:=R) hW y z2 (by omega) (by omega)
   rwa [hd2]at this
  rcases q6' with _ | ⟨po,P,hp,h0,hpn⟩
  ·try refine go ?_
   refine clE (htr _ (St.gpN z1 (by omega))) ?_
   rintro d s2 ⟨rfl,rfl⟩
   try refine go ?_
   refine fin (dP2:= .sl s1.n 0 1 1) rfl (St.gpN z1 (by omega)) (.sl s1.n [(divN W).2] St.gpE (by have:=q9.n; omega) (by simp)) (fun l c h=> ?_) (Beh.push (Beh.refl ok2) _)
   simp only [D.sl.injEq]at h
   omega
  ·have npo:po≠o:=by rintro rfl; exact q8 _ _ rfl
   try refine go ?_
   refine clE (htr _ (St.gsN z1 (by omega))) ?_
   rintro d s2 ⟨rfl,rfl⟩
   try refine go ?_
   refine fin (dP2:= .sl po 0 (P.length+1) (P.length+1)) rfl (St.gsN z1 (by omega)) ?_ (fun l c h=> ?_) (Beh.set (Beh.refl ok2) _ (ok2.lt hp) (fun _=>h0))
   ·have:=PcAt.sl (s:=s1.set0 po (.arr 1 140 (u32s P++ [.int .u32 ((divN W).2:Nat)]) 0)) (n0:=n0) po (P++ [(divN W).2]) (by rw [St.gsE,u32s,u32s,List.map_append]; rfl) h0 (by simp)
    rw [List.length_append]at this
    exact this
   ·simp only [D.sl.injEq]at h
    omega
end
def zSz:AC:=match code30.body with
 | .seq _ (.seq _ (.seq _ (.seq _ (.seq _ (.seq _ (.seq (.seq _ (.block _ r)) _))))))=>r
 | _=> .skip
def textA:AC:=match zSz with
 | .rangef _ _ _ a _=>a
 | _=> .skip
def textB:AC:=match zSz with
 | .rangef _ _ _ _ b=>b
 | _=> .skip
section
variable {T:Nat→Option AFn}{H Y:zAa}
theorem zXj (hX:TX T){s:St}{y bx n:Nat}{i:Int}{yd:D}{m:List UInt8}(hY:zDw T H y [49,50] [(7,.ptr bx 0)] textA textB Y)(hs:s.Ok)(hl:s.get (y+1)=some (.loop y .ready))
  (hb:Bd s bx yd m)(hn:n < 1000000000)(hm:m.length+9≤4000000):
  ∃s',Y 0 (.lv (.yl y)::[.int .i64 i,.int .u32 n]) s=some (.bool true,s')∧s'.get (y+1)=some (.loop y .ready)∧(∃yd',Bd s' bx yd' (m++dig9 n)∧∀o l c,yd' = .sl o 0 l c→(yd= .sl o 0 m.length m.length∨s.n≤o))∧Beh (fun j=>j=y+1∨OfBd bx yd j) s s' :=by
 have ly:=hs.lt hl
 have nb:bx≠y+1:=by
  rintro rfl
  obtain⟨⟨a,ha,hg⟩,hy⟩:=hb
  rw [hl]at hg; cases hg
 have nd:∀o l c,yd= .sl o 0 l c→o≠y+1:=by
  rintro o l c h rfl
  obtain⟨⟨a,ha,hg⟩,hy⟩:=hb
  rcases hy with ⟨h1,h2⟩ | ⟨h1,o',h2,h3⟩
  ·rw [h1]at h; cases h
  ·rw [h2]at h
   simp only [D.sl.injEq]at h
   rw [h.1,hl]at h3; cases h3
 have hb1:Beh (fun j=>j=y+1) s (s.set0 (y+1) (.loop y .busy)):=Beh.set (Beh.refl hs) _ ly (fun _=>rfl)
 have kb:=hb.beh hs hb1 nb nd
 have hok1:=hb1.ok
 have ly1:y+1 < (s.set0 (y+1) (.loop y .busy)).n:=ly
 have ek:(s.set0 (y+1) (.loop y .busy)).n=s.n:=rfl
 obtain⟨c,s',q1,q2⟩:=zGm (e:=[(50,.int .u32 n),(49,.int .i64 i),(7,.ptr bx 0)]) (xs:=[.int .i64 i,.int .u32 n]) hY (fun c s' =>c=true∧s'.get (y+1)=some (.loop y .ready)∧(∃yd',Bd s' bx yd' (m++dig9 n)∧∀o l c,yd' = .sl o 0 l c→(yd= .sl o 0 m.length m.length∨s.n≤o))∧Beh (fun j=>j=y+1∨OfBd bx yd j) s s') rfl hl hs (by
  show Run T H (.reg _) [] _ s _
  try refine go ?_
  refine zGg ⟨rfl,rfl, ?_⟩
  generalize hs1:s.set0 (y+1) (.loop y .busy)=s1 at hb1 kb ly1 hok1 ek ⊢
  have hl1:s1.get (y+1)=some (.loop y .busy):=by rw [← hs1]; exact St.gsE
  show Run T H (.block _ _) [] _ s1 _
  try refine go ?_
  refine clE (yGr hX hn) ?_
  rintro d s2 ⟨rfl,rfl⟩
  try refine go ?_
  refine opA ?_ rfl (yHl (o:=s2.n) (ty:=150) (oI) rfl St.gsE rfl)
  generalize hs3:(s2.push0 (Ab.Obj.var 150 (D.agg [D.int .u8 0,D.int .u8 0,D.int .u8 0,D.int .u8 0,D.int .u8 0,D.int .u8 0,D.int .u8 0,D.int .u8 0,D.int .u8 0]))).set0 s2.n _=s3
  have b3:Beh (fun _=>False) s2 s3:=by
   rw [← hs3]
   exact Beh.set (Beh.push (Beh.refl hok1) _) _ (by rw [St.nP0]; omega) (fun h=>by omega)
  have n3:s3.n=s2.n+1:=by rw [← hs3,St.nS0,St.nP0]
  have hf:(D.agg (over [D.int .u8 0,D.int .u8 0,D.int .u8 0,D.int .u8 0,D.int .u8 0,D.int .u8 0,D.int .u8 0,D.int .u8 0,D.int .u8 0] 0 (D.agg (List.map (fun c=>D.int .u8 ↑c.toNat) (dig9 n))).flat)).flat=(dig9 n).map fun c=> .int .u8 c.toNat:=rfl
  rw [hf]
  clear hs3
  generalize hs4:(s3.set0 s2.n Ab.Obj.dead).push0 (Ab.Obj.arr 1 150 ((dig9 n).map fun c=> .int .u8 c.toNat) 0)=s4
  have b4:Beh (fun _=>False) s2 s4:=by
   rw [← hs4]
   exact Beh.push (Beh.set b3 _ (by omega) (fun h=>by omega)) _
  have g4:s4.get s3.n=some (Ab.Obj.arr 1 150 ((dig9 n).map fun c=> .int .u8 c.toNat) 0):=by
   rw [← hs4]; exact St.gpE
  have k4:=kb.beh hok1 b4 (fun h=>h) (fun _ _ _ _ h=>h)
  have l4:=b4.get hok1 hl1 (fun h=>h)
  have lb:bx < s2.n:=by
   obtain⟨⟨a,ha,hg⟩,hy⟩:=kb
   exact hok1.lt hg
  have ld:∀o l c,yd= .sl o 0 l c→o < s2.n:=by
   rintro o l c h
   obtain⟨⟨a,ha,hg⟩,hy⟩:=kb
   rcases hy with ⟨h1,h2⟩ | ⟨h1,o',h2,h3⟩
   ·rw [h1]at h; cases h
   ·rw [h2]at h
    simp only [D.sl.injEq]at h
    rw [← h.1]; exact hok1.lt h3
  try refine go ?_
  refine clE (Write_ev (p:=dig9 n) hX b4.ok k4 (by simp [dig9]) hm g4 (fun l c h=>by have:=ld _ _ _ h; omega)) ?_
  rintro d s5 ⟨yd',z1,z2,z3⟩
  try refine go ?_
  have l5:=z2.get b4.ok l4 (by rintro (h | ⟨l,c,h⟩); exact nb h.symm; exact nd _ _ _ h rfl)
  have b6:Beh (fun j=>j=y+1) s5 (s5.set0 (y+1) (.loop y .ready)):=Beh.set (Beh.refl z2.ok) _ (z2.ok.lt l5) (fun _=>rfl)
  have n4:s2.n≤s4.n:=b4.n
  refine zGg ⟨rfl,l5,z2.ok,rfl,St.gsE,⟨yd',z1.beh z2.ok b6 nb ?_, ?_⟩, ?_⟩
  ·rintro o l c h he
   rcases z3 _ _ _ h with h | h
   ·exact nd _ _ _ h he
   ·omega
  ·intro o l c h
   rcases z3 _ _ _ h with h | h
   ·exact .inl h
   ·exact .inr (by omega)
  ·exact (hb1.mono fun j hj=> .inl hj).trans ((b4.mono fun _ h=>h.elim).trans ((z2.mono fun j hj=> .inr hj).trans (b6.mono fun j hj=> .inl hj))))
 obtain⟨rfl,q3⟩:=q2
 exact⟨s',q1,q3⟩
theorem yIe (hV:TV T)(hX:TX T){s:St}{bx bo n0:Nat}{x:D}{P:List Nat}{E:Env}{k:List Kont}{Q:QP}(hs:s.Ok)(hx:PcAt s n0 x P)(hl:P.length≤200000)(hp:∀p∈P,p < 1000000000)(hb:Bd s bx (.vs true 0 []) [])(gb:s.get bo=some (.var 38 x))
  (hg:Opd.ev E (.t 48)=some (.fn (.func 80) [] [.ptr bo 0]))(hk:E.keep [7,9]=[(7,.ptr bx 0)])
  (hq:∀s1 yd,Bd s1 bx yd (zBq P)→(∀o l c,yd= .sl o 0 l c→s.n≤o)→Beh (fun j=>j=bx) s s1→Ret T H .normal k ⟨E,[(.nilf,[])]⟩ s1 Q):
  Run T H zSz k ⟨E,[]⟩ s Q:=by
 show Run T H (.rangef _ _ _ _ _) k ⟨E,[]⟩ s Q
 refine zHx (gf:=80) (caps:=[.ptr bo 0]) (fun Y hY=> ?_) hg hs.ro (by rw [hk]; rfl)
 have hY' :zDw T H s.n [49,50] [(7,.ptr bx 0)] textA textB Y:=by
  have:=hY
  simp only at this
  rw [hk]at this
  exact this
 clear hY
 have lb:=hs.lt gb
 have lx:bx < s.n:=by
  obtain⟨⟨a,ha,hg⟩,hy⟩:=hb
  exact hs.lt hg
 have nbx:bo≠bx:=by
  rintro rfl
  obtain⟨⟨a,ha,hg⟩,hy⟩:=hb
  rw [gb]at hg; simp at hg
 have hb00:Beh (fun _=>False) s ((s.push0 .dead).push0 (.loop s.n .ready)):=Beh.push (Beh.push (Beh.refl hs) _) _
 have fin:∀ {s2:St} {yd:D},Beh (fun j=>j=bx) s s2→s2.get (s.n+1)=some (.loop s.n .ready)→Bd s2 bx yd (zBq P)→(∀o l c,yd= .sl o 0 l c→s.n≤o)→(∀l c,yd≠ .sl (s.n+1) 0 l c)→
   ∃st x s3,s2.get (s.n+1)=some (.loop s.n st)∧exOf st=some x∧s2.set (s.n+1) .dead=some s3∧Ret T H x k { (⟨E,[]⟩:Fr) with defers:=(.nilf,[])::[]} s3 Q:=by
  intro s2 yd hb2 hl2 hB ho hne
  have hb3:Beh (fun j=>j=s.n+1) s2 (s2.set0 (s.n+1) .dead):=Beh.set (Beh.refl hb2.ok) _ (hb2.ok.lt hl2) (fun _=>rfl)
  exact⟨.ready,.normal,_,hl2,rfl,hb2.ok.set _ _,hq _ yd (hB.beh hb2.ok hb3 (by omega) (by rintro o l c h rfl; exact hne _ _ h)) ho (hb2.trans' hb3 fun j hj hj2=>by omega)⟩
 let I:Nat→St→Prop:=fun j s' =>Beh (fun j=>j=bx) s s' ∧s'.get (s.n+1)=some (.loop s.n .ready)∧∃yd,Bd s' bx yd ((P.reverse.take j).flatMap dig9)∧(∀o l c,yd= .sl o 0 l c→s.n≤o)∧(∀l c,yd≠ .sl (s.n+1) 0 l c)
 have hI0:I 0 ((s.push0 .dead).push0 (.loop s.n .ready)):=⟨hb00.mono fun _ h=>h.elim,St.gpE,_,hb.beh hs hb00 (fun h=>h) (fun _ _ _ _ h=>h),(fun _ _ _ h=>by cases h),(fun _ _ h=>by cases h)⟩
 have hYZ:∀ {Z:St→Prop} j s' (n:Nat) (i:Int),j < P.length→P[P.length - 1 - j]? =some n→I j s' →∃c s2,Y 0 (.lv (.yl s.n)::[.int .i64 i,.int .u32 (n:Nat)]) s' =some (.bool c,s2)∧(c=true→I (j+1) s2)∧(c=false→Z s2):=by
  rintro Z j s' n i hj hn ⟨q1,q2,yd,q3,q4,q5⟩
  have hml:∀L:List Nat,(L.flatMap dig9).length=9 * L.length:=by
   intro L
   induction L with
   | nil=>rfl
   | cons a r ih=>rw [List.flatMap_cons,List.length_append,ih,List.length_cons]; simp only [dig9,List.length_map,List.length_cons,List.length_nil]; omega
  have hm:((P.reverse.take j).flatMap dig9).length+9≤4000000:=by
   rw [hml,List.length_take,List.length_reverse]; omega
  obtain⟨s2,y1,y2,⟨yd2,y3,y4⟩,y5⟩:=zXj (H:=H) (i:=i) hX hY' q1.ok q2 q3 (hp n (List.mem_of_getElem? hn)) hm
  have e1:P.reverse.take (j+1)=P.reverse.take j++ [n]:=by
   rw [List.take_add_one,List.getElem?_reverse hj,hn]; rfl
  have e2:(P.reverse.take (j+1)).flatMap dig9=(P.reverse.take j).flatMap dig9++dig9 n:=by
   rw [e1,List.flatMap_append]; simp
  have hsn:=q1.ok.lt q2
  refine⟨true,s2,y1,fun _=>⟨q1.trans' y5 ?_,y2,yd2,by rw [e2]; exact y3, ?_, ?_⟩,fun h=>by cases h⟩
  ·rintro j2 (h | h | ⟨l,c,h⟩) hj2
   ·omega
   ·exact h
   ·have:=q4 _ _ _ h; omega
  ·intro o l c h
   rcases y4 _ _ _ h with h | h
   ·exact q4 _ _ _ h
   ·omega
  ·intro l c h
   rcases y4 _ _ _ h with h | h
   ·exact q5 _ _ h
   ·omega
 rcases hx with _ | ⟨o,P,go,h0,hpn⟩
 ·refine (zXa hV (hb00.get hs gb (fun h=>h))).mono ?_
  rintro d s1 rfl
  obtain⟨q1,q2,yd,q3,q4,q5⟩:=hI0
  exact fin q1 q2 q3 q4 q5
 ·have lo:=hs.lt go
  have nob:o≠bx:=by
   rintro rfl
   obtain⟨⟨a,ha,hg⟩,hy⟩:=hb
   rw [go]at hg; cases hg
  refine yEn (V:=P) (R:=[]) hV I _ hI0 (by omega) (fun j s' hj=>⟨hj.1.get hs gb nbx,by rw [List.append_nil]; exact hj.1.get hs go nob⟩) (fun j s' n hj hn hI=>hYZ j s' n _ hj hn hI) (fun s2 ⟨q1,q2,yd,q3,q4,q5⟩=>fin q1 q2 (by rw [show P.reverse.take P.length=P.reverse from List.take_of_length_le (by rw [List.length_reverse]; exact Nat.le_refl _)]at q3; exact q3) q4 q5)
end
section
variable {T:Nat→Option AFn}{H:zAa}{s:St}
theorem zMz {b:Nat}{k:List Kont}{l:List zPk}{Q:QP}{t:Nat}{e:Env}{ds:List (D×List D)}{g:Option (Nat×Bool)}{x y:Opd}{m c:List UInt8}(h:Ops T H b l k ⟨(t,.str (m++c))::e,ds⟩ s Q)(hn:m.length+c.length≤4611686018427387904)(hw:wtD e g=some true:=by rfl)(hx:x.ev e=some (.str m):=by rfl)(hy:y.ev e=some (.str c):=by rfl):Ops T H b (⟨some t,.bin .add x y,g,none⟩::l) k ⟨e,ds⟩ s Q:=by
 have e1:Nat.ble (m.length+c.length) 4611686018427387904=true:=Nat.ble_eq_true_of_le hn
 refine opA h hw ?_
 simp only [opF,hx,hy,binD,zOp,e1,ofO]
theorem zTt (hX:TX T){m:List UInt8}(hl:m.length≤1000000000):EvP T H 59 [.str m,.str [48]] s fun d s1=>d= .str (m.dropWhile (· ==48))∧s1=s:=by
 refine evI hX.t59 ?_
 cases m with
 | nil=>
  try refine go ?_
  exact rtF ⟨rfl,rfl⟩
 | cons a r=>
  have h0:((a::r)==([]:List UInt8))=false:=rfl
  try refine go ?_
  refine clE (zTu (c:=48) hX hl) ?_
  rintro d s2 ⟨rfl,rfl⟩
  try refine go ?_
  exact rtF ⟨rfl,rfl⟩
theorem Ws.shape {x:D}{V:List Nat}(hx:Ws s x V):(∃o n cp,x= .sl o 0 n cp)∨∃nl z L,x= .vs nl z L:=by
 rcases hx with ⟨nl,V,hnl⟩ | _ | ⟨o,cp,V,R,hg,hc⟩
 ·exact .inr ⟨_,_,_,rfl⟩
 ·exact .inr ⟨_,_,_,rfl⟩
 ·exact .inl ⟨_,_,_,rfl⟩
theorem Ws.zero {x:D}(hx:Ws s x []):(∃o cp,x= .sl o 0 0 cp)∨∃nl z,x= .vs nl z []:=by
 generalize hV:([]:List Nat)=V at hx
 rcases hx with ⟨nl,V,hnl⟩ | _ | ⟨o,cp,V,R,hg,hc⟩
 ·subst hV; exact .inr ⟨_,_,rfl⟩
 ·exact .inr ⟨_,_,rfl⟩
 ·subst hV; exact .inl ⟨_,_,rfl⟩
theorem yHy (hW:TW T)(hV:TV T)(hX:TX T){x:D}{ng:Bool}{V:List Nat}(hs:s.Ok)(hx:Ws s x V)(hl:V.length≤100000)(hw:∀v∈V,v < 4294967296):EvP T H 30 [.agg [.bool ng,x]] s fun d s1=>d= .str (zRb ng V)∧Beh (fun _=>False) s s1:=by
 have hmax:maxLen=9223372036854775807:=by decide
 refine evI hX.t30 ?_
 have h1:=zFc (H:=H) hW hx (by omega)
 have h2:=zBy V
 have h3:=zHv V
 have hpc:∀ {s' :St} {n0:Nat} {dP:D},zPm V≠ []→PcAt s' n0 dP (zAd (valN (zPm V)))→∃po,dP= .sl po 0 (zAd (valN (zPm V))).length (zAd (valN (zPm V))).length:=by
  intro s' n0 dP h0 h
  have hv:=zJv V h0
  have hne:zAd (valN (zPm V))≠ []:=by rw [zDn (by omega)]; simp
  generalize zAd (valN (zPm V))=P at h hne
  rcases h with _ | ⟨o,P,h,_,_⟩
  ·exact absurd rfl hne
  ·exact⟨o,rfl⟩
 have htx:zPm V≠ []→zRb ng V=(if ng then [45] else [])++(zBq (zAd (valN (zPm V)))).dropWhile (· ==48):=by
  intro h0
  rw [zRb,if_neg h0,zJu]
 have hpl:(zAd (valN (zPm V))).length≤200000:=by
  have:=zJz (V:=zPm V) (fun v hv=>hw v (by rw [h3]at hv; exact List.mem_of_mem_take hv))
  omega
 have hml:(zBq (zAd (valN (zPm V)))).length≤4000000:=by
  have key:∀L:List Nat,(L.flatMap dig9).length=9 * L.length:=by
   intro L
   induction L with
   | nil=>rfl
   | cons a r ih=>rw [List.flatMap_cons,List.length_append,ih,List.length_cons]; simp only [dig9,List.length_map,List.length_cons,List.length_nil]; omega
  rw [zBq,key,List.length_reverse]; omega
 rcases hx.shape with ⟨o,n,cp,rfl⟩ | ⟨nl,z,L,rfl⟩
 all_goals
  try refine go ?_
  refine clE h1 ?_
  rintro d s1 ⟨rfl,h4⟩
  by_cases h0:zPm V=[]
  ·rw [h0]at h4
   have htx:zRb ng V=[48]:=by rw [zRb,if_pos h0]
   rcases h4.shape with ⟨o',n',cp',rfl⟩ | ⟨nl',z',L',rfl⟩
   all_goals
    try refine go ?_
    refine clE (zWu hW hs h4 (by decide)) ?_
    rintro d2 s2 ⟨h5,h6⟩
    rcases h5.zero with ⟨o2,cp2,rfl⟩ | ⟨nl2,z2,rfl⟩
    all_goals
     try refine go ?_
     rw [htx]
     exact rtF ⟨rfl,h6.mono fun _ h=>h.elim⟩
  ·have h7:=yHe (H:=H) hW hs h4 h0 (by simp only [mxE]; omega)
   rcases h4.shape with ⟨o',n',cp',rfl⟩ | ⟨nl',z',L',rfl⟩
   all_goals
    try refine go ?_
    refine clE h7 ?_
    rintro d2 s2 ⟨rfl,h5,h6⟩
    have hp0:0 < (zPm V).length:=List.length_pos_iff.2 h0
    have hp1:(((zPm V).length:Int)==0)=false:=by rw [beq_eq_false_iff_ne]; omega
    try refine go ?_
    have hok2:=h6.ok
    refine loop_ev (V:=zPm V) (n0:=s1.n) hW hX hok2 h5 rfl (Nat.le_refl _) h6.n (by omega) (fun v hv=>hw v (by rw [h3]at hv; exact List.mem_of_mem_take hv)) (zDe _) rfl ?_
    intro s3 dP y1 y2 d1 d2 d3
    obtain⟨po,rfl⟩:∃po,dP= .sl po 0 (zAd (valN (zPm V))).length (zAd (valN (zPm V))).length:=hpc h0 y1
    have hok3:=y2.ok
    try refine go ?_
    refine clE (zGq hV (oI)) ?_
    rintro d s4 ⟨rfl,rfl⟩
    try refine go ?_
    have b5:Beh (fun _=>False) s3 ((s3.push0 (.var 146 (.agg [.nilp,.vs true 0 []]))).push0 (.var 38 (.sl po 0 (zAd (valN (zPm V))).length (zAd (valN (zPm V))).length))):=Beh.push (Beh.push (Beh.refl hok3) _) _
    refine yIe (bx:=s3.n) (P:=zAd (valN (zPm V))) (n0:=s1.n) hV hX b5.ok (y1.beh hok3 b5 (fun _ _ _ _ h=>h)) hpl (zXs _) ⟨⟨.nilp,.inl rfl,gI⟩,.inl ⟨rfl,rfl⟩⟩ St.gpE rfl rfl ?_
    intro s6 yd w1 w2 w3
    have hn2:=h6.n
    have hn3:=y2.n
    have hn5:=b5.n
    have hn6:=w3.n
    try refine go ?_
    refine clE (yEt hX w3.ok w1 hml) ?_
    rintro d s7 ⟨rfl,x1⟩
    have hbe:Beh (fun _=>False) s1 s7:=by
     have b0:=h6.trans' y2 (fun j (hj:s1.n≤j) h=>by omega)
     have b1:=b0.trans' b5 (fun _ h _=>h)
     have b2:=b1.trans' w3 (fun j (hj:j=s3.n) h=>by omega)
     exact b2.trans' x1 (fun j hj h=>by
      rcases hj with hj | ⟨l,c,hj⟩
      ·omega
      ·have:=w2 _ _ _ hj; omega)
    try refine go ?_
    refine clE (zTt hX (by omega)) ?_
    rintro d s8 ⟨rfl,rfl⟩
    rw [htx h0]
    cases ng
    ·try refine go ?_
     exact rtF ⟨rfl,hbe⟩
    ·try refine go ?_
     refine zMz (m:=[45]) (c:=(zBq (zAd (valN (zPm V)))).dropWhile (· ==48)) ?_ (by have:=(List.dropWhile_sublist (l:=zBq (zAd (valN (zPm V)))) (· ==48)).length_le; rw [List.length_singleton]; omega)
     try refine go ?_
     exact rtF ⟨rfl,hbe⟩
end
section
variable {T:Nat→Option AFn}{H:zAa}{s:St}
theorem yAj {b:Nat}{k:List Kont}{l:List zPk}{Q:QP}{t lo hi:Nat}{e:Env}{ds:List (D×List D)}{g:Option (Nat×Bool)}{x y z:Opd}{m:List UInt8}(h:Ops T H b l k ⟨(t,.str ((m.take hi).drop lo))::e,ds⟩ s Q)(hl:lo≤hi)(hn:hi≤m.length)(hw:wtD e g=some true:=by rfl)(hx:x.ev e=some (.str m):=by rfl)(hy:y.ev e=some (.int .i64 (Nat.cast lo)):=by rfl)(hz:z.ev e=some (.int .i64 (Nat.cast hi)):=by rfl):Ops T H b (⟨some t,.sstr x (some y) (some z),g,none⟩::l) k ⟨e,ds⟩ s Q:=by
 have e1:Nat.ble lo hi=true:=Nat.ble_eq_true_of_le hl
 have e2:Nat.ble hi m.length=true:=Nat.ble_eq_true_of_le hn
 have e3:idxo 0 (some (.int .i64 (lo:Int)))=some lo:=by simp [idxo,idx]
 have e4:evo e (some y)=some (some (.int .i64 (lo:Int))):=by simp [evo,hy]
 have e5:idxo m.length (some (.int .i64 (hi:Int)))=some hi:=by simp [idxo,idx]
 have e6:evo e (some z)=some (some (.int .i64 (hi:Int))):=by simp [evo,hz]
 refine opA h hw ?_
 simp only [opF,hx,e4,e3,e1,e5,e6,e2]
theorem yIk (hX:TX T){n:Nat}(hn:n < 100):EvP T H 102 [.int .i64 n] s fun d s1=>s1=s∧∃l,d= .str l∧l.length≤1000:=by
 refine evI hX.t102 ?_
 rcases Nat.lt_or_ge n 10 with h | h
 ·have e1:decide ((n:Int) < 10)=true:=decide_eq_true (by omega)
  have w1:IntKind.wrap .i64 ((n:Int)+1)=((n+1:Nat):Int):=by rw [wrap_small (by omega) (by omega)]; omega
  try refine go ?_
  try rw [w1]
  refine yAj (lo:=n) (hi:=n+1) ?_ (by omega) ?_
  ·try refine go ?_
   refine rtF ⟨rfl,_,rfl, ?_⟩
   rw [List.length_drop]
   refine Nat.le_trans (Nat.sub_le _ _) (Nat.le_trans (List.length_take_le _ _) ?_)
   omega
  ·exact Nat.le_trans (show n+1≤36 by omega) (Nat.le_of_eq rfl)
 ·have e1:decide ((n:Int) < 10)=false:=decide_eq_false (by omega)
  have w1:IntKind.wrap .i64 ((n:Int) * 2)=((n * 2:Nat):Int):=by rw [wrap_small (by omega) (by omega)]; omega
  have w2:IntKind.wrap .i64 (((n * 2:Nat):Int)+2)=((n * 2+2:Nat):Int):=by rw [wrap_small (by omega) (by omega)]; omega
  try refine go ?_
  try simp only [w1,w2]
  refine yAj (lo:=n * 2) (hi:=n * 2+2) ?_ (by omega) ?_
  ·try refine go ?_
   refine rtF ⟨rfl,_,rfl, ?_⟩
   rw [List.length_drop]
   refine Nat.le_trans (Nat.sub_le _ _) (Nat.le_trans (List.length_take_le _ _) ?_)
   omega
  ·exact Nat.le_trans (show n * 2+2≤200 by omega) (Nat.le_of_eq rfl)
theorem itoa_ev (hX:TX T){n:Nat}(hn:n < 100):EvP T H 32 [.int .i64 n] s fun d s1=>s1=s∧∃l,d= .str l∧l.length≤1000:=by
 have e0:decide ((0:Int)≤(n:Int))=true:=decide_eq_true (by omega)
 have e1:decide ((n:Int) < 100)=true:=decide_eq_true (by omega)
 refine evI hX.t32 ?_
 try refine go ?_
 refine zAi hX.t64 ?_
 try refine go ?_
 refine zAi hX.t87 ?_
 try refine go ?_
 refine clE (yIk hX hn) ?_
 rintro d s2 ⟨rfl,l,rfl,hl⟩
 try refine go ?_
 exact rtF ⟨rfl,l,rfl,hl⟩
end
structure zEo (s:St)(o la ta:Nat)(V:List D):Prop where
 go:s.get o=some (.var 108 (.agg [.sl la 0 V.length V.length,.sl ta 0 V.length V.length,.vs true 0 []]))
 gl:s.get la=some (.arr 1 52 V 0)
 gt:s.get ta=some (.arr 1 4 (List.replicate V.length (.bool true)) 0)
 ol:o≠la
 ot:o≠ta
 lt:la≠ta
theorem zEo.beh {W:Nat→Prop}{s s1:St}{o la ta:Nat}{V:List D}(h:zEo s o la ta V)(hs:s.Ok)(hb:Beh W s s1)(h1: ¬ W o)(h2: ¬ W la)(h3: ¬ W ta):zEo s1 o la ta V:=
 ⟨hb.get hs h.go h1,hb.get hs h.gl h2,hb.get hs h.gt h3,h.ol,h.ot,h.lt⟩
structure StA (s:St)(so o la ta pl mp:Nat)(P Sh:Nat)(V:List D)(n lv tk:Nat):Prop where
 go:s.get so=some (.var 56 (.agg [.int .i64 0,.int .i64 P,.int .i64 Sh,.vs true 0 [],.vs true 0 [],.nilp,.ptr o 0,.int .i64 n,.int .i64 lv,.int .i64 0,.ptr pl 0,.bool false]))
 gp:s.get pl=some (.var 111 (.agg [.mp mp,.int .i64 tk]))
 gm:s.get mp=some (.map [] 0)
 sl:zEo s o la ta V
 nd:[so,o,la,ta,pl,mp].Nodup
def OfS (so o la ta pl:Nat):Nat→Prop:=fun j=>j=so∨j=o∨j=la∨j=ta∨j=pl
theorem zEo.up {s:St}{o la ta:Nat}{V:List D}(h:zEo s o la ta V)(k:Nat):zEo (s.up k) o la ta V:=⟨h.go,h.gl,h.gt,h.ol,h.ot,h.lt⟩
section
variable {s s1:St}{so o la ta pl mp P Sh n lv tk:Nat}{V:List D}
theorem StA.up (h:StA s so o la ta pl mp P Sh V n lv tk)(k:Nat):StA (s.up k) so o la ta pl mp P Sh V n lv tk:=⟨h.go,h.gp,h.gm,h.sl.up k,h.nd⟩
theorem StA.beh {W:Nat→Prop}(h:StA s so o la ta pl mp P Sh V n lv tk)(hs:s.Ok)(hb:Beh W s s1)(hw:∀j,(OfS so o la ta pl j∨j=mp)→ ¬ W j):StA s1 so o la ta pl mp P Sh V n lv tk:=
 ⟨hb.get hs h.go (hw _ (by simp [OfS])),hb.get hs h.gp (hw _ (by simp [OfS])),hb.get hs h.gm (hw _ (by simp)),h.sl.beh hs hb (hw _ (by simp [OfS])) (hw _ (by simp [OfS])) (hw _ (by simp [OfS])),h.nd⟩
theorem StA.lt (h:StA s so o la ta pl mp P Sh V n lv tk)(hs:s.Ok){j:Nat}(hj:OfS so o la ta pl j∨j=mp):j < s.n:=by
 have m1:=hs.lt h.go; have m2:=hs.lt h.sl.go; have m3:=hs.lt h.sl.gl; have m4:=hs.lt h.sl.gt; have m5:=hs.lt h.gp; have m6:=hs.lt h.gm
 rcases hj with (hj | hj | hj | hj | hj) | hj <;> omega
end
section
variable {T:Nat→Option AFn}{H:zAa}
theorem zGs (hT:TS T){s:St}{o la ta:Nat}{V:List D}{ty:Nat}{x:D}(hs:s.Ok)(h:zEo s o la ta V)(hV:V.length+1≤mxE):
  EvP T H 18 [.ptr o 0,.ifc ty x] s fun d s1=>d= .int .i64 V.length∧zEo s1 o la ta (V++ [.ifc ty x])∧Beh (fun j=>j=o∨j=la∨j=ta) s s1:=by
 have ho:=h.go; have hl:=h.gl; have ht:=h.gt; have h1:=h.ol; have h2:=h.ot; have h3:=h.lt
 have l1:=hs.lt ho; have l2:=hs.lt hl; have l3:=hs.lt ht
 refine evI hT.t18 ?_
 try refine go ?_
 refine rtF ⟨?_,⟨?_, ?_, ?_,h1,h2,h3⟩, ?_⟩
 ·simp only [mxE]at hV
  simp only [List.length_cons,List.length_nil]
  rw [wrap_small (by omega) (by omega)]
  show D.int .i64 _=D.int .i64 _
  congr 1; omega
 ·rw [List.length_append]
  exact gI
 ·exact gI
 ·rw [List.length_append,List.length_singleton,List.replicate_succ']
  exact gI
 ·exact bI
variable {s:St}{so o la ta pl mp P Sh n lv tk:Nat}{V:List D}
theorem zTi (hT:TS T)(hs:s.Ok)(h:StA s so o la ta pl mp P Sh V n lv tk)(hn:tk < 2147483648):
  EvP T H 70 [.ptr so 0] s fun d s1=>StA s1 so o la ta pl mp P Sh V n lv (tk+1)∧Beh (fun j=>j=pl) s s1:=by
 obtain⟨h1,h2,h3,⟨g1,g2,g3,k1,k2,k3⟩,h5⟩:=h
 have l1:=hs.lt h1; have l2:=hs.lt h2; have l3:=hs.lt h3; have l4:=hs.lt g1; have l5:=hs.lt g2; have l6:=hs.lt g3
 have nd:=h5
 simp only [List.nodup_cons,List.mem_cons,List.not_mem_nil,or_false,not_or,not_false_eq_true,List.nodup_nil,and_true]at h5
 obtain⟨⟨n1,n2,n3,n4,n5⟩,⟨n6,n7,n8,n9⟩,⟨n10,n11,n12⟩,⟨n13,n14⟩,n15⟩:=h5
 refine evI hT.t70 ?_
 repeat' first | refine go ?_ | refine zAi hT.t89 ?_
 have hw:IntKind.wrap .i64 ((tk:Int)+1)=((tk+1:Nat):Int):=by rw [wrap_small (by omega) (by omega)]; omega
 try simp only [hw]
 refine zBx ⟨⟨?_, ?_, ?_,⟨?_, ?_, ?_,k1,k2,k3⟩,nd⟩, ?_⟩
 ·exact gI
 ·exact gI
 ·exact gI
 ·exact gI
 ·exact gI
 ·exact gI
 ·exact bI
theorem zJp (hT:TS T)(hs:s.Ok)(h:StA s so o la ta pl mp P Sh V n lv tk)(hn:n < 2147483648)(hl:lv < 2147483648)(ht:tk < 2147483648):
  EvP T H 72 [.ptr so 0] s fun d s1=>d= .agg [.int .i64 (n+1:Nat)]∧StA s1 so o la ta pl mp P Sh V (n+1) (lv+1) (tk+1)∧Beh (fun j=>j=so∨j=pl) s s1:=by
 have hm:=zTi (H:=H) hT hs h ht
 refine evI hT.t72 ?_
 try refine go ?_
 refine clE hm ?_
 rintro d s1 ⟨⟨h1,h2,h3,⟨g1,g2,g3,k1,k2,k3⟩,h5⟩,b1⟩
 have ok1:=b1.ok
 have l1:=ok1.lt h1; have l2:=ok1.lt h2; have l3:=ok1.lt h3; have l4:=ok1.lt g1; have l5:=ok1.lt g2; have l6:=ok1.lt g3
 have nd:=h5
 simp only [List.nodup_cons,List.mem_cons,List.not_mem_nil,or_false,not_or,not_false_eq_true,List.nodup_nil,and_true]at h5
 obtain⟨⟨n1,n2,n3,n4,n5⟩,⟨n6,n7,n8,n9⟩,⟨n10,n11,n12⟩,⟨n13,n14⟩,n15⟩:=h5
 try refine go ?_
 have hw:IntKind.wrap .i64 ((n:Int)+1)=((n+1:Nat):Int):=by rw [wrap_small (by omega) (by omega)]; omega
 have hw2:IntKind.wrap .i64 ((lv:Int)+1)=((lv+1:Nat):Int):=by rw [wrap_small (by omega) (by omega)]; omega
 try simp only [hw,hw2]
 have hb:∀x:D,Beh (fun j=>j=so) s1 (s1.set0 so (.var 56 x)):=fun x=>Beh.set (W:=fun j=>j=so) (Beh.refl ok1) _ l1 (fun _=>rfl)
 have hb2:∀x y:D,Beh (fun j=>j=so) s1 ((s1.set0 so (.var 56 x)).set0 so (.var 56 y)):=fun x y=>Beh.set (W:=fun j=>j=so) (hb x) _ l1 (fun _=>rfl)
 refine rtF ⟨rfl,⟨?_, ?_, ?_,⟨?_, ?_, ?_,k1,k2,k3⟩,nd⟩,(b1.mono fun j hj=> .inr hj).trans ((hb2 _ _).mono fun j hj=> .inl hj)⟩
 ·exact gI
 ·exact gI
 ·exact gI
 ·exact gI
 ·exact gI
 ·exact gI
theorem zAb (hT:TS T){i ty:Nat}{x:D}(h:StA s so o la ta pl mp P Sh V n lv tk)(hi:V[i]? =some (.ifc ty x)):
  EvP T H 21 [.ptr so 0,.int .i64 i] s fun d s1=>d= .ifc ty x∧s1=s:=by
 obtain⟨h1,h2,h3,⟨g1,g2,g3,k1,k2,k3⟩,h5⟩:=h
 have l:i < V.length:=(List.getElem?_eq_some_iff.mp hi).1
 have ht:(List.replicate V.length (D.bool true))[0+i]? =some (.bool true):=by rw [Nat.zero_add,List.getElem?_replicate,if_pos l]
 have hi' :V[0+i]? =some (.ifc ty x):=by rw [Nat.zero_add]; exact hi
 refine evI hT.t21 ?_
 repeat' first | refine go ?_ | refine zAi hT.t47 ?_ | refine zAi hT.t78 ?_
 exact rtF ⟨rfl,rfl⟩
end
end Go.Proofs.YtmcdajnpdekocaaGreatDoor.Tab
