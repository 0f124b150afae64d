/- Part. -/
import Derived.Test.YtmcdajnpdekocaaGreatDoorG36
set_option linter.unusedSectionVars false
set_option linter.unusedSimpArgs false
set_option linter.unusedVariables false
set_option maxRecDepth 100000
set_option maxHeartbeats 2000000
namespace Go.Proofs.YtmcdajnpdekocaaGreatDoor.Tab
open Go Go.Ab Go.Ab.Sm
def hu (h:Int):Nat:=(h % 18446744073709551616).toNat
theorem hu_lt (h:Int):hu h < 2 ^ 64:=by unfold hu; omega
theorem zNh (n:Int):IntKind.wrap .u64 n=n % 18446744073709551616:=by
 simp only [IntKind.wrap,IntKind.signed,IntKind.bits]
 rfl
theorem zSw (h:Int):IntKind.wrap .u64 h=(hu h:Int):=by rw [zNh]; unfold hu; omega
theorem zCv {n:Int}(h1:0≤n)(h2:n < 18446744073709551616):IntKind.wrap .u64 n=n:=by rw [zNh]; omega
def trl (log:Nat)(h:Int)(j:Nat):Nat×Nat:=Trail.iter (Trail.step log) j (hu h % 2 ^ log,hu h)
theorem zRr {α:Type}(f:α→α):∀(n:Nat) (x:α),Trail.iter f (n+1) x=f (Trail.iter f n x)
 | 0,x=>rfl
 | n+1,x=>by
  show Trail.iter f (n+1) (f x)=_
  rw [zRr f n (f x)]; rfl
theorem zNk (log:Nat)(h:Int)(j:Nat):trl log h (j+1)=Trail.step log (trl log h j):=zRr _ _ _
theorem zFz (log:Nat)(h:Int)(j:Nat):(trl log h j).1 < 2 ^ log:=Trail.cell_lt log j _ _ (Nat.mod_lt _ (Nat.two_pow_pos log))
theorem zIv (log:Nat)(h:Int):∀j,(trl log h j).2 < 2 ^ 64
 | 0=>hu_lt h
 | j+1=>by
  rw [zNk]
  exact Nat.lt_of_le_of_lt (Nat.div_le_self _ _) (zIv log h j)
theorem zZe {log:Nat}(h:log≤15):1≤2 ^ log∧2 ^ log≤32768:=⟨Nat.one_le_two_pow,(Nat.pow_le_pow_right (n:=2) (by decide) h:2 ^ log≤2 ^ 15)⟩
theorem ushl1 {log:Nat}(h:log≤15):IntKind.wrap .u64 (1 * 2 ^ min (Int.toNat (log:Int)) (IntKind.bits .u64))=((2 ^ log:Nat):Int):=by
 have e:min (Int.toNat (log:Int)) (IntKind.bits .u64)=log:=by
  show min (Int.toNat (log:Int)) 64=log
  rw [Int.toNat_natCast]; omega
 have e2:(1:Int) * 2 ^ log=((2 ^ log:Nat):Int):=by rw [Int.one_mul]; norm_cast
 have key:∀N:Nat,N≤32768→IntKind.wrap .u64 (N:Int)=(N:Int):=fun N h=>zCv (by omega) (by omega)
 rw [e,e2]
 exact key _ (zZe h).2
theorem zTh {N:Nat}(h1:1≤N)(h2:N≤32768):IntKind.wrap .u64 ((N:Int) - 1)=((N - 1:Nat):Int):=by
 rw [zCv (by omega) (by omega)]; omega
theorem zJf {a log:Nat}(ha:a < 2 ^ 64)(h:log≤15):IntKind.wrap .u64 (((BitVec.ofInt (IntKind.bits .u64) (a:Int)) &&& (BitVec.ofInt (IntKind.bits .u64) ((2 ^ log - 1:Nat):Int))).toNat:Int)=((a % 2 ^ log:Nat):Int):=by
 have hp:=zZe h
 have e1:(BitVec.ofInt (IntKind.bits .u64) (a:Int)).toNat=a:=by
  show (BitVec.ofInt 64 (a:Int)).toNat=a
  rw [BitVec.toNat_ofInt]; omega
 have e2:(BitVec.ofInt (IntKind.bits .u64) ((2 ^ log - 1:Nat):Int)).toNat=2 ^ log - 1:=by
  show (BitVec.ofInt 64 ((2 ^ log - 1:Nat):Int)).toNat=_
  rw [BitVec.toNat_ofInt]
  have hm:2 ^ log - 1 < 18446744073709551616:=by omega
  clear e1
  generalize 2 ^ log - 1=m at hm ⊢
  omega
 rw [BitVec.toNat_and,e1,e2,Nat.and_two_pow_sub_one_eq_mod]
 have:=Nat.mod_lt a (Nat.two_pow_pos log)
 generalize a % 2 ^ log=m at this ⊢
 generalize 2 ^ log=N at this hp
 exact zCv (by omega) (by omega)
section
variable {T:Nat→Option AFn}{H:zAa}
theorem first_ev (hT:TT T){s:St}{h:Int}{log:Nat}(hl:log≤15):EvP T H 139 [.int .i64 h,.int .i64 (log:Nat)] s fun d s1=>s1=s∧d= .int .i64 ((trl log h 0).1:Nat):=by
 have hp:=zZe hl
 have e1:=ushl1 hl
 have e2:=zTh hp.1 hp.2
 have e3:=zJf (hu_lt h) hl
 have e4:=zFz log h 0
 have e5:IntKind.wrap .i64 ((hu h % 2 ^ log:Nat):Int)=((trl log h 0).1:Nat):=by
  show IntKind.wrap .i64 (((trl log h 0).1:Nat):Int)=_
  generalize (trl log h 0).1=c at e4 ⊢
  generalize 2 ^ log=N at e4 hp
  exact wrap_small (by omega) (by omega)
 refine evI hT.t139 ?_
 try refine go ?_
 rw [zSw h,e1,e2,e3,e5]
 exact rtF ⟨rfl,rfl⟩
end
theorem shr5 {p:Nat}:Int.fdiv (p:Int) (2 ^ min (Int.toNat 5) (IntKind.bits .u64))=((p / 32:Nat):Int):=by
 have e:(2:Int) ^ min (Int.toNat 5) (IntKind.bits .u64)=32:=rfl
 rw [e,Int.fdiv_eq_ediv_of_nonneg _ (by decide)]
 omega
theorem zZx {c p N:Nat}(hc:c < N)(hp:p < 2 ^ 64)(hN:N≤32768):IntKind.wrap .u64 (IntKind.wrap .u64 (IntKind.wrap .u64 (5 * (c:Int))+((p / 32:Nat):Int))+1)=((5 * c+p / 32+1:Nat):Int):=by
 rw [zCv (n:=5 * (c:Int)) (by omega) (by omega),zCv (n:=5 * (c:Int)+((p / 32:Nat):Int)) (by omega) (by omega),zCv (by omega) (by omega)]
 omega
section
variable {T:Nat→Option AFn}{H Y:zAa}
theorem all_ev (hT:TT T){s:St}{h:Int}{log:Nat}(hs:s.Ok):EvP T H 153 [.int .i64 h,.int .i64 (log:Nat)] s fun d s1=>d= .fn (.func 168) [] [.ptr (s.n+1) 0,.ptr s.n 0]∧s1.get s.n=some (.var 3 (.int .i64 h))∧s1.get (s.n+1)=some (.var 3 (.int .i64 (log:Nat)))∧s1.n=s.n+2∧Beh Nil s s1:=by
 have hb:=Beh.push (Beh.push (Beh.refl (W:=Nil) hs) (.var 3 (.int .i64 h))) (.var 3 (.int .i64 (log:Nat)))
 refine evI hT.t153 ?_
 try refine go ?_
 exact rtF ⟨rfl,St.gpN St.gpE (by rw [St.nP0]; omega),St.gpE,rfl,hb⟩
theorem alls_ev (hT:TT T){s:St}{k lb hb log:Nat}{h:Int}(I:Nat→St→Prop)(R:St→Prop)(hlog:log≤15)(h0:I 0 s)
  (hI:∀j s,I j s→s.get lb=some (.var 3 (.int .i64 (log:Nat)))∧s.get hb=some (.var 3 (.int .i64 h)))
  (hY:∀j s,j < 2 ^ log+13→I j s→∃c s',Y 0 (.lv (.yl k)::[.int .i64 ((trl log h j).1:Nat)]) s=some (.bool c,s')∧(c=true→I (j+1) s')∧(c=false→R s'))
  (hR:∀s,I (2 ^ log+13) s→R s):
  EvP T Y 168 [.yl k,.ptr lb 0,.ptr hb 0] s fun _ s1=>R s1:=by
 obtain⟨g1,g2⟩:=hI 0 s h0
 have hp:=zZe hlog
 have e1:=ushl1 hlog
 have e2:=zTh hp.1 hp.2
 have e3:=zJf (hu_lt h) hlog
 have e4:=shl1 (log:=log) (by omega)
 have e5:IntKind.wrap .i64 (((2 ^ log:Nat):Int)+13)=((2 ^ log+13:Nat):Int):=by
  generalize 2 ^ log=N at hp ⊢
  rw [wrap_small (by omega) (by omega)]; omega
 refine evI hT.t168 ?_
 try refine go ?_
 rw [zSw h,e1,e2,e3,e4,e5]
 refine zAh (2 ^ log+13) (fun j=> [(0,.yl k),(4,.int .u64 (2 ^ log - 1:Nat)),(5,.int .u64 ((trl log h j).2:Nat)),(6,.int .u64 ((trl log h j).1:Nat)),(23,.int .i64 (2 ^ log+13:Nat)),(24,.int .i64 (j:Nat))]) I h0 ?_
 intro j s' hj hIj
 rcases Nat.lt_or_ge j (2 ^ log+13) with hl | hl
 ·obtain⟨c,s2,y1,y2,y3⟩:=hY j s' hl hIj
  have q1:=zFz log h j
  have q2:=zIv log h j
  have q3:=zNk log h j
  have q4:IntKind.wrap .i64 ((trl log h j).1:Int)=((trl log h j).1:Int):=by
   generalize (trl log h j).1=c at q1 ⊢
   generalize 2 ^ log=N at q1 hp
   exact wrap_small (by omega) (by omega)
  have q5:=zJf (a:=5 * (trl log h j).1+(trl log h j).2 / 32+1) (log:=log) (by
   generalize (trl log h j).1=c at q1 ⊢
   generalize 2 ^ log=N at q1 hp
   omega) hlog
  have q6:=zZx q1 q2 hp.2
  have q7:(trl log h (j+1)).1=(5 * (trl log h j).1+(trl log h j).2 / 32+1) % 2 ^ log:=by rw [q3]; rfl
  have q8:(trl log h (j+1)).2=(trl log h j).2 / 32:=by rw [q3]; rfl
  generalize (trl log h j).1=cc at y1 q1 q4 q5 q6 q7 ⊢
  generalize (trl log h j).2=pp at q2 q5 q6 q7 q8 ⊢
  try refine go ?_
  rw [q4]
  refine zKb ?_
  refine clE (R:=fun d s1=>d= .bool c∧s1=s2) ⟨_,_,Ev.yield y1,rfl,rfl⟩ ?_
  rintro d s3 ⟨rfl,rfl⟩
  cases c
  ·try refine go ?_
   exact rtF (y3 rfl)
  ·try refine go ?_
   rw [shr5,q6,q5,← q7,← q8]
   exact rtC hl (y2 rfl)
 ·have:j=2 ^ log+13:=by omega
  subst this
  try refine go ?_
  exact zBx (hR _ hIj)
end
structure Ent where
 h:Int
 k:Int
 v:Int
 b:Int
@[reducible] def entD (x:Ent):D:= .agg [.bool true,.int .i64 x.h,.int .i64 x.k,.int .i64 x.v,.int .i64 x.b]
inductive zOr (s:St):D→Nat→List Ent→Prop
 | nil (eo:Nat):zOr s (.vs true 0 []) eo []
 | sl (eo cp st:Nat) (E:List Ent) (h:s.get eo=some (.arr 5 243 (E.map entD) st)) (hs:st≤E.length) (hc:E.length≤cp):zOr s (.sl eo 0 E.length cp) eo E
theorem zOr.beh {W:Nat→Prop}{s s1:St}{x:D}{eo:Nat}{E:List Ent}(h:zOr s x eo E)(hs:s.Ok)(hb:Beh W s s1)(hw0:∀es st,s.get eo=some (.arr 5 243 es st)→ ¬ W eo):zOr s1 x eo E:=by
 rcases h with _ | ⟨_,cp,st,E,h,h1,h2⟩
 ·exact .nil eo
 ·exact .sl eo cp st E (hb.get hs h (hw0 _ _ h)) h1 h2
section
variable {T:Nat→Option AFn}{H Y:zAa}
def layRest:AC:=match yCu.body with
 | .seq _ (.seq _ r)=>r
 | _=> .skip
def zZr:AC:=match layRest with
 | .seq _ (.block _ r)=>r
 | _=> .skip
def layA:AC:=match zZr with
 | .rangef _ _ _ a _=>a
 | _=> .skip
def layB:AC:=match zZr with
 | .rangef _ _ _ _ b=>b
 | _=> .skip
def Laid (log:Nat)(h:Int)(v:Int) (C C' :List Int):Prop:=
 (∃j,j < 2 ^ log+13∧C[(trl log h j).1]? =some (-1)∧(∀i,i < j→C[(trl log h i).1]? ≠some (-1))∧C' =C.set (trl log h j).1 v)∨((∀i,i < 2 ^ log+13→C[(trl log h i).1]? ≠some (-1))∧C' =C)
theorem yFx (hT:TT T){s:St}{y b2 b3 to co ro log st i c:Nat}{x n1 n2 n3 n4:D}{b:Bool}{C:List Int}(hY:zDw T H y [21] [(2,.ptr b2 0),(3,.ptr b3 0)] layA layB Y)(hs:s.Ok)(hl:s.get (y+1)=some (.loop y .ready))
  (g2:s.get b2=some (.var 131 (.ptr to 0)))(g3:s.get b3=some (.var 3 (.int .i64 (i:Nat))))(gt:s.get to=some (.var 183 (.agg [.nilp,x,.ptr co 0,n1,n2,n3,n4])))
  (hc:CeA s co ro log b st C)(hcv:∀v∈C, -1≤v∧v < 32768)(hci:c < 2 ^ log)(hi:i < 2 * 2 ^ log / 3):
  ∃c' s',Y 0 (.lv (.yl y)::[.int .i64 (c:Nat)]) s=some (.bool c',s')∧((c' =true∧C[c]? ≠some (-1)∧CeA s' co ro log b st C∧s'.get (y+1)=some (.loop y .ready))∨(c' =false∧C[c]? =some (-1)∧CeA s' co ro log b (2 ^ log) (C.set c (i:Nat))∧s'.get (y+1)=some (.loop y (.exit 0))))∧Beh (fun j=>j=y+1∨j=ro) s s' :=by
 have ly:=hs.lt hl
 have n2:b2≠y+1:=by rintro rfl; rw [hl]at g2; cases g2
 have n3:b3≠y+1:=by rintro rfl; rw [hl]at g3; cases g3
 have nt:to≠y+1:=by rintro rfl; rw [hl]at gt; cases gt
 have nc:co≠y+1:=by rintro rfl; have:=hc.go; rw [hl]at this; cases this
 have nr:ro≠y+1:=by rintro rfl; have:=hc.gr; rw [hl]at this; cases this
 have hb1:Beh (fun j=>j=y+1) s (s.set0 (y+1) (.loop y .busy)):=Beh.set (Beh.refl hs) _ ly (fun _=>rfl)
 have hc1:=hc.beh hs hb1 nc nr
 have k2:=hb1.get hs g2 n2
 have k3:=hb1.get hs g3 n3
 have kt:=hb1.get hs gt nt
 have hget:=yEl (H:=H) hT hc1 hci hcv
 have hset:=cSet_ev (H:=H) hT hb1.ok hc1 hci (v:=(i:Nat)) (.inr ⟨by omega,by omega⟩)
 have ly1:y+1 < (s.set0 (y+1) (.loop y .busy)).n:=ly
 have hok1:=hb1.ok
 refine zGm (e:=[(21,.int .i64 (c:Nat)),(2,.ptr b2 0),(3,.ptr b3 0)]) hY _ rfl hl hs ?_
 show Run T H (.reg _) [] _ s _
 try refine go ?_
 refine zGg ⟨rfl,rfl, ?_⟩
 generalize hs1:s.set0 (y+1) (.loop y .busy)=s1 at hb1 hc1 k2 k3 kt hget hset ly1 hok1 ⊢
 have hl1:s1.get (y+1)=some (.loop y .busy):=by rw [← hs1]; exact St.gsE
 show Run T H (.block _ _) [] _ s1 _
 try refine go ?_
 refine clE hget ?_
 rintro d s2 ⟨rfl,v,hv,rfl⟩
 have hb4:∀st',Beh (fun j=>j=y+1) s2 (s2.set0 (y+1) (.loop y st')):=fun st' =>Beh.set (Beh.refl hok1) _ ly1 (fun _=>rfl)
 by_cases hv1:v= -1
 ·subst hv1
  try refine go ?_
  refine dpC hset ?_
  rintro d s3 ⟨rfl,q1,q2⟩
  have m2:b2≠ro:=by rintro rfl; have:=hc1.gr; rw [k2]at this; cases this
  have m3:b3≠ro:=by rintro rfl; have:=hc1.gr; rw [k3]at this; cases this
  have mt:to≠ro:=by rintro rfl; have:=hc1.gr; rw [kt]at this; cases this
  have w2:=q2.get hok1 k2 m2
  have w3:=q2.get hok1 k3 m3
  have wt:=q2.get hok1 kt mt
  refine⟨rfl,by simp [lost,AOp.kind,lAs,zAf,fpOf,wtD,fpRd,fpRd.objs,fpRg,Opd.ev,Env.get,sOb,D.flat,D.isAgg,cEq,D.beqs,D.beq,Nat.beq_refl,Obj.beq_rfl,laR,soR,D.bsR,D.beq_rfl,k2,k3,kt,w2,w3,wt], ?_⟩
  try refine go ?_
  have l3:=q2.get hok1 hl1 nr.symm
  have ly3:=q2.ok.lt l3
  have hb5:Beh (fun j=>j=y+1) s3 (s3.set0 (y+1) (.loop y (.exit 0))):=Beh.set (Beh.refl q2.ok) _ ly3 (fun _=>rfl)
  refine zGg ⟨rfl,l3,q2.ok,.inr ⟨rfl,hv,q1.beh q2.ok hb5 nc nr,St.gsE⟩, ?_⟩
  exact (hb1.mono fun j hj=> .inl hj).trans' ((q2.mono fun j hj=> .inr hj).trans (hb5.mono fun j hj=> .inl hj)) fun j hj _=>hj
 ·try refine go ?_
  refine zGg ⟨rfl,hl1,hok1,.inl ⟨rfl,by rw [hv]; simpa using hv1,hc1.beh hok1 (hb4 .ready) nc nr,St.gsE⟩, ?_⟩
  exact (hb1.mono fun j hj=> .inl hj).trans' ((hb4 .ready).mono fun j hj=> .inl hj) fun j hj _=>hj
end
section
variable {T:Nat→Option AFn}{H Y:zAa}
theorem lay_rng (hT:TT T){s:St}{b2 b3 to co ro log st i lb hb:Nat}{x n1 n2 n3 n4:D}{b:Bool}{C:List Int}{h:Int}{E:Env}{k:List Kont}{Q:QP}(hs:s.Ok)
  (g2:s.get b2=some (.var 131 (.ptr to 0)))(g3:s.get b3=some (.var 3 (.int .i64 (i:Nat))))(gt:s.get to=some (.var 183 (.agg [.nilp,x,.ptr co 0,n1,n2,n3,n4])))
  (hc:CeA s co ro log b st C)(hcv:∀v∈C, -1≤v∧v < 32768)(hi:i < 2 * 2 ^ log / 3)
  (gl:s.get lb=some (.var 3 (.int .i64 (log:Nat))))(gh:s.get hb=some (.var 3 (.int .i64 h)))(hlog:log≤15)
  (hg:Opd.ev E (.t 20)=some (.fn (.func 168) [] [.ptr lb 0,.ptr hb 0]))(hk:E.keep [2,3,4]=[(2,.ptr b2 0),(3,.ptr b3 0)])
  (hq:∀s1 C',Laid log h (i:Nat) C C' →(∃st',CeA s1 co ro log b st' C')→Beh (fun j=>j=ro) s s1→∀e,(e= .normal∨e= .exit 0)→Ret T H e k ⟨E,[(.nilf,[])]⟩ s1 Q):
  Run T H zZr k ⟨E,[]⟩ s Q:=by
 show Run T H (.rangef _ _ _ _ _) k ⟨E,[]⟩ s Q
 refine zHx (gf:=168) (caps:=[.ptr lb 0,.ptr hb 0]) (fun Y hY=> ?_) hg hs.ro (by rw [hk]; rfl)
 have hY' :zDw T H s.n [21] [(2,.ptr b2 0),(3,.ptr b3 0)] layA layB Y:=by
  have:=hY
  simp only at this
  rw [hk]at this
  exact this
 clear hY
 have hb0:Beh (fun j=>j=s.n+1∨j=ro) s ((s.push0 .dead).push0 (.loop s.n .ready)):=Beh.push (Beh.push (Beh.refl hs) _) _
 have lr:=hs.lt hc.gr
 have lco:=hs.lt hc.go
 have lb2:=hs.lt g2; have lb3:=hs.lt g3; have lto:=hs.lt gt; have llb:=hs.lt gl; have lhb:=hs.lt gh
 have nl:∀ {o ty d},s.get o=some (.var ty d)→o≠ro:=by
  rintro o ty d ho rfl
  have:=hc.gr
  rw [ho]at this; cases this
 have fin:∀ {s2:St} {st' :LSt} {C' :List Int} {q:Nat},Beh (fun j=>j=s.n+1∨j=ro) s s2→s2.get (s.n+1)=some (.loop s.n st')→CeA s2 co ro log b q C' →Laid log h (i:Nat) C C' →(exOf st' =some .normal∨exOf st' =some (.exit 0))→
   ∃st x s3,s2.get (s.n+1)=some (.loop s.n st)∧exOf st=some x∧s2.set (s.n+1) .dead=some s3∧Ret T H x k { (⟨E,[]⟩:Fr) with defers:=(.nilf,[])::[]} s3 Q:=by
  intro s2 st' C' q hb2 hl hc2 hL hx
  have hb3:Beh (fun j=>j=s.n+1) s2 (s2.set0 (s.n+1) .dead):=Beh.set (Beh.refl hb2.ok) _ (hb2.ok.lt hl) (fun _=>rfl)
  have hb4:Beh (fun j=>j=ro) s (s2.set0 (s.n+1) .dead):=(hb2.trans (hb3.mono fun j hj=> .inl hj)).trans' (Beh.refl hb3.ok) (fun j hj _=>hj) |> fun q=>⟨q.n,q.ok,fun o ho hw=>q.same o ho (by rintro (rfl | rfl); omega; exact hw rfl)⟩
  have hc3:=hc2.beh hb2.ok hb3 (by omega) (by omega)
  rcases hx with hx | hx
  ·exact⟨st',.normal,_,hl,hx,hb2.ok.set _ _,hq _ _ hL ⟨_,hc3⟩ hb4 _ (.inl rfl)⟩
  ·exact⟨st',.exit 0,_,hl,hx,hb2.ok.set _ _,hq _ _ hL ⟨_,hc3⟩ hb4 _ (.inr rfl)⟩
 refine alls_ev hT (h:=h) (log:=log) (fun j s' =>Beh (fun j=>j=s.n+1∨j=ro) s s' ∧s'.get (s.n+1)=some (.loop s.n .ready)∧CeA s' co ro log b st C∧∀i,i < j→C[(trl log h i).1]? ≠some (-1)) _ hlog ?_ ?_ ?_ ?_
 ·exact⟨hb0,St.gpE,hc.beh hs (Beh.push (Beh.push (Beh.refl (W:=fun _=>False) hs) _) _) (fun h=>h) (fun h=>h),fun i hi=>absurd hi (Nat.not_lt_zero _)⟩
 ·rintro j s' ⟨q1,q2,q3,q4⟩
  have:=nl gl; have:=nl gh
  exact⟨q1.get hs gl (by omega),q1.get hs gh (by omega)⟩
 ·rintro j s' hj ⟨q1,q2,q3,q4⟩
  have e2:=nl g2; have e3:=nl g3; have et:=nl gt
  obtain⟨c',s2,y1,y2,y3⟩:=yFx (H:=H) (i:=i) (c:=(trl log h j).1) hT hY' q1.ok q2 (q1.get hs g2 (by omega)) (q1.get hs g3 (by omega)) (q1.get hs gt (by omega)) q3 hcv (zFz _ _ _) hi
  refine⟨c',s2,y1, ?_, ?_⟩
  ·rintro rfl
   rcases y2 with ⟨-,z1,z2,z3⟩ | ⟨z0, -⟩
   ·refine⟨q1.trans y3,z3,z2,fun i hi=> ?_⟩
    rcases Nat.lt_or_ge i j with hij | hij
    ·exact q4 i hij
    ·rw [show i=j by omega]; exact z1
   ·cases z0
  ·rintro rfl
   rcases y2 with ⟨z0, -⟩ | ⟨-,z1,z2,z3⟩
   ·cases z0
   ·exact fin (q1.trans y3) z3 z2 (.inl ⟨j,hj,z1,q4,rfl⟩) (.inr rfl)
 ·rintro s' ⟨q1,q2,q3,q4⟩
  exact fin q1 q2 q3 (.inr ⟨q4,rfl⟩) (.inl rfl)
theorem zSm:∀E:List Ent,D.beqs (E.map entD) (E.map entD)=true
 | []=>rfl
 | x::E=>by
  simp only [List.map_cons,D.beqs,zSm E,Bool.and_true]
  simp [entD,D.beq,D.beqs]
theorem obj_ents (ty st:Nat)(E:List Ent):Obj.beq (.arr 5 ty (E.map entD) st) (.arr 5 ty (E.map entD) st)=true:=by
 simp [Obj.beq,zSm]
theorem zUt (hT:TT T){s:St}{to co ro eo log st st' i cp n:Nat}{n1 n2 n3 n4:D}{b:Bool}{C:List Int}{E:List Ent}{en:Ent}(hs:s.Ok)
  (gt:s.get to=some (.var 183 (.agg [.nilp,.sl eo 0 n cp,.ptr co 0,n1,n2,n3,n4])))(ge:s.get eo=some (.arr 5 243 (E.map entD) st'))(he:E[i]? =some en)(hin:i < n)(hne:n≤E.length)(hst:st' ≤cp)
  (hc:CeA s co ro log b st C)(hcv:∀v∈C, -1≤v∧v < 32768)(hi:i < 2 * 2 ^ log / 3):
  EvP T H 160 [.ptr to 0,.int .i64 (i:Nat)] s fun _ s1=>∃C',Laid log en.h (i:Nat) C C' ∧(∃st',CeA s1 co ro log b st' C')∧Beh (fun j=>j=ro) s s1:=by
 have hlog:log≤15:=by have:=hc.hi; split at this <;> omega
 have l1:=hs.lt gt; have l2:=hs.lt ge; have l3:=hs.lt hc.go; have l4:=hs.lt hc.gr
 have hbb:Beh (fun j=>j=ro) s ((s.push0 (.var 131 (.ptr to 0))).push0 (.var 3 (.int .i64 (i:Nat)))):=Beh.push (Beh.push (Beh.refl hs) _) _
 have hbn:Beh (fun _=>False) s ((s.push0 (.var 131 (.ptr to 0))).push0 (.var 3 (.int .i64 (i:Nat)))):=Beh.push (Beh.push (Beh.refl hs) _) _
 have k1:=hbn.get hs gt (fun h=>h)
 have k2:=hbn.get hs ge (fun h=>h)
 have k3:=hc.beh hs hbn (fun h=>h) (fun h=>h)
 have g2:((s.push0 (.var 131 (.ptr to 0))).push0 (.var 3 (.int .i64 (i:Nat)))).get s.n=some (.var 131 (.ptr to 0)):=St.gpN St.gpE (by rw [St.nP0]; omega)
 have g3:((s.push0 (.var 131 (.ptr to 0))).push0 (.var 3 (.int .i64 (i:Nat)))).get (s.n+1)=some (.var 3 (.int .i64 (i:Nat))):=St.gpE
 have he' :(E.map entD)[0+i]? =some (entD en):=by rw [Nat.zero_add,List.getElem?_map,he]; rfl
 have hne' :n≤(E.map entD).length:=by rw [List.length_map]; exact hne
 refine evI hT.t160 ?_
 try refine go ?_
 generalize hs1:(s.push0 (.var 131 (.ptr to 0))).push0 (.var 3 (.int .i64 (i:Nat)))=s1 at hbb k1 k2 k3 g2 g3 ⊢
 have hok1:=hbb.ok
 have hlg:=zZq (H:=H) hT k3
 have gw:=k3.go
 refine dpC hlg ?_
 rintro d s2 ⟨rfl,rfl⟩
 have g3' :s2.get (s.push0 (.var 131 (.ptr to 0))).n=some (.var 3 (.int .i64 (i:Nat))):=g3
 have hbr:=obj_ents 243 st' E
 refine⟨rfl,by simp [lost,AOp.kind,lAs,zAf,fpOf,wtD,fpRd,fpRd.objs,fpRg,Opd.ev,Env.get,sOb,D.flat,D.isAgg,cEq,D.beqs,D.beq,Nat.beq_refl,Obj.beq_rfl,laR,soR,D.bsR,D.beq_rfl,g2,g3',k1,k2,gw,hbr], ?_⟩
 try refine go ?_
 refine dpC (all_ev hT hok1) ?_
 rintro d s2 ⟨rfl,q1,q2,q3,q4⟩
 have w1:=q4.get hok1 k1 (fun h=>h)
 have w2:=q4.get hok1 k2 (fun h=>h)
 have w3:=q4.get hok1 g2 (fun h=>h)
 have w4:=q4.get hok1 g3 (fun h=>h)
 have w5:=q4.get hok1 gw (fun h=>h)
 have k4:=k3.beh hok1 q4 (fun h=>h) (fun h=>h)
 have w4' :s2.get (s.push0 (.var 131 (.ptr to 0))).n=some (.var 3 (.int .i64 (i:Nat))):=w4
 refine⟨rfl,by simp [lost,AOp.kind,lAs,zAf,fpOf,wtD,fpRd,fpRd.objs,fpRg,Opd.ev,Env.get,sOb,D.flat,D.isAgg,cEq,D.beqs,D.beq,Nat.beq_refl,Obj.beq_rfl,laR,soR,D.bsR,D.beq_rfl,g2,g3',k1,k2,gw,w1,w2,w3,w4',w5,hbr], ?_⟩
 try refine go ?_
 refine lay_rng (b2:=s.n) (b3:=s.n+1) (i:=i) hT q4.ok w3 w4 w1 k4 hcv hi q2 q1 hlog rfl rfl ?_
 intro s3 C' r1 r2 r3 e re
 have hfin:Beh (fun j=>j=ro) s s3:=hbb.trans ((q4.mono fun j hj=>hj.elim).trans r3)
 rcases re with rfl | rfl
 ·try refine go ?_
  exact zBx ⟨C',r1,r2,hfin⟩
 ·try refine go ?_
  exact zBx ⟨C',r1,r2,hfin⟩
end
inductive zCe (log:Nat):List Int→List Int→Prop
 | nil:zCe log [] (List.replicate (2 ^ log) (-1))
 | snoc {hs C C' :List Int} {h:Int} (h0:zCe log hs C) (h1:Laid log h (hs.length:Nat) C C'):zCe log (hs++ [h]) C'
theorem zCe.len {log:Nat}{hs C:List Int}(h:zCe log hs C):C.length=2 ^ log:=by
 induction h with
 | nil=>simp
 | snoc h0 h1 ih=>
  rcases h1 with ⟨j,_,_,_,rfl⟩ | ⟨_,rfl⟩
  ·rw [List.length_set]; exact ih
  ·exact ih
theorem zCe.vals {log:Nat}{hs C:List Int}(h:zCe log hs C):∀v∈C, -1≤v∧v < (hs.length:Int):=by
 induction h with
 | nil=>intro v hv; rw [List.mem_replicate]at hv; simp [hv.2]
 | snoc h0 h1 ih=>
  intro v hv
  rw [List.length_append,List.length_singleton]
  rcases h1 with ⟨j,_,_,_,rfl⟩ | ⟨_,rfl⟩
  ·rcases List.mem_or_eq_of_mem_set hv with hv | rfl
   ·have:=ih v hv; omega
   ·omega
  ·have:=ih v hv; omega
def full (C:List Int):Nat:=C.countP (fun v=> !(v== -1))
theorem full_set {C:List Int}{i:Nat}{v:Int}:full (C.set i v)≤full C+1:=by
 unfold full
 induction C generalizing i with
 | nil=>simp
 | cons c C ih=>
  cases i with
  | zero=>simp only [List.set_cons_zero,List.countP_cons]; split <;> split <;> omega
  | succ i=>
   simp only [List.set_cons_succ,List.countP_cons]
   have:=ih (i:=i)
   omega
theorem zCe.full {log:Nat}{hs C:List Int}(h:zCe log hs C):full C≤hs.length:=by
 induction h with
 | nil=>simp [Tab.full,List.countP_replicate]
 | snoc h0 h1 ih=>
  rw [List.length_append,List.length_singleton]
  rcases h1 with ⟨j,_,_,_,rfl⟩ | ⟨_,rfl⟩
  ·exact Nat.le_trans full_set (Nat.succ_le_succ ih)
  ·omega
theorem empty_of {C:List Int}(h:full C < C.length):∃i,i < C.length∧C[i]? =some (-1):=by
 unfold full at h
 induction C with
 | nil=>simp at h
 | cons c C ih=>
  by_cases hc:c= -1
  ·exact⟨0,by simp,by simp [hc]⟩
  ·have e:(!(c== -1))=true:=by simp [hc]
   rw [List.countP_cons,if_pos e,List.length_cons]at h
   obtain⟨i,h1,h2⟩:=ih (by omega)
   exact⟨i+1,by simpa using h1,by simpa using h2⟩
theorem zCe.empty {log:Nat}{hs C:List Int}(h:zCe log hs C)(hn:hs.length < 2 ^ log)(g:Int)(J:Nat):∃i,J≤i∧i < J+(13+2 ^ log)∧C[(trl log g i).1]? =some (-1):=by
 obtain⟨b,hb,hb2⟩:=empty_of (C:=C) (by rw [h.len]; exact Nat.lt_of_le_of_lt h.full hn)
 rw [h.len]at hb
 obtain⟨k,hk,e⟩:=Trail.comes (log:=log) (c:=(trl log g J).1) (p:=(trl log g J).2) (zFz _ _ _) (zIv _ _ _) hb
 refine⟨J+k,by omega,by omega, ?_⟩
 have:trl log g (J+k)=Trail.iter (Trail.step log) k (trl log g J):=Trail.iter_add _ _ _ _
 rw [this]
 rw [show ((trl log g J).1,(trl log g J).2)=trl log g J from rfl]at e
 rw [e]; exact hb2
abbrev hsh (E:List Ent):List Int:=E.map Ent.h
theorem zCe.take {log j:Nat}{E:List Ent} {C C' :List Int}{e:Ent}(h:zCe log ((hsh E).take j) C)(he:E[j]? =some e)(h1:Laid log e.h (j:Nat) C C'):zCe log ((hsh E).take (j+1)) C' :=by
 have hl:j < E.length:=(List.getElem?_eq_some_iff.mp he).1
 have e1:(hsh E).take (j+1)=(hsh E).take j++ [e.h]:=by
  rw [List.take_add_one,List.getElem?_map,he]; rfl
 have e2:((hsh E).take j).length=j:=by simp; omega
 rw [e1]
 refine .snoc h ?_
 rw [e2]; exact h1
section
variable {T:Nat→Option AFn}{H Y:zAa}
theorem yFy (hT:TT T){s:St}{to co ro eo log st:Nat}{x n1 n2 n3 n4:D}{b:Bool}{C:List Int}{E:List Ent}(hs:s.Ok)
  (gt:s.get to=some (.var 183 (.agg [.nilp,x,.ptr co 0,n1,n2,n3,n4])))(he:zOr s x eo E)(hc:CeA s co ro log b st C)(hC:zCe log [] C)(hE:E.length≤2 * 2 ^ log / 3)(hE2:E.length≤32000):
  EvP T H 159 [.ptr to 0] s fun _ s1=>∃C' st',zCe log (hsh E) C' ∧CeA s1 co ro log b st' C' ∧Beh (fun j=>j=ro) s s1:=by
 rcases he with _ | ⟨_,cp,st',E,ge,h1,h2⟩
 ·refine evI hT.t159 ?_
  try refine go ?_
  refine zCr ?_
  try refine go ?_
  exact zBx ⟨C,st,hC,hc,Beh.refl hs⟩
 ·refine evI hT.t159 ?_
  have nro:to≠ro:=by rintro rfl; have:=hc.gr; rw [gt]at this; cases this
  have nre:eo≠ro:=by rintro rfl; have:=hc.gr; rw [ge]at this; cases this
  try refine go ?_
  refine zAh E.length (fun j=> [(0,.ptr to 0),(7,.int .i64 (E.length:Nat)),(8,.int .i64 (j:Nat))]) (fun j s' =>∃C' st',zCe log ((hsh E).take j) C' ∧CeA s' co ro log b st' C' ∧Beh (fun j=>j=ro) s s') ⟨C,st,hC,hc,Beh.refl hs⟩ ?_
  rintro j s' hj ⟨C',st2,q1,q2,q3⟩
  rcases Nat.lt_or_ge j E.length with hl | hl
  ·have hej:E[j]? =some E[j]:=List.getElem?_eq_getElem hl
   generalize E[j]=en at hej
   have hcv:∀v∈C', -1≤v∧v < 32768:=fun v hv=>by
    have:=q1.vals v hv
    rw [List.length_take,List.length_map]at this
    omega
   have hlay:=zUt (H:=H) hT q3.ok (q3.get hs gt nro) (q3.get hs ge nre) hej hl (Nat.le_refl _) (Nat.le_trans h1 h2) q2 hcv (by omega)
   try refine go ?_
   refine clE hlay ?_
   rintro d s2 ⟨C2,z1,⟨st3,z2⟩,z3⟩
   try refine go ?_
   exact rtC hl ⟨C2,st3,q1.take hej z1,z2,q3.trans z3⟩
  ·have:j=E.length:=by omega
   subst this
   try refine go ?_
   refine zBx ⟨C',st2, ?_,q2,q3⟩
   rw [List.take_of_length_le (by simp)]at q1
   exact q1
theorem yFr (hT:TT T){s:St}:EvP T H 146 [.nilp] s fun _ s1=>s1=s:=by
 refine evI hT.t146 ?_
 repeat' first | refine go ?_ | refine zAi hT.t165 ?_
 exact zBx rfl
theorem yFq (hT:TT T){s:St}:EvP T H 142 [.nilp,.int .i64 1] s fun _ s1=>s1=s:=by
 refine evI hT.t142 ?_
 repeat' first | refine go ?_ | refine zAi hT.t165 ?_
 exact zBx rfl
theorem zVz (hT:TT T){s:St}{to log:Nat}{x c n1 n2 n4:D}{m:Int}(hs:s.Ok)(gt:s.get to=some (.var 183 (.agg [.nilp,x,c,n1,n2,.int .i64 m,n4])))(hm:0≤m∧m < 1000000)(h3:3≤log)(hh:log≤15):
  EvP T H 116 [.ptr to 0,.int .i64 (log:Nat)] s fun _ s1=>∃co ro b st C,s.n≤co∧s.n≤ro∧s1.get to=some (.var 183 (.agg [.nilp,x,.ptr co 0,n1,n2,.int .i64 (m+1),n4]))∧CeA s1 co ro log b st C∧zCe log [] C∧Beh (fun j=>j=to) s s1:=by
 have hn:=cNew_ev (H:=H) hT hs h3 hh
 have lt:=hs.lt gt
 have hw:IntKind.wrap .i64 (m+1)=m+1:=wrap_small (by omega) (by omega)
 refine evI hT.t116 ?_
 try refine go ?_
 refine clE hn ?_
 rintro d s1 ⟨rfl,q1,⟨b,st,q2⟩,q3⟩
 have g1:=q3.get hs gt (fun h=>h)
 have l1:=q3.ok.lt g1
 have hok:=q3.ok
 try refine go ?_
 refine clE (yFr hT) ?_
 rintro d s2 rfl
 try refine go ?_
 rw [hw]
 have b1:∀d1 d2:D,Beh (fun j=>j=to) s1 ((s1.set0 to (.var 183 d1)).set0 to (.var 183 d2)):=fun d1 d2=>Beh.set (W:=fun j=>j=to) (Beh.set (W:=fun j=>j=to) (Beh.refl hok) _ l1 (fun _=>rfl)) _ l1 (fun _=>rfl)
 exact zBx ⟨s.n+1,s.n,b,st,_,by omega,by omega,St.gsE,q2.beh hok (b1 _ _) (by omega) (by omega),.nil,(q3.mono fun j hj=>hj.elim).trans (b1 _ _)⟩
theorem zZw (hT:TT T){s:St}(hs:s.Ok):
  EvP T H 96 [.nilp] s fun d s1=>d= .ptr s.n 0∧∃co ro b st C,s.n < co∧s.n < ro∧s1.get s.n=some (.var 183 (.agg [.nilp,.vs true 0 [],.ptr co 0,.int .i64 0,.int .i64 0,.int .i64 1,.int .i64 0]))∧CeA s1 co ro 3 b st C∧zCe 3 [] C∧Beh Nil s s1:=by
 have hb:=Beh.push (Beh.refl (W:=Nil) hs) (.var 183 (.agg [.nilp,.vs true 0 [],.nilp,.int .i64 0,.int .i64 0,.int .i64 0,.int .i64 0]))
 have hi:=zVz (H:=H) (log:=3) hT hb.ok St.gpE (m:=0) (by omega) (by omega) (by omega)
 refine evI hT.t96 ?_
 try refine go ?_
 refine clE hi ?_
 rintro d s1 ⟨co,ro,b,st,C,q1,q2,q3,q4,q5,q6⟩
 simp only [St.nP0]at q1 q2
 try refine go ?_
 exact rtF ⟨rfl,co,ro,b,st,C,q1,q2,q3,q4,q5,hb.trans' q6 (by rintro j rfl hj; omega)⟩
end
end Go.Proofs.YtmcdajnpdekocaaGreatDoor.Tab
