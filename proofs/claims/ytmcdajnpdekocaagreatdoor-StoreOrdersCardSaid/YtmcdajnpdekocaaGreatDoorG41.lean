/- Part. -/
import Derived.Test.YtmcdajnpdekocaaGreatDoorG40
set_option linter.unusedSectionVars false
set_option linter.unusedSimpArgs false
set_option linter.unusedVariables false
set_option maxRecDepth 100000
set_option maxHeartbeats 2000000
namespace Go.Proofs.YtmcdajnpdekocaaGreatDoor.Tab
open Go Go.Ab Go.Ab.Sm
section
variable {T:Nat→Option AFn}{H Y:zAa}
def zTb:AC:=match yDo.body with
 | .seq _ (.seq _ (.seq _ (.seq (.seq _ (.block _ r)) _)))=>r
 | _=> .skip
def restA:AC:=match zTb with
 | .rangef _ _ _ a _=>a
 | _=> .skip
def restB:AC:=match zTb with
 | .rangef _ _ _ _ b=>b
 | _=> .skip
theorem zXr (hV:TV T){s:St}{y b3 b6:Nat}{i n r:Int}(hY:zDw T H y [19,20] [(3,.ptr b3 0),(6,.ptr b6 0)] restA restB Y)(hs:s.Ok)(hl:s.get (y+1)=some (.loop y .ready))
  (g3:s.get b3=some (.var 3 (.int .i64 2305843009213693951)))(g6:s.get b6=some (.var 132 (.int .u64 r)))(hr:IsU r):
  ∃s',Y 0 (.lv (.yl y)::[.int .i64 i,.int .u32 n]) s=some (.bool true,s')∧s'.get (y+1)=some (.loop y .ready)∧(∃r',IsU r' ∧s'.get b6=some (.var 132 (.int .u64 r')))∧Beh (fun j=>j=y+1∨j=b6) s s' :=by
 have ly:=hs.lt hl
 have n3:b3≠y+1:=by rintro rfl; rw [hl]at g3; cases g3
 have n6:b6≠y+1:=by rintro rfl; rw [hl]at g6; cases g6
 have n36:b3≠b6:=by rintro rfl; rw [g3]at g6; simp at g6
 have hb1:Beh (fun j=>j=y+1) s (s.set0 (y+1) (.loop y .busy)):=Beh.set (Beh.refl hs) _ ly (fun _=>rfl)
 have k3:=hb1.get hs g3 n3
 have k6:=hb1.get hs g6 n6
 have hok1:=hb1.ok
 have ly1:y+1 < (s.set0 (y+1) (.loop y .busy)).n:=ly
 have hs2:0≤Int.fdiv r (2 ^ min (Int.toNat 32) (IntKind.bits .u64)):=by
  have e:(2:Int) ^ min (Int.toNat 32) (IntKind.bits .u64)=4294967296:=rfl
  have:=hr.1
  rw [e,Int.fdiv_eq_ediv_of_nonneg _ (by decide)]; omega
 obtain⟨c,s',q1,q2⟩:=zGm (e:=[(20,.int .u32 n),(19,.int .i64 i),(3,.ptr b3 0),(6,.ptr b6 0)]) (xs:=[.int .i64 i,.int .u32 n]) hY (fun c s' =>c=true∧s'.get (y+1)=some (.loop y .ready)∧(∃r',IsU r' ∧s'.get b6=some (.var 132 (.int .u64 r')))∧Beh (fun j=>j=y+1∨j=b6) s s') rfl hl hs (by
  show Run T H (.reg _) [] _ s _
  try refine go ?_
  refine zGg ⟨rfl,rfl, ?_⟩
  generalize hs1:s.set0 (y+1) (.loop y .busy)=s1 at hb1 k3 k6 ly1 hok1 ⊢
  have hl1:s1.get (y+1)=some (.loop y .busy):=by rw [← hs1]; exact St.gsE
  have l6:=hok1.lt k6
  show Run T H (.block _ _) [] _ s1 _
  try refine go ?_
  refine clE (rem64_ev hV hs2 (zEq _)) ?_
  rintro d s2 ⟨r',rfl,hr',rfl⟩
  try refine go ?_
  have hb2:Beh (fun j=>j=b6) s2 (s2.set0 b6 (.var 132 (.int .u64 r'))):=Beh.set (Beh.refl hok1) _ l6 (fun _=>rfl)
  have hl2:=hb2.get hok1 hl1 (Ne.symm n6)
  have hb3:Beh (fun j=>j=y+1) (s2.set0 b6 (.var 132 (.int .u64 r'))) ((s2.set0 b6 (.var 132 (.int .u64 r'))).set0 (y+1) (.loop y .ready)):=Beh.set (Beh.refl hb2.ok) _ (hb2.ok.lt hl2) (fun _=>rfl)
  refine zGg ⟨rfl,hl2,hb2.ok,rfl,St.gsE,⟨r',hr',hb3.get hb2.ok St.gsE n6⟩, ?_⟩
  exact (hb1.mono fun j hj=> .inl hj).trans ((hb2.mono fun j hj=> .inr hj).trans (hb3.mono fun j hj=> .inl hj)))
 obtain⟨rfl,q3⟩:=q2
 exact⟨s',q1,q3⟩
theorem zIw (hV:TV T){s:St}{b3 b6 bo:Nat}{x:D}{V:List Nat}{r:Int}{E:Env}{k:List Kont}{Q:QP}(hs:s.Ok)(hx:Ws s x V)(hl:V.length≤100000000)
  (g3:s.get b3=some (.var 3 (.int .i64 2305843009213693951)))(g6:s.get b6=some (.var 132 (.int .u64 r)))(hr:IsU r)(gb:s.get bo=some (.var 38 x))
  (hg:Opd.ev E (.t 18)=some (.fn (.func 80) [] [.ptr bo 0]))(hk:E.keep [3,6,8]=[(3,.ptr b3 0),(6,.ptr b6 0)])
  (hq:∀s1 r',IsU r' →s1.get b6=some (.var 132 (.int .u64 r'))→Beh (fun j=>j=b6) s s1→Ret T H .normal k ⟨E,[(.nilf,[])]⟩ s1 Q):
  Run T H zTb k ⟨E,[]⟩ s Q:=by
 show Run T H (.rangef _ _ _ _ _) k ⟨E,[]⟩ s Q
 refine zHx (gf:=80) (caps:=[.ptr bo 0]) (fun Y hY=> ?_) hg hs.ro (by rw [hk]; rfl)
 have hY' :zDw T H s.n [19,20] [(3,.ptr b3 0),(6,.ptr b6 0)] restA restB Y:=by
  have:=hY
  simp only at this
  rw [hk]at this
  exact this
 clear hY
 have hb0:Beh (fun j=>j=s.n+1∨j=b6) s ((s.push0 .dead).push0 (.loop s.n .ready)):=Beh.push (Beh.push (Beh.refl hs) _) _
 have l3:=hs.lt g3; have l6:=hs.lt g6; have lb:=hs.lt gb
 have nb6:bo≠b6:=by rintro rfl; rw [gb]at g6; simp at g6
 have n36:b3≠b6:=by rintro rfl; rw [g3]at g6; simp at g6
 have fin:∀ {s2:St} {r' :Int},Beh (fun j=>j=s.n+1∨j=b6) s s2→s2.get (s.n+1)=some (.loop s.n .ready)→IsU r' →s2.get b6=some (.var 132 (.int .u64 r'))→
   ∃st x s3,s2.get (s.n+1)=some (.loop s.n st)∧exOf st=some x∧s2.set (s.n+1) .dead=some s3∧Ret T H x k { (⟨E,[]⟩:Fr) with defers:=(.nilf,[])::[]} s3 Q:=by
  intro s2 r' hb2 hl2 hr' hg6
  have hb3:Beh (fun j=>j=s.n+1) s2 (s2.set0 (s.n+1) .dead):=Beh.set (Beh.refl hb2.ok) _ (hb2.ok.lt hl2) (fun _=>rfl)
  have hb4:Beh (fun j=>j=b6) s (s2.set0 (s.n+1) .dead):=(hb2.trans (hb3.mono fun j hj=> .inl hj)) |> fun q=>⟨q.n,q.ok,fun o ho hw=>q.same o ho (by rintro (rfl | rfl); omega; exact hw rfl)⟩
  exact⟨.ready,.normal,_,hl2,rfl,hb2.ok.set _ _,hq _ r' hr' (hb3.get hb2.ok hg6 (by omega)) hb4⟩
 let I:Nat→St→Prop:=fun j s' =>Beh (fun j=>j=s.n+1∨j=b6) s s' ∧s'.get (s.n+1)=some (.loop s.n .ready)∧∃r',IsU r' ∧s'.get b6=some (.var 132 (.int .u64 r'))
 have hI0:I 0 ((s.push0 .dead).push0 (.loop s.n .ready)):=⟨hb0,St.gpE,r,hr,(Beh.push (Beh.push (Beh.refl (W:=fun _=>False) hs) _) _).get hs g6 (fun h=>h)⟩
 have hY2:∀j s' (n:Nat) (i:Int),I j s' →∃c s2,Y 0 (.lv (.yl s.n)::[.int .i64 i,.int .u32 (n:Nat)]) s' =some (.bool c,s2)∧(c=true→I (j+1) s2)∧(c=false→False):=by
  rintro j s' n i ⟨q1,q2,r',q3,q4⟩
  obtain⟨s2,y1,y2,⟨r2,y3,y4⟩,y5⟩:=zXr (H:=H) (i:=i) (n:=(n:Nat)) hV hY' q1.ok q2 (q1.get hs g3 (by omega)) q4 q3
  exact⟨true,s2,y1,fun _=>⟨q1.trans y5,y2,r2,y3,y4⟩,fun h=>by cases h⟩
 have hYZ:∀ {Z:St→Prop} j s' (n:Nat) (i:Int),I j s' →∃c s2,Y 0 (.lv (.yl s.n)::[.int .i64 i,.int .u32 (n:Nat)]) s' =some (.bool c,s2)∧(c=true→I (j+1) s2)∧(c=false→Z s2):=fun j s' n i h=>by
  obtain⟨c,s2,y1,y2,y3⟩:=hY2 j s' n i h
  exact⟨c,s2,y1,y2,fun h=>(y3 h).elim⟩
 rcases hx with ⟨nl,V,hnl⟩ | _ | ⟨o,cp,V,R,go,hc⟩
 ·exact back_vs hV I _ hI0 hl (fun j s' hj=>hj.1.get hs gb (by omega)) (fun j s' n _ _ hj=>hYZ j s' n _ hj) (fun s2 ⟨q1,q2,r',q3,q4⟩=>fin q1 q2 q3 q4)
 ·refine (zXa hV ((Beh.push (Beh.push (Beh.refl (W:=fun _=>False) hs) _) _).get hs gb (fun h=>h))).mono ?_
  rintro d s1 rfl
  obtain⟨q1,q2,r',q3,q4⟩:=hI0
  exact fin q1 q2 q3 q4
 ·have lo:=hs.lt go
  have no6:o≠b6:=by rintro rfl; rw [go]at g6; cases g6
  exact yEn hV I _ hI0 hl (fun j s' hj=>⟨hj.1.get hs gb (by omega),hj.1.get hs go (by omega)⟩) (fun j s' n _ _ hj=>hYZ j s' n _ hj) (fun s2 ⟨q1,q2,r',q3,q4⟩=>fin q1 q2 q3 q4)
end
section
variable {T:Nat→Option AFn}{H:zAa}
theorem Ws.sh {s:St}{x:D}{V:List Nat}(h:Ws s x V):(∃nl z L,x= .vs nl z L)∨∃o l c,x= .sl o 0 l c:=by
 rcases h with ⟨nl,V,hn⟩ | _ | ⟨o,cp,V,R,hg,hc⟩
 ·exact .inl ⟨_,_,_,rfl⟩
 ·exact .inl ⟨_,_,_,rfl⟩
 ·exact .inr ⟨_,_,_,rfl⟩
theorem yGv (hT:TW T){s:St}{x:D}{ng:Bool}{V:List Nat}(hs:s.Ok)(hx:Ws s x V)(hV:V.length≤mxE):EvP T H 90 [.agg [.bool ng,x]] s fun d s1=>IsN s1 d (zPp ng V)∧Beh Nil s s1:=by
 have hmax:mxE=2147483648:=rfl
 have hmax2:maxLen=9223372036854775807:=by decide
 have htr:=zFc (H:=H) hT hx (by omega)
 have hle:=zBy V
 have hsh:=hx.sh
 have key:∀ {x:D},((∃nl z L,x= .vs nl z L)∨∃o l c,x= .sl o 0 l c)→EvP T H 54 [x] s (fun d s1=>s1=s∧Ws s d (zPm V))→EvP T H 90 [.agg [.bool ng,x]] s fun d s1=>IsN s1 d (zPp ng V)∧Beh Nil s s1:=by
  clear htr hsh hx
  intro x hsh htr
  rcases hsh with ⟨nl,z,L,rfl⟩ | ⟨o,l,c,rfl⟩
  all_goals
   refine evI hT.t90 ?_
   try refine go ?_
   refine dpC htr ?_
   rintro d s1 ⟨rfl,hd⟩
   have hsh:=hd.sh
   have hcl:=zWu (H:=H) hT hs hd (by omega)
   clear htr
   rcases hsh with ⟨nl',z',L',rfl⟩ | ⟨o',l',c',rfl⟩
   all_goals
    refine⟨rfl,by rfl, ?_⟩
    try refine go ?_
    refine dpC hcl ?_
    rintro d2 s2 ⟨h2,b2⟩
    have hsh2:=h2.sh
    have ok2:=b2.ok
    have hwf:=zNj (H:=H) (ng:=ng) hT h2 (by omega)
    rw [zYi]at hwf
    clear hcl
    rcases hsh2 with ⟨nl2,z2,L2,rfl⟩ | ⟨o2,l2,c2,rfl⟩
    all_goals
     refine⟨rfl,by rfl, ?_⟩
     try refine go ?_
     refine dpC hwf ?_
     rintro d3 s3 ⟨rfl,y,rfl,h3⟩
     have hsh3:=h3.sh
     rcases hsh3 with ⟨nl3,z3,L3,rfl⟩ | ⟨o3,l3,c3,rfl⟩
     all_goals
      refine⟨rfl,by rfl, ?_⟩
      repeat' first | refine go ?_ | refine zFi ?_
      exact rtF ⟨⟨_,rfl,h3⟩,b2⟩
 exact key hsh htr
theorem zRl (hT:TW T){s:St}{d:D}{n:Bool×List Nat}(hs:s.Ok)(hx:IsN s d n)(hV:n.2.length≤mxE):EvP T H 71 [d] s fun d s1=>IsN s1 d (zPp (!(zPp n.1 n.2).1) (zPp n.1 n.2).2)∧Beh Nil s s1:=by
 have hmax:mxE=2147483648:=rfl
 have hmax2:maxLen=9223372036854775807:=by decide
 obtain⟨ng,V⟩:=n
 obtain⟨x,rfl,hx⟩:=hx
 have hle:=zHc ng V
 simp only at hx hV ⊢
 have hcp:=yGv (H:=H) (ng:=ng) hT hs hx hV
 have hsh:=hx.sh
 have key:∀ {x:D},((∃nl z L,x= .vs nl z L)∨∃o l c,x= .sl o 0 l c)→EvP T H 90 [.agg [.bool ng,x]] s (fun d s1=>IsN s1 d (zPp ng V)∧Beh Nil s s1)→EvP T H 71 [.agg [.bool ng,x]] s fun d s1=>IsN s1 d (zPp (!(zPp ng V).1) (zPp ng V).2)∧Beh Nil s s1:=by
  clear hcp hsh hx
  intro x hsh hcp
  rcases hsh with ⟨nl,z,L,rfl⟩ | ⟨o,l,c,rfl⟩
  all_goals
   refine evI hT.t71 ?_
   try refine go ?_
   refine clE hcp ?_
   rintro d s1 ⟨⟨y,rfl,hd⟩,b1⟩
   have hwf:=zNj (H:=H) (ng:= !(zPp ng V).1) hT hd (by omega)
   rcases hd.sh with ⟨nl',z',L',rfl⟩ | ⟨o',l',c',rfl⟩
   all_goals
    try refine go ?_
    refine clE hwf ?_
    rintro d3 s3 ⟨rfl,y,rfl,h3⟩
    rcases h3.sh with ⟨nl3,z3,L3,rfl⟩ | ⟨o3,l3,c3,rfl⟩
    all_goals
     try refine go ?_
     exact rtF ⟨⟨_,rfl,h3⟩,b1⟩
 exact key hsh hcp
theorem zVd (hT:TW T){s:St}{d:D}{n:Bool×List Nat}(hs:s.Ok)(hx:IsN s d n)(hV:n.2.length≤mxE):EvP T H 40 [d] s fun d s1=>IsN s1 d (zPp n.1 n.2)∧Beh Nil s s1:=by
 have hng:=zRl (H:=H) hT hs hx hV
 have hle:=zHc n.1 n.2
 have hle2:=zHc (!(zPp n.1 n.2).1) (zPp n.1 n.2).2
 obtain⟨x,rfl,hx⟩:=hx
 have key:∀ {x:D},((∃nl z L,x= .vs nl z L)∨∃o l c,x= .sl o 0 l c)→EvP T H 71 [.agg [.bool n.1,x]] s (fun d s1=>IsN s1 d (zPp (!(zPp n.1 n.2).1) (zPp n.1 n.2).2)∧Beh Nil s s1)→EvP T H 40 [.agg [.bool n.1,x]] s fun d s1=>IsN s1 d (zPp n.1 n.2)∧Beh Nil s s1:=by
  clear hng hx
  intro x hsh hng
  rcases hsh with ⟨nl,z,L,rfl⟩ | ⟨o,l,c,rfl⟩
  all_goals
   refine evI hT.t40 ?_
   try refine go ?_
   refine clE hng ?_
   rintro d s1 ⟨h1,b1⟩
   have hn2:=zRl (H:=H) hT b1.ok h1 (by omega)
   obtain⟨y,rfl,h1⟩:=h1
   rw [zYj,yGk]at hn2
   rcases h1.sh with ⟨nl',z',L',rfl⟩ | ⟨o',l',c',rfl⟩
   all_goals
    try refine go ?_
    refine clE hn2 ?_
    rintro d3 s3 ⟨⟨y,rfl,h3⟩,b3⟩
    have b4:=b1.trans b3
    rcases h3.sh with ⟨nl3,z3,L3,rfl⟩ | ⟨o3,l3,c3,rfl⟩
    all_goals
     try refine go ?_
     exact rtF ⟨⟨_,rfl,h3⟩,b4⟩
 exact key hx.sh hng
end
def zQm (n:Bool×List Nat):Int:=if zPm n.2=[] then 0 else if n.1 then -1 else 1
section
variable {T:Nat→Option AFn}{H:zAa}
theorem Ws.len_sl {s:St}{o l c:Nat}{V:List Nat}(h:Ws s (.sl o 0 l c) V):l=V.length:=by cases h; rfl
theorem Ws.len_vs {s:St}{nl:Bool}{z:Nat}{L:List D}{V:List Nat}(h:Ws s (.vs nl z L) V):L=u32s V:=by cases h <;> rfl
theorem zZz (hT:TW T)(hT2:TV T){s:St}{d:D}{n:Bool×List Nat}(hs:s.Ok)(hx:IsN s d n)(hV:n.2.length≤maxLen):EvP T H 49 [d] s fun d s1=>s1=s∧d= .int .i64 (zQm n):=by
 obtain⟨ng,V⟩:=n
 obtain⟨x,rfl,hx⟩:=hx
 simp only at hx hV ⊢
 have htr:=zFc (H:=H) hT hx hV
 unfold zQm
 simp only
 have key:∀ {x:D},((∃nl z L,x= .vs nl z L)∨∃o l c,x= .sl o 0 l c)→EvP T H 54 [x] s (fun d s1=>s1=s∧Ws s d (zPm V))→EvP T H 49 [.agg [.bool ng,x]] s fun d s1=>s1=s∧d= .int .i64 (if zPm V=[] then 0 else if ng=true then -1 else 1):=by
  clear htr hx
  intro x hsh htr
  rcases hsh with ⟨nl,z,L,rfl⟩ | ⟨o,l,c,rfl⟩
  all_goals
   refine evI hT2.t49 ?_
   try refine go ?_
   refine clE htr ?_
   rintro d s1 ⟨rfl,hd⟩
   generalize zPm V=W at hd ⊢
   have hwl:(u32s W).length=W.length:=u3l W
   rcases hd.sh with ⟨nl',z',L',rfl⟩ | ⟨o',l',c',rfl⟩
   ·have:=hd.len_vs
    subst this
    cases W with
    | nil=>
     try refine go ?_
     exact rtF ⟨rfl,rfl⟩
    | cons v W=>
     rw [List.length_cons]at hwl
     cases ng
     ·try refine go ?_
      exact rtF ⟨rfl,rfl⟩
     ·try refine go ?_
      exact rtF ⟨rfl,rfl⟩
   ·have:=hd.len_sl
    subst this
    cases W with
    | nil=>
     try refine go ?_
     exact rtF ⟨rfl,rfl⟩
    | cons v W=>
     have hq:(v::W).length=W.length+1:=rfl
     cases ng
     ·try refine go ?_
      exact rtF ⟨rfl,rfl⟩
     ·try refine go ?_
      exact rtF ⟨rfl,rfl⟩
 exact key hx.sh htr
end
section
variable {T:Nat→Option AFn}{H:zAa}
theorem Ws.at_sl {s:St}{o l c i:Nat}{V:List Nat}(h:Ws s (.sl o 0 l c) V)(hi:i < V.length):∃es,s.get o=some (.arr 1 140 es 0)∧es[0+i]? =some (.int .u32 (V[i]:Nat))∧V.length≤es.length:=by
 cases h with
 | sl o cp V R hg hc=>exact ⟨_,hg,by simp [hi,List.getElem?_append],by simp⟩
theorem zMw {V:List Nat}{i:Nat}(hi:i < V.length):(u32s V)[i]? =some (.int .u32 (V[i]:Nat)):=by simp [hi]
theorem Ws.sz_vs {s:St}{nl:Bool}{z:Nat}{L:List D}{V:List Nat}(h:Ws s (.vs nl z L) V)(hp:0 < V.length):z=1:=by
 cases h
 ·rfl
 ·simp at hp
def zQl (V W:List Nat)(d:D):Prop:=∃c:Int,d= .int .i64 c∧(c= -1∨c=0∨c=1)∧(c=0↔V=W)
theorem zDa {V W:List Nat}{c:Int}(hc:c= -1∨c=1)(h:V≠W):zQl V W (.int .i64 c):=⟨c,rfl,by omega,by constructor <;> intro h'; omega; exact absurd h' h⟩
theorem zHj {V W:List Nat}{m:Nat}(h1:m < V.length)(h2:m < W.length)(e:V[m]=W[m])(h:V.drop (m+1)=W.drop (m+1)):V.drop m=W.drop m:=by
 rw [List.drop_eq_getElem_cons h1,List.drop_eq_getElem_cons h2,e,h]
def zEn:AC:=match code50.body with
 | .seq _ (.seq _ r)=>r
 | _=> .skip
theorem yHa {s:St}{V W:List Nat}{E:Env}{nl1:Bool}{z1:Nat}{L1:List D}{nl2:Bool}{z2:Nat}{L2:List D}(hd:Ws s (.vs nl1 z1 L1) V)(he:Ws s (.vs nl2 z2 L2) W)(hV:V.length≤mxE)(hW:W.length≤mxE)(hl:V.length=W.length):Run T H zEn [] ⟨(1,.vs nl2 z2 L2)::(0,.vs nl1 z1 L1)::E,[]⟩ s (QF code50.results fun d s1=>s1=s∧zQl V W d):=by
 have hmax:mxE=2147483648:=rfl
 have ul:=u3l V
 have ul2:=u3l W
 have hn:∀i:Nat,i≤2147483648→IntKind.wrap .i64 ((i:Int) - 1)=(i:Int) - 1:=fun i hi=>wrap_small (by omega) (by omega)
 have hn2:∀i:Nat,i≤2147483648→IntKind.wrap .i64 (((i+1:Nat):Int) - 1 - 1)=(i:Int) - 1:=fun i hi=>by rw [wrap_small (by omega) (by omega)]; omega
 have e1:=hd.len_vs; subst e1
 have ez1:=hd.sz_vs
 have e2:=he.len_vs; subst e2
 have ez2:=he.sz_vs
 show Run T H (.seq _ _) [] _ _ _
 try refine go ?_
 refine zAm (fun m env s' =>s' =s∧m≤V.length∧V.drop m=W.drop m∧∃i:Int,i=(m:Int) - 1∧env=[(0,.vs nl1 z1 (u32s V)),(1,.vs nl2 z2 (u32s W)),(5,.int .i64 i)]) V.length rfl ⟨rfl,Nat.le_refl _,by rw [List.drop_of_length_le (Nat.le_refl _),List.drop_of_length_le (by omega)],_, ?_,rfl⟩ ?_
 ·first | (rw [ul]; exact hn _ (by omega)) | exact hn _ (by omega)
 rintro m env s' ⟨rfl,hm,hdr,i,rfl,rfl⟩
 cases m with
 | zero=>
  try refine go ?_
  exact rtF ⟨rfl,0,rfl,by omega,by simpa using hdr⟩
 | succ m=>
  have hi:((m+1:Nat):Int) - 1=(m:Nat):=by omega
  have hw:=hn2 m (by omega)
  rw [hi]at hw ⊢
  have h1:m < V.length:=by omega
  have h2:m < W.length:=by omega
  have ea:=zMw h1
  have ez1:=ez1 (by omega)
  subst ez1
  have eb:=zMw h2
  have ez2:=ez2 (by omega)
  subst ez2
  have hds:=zHj h1 h2
  have hneq:V[m]≠W[m]→V≠W:=fun hne e=>hne (by subst e; rfl)
  generalize V[m]=v at ea hds hneq
  generalize W[m]=w at eb hds hneq
  try refine go ?_
  refine zAg (fun hc=> ?_) (fun hc=> ?_)
  ·have hlt:v < w:=by simp only [decide_eq_true_eq]at hc; omega
   try refine go ?_
   exact rtF ⟨rfl,zDa (c:= -1) (.inl rfl) (hneq (by omega))⟩
  ·have hlt: ¬ v < w:=by simp only [decide_eq_false_iff_not]at hc; omega
   try refine go ?_
   refine zAg (fun hc2=> ?_) (fun hc2=> ?_)
   ·have hgt:w < v:=by simp only [decide_eq_true_eq]at hc2; omega
    try refine go ?_
    exact rtF ⟨rfl,zDa (c:=1) (.inr rfl) (hneq (by omega))⟩
   ·have hgt: ¬ w < v:=by simp only [decide_eq_false_iff_not]at hc2; omega
    try refine go ?_
    exact rtN m (by omega) rfl ⟨rfl,by omega,hds (by omega) hdr,_,hw,rfl⟩
theorem yGw {s:St}{V W:List Nat}{E:Env}{nl1:Bool}{z1:Nat}{L1:List D}{nl2:Bool}{z2:Nat}{L2:List D}(hd:Ws s (.vs nl1 z1 L1) V)(he:Ws s (.vs nl2 z2 L2) W)(hV:V.length≤mxE)(hW:W.length≤mxE)(hl:V.length≠W.length):Run T H zEn [] ⟨(1,.vs nl2 z2 L2)::(0,.vs nl1 z1 L1)::E,[]⟩ s (QF code50.results fun d s1=>s1=s∧zQl V W d):=by
 have hmax:mxE=2147483648:=rfl
 have ul:=u3l V
 have ul2:=u3l W
 have hn:∀i:Nat,i≤2147483648→IntKind.wrap .i64 ((i:Int) - 1)=(i:Int) - 1:=fun i hi=>wrap_small (by omega) (by omega)
 have hn2:∀i:Nat,i≤2147483648→IntKind.wrap .i64 (((i+1:Nat):Int) - 1 - 1)=(i:Int) - 1:=fun i hi=>by rw [wrap_small (by omega) (by omega)]; omega
 have hne:V≠W:=fun e=>hl (by rw [e])
 have e1:=hd.len_vs; subst e1
 have e2:=he.len_vs; subst e2
 clear hd he hn hn2
 show Run T H (.seq _ _) [] _ _ _
 by_cases hlt:V.length < W.length
 ·try refine go ?_
  exact rtF ⟨rfl,zDa (c:= -1) (.inl rfl) hne⟩
 ·try refine go ?_
  exact rtF ⟨rfl,zDa (c:=1) (.inr rfl) hne⟩
theorem yHb {s:St}{V W:List Nat}{E:Env}{nl1:Bool}{z1:Nat}{L1:List D}{o2 k2 c2:Nat}(hd:Ws s (.vs nl1 z1 L1) V)(he:Ws s (.sl o2 0 k2 c2) W)(hV:V.length≤mxE)(hW:W.length≤mxE)(hl:V.length=W.length):Run T H zEn [] ⟨(1,.sl o2 0 k2 c2)::(0,.vs nl1 z1 L1)::E,[]⟩ s (QF code50.results fun d s1=>s1=s∧zQl V W d):=by
 have hmax:mxE=2147483648:=rfl
 have ul:=u3l V
 have ul2:=u3l W
 have hn:∀i:Nat,i≤2147483648→IntKind.wrap .i64 ((i:Int) - 1)=(i:Int) - 1:=fun i hi=>wrap_small (by omega) (by omega)
 have hn2:∀i:Nat,i≤2147483648→IntKind.wrap .i64 (((i+1:Nat):Int) - 1 - 1)=(i:Int) - 1:=fun i hi=>by rw [wrap_small (by omega) (by omega)]; omega
 have e1:=hd.len_vs; subst e1
 have ez1:=hd.sz_vs
 have e2:=he.len_sl; subst e2
 show Run T H (.seq _ _) [] _ _ _
 try refine go ?_
 refine zAm (fun m env s' =>s' =s∧m≤V.length∧V.drop m=W.drop m∧∃i:Int,i=(m:Int) - 1∧env=[(0,.vs nl1 z1 (u32s V)),(1,.sl o2 0 W.length c2),(5,.int .i64 i)]) V.length rfl ⟨rfl,Nat.le_refl _,by rw [List.drop_of_length_le (Nat.le_refl _),List.drop_of_length_le (by omega)],_, ?_,rfl⟩ ?_
 ·first | (rw [ul]; exact hn _ (by omega)) | exact hn _ (by omega)
 rintro m env s' ⟨rfl,hm,hdr,i,rfl,rfl⟩
 cases m with
 | zero=>
  try refine go ?_
  exact rtF ⟨rfl,0,rfl,by omega,by simpa using hdr⟩
 | succ m=>
  have hi:((m+1:Nat):Int) - 1=(m:Nat):=by omega
  have hw:=hn2 m (by omega)
  rw [hi]at hw ⊢
  have h1:m < V.length:=by omega
  have h2:m < W.length:=by omega
  have ea:=zMw h1
  have ez1:=ez1 (by omega)
  subst ez1
  obtain⟨es2,gb,eb,lb⟩:=he.at_sl h2
  have hds:=zHj h1 h2
  have hneq:V[m]≠W[m]→V≠W:=fun hne e=>hne (by subst e; rfl)
  generalize V[m]=v at ea hds hneq
  generalize W[m]=w at eb hds hneq
  try refine go ?_
  refine zAg (fun hc=> ?_) (fun hc=> ?_)
  ·have hlt:v < w:=by simp only [decide_eq_true_eq]at hc; omega
   try refine go ?_
   exact rtF ⟨rfl,zDa (c:= -1) (.inl rfl) (hneq (by omega))⟩
  ·have hlt: ¬ v < w:=by simp only [decide_eq_false_iff_not]at hc; omega
   try refine go ?_
   refine zAg (fun hc2=> ?_) (fun hc2=> ?_)
   ·have hgt:w < v:=by simp only [decide_eq_true_eq]at hc2; omega
    try refine go ?_
    exact rtF ⟨rfl,zDa (c:=1) (.inr rfl) (hneq (by omega))⟩
   ·have hgt: ¬ w < v:=by simp only [decide_eq_false_iff_not]at hc2; omega
    try refine go ?_
    exact rtN m (by omega) rfl ⟨rfl,by omega,hds (by omega) hdr,_,hw,rfl⟩
theorem yGx {s:St}{V W:List Nat}{E:Env}{nl1:Bool}{z1:Nat}{L1:List D}{o2 k2 c2:Nat}(hd:Ws s (.vs nl1 z1 L1) V)(he:Ws s (.sl o2 0 k2 c2) W)(hV:V.length≤mxE)(hW:W.length≤mxE)(hl:V.length≠W.length):Run T H zEn [] ⟨(1,.sl o2 0 k2 c2)::(0,.vs nl1 z1 L1)::E,[]⟩ s (QF code50.results fun d s1=>s1=s∧zQl V W d):=by
 have hmax:mxE=2147483648:=rfl
 have ul:=u3l V
 have ul2:=u3l W
 have hn:∀i:Nat,i≤2147483648→IntKind.wrap .i64 ((i:Int) - 1)=(i:Int) - 1:=fun i hi=>wrap_small (by omega) (by omega)
 have hn2:∀i:Nat,i≤2147483648→IntKind.wrap .i64 (((i+1:Nat):Int) - 1 - 1)=(i:Int) - 1:=fun i hi=>by rw [wrap_small (by omega) (by omega)]; omega
 have hne:V≠W:=fun e=>hl (by rw [e])
 have e1:=hd.len_vs; subst e1
 have e2:=he.len_sl; subst e2
 clear hd he hn hn2
 show Run T H (.seq _ _) [] _ _ _
 by_cases hlt:V.length < W.length
 ·try refine go ?_
  exact rtF ⟨rfl,zDa (c:= -1) (.inl rfl) hne⟩
 ·try refine go ?_
  exact rtF ⟨rfl,zDa (c:=1) (.inr rfl) hne⟩
theorem yHc {s:St}{V W:List Nat}{E:Env}{o1 k1 c1:Nat}{nl2:Bool}{z2:Nat}{L2:List D}(hd:Ws s (.sl o1 0 k1 c1) V)(he:Ws s (.vs nl2 z2 L2) W)(hV:V.length≤mxE)(hW:W.length≤mxE)(hl:V.length=W.length):Run T H zEn [] ⟨(1,.vs nl2 z2 L2)::(0,.sl o1 0 k1 c1)::E,[]⟩ s (QF code50.results fun d s1=>s1=s∧zQl V W d):=by
 have hmax:mxE=2147483648:=rfl
 have ul:=u3l V
 have ul2:=u3l W
 have hn:∀i:Nat,i≤2147483648→IntKind.wrap .i64 ((i:Int) - 1)=(i:Int) - 1:=fun i hi=>wrap_small (by omega) (by omega)
 have hn2:∀i:Nat,i≤2147483648→IntKind.wrap .i64 (((i+1:Nat):Int) - 1 - 1)=(i:Int) - 1:=fun i hi=>by rw [wrap_small (by omega) (by omega)]; omega
 have e1:=hd.len_sl; subst e1
 have e2:=he.len_vs; subst e2
 have ez2:=he.sz_vs
 show Run T H (.seq _ _) [] _ _ _
 try refine go ?_
 refine zAm (fun m env s' =>s' =s∧m≤V.length∧V.drop m=W.drop m∧∃i:Int,i=(m:Int) - 1∧env=[(0,.sl o1 0 V.length c1),(1,.vs nl2 z2 (u32s W)),(5,.int .i64 i)]) V.length rfl ⟨rfl,Nat.le_refl _,by rw [List.drop_of_length_le (Nat.le_refl _),List.drop_of_length_le (by omega)],_, ?_,rfl⟩ ?_
 ·first | (rw [ul]; exact hn _ (by omega)) | exact hn _ (by omega)
 rintro m env s' ⟨rfl,hm,hdr,i,rfl,rfl⟩
 cases m with
 | zero=>
  try refine go ?_
  exact rtF ⟨rfl,0,rfl,by omega,by simpa using hdr⟩
 | succ m=>
  have hi:((m+1:Nat):Int) - 1=(m:Nat):=by omega
  have hw:=hn2 m (by omega)
  rw [hi]at hw ⊢
  have h1:m < V.length:=by omega
  have h2:m < W.length:=by omega
  obtain⟨es,ga,ea,la⟩:=hd.at_sl h1
  have eb:=zMw h2
  have ez2:=ez2 (by omega)
  subst ez2
  have hds:=zHj h1 h2
  have hneq:V[m]≠W[m]→V≠W:=fun hne e=>hne (by subst e; rfl)
  generalize V[m]=v at ea hds hneq
  generalize W[m]=w at eb hds hneq
  try refine go ?_
  refine zAg (fun hc=> ?_) (fun hc=> ?_)
  ·have hlt:v < w:=by simp only [decide_eq_true_eq]at hc; omega
   try refine go ?_
   exact rtF ⟨rfl,zDa (c:= -1) (.inl rfl) (hneq (by omega))⟩
  ·have hlt: ¬ v < w:=by simp only [decide_eq_false_iff_not]at hc; omega
   try refine go ?_
   refine zAg (fun hc2=> ?_) (fun hc2=> ?_)
   ·have hgt:w < v:=by simp only [decide_eq_true_eq]at hc2; omega
    try refine go ?_
    exact rtF ⟨rfl,zDa (c:=1) (.inr rfl) (hneq (by omega))⟩
   ·have hgt: ¬ w < v:=by simp only [decide_eq_false_iff_not]at hc2; omega
    try refine go ?_
    exact rtN m (by omega) rfl ⟨rfl,by omega,hds (by omega) hdr,_,hw,rfl⟩
theorem yGy {s:St}{V W:List Nat}{E:Env}{o1 k1 c1:Nat}{nl2:Bool}{z2:Nat}{L2:List D}(hd:Ws s (.sl o1 0 k1 c1) V)(he:Ws s (.vs nl2 z2 L2) W)(hV:V.length≤mxE)(hW:W.length≤mxE)(hl:V.length≠W.length):Run T H zEn [] ⟨(1,.vs nl2 z2 L2)::(0,.sl o1 0 k1 c1)::E,[]⟩ s (QF code50.results fun d s1=>s1=s∧zQl V W d):=by
 have hmax:mxE=2147483648:=rfl
 have ul:=u3l V
 have ul2:=u3l W
 have hn:∀i:Nat,i≤2147483648→IntKind.wrap .i64 ((i:Int) - 1)=(i:Int) - 1:=fun i hi=>wrap_small (by omega) (by omega)
 have hn2:∀i:Nat,i≤2147483648→IntKind.wrap .i64 (((i+1:Nat):Int) - 1 - 1)=(i:Int) - 1:=fun i hi=>by rw [wrap_small (by omega) (by omega)]; omega
 have hne:V≠W:=fun e=>hl (by rw [e])
 have e1:=hd.len_sl; subst e1
 have e2:=he.len_vs; subst e2
 clear hd he hn hn2
 show Run T H (.seq _ _) [] _ _ _
 by_cases hlt:V.length < W.length
 ·try refine go ?_
  exact rtF ⟨rfl,zDa (c:= -1) (.inl rfl) hne⟩
 ·try refine go ?_
  exact rtF ⟨rfl,zDa (c:=1) (.inr rfl) hne⟩
theorem yHd {s:St}{V W:List Nat}{E:Env}{o1 k1 c1:Nat}{o2 k2 c2:Nat}(hd:Ws s (.sl o1 0 k1 c1) V)(he:Ws s (.sl o2 0 k2 c2) W)(hV:V.length≤mxE)(hW:W.length≤mxE)(hl:V.length=W.length):Run T H zEn [] ⟨(1,.sl o2 0 k2 c2)::(0,.sl o1 0 k1 c1)::E,[]⟩ s (QF code50.results fun d s1=>s1=s∧zQl V W d):=by
 have hmax:mxE=2147483648:=rfl
 have ul:=u3l V
 have ul2:=u3l W
 have hn:∀i:Nat,i≤2147483648→IntKind.wrap .i64 ((i:Int) - 1)=(i:Int) - 1:=fun i hi=>wrap_small (by omega) (by omega)
 have hn2:∀i:Nat,i≤2147483648→IntKind.wrap .i64 (((i+1:Nat):Int) - 1 - 1)=(i:Int) - 1:=fun i hi=>by rw [wrap_small (by omega) (by omega)]; omega
 have e1:=hd.len_sl; subst e1
 have e2:=he.len_sl; subst e2
 show Run T H (.seq _ _) [] _ _ _
 try refine go ?_
 refine zAm (fun m env s' =>s' =s∧m≤V.length∧V.drop m=W.drop m∧∃i:Int,i=(m:Int) - 1∧env=[(0,.sl o1 0 V.length c1),(1,.sl o2 0 W.length c2),(5,.int .i64 i)]) V.length rfl ⟨rfl,Nat.le_refl _,by rw [List.drop_of_length_le (Nat.le_refl _),List.drop_of_length_le (by omega)],_, ?_,rfl⟩ ?_
 ·first | (rw [ul]; exact hn _ (by omega)) | exact hn _ (by omega)
 rintro m env s' ⟨rfl,hm,hdr,i,rfl,rfl⟩
 cases m with
 | zero=>
  try refine go ?_
  exact rtF ⟨rfl,0,rfl,by omega,by simpa using hdr⟩
 | succ m=>
  have hi:((m+1:Nat):Int) - 1=(m:Nat):=by omega
  have hw:=hn2 m (by omega)
  rw [hi]at hw ⊢
  have h1:m < V.length:=by omega
  have h2:m < W.length:=by omega
  obtain⟨es,ga,ea,la⟩:=hd.at_sl h1
  obtain⟨es2,gb,eb,lb⟩:=he.at_sl h2
  have hds:=zHj h1 h2
  have hneq:V[m]≠W[m]→V≠W:=fun hne e=>hne (by subst e; rfl)
  generalize V[m]=v at ea hds hneq
  generalize W[m]=w at eb hds hneq
  try refine go ?_
  refine zAg (fun hc=> ?_) (fun hc=> ?_)
  ·have hlt:v < w:=by simp only [decide_eq_true_eq]at hc; omega
   try refine go ?_
   exact rtF ⟨rfl,zDa (c:= -1) (.inl rfl) (hneq (by omega))⟩
  ·have hlt: ¬ v < w:=by simp only [decide_eq_false_iff_not]at hc; omega
   try refine go ?_
   refine zAg (fun hc2=> ?_) (fun hc2=> ?_)
   ·have hgt:w < v:=by simp only [decide_eq_true_eq]at hc2; omega
    try refine go ?_
    exact rtF ⟨rfl,zDa (c:=1) (.inr rfl) (hneq (by omega))⟩
   ·have hgt: ¬ w < v:=by simp only [decide_eq_false_iff_not]at hc2; omega
    try refine go ?_
    exact rtN m (by omega) rfl ⟨rfl,by omega,hds (by omega) hdr,_,hw,rfl⟩
theorem yGz {s:St}{V W:List Nat}{E:Env}{o1 k1 c1:Nat}{o2 k2 c2:Nat}(hd:Ws s (.sl o1 0 k1 c1) V)(he:Ws s (.sl o2 0 k2 c2) W)(hV:V.length≤mxE)(hW:W.length≤mxE)(hl:V.length≠W.length):Run T H zEn [] ⟨(1,.sl o2 0 k2 c2)::(0,.sl o1 0 k1 c1)::E,[]⟩ s (QF code50.results fun d s1=>s1=s∧zQl V W d):=by
 have hmax:mxE=2147483648:=rfl
 have ul:=u3l V
 have ul2:=u3l W
 have hn:∀i:Nat,i≤2147483648→IntKind.wrap .i64 ((i:Int) - 1)=(i:Int) - 1:=fun i hi=>wrap_small (by omega) (by omega)
 have hn2:∀i:Nat,i≤2147483648→IntKind.wrap .i64 (((i+1:Nat):Int) - 1 - 1)=(i:Int) - 1:=fun i hi=>by rw [wrap_small (by omega) (by omega)]; omega
 have hne:V≠W:=fun e=>hl (by rw [e])
 have e1:=hd.len_sl; subst e1
 have e2:=he.len_sl; subst e2
 clear hd he hn hn2
 show Run T H (.seq _ _) [] _ _ _
 by_cases hlt:V.length < W.length
 ·try refine go ?_
  exact rtF ⟨rfl,zDa (c:= -1) (.inl rfl) hne⟩
 ·try refine go ?_
  exact rtF ⟨rfl,zDa (c:=1) (.inr rfl) hne⟩
theorem cmp_rest {s:St}{a b:D}{V W:List Nat}{E:Env}(hd:Ws s a V)(he:Ws s b W)(hV:V.length≤mxE)(hW:W.length≤mxE):Run T H zEn [] ⟨(1,b)::(0,a)::E,[]⟩ s (QF code50.results fun d s1=>s1=s∧zQl V W d):=by
 by_cases hl:V.length=W.length
 ·rcases hd.sh with ⟨nl1,z1,L1,rfl⟩ | ⟨o1,k1,c1,rfl⟩ <;> rcases he.sh with ⟨nl2,z2,L2,rfl⟩ | ⟨o2,k2,c2,rfl⟩
  ·exact yHa hd he hV hW hl
  ·exact yHb hd he hV hW hl
  ·exact yHc hd he hV hW hl
  ·exact yHd hd he hV hW hl
 ·rcases hd.sh with ⟨nl1,z1,L1,rfl⟩ | ⟨o1,k1,c1,rfl⟩ <;> rcases he.sh with ⟨nl2,z2,L2,rfl⟩ | ⟨o2,k2,c2,rfl⟩
  ·exact yGw hd he hV hW hl
  ·exact yGx hd he hV hW hl
  ·exact yGy hd he hV hW hl
  ·exact yGz hd he hV hW hl
theorem zYq (hT:TW T)(hT2:TV T){s:St}{x y:D}{V W:List Nat}(hx:Ws s x V)(hy:Ws s y W)(hV:V.length≤mxE)(hW:W.length≤mxE):EvP T H 50 [x,y] s fun d s1=>s1=s∧zQl (zPm V) (zPm W) d:=by
 have hmax:mxE=2147483648:=rfl
 have hmax2:maxLen=9223372036854775807:=by decide
 have htx:=zFc (H:=H) hT hx (by omega)
 have hty:=zFc (H:=H) hT hy (by omega)
 have l1:=zBy V
 have l2:=zBy W
 have key:∀ {x y:D},((∃nl z L,x= .vs nl z L)∨∃o l c,x= .sl o 0 l c)→((∃nl z L,y= .vs nl z L)∨∃o l c,y= .sl o 0 l c)→EvP T H 54 [x] s (fun d s1=>s1=s∧Ws s d (zPm V))→EvP T H 54 [y] s (fun d s1=>s1=s∧Ws s d (zPm W))→EvP T H 50 [x,y] s fun d s1=>s1=s∧zQl (zPm V) (zPm W) d:=by
  clear htx hty hx hy
  intro x y hsx hsy htx hty
  rcases hsx with ⟨nl,z,L,rfl⟩ | ⟨o,l,c,rfl⟩ <;> rcases hsy with ⟨nl',z',L',rfl⟩ | ⟨o',l',c',rfl⟩
  all_goals
   refine evI hT2.t50 ?_
   try refine go ?_
   refine clE htx ?_
   rintro d s1 ⟨rfl,hd⟩
   rcases hd.sh with ⟨nl1,z1,L1,rfl⟩ | ⟨o1,k1,c1,rfl⟩
   all_goals
    try refine go ?_
    refine clE hty ?_
    rintro d s2 ⟨rfl,he⟩
    rcases he.sh with ⟨nl2,z2,L2,rfl⟩ | ⟨o2,k2,c2,rfl⟩
    all_goals
     refine zDp ?_
     refine zDp ?_
     refine zTe ?_
     refine zNl ?_
     exact cmp_rest hd he (by omega) (by omega)
 exact key hx.sh hy.sh htx hty
end
end Go.Proofs.YtmcdajnpdekocaaGreatDoor.Tab
