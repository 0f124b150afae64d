/- Part. -/
import Derived.Test.YtmcdajnpdekocaaGreatDoorG41
set_option linter.unusedSectionVars false
set_option linter.unusedSimpArgs false
set_option linter.unusedVariables false
set_option maxRecDepth 100000
set_option maxHeartbeats 2000000
namespace Go.Proofs.YtmcdajnpdekocaaGreatDoor.Tab
open Go Go.Ab Go.Ab.Sm
section
variable {T:Nat→Option AFn}{H:zAa}
def ShW (x:D):Prop:=(∃nl z L,x= .vs nl z L)∨∃o l c,x= .sl o 0 l c
theorem IsN.sh {s:St}{d:D}{n:Bool×List Nat}(h:IsN s d n):∃y,d= .agg [.bool n.1,y]∧ShW y:=by
 obtain⟨y,e,hy⟩:=h
 exact⟨y,e,hy.sh⟩
theorem zQl.out {V W:List Nat}{d:D}(h:zQl V W d):∃c:Int,d= .int .i64 c∧(c= -1∨c=0∨c=1)∧(c=0↔V=W):=h
theorem zKr (n:Bool×List Nat):zQm n=0∨zQm n= -1∨zQm n=1:=by
 unfold zQm; split
 ·exact .inl rfl
 ·split
  ·exact .inr (.inl rfl)
  ·exact .inr (.inr rfl)
theorem zLv (n:Bool×List Nat):zQm n=0→zPm n.2=[]:=by
 unfold zQm
 split
 ·exact fun _=>by assumption
 ·split <;> (intro h; omega)
theorem formN_eq {n m:Bool×List Nat}:zPp n.1 n.2=zPp m.1 m.2↔zQm n=zQm m∧zPm n.2=zPm m.2:=by
 obtain⟨a,V⟩:=n
 obtain⟨b,W⟩:=m
 unfold zPp zQm
 simp only
 cases hV:zPm V <;> cases hW:zPm W <;> cases a <;> cases b <;> simp
theorem zZc (hT:TW T)(hT2:TV T){s:St}{d e:D}{n m:Bool×List Nat}(hs:s.Ok)(hx:IsN s d n)(hy:IsN s e m)(hn:n.2.length≤mxE)(hm:m.2.length≤mxE):
  EvP T H 23 [d,e] s fun r s1=>s1=s∧∃c:Int,r= .int .i64 c∧(c=0↔zPp n.1 n.2=zPp m.1 m.2):=by
 have hmax:mxE=2147483648:=rfl
 have hmax2:maxLen=9223372036854775807:=by decide
 have h1:=zZz (H:=H) hT hT2 hs hx (by omega)
 have h2:=zZz (H:=H) hT hT2 hs hy (by omega)
 obtain⟨x,rfl,hx'⟩:=hx
 obtain⟨y,rfl,hy'⟩:=hy
 have h3:=zYq (H:=H) hT hT2 hx' hy' hn hm
 have q1:=zKr n
 have q2:=zKr m
 rw [formN_eq]
 have z1:=zLv n
 have z2:=zLv m
 generalize zQm n=a at h1 q1 z1 ⊢
 generalize zQm m=b at h2 q2 z2 ⊢
 have z3:∀ {c:Int},a=b→(c=0↔zPm n.2=zPm m.2)→(a * c=0↔a=b∧zPm n.2=zPm m.2):=by
  intro c hab hc
  subst hab
  rw [Int.mul_eq_zero,hc]
  constructor
  ·rintro (h | h)
   ·exact⟨rfl,by rw [z1 h,z2 h]⟩
   ·exact⟨rfl,h⟩
  ·exact fun h=> .inr h.2
 clear z1 z2
 have key:∀ {x y:D},ShW x→ShW y→EvP T H 49 [.agg [.bool n.1,x]] s (fun d s1=>s1=s∧d= .int .i64 a)→EvP T H 49 [.agg [.bool m.1,y]] s (fun d s1=>s1=s∧d= .int .i64 b)→EvP T H 50 [x,y] s (fun d s1=>s1=s∧zQl (zPm n.2) (zPm m.2) d)→
   EvP T H 23 [.agg [.bool n.1,x],.agg [.bool m.1,y]] s fun r s1=>s1=s∧∃c:Int,r= .int .i64 c∧(c=0↔a=b∧zPm n.2=zPm m.2):=by
  clear h1 h2 h3 hx' hy'
  intro x y hsx hsy h1 h2 h3
  rcases hsx with ⟨nl,z,L,rfl⟩ | ⟨o,l,c,rfl⟩ <;> rcases hsy with ⟨nl',z',L',rfl⟩ | ⟨o',l',c',rfl⟩
  all_goals
   refine evI hT2.t23 ?_
   try refine go ?_
   refine dpC h1 ?_
   rintro d s1 ⟨rfl,rfl⟩
   refine⟨rfl,by rfl, ?_⟩
   try refine go ?_
   refine dpC h2 ?_
   rintro d s1 ⟨rfl,rfl⟩
   refine⟨rfl,by rfl, ?_⟩
   try refine go ?_
   refine zAg (fun hc=> ?_) (fun hc=> ?_)
   ·have hlt:a < b:=by simpa using hc
    try refine go ?_
    exact rtF ⟨rfl, -1,rfl,by omega⟩
   ·have hlt: ¬ a < b:=by simpa using hc
    try refine go ?_
    refine zAg (fun hc=> ?_) (fun hc=> ?_)
    ·have hgt:b < a:=by simpa using hc
     try refine go ?_
     exact rtF ⟨rfl,1,rfl,by omega⟩
    ·have hgt: ¬ b < a:=by simpa using hc
     have hab:a=b:=by omega
     try refine go ?_
     refine clE h3 ?_
     rintro d s1 ⟨rfl,c,rfl,hc1,hc2⟩
     have hw:IntKind.wrap .i64 (a * c)=a * c:=by
      rcases q1 with rfl | rfl | rfl <;> rcases hc1 with rfl | rfl | rfl <;> decide
     try refine go ?_
     refine rtF ⟨rfl,_,rfl, ?_⟩
     rw [hw]
     exact z3 hab hc2
 exact key hx'.sh hy'.sh h1 h2 h3
theorem Of_ev (hT:TW T)(hT2:TV T){s:St}{v:Int}(hv:v=0∨v=1∨v= -7):EvP T H 48 [.int .i64 v] s fun d s1=>s1=s∧IsN s d (if v=0 then (false,[]) else if v=1 then (false,[1]) else (true,[7])):=by
 have key:∀ng:Bool,∀V:List Nat,V.length≤maxLen→EvP T H 79 [.bool ng,.vs false 1 (u32s V)] s fun d s1=>s1=s∧IsN s d (zPp ng V):=fun ng V h=>zNj hT (.vs false V (fun h=>by cases h)) h
 rcases hv with rfl | rfl | rfl
 ·refine evI hT2.t48 ?_
  try refine go ?_
  refine clE (x:=[.bool false,.vs false 1 (u32s [0,0])]) (key false [0,0] (by decide)) ?_
  rintro d s1 ⟨rfl,y,rfl,hy⟩
  rcases hy.sh with ⟨nl,z,L,rfl⟩ | ⟨o,l,c,rfl⟩
  all_goals
   try refine go ?_
   exact rtF ⟨rfl,_,rfl,hy⟩
 ·refine evI hT2.t48 ?_
  try refine go ?_
  refine clE (x:=[.bool false,.vs false 1 (u32s [1,0])]) (key false [1,0] (by decide)) ?_
  rintro d s1 ⟨rfl,y,rfl,hy⟩
  rcases hy.sh with ⟨nl,z,L,rfl⟩ | ⟨o,l,c,rfl⟩
  all_goals
   try refine go ?_
   exact rtF ⟨rfl,_,rfl,hy⟩
 ·refine evI hT2.t48 ?_
  try refine go ?_
  refine clE (x:=[.bool true,.vs false 1 (u32s [7,0])]) (key true [7,0] (by decide)) ?_
  rintro d s1 ⟨rfl,y,rfl,hy⟩
  rcases hy.sh with ⟨nl,z,L,rfl⟩ | ⟨o,l,c,rfl⟩
  all_goals
   try refine go ?_
   exact rtF ⟨rfl,_,rfl,hy⟩
end
section
variable {T:Nat→Option AFn}{H Y:zAa}
theorem Rest_sl (hW:TW T)(hV:TV T){s:St}{o n cp:Nat}{V:List Nat}(hs:s.Ok)(hx:Ws s (.sl o 0 n cp) V)(hl:V.length≤100000000):
  EvP T H 134 [.agg [.bool false,.sl o 0 n cp],.int .i64 2305843009213693951] s fun d s1=>(∃r:Int,d= .tup [.int .i64 r,.int .i64 0])∧Beh Nil s s1:=by
 refine evI hV.t134 ?_
 try refine go ?_
 have hb1:Beh Nil s (((s.push0 (.var 3 (.int .i64 2305843009213693951))).push0 (.var 132 (.int .u64 0))).set0 (s.push0 (.var 3 (.int .i64 2305843009213693951))).n (.var 132 (.int .u64 0))):=
  Beh.set (W:=Nil) (Beh.push (Beh.push (Beh.refl hs) _) _) _ (by simp only [St.nP0]; omega) (fun h=>by simp only [St.nP0]at h; omega)
 have g3:(((s.push0 (.var 3 (.int .i64 2305843009213693951))).push0 (.var 132 (.int .u64 0))).set0 (s.push0 (.var 3 (.int .i64 2305843009213693951))).n (.var 132 (.int .u64 0))).get s.n=some (.var 3 (.int .i64 2305843009213693951)):=St.gsN (St.gpN St.gpE (by simp only [St.nP0]; omega)) (by simp only [St.nP0]; omega)
 have g6:(((s.push0 (.var 3 (.int .i64 2305843009213693951))).push0 (.var 132 (.int .u64 0))).set0 (s.push0 (.var 3 (.int .i64 2305843009213693951))).n (.var 132 (.int .u64 0))).get (s.push0 (.var 3 (.int .i64 2305843009213693951))).n=some (.var 132 (.int .u64 0)):=St.gsE
 have hn1:(s.push0 (.var 3 (.int .i64 2305843009213693951))).n=s.n+1:=rfl
 generalize hs1:((s.push0 (.var 3 (.int .i64 2305843009213693951))).push0 (.var 132 (.int .u64 0))).set0 (s.push0 (.var 3 (.int .i64 2305843009213693951))).n (.var 132 (.int .u64 0))=s1 at *
 simp only [hn1]at *
 have ok1:=hb1.ok
 have hx1:=hx.beh hs hb1 (fun _ _ _ _ h=>h)
 refine clE (zFc hW hx1 (by have:maxLen=9223372036854775807:=by decide
                            omega)) ?_
 rintro d s2 ⟨rfl,hd⟩
 rcases hd.sh with ⟨nl,z,L,rfl⟩ | ⟨o2,l2,c2,rfl⟩
 ·try refine go ?_
  refine clE (zLj hV ok1) ?_
  rintro d s3 ⟨rfl,rfl⟩
  have hb2:Beh (fun _=>False) s2 (s2.push0 (.var 38 (.vs nl z L))):=Beh.push (Beh.refl ok1) _
  have hd3:=hd.beh ok1 hb2 (fun _ _ _ _ h=>h)
  try refine go ?_
  refine zIw (b3:=s.n) (b6:=s.n+1) hV hb2.ok hd3 (Nat.le_trans (zBy V) hl) (hb2.get ok1 g3 (fun h=>h)) (hb2.get ok1 g6 (fun h=>h)) ⟨by omega,by omega⟩ St.gpE rfl rfl ?_
  intro s4 r hr g64 b4
  try refine go ?_
  exact rtF ⟨⟨_,rfl⟩,hb1.trans' ((hb2.mono (W' :=fun j=>j=s.n+1) fun j hj=>hj.elim).trans b4) (by rintro j rfl hj; omega)⟩
 ·try refine go ?_
  refine clE (zGq hV ok1) ?_
  rintro d s3 ⟨rfl,rfl⟩
  have hb2:Beh (fun _=>False) s2 (s2.push0 (.var 38 (.sl o2 0 l2 c2))):=Beh.push (Beh.refl ok1) _
  have hd3:=hd.beh ok1 hb2 (fun _ _ _ _ h=>h)
  try refine go ?_
  refine zIw (b3:=s.n) (b6:=s.n+1) hV hb2.ok hd3 (Nat.le_trans (zBy V) hl) (hb2.get ok1 g3 (fun h=>h)) (hb2.get ok1 g6 (fun h=>h)) ⟨by omega,by omega⟩ St.gpE rfl rfl ?_
  intro s4 r hr g64 b4
  try refine go ?_
  exact rtF ⟨⟨_,rfl⟩,hb1.trans' ((hb2.mono (W' :=fun j=>j=s.n+1) fun j hj=>hj.elim).trans b4) (by rintro j rfl hj; omega)⟩
theorem Rest_vs (hW:TW T)(hV:TV T){s:St}{nl0:Bool}{z0:Nat}{L0:List D}{V:List Nat}(hs:s.Ok)(hx:Ws s (.vs nl0 z0 L0) V)(hl:V.length≤100000000):
  EvP T H 134 [.agg [.bool false,.vs nl0 z0 L0],.int .i64 2305843009213693951] s fun d s1=>(∃r:Int,d= .tup [.int .i64 r,.int .i64 0])∧Beh Nil s s1:=by
 refine evI hV.t134 ?_
 try refine go ?_
 have hb1:Beh Nil s (((s.push0 (.var 3 (.int .i64 2305843009213693951))).push0 (.var 132 (.int .u64 0))).set0 (s.push0 (.var 3 (.int .i64 2305843009213693951))).n (.var 132 (.int .u64 0))):=
  Beh.set (W:=Nil) (Beh.push (Beh.push (Beh.refl hs) _) _) _ (by simp only [St.nP0]; omega) (fun h=>by simp only [St.nP0]at h; omega)
 have g3:(((s.push0 (.var 3 (.int .i64 2305843009213693951))).push0 (.var 132 (.int .u64 0))).set0 (s.push0 (.var 3 (.int .i64 2305843009213693951))).n (.var 132 (.int .u64 0))).get s.n=some (.var 3 (.int .i64 2305843009213693951)):=St.gsN (St.gpN St.gpE (by simp only [St.nP0]; omega)) (by simp only [St.nP0]; omega)
 have g6:(((s.push0 (.var 3 (.int .i64 2305843009213693951))).push0 (.var 132 (.int .u64 0))).set0 (s.push0 (.var 3 (.int .i64 2305843009213693951))).n (.var 132 (.int .u64 0))).get (s.push0 (.var 3 (.int .i64 2305843009213693951))).n=some (.var 132 (.int .u64 0)):=St.gsE
 have hn1:(s.push0 (.var 3 (.int .i64 2305843009213693951))).n=s.n+1:=rfl
 generalize hs1:((s.push0 (.var 3 (.int .i64 2305843009213693951))).push0 (.var 132 (.int .u64 0))).set0 (s.push0 (.var 3 (.int .i64 2305843009213693951))).n (.var 132 (.int .u64 0))=s1 at *
 simp only [hn1]at *
 have ok1:=hb1.ok
 have hx1:=hx.beh hs hb1 (fun _ _ _ _ h=>h)
 refine clE (zFc hW hx1 (by have:maxLen=9223372036854775807:=by decide
                            omega)) ?_
 rintro d s2 ⟨rfl,hd⟩
 rcases hd.sh with ⟨nl,z,L,rfl⟩ | ⟨o2,l2,c2,rfl⟩
 ·try refine go ?_
  refine clE (zLj hV ok1) ?_
  rintro d s3 ⟨rfl,rfl⟩
  have hb2:Beh (fun _=>False) s2 (s2.push0 (.var 38 (.vs nl z L))):=Beh.push (Beh.refl ok1) _
  have hd3:=hd.beh ok1 hb2 (fun _ _ _ _ h=>h)
  try refine go ?_
  refine zIw (b3:=s.n) (b6:=s.n+1) hV hb2.ok hd3 (Nat.le_trans (zBy V) hl) (hb2.get ok1 g3 (fun h=>h)) (hb2.get ok1 g6 (fun h=>h)) ⟨by omega,by omega⟩ St.gpE rfl rfl ?_
  intro s4 r hr g64 b4
  try refine go ?_
  exact rtF ⟨⟨_,rfl⟩,hb1.trans' ((hb2.mono (W' :=fun j=>j=s.n+1) fun j hj=>hj.elim).trans b4) (by rintro j rfl hj; omega)⟩
 ·try refine go ?_
  refine clE (zGq hV ok1) ?_
  rintro d s3 ⟨rfl,rfl⟩
  have hb2:Beh (fun _=>False) s2 (s2.push0 (.var 38 (.sl o2 0 l2 c2))):=Beh.push (Beh.refl ok1) _
  have hd3:=hd.beh ok1 hb2 (fun _ _ _ _ h=>h)
  try refine go ?_
  refine zIw (b3:=s.n) (b6:=s.n+1) hV hb2.ok hd3 (Nat.le_trans (zBy V) hl) (hb2.get ok1 g3 (fun h=>h)) (hb2.get ok1 g6 (fun h=>h)) ⟨by omega,by omega⟩ St.gpE rfl rfl ?_
  intro s4 r hr g64 b4
  try refine go ?_
  exact rtF ⟨⟨_,rfl⟩,hb1.trans' ((hb2.mono (W' :=fun j=>j=s.n+1) fun j hj=>hj.elim).trans b4) (by rintro j rfl hj; omega)⟩
theorem yGt (hW:TW T)(hV:TV T){s:St}{o n cp:Nat}{V:List Nat}{neg:Bool}(hs:s.Ok)(hx:Ws s (.sl o 0 n cp) V)(hl:V.length≤100000000):
  EvP T H 107 [.agg [.bool neg,.sl o 0 n cp]] s fun d s1=>zCm d∧Beh Nil s s1:=by
 have hr:=Rest_sl (H:=H) hW hV hs hx hl
 refine evI hV.t107 ?_
 try refine go ?_
 refine clE hr ?_
 rintro d s1 ⟨⟨r,rfl⟩,b1⟩
 have ok1:=b1.ok
 cases neg
 ·try refine go ?_
  refine clE (zEa hV ok1) ?_
  rintro d s2 ⟨rfl,g2,b2⟩
  try refine go ?_
  refine clE (zFq hV g2) ?_
  rintro d s3 ⟨⟨h,rfl⟩,rfl⟩
  try refine go ?_
  exact rtF ⟨⟨_,rfl⟩,b1.trans b2⟩
 ·try refine go ?_
  refine clE (zEa hV ok1) ?_
  rintro d s2 ⟨rfl,g2,b2⟩
  try refine go ?_
  refine clE (zFq hV g2) ?_
  rintro d s3 ⟨⟨h,rfl⟩,rfl⟩
  try refine go ?_
  exact rtF ⟨⟨_,rfl⟩,b1.trans b2⟩
theorem yGs (hW:TW T)(hV:TV T){s:St}{nl0:Bool}{z0:Nat}{L0:List D}{V:List Nat}{neg:Bool}(hs:s.Ok)(hx:Ws s (.vs nl0 z0 L0) V)(hl:V.length≤100000000):
  EvP T H 107 [.agg [.bool neg,.vs nl0 z0 L0]] s fun d s1=>zCm d∧Beh Nil s s1:=by
 have hr:=Rest_vs (H:=H) hW hV hs hx hl
 refine evI hV.t107 ?_
 try refine go ?_
 refine clE hr ?_
 rintro d s1 ⟨⟨r,rfl⟩,b1⟩
 have ok1:=b1.ok
 cases neg
 ·try refine go ?_
  refine clE (zEa hV ok1) ?_
  rintro d s2 ⟨rfl,g2,b2⟩
  try refine go ?_
  refine clE (zFq hV g2) ?_
  rintro d s3 ⟨⟨h,rfl⟩,rfl⟩
  try refine go ?_
  exact rtF ⟨⟨_,rfl⟩,b1.trans b2⟩
 ·try refine go ?_
  refine clE (zEa hV ok1) ?_
  rintro d s2 ⟨rfl,g2,b2⟩
  try refine go ?_
  refine clE (zFq hV g2) ?_
  rintro d s3 ⟨⟨h,rfl⟩,rfl⟩
  try refine go ?_
  exact rtF ⟨⟨_,rfl⟩,b1.trans b2⟩
end
structure Bd (s:St)(bx:Nat)(y:D)(m:List UInt8):Prop where
 gb:∃a,(a= .nilp∨a= .ptr bx 0)∧s.get bx=some (.var 146 (.agg [a,y]))
 hy:(y= .vs true 0 []∧m=[])∨(m≠ []∧∃o,y= .sl o 0 m.length m.length∧s.get o=some (.arr 1 5 (m.map fun c=> .int .u8 c.toNat) 0))
abbrev OfBd (bx:Nat)(y:D):Nat→Prop:=fun j=>j=bx∨∃l c,y= .sl j 0 l c
theorem Bd.beh {W:Nat→Prop}{s s1:St}{bx:Nat}{y:D}{m:List UInt8}(h:Bd s bx y m)(hs:s.Ok)(hb:Beh W s s1)(h1: ¬ W bx)(h2:∀o l c,y= .sl o 0 l c→ ¬ W o):Bd s1 bx y m:=by
 obtain⟨⟨a,ha,hg⟩,hy⟩:=h
 refine⟨⟨a,ha,hb.get hs hg h1⟩, ?_⟩
 rcases hy with hy | ⟨h3,o,h4,h5⟩
 ·exact .inl hy
 ·exact .inr ⟨h3,o,h4,hb.get hs h5 (h2 o _ _ h4)⟩
section
variable {T:Nat→Option AFn}{H:zAa}{b:Nat}{k:List Kont}{l:List zPk}{s:St}{Q:QP}{t:Nat}{e:Env}{ds:List (D×List D)}{g:Option (Nat×Bool)}
theorem ops_uptr {x:Opd}{o c ty:Nat}{v:D}(h:Ops T H b l k ⟨(t,.ptr o c)::e,ds⟩ s Q)(hw:wtD e g=some true:=by rfl)(hx:x.ev e=some (.ptr o c):=by rfl)(hg:s.get o=some (.var ty v):=by exact gI)(hl:Nat.blt c v.flat.length=true:=by rfl):Ops T H b (⟨some t,.uptr x,g,none⟩::l) k ⟨e,ds⟩ s Q:=
 opA h hw (by simp only [opF,hx,hg,hl])
theorem ops_upto {x:Opd}{o c ty:Nat}{v:D}{q:List (Nat×Nat×Nat)}(h:Ops T H b l k ⟨(t,.ptr o c)::e,ds⟩ s Q)(hw:wtD e g=some true:=by rfl)(hx:x.ev e=some (.ptr o c):=by rfl)(hg:s.get o=some (.var ty v):=by exact gI)(hl:zXd ty c v.flat.length q=true:=by rfl):Ops T H b (⟨some t,.upto q x,g,none⟩::l) k ⟨e,ds⟩ s Q:=
 opA h hw (by simp only [opF,hx,hg,hl])
theorem zXw {x y:Opd}{o c ty:Nat}{v:D}{neg oc:Bool}(h:Ops T H b l k ⟨(t,.bool (true !=neg))::e,ds⟩ s Q)(hw:wtD e g=some true:=by rfl)(hx:x.ev e=some (.ptr o c):=by rfl)(hy:y.ev e=some (.ptr o c):=by rfl)(hg:s.get o=some (.var ty v):=by exact gI)(h0:eqT oc .ptr (.ptr o c) (.ptr o c)=none:=by rfl):Ops T H b (⟨some t,.eq .ptr neg oc x y,g,none⟩::l) k ⟨e,ds⟩ s Q:=
 opA h hw (by simp only [opF,hx,hy,h0,eqP,hg,Nat.beq_refl,Bool.and_self])
theorem zIp (hT:TX T){bx:Nat}{a y:D}(hs:s.Ok)(ha:a= .nilp∨a= .ptr bx 0)(hg:s.get bx=some (.var 146 (.agg [a,y])))(hy:y.sc=true):
  EvP T H 81 [.ptr bx 0] s fun d s1=>s1.get bx=some (.var 146 (.agg [.ptr bx 0,y]))∧Beh (fun j=>j=bx) s s1:=by
 have l1:=hs.lt hg
 refine evI hT.t81 ?_
 rcases ha with rfl | rfl
 ·repeat' first | refine go ?_ | refine ops_uptr ?_ | refine ops_upto ?_
  exact zBx ⟨gI,bI⟩
 ·try refine go ?_
  refine zXw ?_
  try refine go ?_
  exact zBx ⟨hg,Beh.refl hs⟩
theorem zHk (m:List UInt8):(m.map fun c=>D.int .u8 c.toNat).length=m.length:=List.length_map _
theorem zWw (m:List UInt8):allSz 1 (m.map fun c=>D.int .u8 c.toNat)=true:=by
 induction m with
 | nil=>rfl
 | cons a r ih=>simp only [List.map_cons,allSz,ih]; rfl
theorem Write_ev (hT:TX T){bx po tyo:Nat}{y:D}{m p:List UInt8}(hs:s.Ok)(h:Bd s bx y m)(hp:p≠ [])(hl:m.length+p.length≤4000000)(hpo:s.get po=some (.arr 1 tyo (p.map fun c=> .int .u8 c.toNat) 0))(npo:∀l c,y≠ .sl po 0 l c):
  EvP T H 58 [.ptr bx 0,.sl po 0 p.length p.length] s fun _ s1=>∃y',Bd s1 bx y' (m++p)∧Beh (OfBd bx y) s s1∧∀o l c,y' = .sl o 0 l c→(y= .sl o 0 m.length m.length∨s.n≤o):=by
 obtain⟨⟨a,ha,hg⟩,hy⟩:=h
 have l1:=hs.lt hg
 have hp1:0 < p.length:=List.length_pos_iff.2 hp
 have nbp:po≠bx:=by rintro rfl; rw [hg]at hpo; cases hpo
 have hit:∀s1:St,s1.get po=some (.arr 1 tyo (p.map fun c=> .int .u8 c.toNat) 0)→items s1 (.sl po 0 p.length p.length)=some (1,p.map fun c=> .int .u8 c.toNat):=fun s1 hq=>by
  have e1:Nat.ble (0+p.length) (p.map fun c=>D.int .u8 c.toNat).length=true:=Nat.ble_eq_true_of_le (by rw [zHk]; omega)
  have e2:Nat.ble 0 (0+p.length)=true:=Nat.ble_eq_true_of_le (Nat.zero_le _)
  simp only [items,hq,e1,e2,List.drop_zero]
  rw [List.take_of_length_le (by rw [zHk]; exact Nat.le_refl _)]
 have hne:(p.map fun c=>D.int .u8 c.toNat)≠ []:=by simpa using hp
 have hpl:=zHk p
 refine evI hT.t58 ?_
 rcases hy with ⟨rfl,rfl⟩ | ⟨hm,o,rfl,ho⟩
 ·try refine go ?_
  refine clE (zIp hT hs ha hg rfl) ?_
  rintro d s1 ⟨q1,q2⟩
  have q3:=q2.ok
  have l2:=q3.lt q1
  have hpo1:=q2.get hs hpo nbp
  try refine go ?_
  refine ops_apin (hit s1 hpo1) rfl hne (zWw p) (by rw [hpl]; simp only [mxE]; omega) ?_
  rw [hpl]
  try refine go ?_
  have q5:=q2.n
  refine rtF ⟨.sl s1.n 0 p.length p.length,⟨⟨_,.inr rfl,St.gsE⟩,.inr ⟨hp,s1.n,rfl,gI⟩⟩, ?_, ?_⟩
  ·refine (q2.mono fun j hj=> .inl hj).trans' (W' :=fun j=>j=bx) ?_ fun j hj _=> .inl hj
   exact Beh.set (Beh.push (Beh.refl q3) _) _ (by rw [St.nP0]; omega) (fun _=>rfl)
  ·intro o l c e
   simp only [D.sl.injEq]at e
   exact .inr (by omega)
 ·have hml:=zHk m
  try refine go ?_
  refine clE (zIp hT hs ha hg rfl) ?_
  rintro d s1 ⟨q1,q2⟩
  have q3:=q2.ok
  have l2:=q3.lt q1
  have ne:o≠bx:=by rintro rfl; rw [hg]at ho; cases ho
  have q4:=q2.get hs ho ne
  have l3:=q3.lt q4
  have hpo1:=q2.get hs hpo nbp
  try refine go ?_
  refine zJn (hit s1 hpo1) rfl hne (zWw p) (by rw [hpl]; simp only [mxE]; omega) ?_ (o:=o) (off:=0) (len:=m.length) (cp:=m.length) (es:=m.map fun c=> .int .u8 c.toNat) (he:=by rw [hml]; omega)
  rw [hpl]
  try refine go ?_
  refine rtF ⟨.sl o 0 (m.length+p.length) (m.length+p.length),⟨⟨_,.inr rfl,St.gsE⟩,.inr ⟨by simp [hp],o,by rw [List.length_append], ?_⟩⟩, ?_, ?_⟩
  ·rw [List.map_append]
   exact gI
  ·refine (q2.mono fun j hj=> .inl hj).trans' (W' :=fun j=>j=bx∨j=o) ?_ fun j hj _=>(by rcases hj with rfl | rfl; exact .inl rfl; exact .inr ⟨_,_,rfl⟩)
   exact Beh.set (Beh.set (Beh.refl q3) _ l3 (fun _=> .inr rfl)) _ (by rw [St.nS0]; omega) (fun _=> .inl rfl)
  ·intro o' l c e
   simp only [D.sl.injEq]at e
   exact .inl (by rw [e.1])
theorem zUk {kk:Nat}{l:List (zPk×List Nat)}{acc:List Fp}{x:Opd}{o off len cp sz ty st:Nat}{es:List D}(h:DOps T H b kk l (acc++ [fpOf b e ⟨some t,.sldata x,g,none⟩]) k ⟨(t,.eptr o off 0 (off+cp))::e,ds⟩ s Q)(hg:s.get o=some (.arr sz ty es st))(hp:0 < cp)(hw:wtD e g=some true:=by rfl)(hx:x.ev e=some (.sl o off len cp):=by rfl)(hv0:Env.isLvo e (some t)=false:=by rfl):DOps T H b kk ((⟨some t,.sldata x,g,none⟩,[])::l) acc k ⟨e,ds⟩ s Q:=by
 have e1:Nat.blt 0 cp=true:=Nat.ble_eq_true_of_le hp
 exact zAl rfl hv0 (zCp rfl) h hw (by simp only [opF,hx,hg,e1]) rfl
theorem yGq {kk:Nat}{l:List (zPk×List Nat)}{acc:List Fp}{x y:Opd}{o en ty st n:Nat}{es:List D}{m:List UInt8}(h:DOps T H b kk l (acc++ [fpOf b e ⟨some t,.ustr ty x y,g,none⟩]) k ⟨(t,.str m)::e,ds⟩ (s.set0 o .dead) Q)(hs:s.Ok)(hg:s.get o=some (.arr 1 ty es st))(hn:0 < n)(hn2:n≤mxE)(h1:n≤en)(h2:en≤es.length)(h3:st≤en)(hm:bytesOf ((es.drop 0).take n)=some m)(hw:wtD e g=some true:=by rfl)(hx:x.ev e=some (.eptr o 0 0 en):=by rfl)(hy:y.ev e=some (.int .i64 (Nat.cast n)):=by rfl)(hv0:Env.isLvo e (some t)=false:=by rfl):DOps T H b kk ((⟨some t,.ustr ty x y,g,none⟩,[])::l) acc k ⟨e,ds⟩ s Q:=by
 have e1:Nat.ble n mxE=true:=Nat.ble_eq_true_of_le hn2
 have e2:Nat.ble (0+n) en=true:=Nat.ble_eq_true_of_le (by omega)
 have e3:Nat.ble en es.length=true:=Nat.ble_eq_true_of_le h2
 have e4:Nat.ble st en=true:=Nat.ble_eq_true_of_le h3
 have e5:decide ((0:Int) < (n:Int))=true:=decide_eq_true (by omega)
 refine zAl rfl hv0 (zCp rfl) h hw ?_ rfl
 simp only [opF,hx,hy,hg,Nat.beq_refl,Bool.and_self,decide_true,Int.toNat_natCast,e1,e2,e3,e4,e5,hm,hs.set,ofS]
theorem zLi:∀m:List UInt8,bytesOf (m.map fun c=> .int .u8 c.toNat)=some m
 | []=>rfl
 | c::m=>by
  simp only [List.map_cons,bytesOf,zLi m]
  simp
theorem yEt (hT:TX T){bx:Nat}{y:D}{m:List UInt8}(hs:s.Ok)(h:Bd s bx y m)(hl:m.length≤4000000):
  EvP T H 60 [.ptr bx 0] s fun d s1=>d= .str m∧Beh (OfBd bx y) s s1:=by
 obtain⟨⟨a,ha,hg⟩,hy⟩:=h
 refine evI hT.t60 ?_
 rcases hy with ⟨rfl,rfl⟩ | ⟨hm,o,rfl,ho⟩
 ·try refine go ?_
  exact rtF ⟨rfl,Beh.refl hs⟩
 ·have hml:(m.map fun c=>D.int .u8 c.toNat).length=m.length:=List.length_map _
  have hm0:0 < m.length:=List.length_pos_iff.2 hm
  have lo:=hs.lt ho
  try refine go ?_
  refine zUk ?_ ho hm0
  try refine go ?_
  refine yGq (en:=0+m.length) (n:=m.length) (m:=m) ?_ hs ho hm0 (by simp only [mxE]; omega) (by omega) (by omega) (by omega) (by rw [List.drop_zero,List.take_of_length_le (by omega)]; exact zLi m)
  try refine go ?_
  exact rtF ⟨rfl,Beh.set (Beh.refl hs) _ lo (fun _=> .inr ⟨_,_,rfl⟩)⟩
end
section
variable {T:Nat→Option AFn}{H:zAa}{s:St}
theorem yHe (hT:TW T){x:D}{V:List Nat}(hs:s.Ok)(hx:Ws s x V)(hne:V≠ [])(hV:V.length≤mxE):EvP T H 53 [x] s fun d s1=>d= .sl s.n 0 V.length V.length∧s1.get s.n=some (.arr 1 140 (u32s V) 0)∧Beh (fun _=>False) s s1:=by
 rcases hx with ⟨nl,V,hnl⟩ | _ | ⟨o,cp,V,R,hg,hc⟩
 ·cases nl with
  | true=>exact absurd (hnl rfl) hne
  | false=>
   refine evI hT.t53 ?_
   cases V with
   | nil=>exact absurd rfl hne
   | cons v V=>
    have hll:0+(u32s (v::V)).length≤mxE:=by rw [u3l,Nat.zero_add]; exact hV
    refine zJl ?_
    try refine go ?_
    refine zJn (z:=1) (m:=u32s (v::V)) rfl rfl (by simp) (zFy _) hll ?_ (es:=[]) (off:=0) (he:=rfl)
    try refine go ?_
    refine rtF ⟨?_,St.gsE,Beh.set (Beh.push (Beh.refl hs) _) _ (by rw [St.nP0]; omega) (fun h=>by omega)⟩
    rw [show 0+(u32s (v::V)).length=(v::V).length by rw [u3l]; omega]
    rfl
 ·exact absurd rfl hne
 ·refine evI hT.t53 ?_
  have lo:=hs.lt hg
  have hg1:(s.push0 (.arr 1 140 [] 0)).get o=some (.arr 1 140 (u32s (V++R)) 0):=St.gpN hg (by omega)
  obtain⟨z,hz,hz1⟩:=(Ws.sl (s:=s.push0 (.arr 1 140 [] 0)) o cp V R hg1 hc).items
  cases V with
  | nil=>exact absurd rfl hne
  | cons v V=>
   have hll:0+(u32s (v::V)).length≤mxE:=by rw [u3l,Nat.zero_add]; exact hV
   have hz2:z=1:=by rcases hz1 with h | h; exact h; cases h
   try refine go ?_
   refine zJn hz hz2 (by simp) (zFy _) hll ?_ (es:=[]) (off:=0) (he:=rfl)
   try refine go ?_
   refine rtF ⟨?_,St.gsE,Beh.set (Beh.push (Beh.refl hs) _) _ (by rw [St.nP0]; omega) (fun h=>by omega)⟩
   rw [show 0+(u32s (v::V)).length=(v::V).length by rw [u3l]; omega]
   rfl
theorem trim_sl (hT:TW T){o cp st:Nat}{V R:List Nat}(hg:s.get o=some (.arr 1 140 (u32s (V++R)) st))(hst:st≤cp)(hc:V.length≤cp)(hV:V.length≤1000000000):EvP T H 54 [.sl o 0 V.length cp] s fun d s1=>s1=s∧d= .sl o 0 (zPm V).length cp:=by
 refine evI hT.t54 ?_
 try refine go ?_
 refine zAm (fun m env s' =>s' =s∧m≤V.length∧env=[(0,.sl o 0 m cp)]∧zPm (V.take m)=zPm V) V.length rfl ⟨rfl,Nat.le_refl _,rfl,by rw [List.take_length]⟩ ?_
 rintro m env s' ⟨rfl,hm,rfl,ht⟩
 have hln:(u32s (V++R)).length=V.length+R.length:=by rw [u3l,List.length_append]
 cases m with
 | zero=>
  try refine go ?_
  refine rtF ⟨rfl, ?_⟩
  rw [← ht]
  rfl
 | succ m=>
  have hlt:m < V.length:=by omega
  have hw:IntKind.wrap .i64 (((m+1:Nat):Int) - 1)=(m:Nat):=by rw [wrap_small (by omega) (by omega)]; omega
  have he:(u32s (V++R))[0+m]? =some (.int .u32 (V[m]:Nat)):=by simp [hlt,List.getElem?_append]
  have htl:=zHf V hlt
  generalize hv:V[m]=v at he htl
  by_cases h0:v=0
  ·try refine go ?_
   simp only [hw]
   try refine go ?_
   simp only [hw]
   try refine go ?_
   refine rtN m (by omega) rfl ⟨rfl,by omega,rfl, ?_⟩
   rw [← ht,htl,h0,zDm]
  ·try refine go ?_
   simp only [hw]
   try refine go ?_
   refine rtF ⟨rfl, ?_⟩
   rw [← ht,htl,zDd h0,← htl,List.length_take,Nat.min_eq_left hm]
   rfl
theorem zSe {W:List Nat}{i:Nat}(h:i < W.length):divN (W.drop i)=(((divN (W.drop (i+1))).2 * 4294967296+W[i]) / 1000000000::(divN (W.drop (i+1))).1,((divN (W.drop (i+1))).2 * 4294967296+W[i]) % 1000000000):=by
 rw [List.drop_eq_getElem_cons h]; rfl
def divW (W:List Nat)(j:Nat):List Nat:=W.take (W.length - j)++(divN (W.drop (W.length - j))).1
theorem divW_0 (W:List Nat):divW W 0=W:=by simp [divW,divN]
theorem divW_n (W:List Nat):divW W W.length=(divN W).1:=by simp [divW]
theorem divW_len {W:List Nat}(j:Nat):(divW W j).length=W.length:=by simp [divW,zNz]
theorem divW_get {W:List Nat}{i j:Nat}(h:i+1+j=W.length)(hl:i < W.length):(divW W j)[i]? =some W[i]:=by
 rw [divW,List.getElem?_append_left (by rw [List.length_take]; omega),List.getElem?_take_of_lt (by omega),List.getElem?_eq_getElem hl]
theorem divW_set {W:List Nat}{i j:Nat}(h:i+1+j=W.length)(hl:i < W.length):(divW W j).set i (((divN (W.drop (W.length - j))).2 * 4294967296+W[i]) / 1000000000)=divW W (j+1):=by
 have e1:W.length - j=i+1:=by omega
 have e2:W.length - (j+1)=i:=by omega
 simp only [divW,e1,e2]
 rw [zSe hl,zHf W hl,List.append_assoc,List.set_append_right _ _ (by rw [List.length_take]; omega)]
 rw [show i - (List.take i W).length=0 by rw [List.length_take]; omega]
 rfl
theorem divW_r {W:List Nat}{i j:Nat}(h:i+1+j=W.length)(hl:i < W.length):(divN (W.drop (W.length - (j+1)))).2=((divN (W.drop (W.length - j))).2 * 4294967296+W[i]) % 1000000000:=by
 have e1:W.length - j=i+1:=by omega
 have e2:W.length - (j+1)=i:=by omega
 rw [e1,e2,zSe hl]
def yIf:AC:=match code30.body with
 | .seq _ (.seq _ (.seq _ (.seq _ (.seq (.block _ (.loop _ (.seq _ (.block _ (.seq _ (.seq (.seq _ (.block _ r)) _)))))) _))))=>r
 | _=> .skip
theorem pass_ev (hX:TX T){a0 a2 a4:D}{o cp st:Nat}{W R:List Nat}{k:List Kont}{Q:QP}{E:Env}(hs:s.Ok)(hg:s.get o=some (.arr 1 140 (u32s (W++R)) st))(hst:st≤cp)(hc:cp=W.length+R.length)(hn:0 < W.length)(hl:W.length≤100000)(hw:∀v∈W,v < 4294967296)
  (hE:E.keep [1,2,3,4,5,6,9]=[(1,a0),(2,a2),(3,.sl o 0 W.length cp),(4,a4),(5,.int .u32 0),(6,.int .i64 ((W.length:Int) - 1 - (0:Nat)))])
  (h:∀s1 st1,s1.get o=some (.arr 1 140 (u32s ((divN W).1++R)) st1)→st1≤cp→Beh (fun j=>j=o) s s1→∀d1 d2:D,Ret T H .normal k ⟨[(26,.bool false),(25,d1),(1,a0),(2,a2),(3,.sl o 0 W.length cp),(4,a4),(5,.int .u32 ((divN W).2:Nat)),(6,d2)],[]⟩ s1 Q):
  Run T H yIf (.block 2::k) ⟨E,[]⟩ s Q:=by
 show Run T H (.loop _ _) (.block 2::k) ⟨E,[]⟩ s Q
 have lo:=hs.lt hg
 refine zAh W.length (fun j=> [(1,a0),(2,a2),(3,.sl o 0 W.length cp),(4,a4),(5,.int .u32 ((divN (W.drop (W.length - j))).2:Nat)),(6,.int .i64 ((W.length:Int) - 1 - (j:Nat)))]) (fun j s' =>∃st1,s'.get o=some (.arr 1 140 (u32s (divW W j++R)) st1)∧st1≤cp∧Beh (fun j=>j=o) s s') ⟨st,by rw [divW_0]; exact hg,hst,Beh.refl hs⟩ ?_ (hF:=by rw [hE]; simp [divN])
 rintro j s' hj ⟨st1,q1,q0,q2⟩
 rcases Nat.lt_or_ge j W.length with h1 | h1
 ·obtain⟨i,hi⟩:∃i,i=W.length - 1 - j:=⟨_,rfl⟩
  have hij:i+1+j=W.length:=by omega
  have hil:i < W.length:=by omega
  have e1:(W.length:Int) - 1 - (j:Nat)=(i:Int):=by omega
  have e2:IntKind.wrap .i64 ((i:Int) - 1)=(W.length:Int) - 1 - ((j+1:Nat):Int):=by rw [wrap_small (by omega) (by omega)]; omega
  have d1:=divW_get hij hil
  have d2:=divW_set hij hil
  have d3:=divW_r hij hil
  have d4:=hw _ (List.getElem_mem hil)
  have d5:=zNd (W.drop (W.length - j))
  have d6:=divW_len (W:=W) j
  rw [e1]
  show Run T H _ _ ⟨[(1,a0),(2,a2),(3,.sl o 0 W.length cp),(4,a4),(5,.int .u32 ((divN (W.drop (W.length - j))).2:Nat)),(6,.int .i64 (i:Nat))],[]⟩ _ _
  generalize hV2:divW W (j+1)=V2 at d2
  generalize hr2:(divN (W.drop (W.length - (j+1)))).2=r2 at d3
  generalize (divN (W.drop (W.length - j))).2=r at *
  generalize W[i]=w at *
  have g1:(u32s (divW W j++R))[0+i]? =some (.int .u32 (w:Nat)):=by
   rw [Nat.zero_add,u32s,List.getElem?_map,List.getElem?_append_left (by omega),d1]; rfl
  have g2:(u32s (divW W j++R)).length=W.length+R.length:=by rw [u3l,List.length_append,d6]
  have g3:0+cp=(u32s (divW W j++R)).length:=by omega
  have lo2:=q2.ok.lt q1
  have ok2:=q2.ok
  try refine go ?_
  refine clE (Div32_ev hX d5 d4) ?_
  rintro d s2 ⟨rfl,rfl⟩
  try refine go ?_
  rw [e2]
  refine rtC h1 ⟨(u32s (divW W j++R)).length, ?_, ?_,Beh.set q2 _ lo2 fun _=>rfl⟩ rfl ?_
  ·rw [St.gsE,hV2,← d2,Nat.zero_add,u32s,u32s,← List.map_set,List.set_append_left _ _ (by omega)]
  ·rw [g2]; omega
  ·show _=[(1,a0),(2,a2),(3,D.sl o 0 W.length cp),(4,a4),(5,.int .u32 ((divN (W.drop (W.length - (j+1)))).2:Nat)),(6,.int .i64 ((W.length:Int) - 1 - ((j+1:Nat):Int)))]
   rw [hr2,d3]
   rfl
 ·have hj2:j=W.length:=by omega
  subst hj2
  have hd:decide ((W.length:Int) - 1 - (W.length:Nat) ≥ 0)=false:=decide_eq_false (by omega)
  rw [divW_n]at q1
  rw [Nat.sub_self,List.drop_zero]
  try refine go ?_
  exact h _ _ q1 q0 q2 _ _
end
end Go.Proofs.YtmcdajnpdekocaaGreatDoor.Tab
