/- Part. -/
import Derived.Test.YtmcdajnpdekocaaGreatDoorG35
import Init
set_option linter.unusedSectionVars false
set_option linter.unusedSimpArgs false
set_option linter.unusedVariables false
set_option maxRecDepth 100000
set_option maxHeartbeats 2000000
namespace Go.Proofs.YtmcdajnpdekocaaGreatDoor.Tab
open Go Go.Ab Go.Ab.Sm
section
variable {T:Nat→Option AFn}{H:zAa}{s:St}
theorem yAu {b len sz c n t:Nat}{ik:IntKind}{e:Env}{ds:List (D×List D)}{g:Option (Nat×Bool)}{l:List zPk}{k:List Kont}{Q:QP}{x i:Opd}{z:D}(h:Ops T H b l k ⟨(t,.vptr z (c+n * sz))::e,ds⟩ s Q)(hn:n < len)(hw:wtD e g=some true:=by rfl)(hx:x.evp e=some (.vptr z c):=by rfl)(hi:i.ev e=some (.int ik (n:Int)):=by rfl):Ops T H b (⟨some t,.iaddrA len sz x i,g,none⟩::l) k ⟨e,ds⟩ s Q:=by
 refine opA h hw ?_
 have e3:idx (.int ik (n:Int))=some n:=by simp [idx]
 have e1:Nat.blt n len=true:=Nat.ble_eq_true_of_le hn
 simp only [opF,hx,hi,e3,e1]
theorem ops_ldp {b c t:Nat}{e:Env}{ds:List (D×List D)}{g:Option (Nat×Bool)}{l:List zPk}{k:List Kont}{Q:QP}{x:Opd}{z d:D}(h:Ops T H b l k ⟨(t,d)::e,ds⟩ s Q)(he:z.flat[c]? =some d)(hw:wtD e g=some true:=by rfl)(hx:x.ev e=some (.vptr z c):=by rfl):Ops T H b (⟨some t,.load none x,g,none⟩::l) k ⟨e,ds⟩ s Q:=by
 refine opA h hw ?_
 have e1:Go.Ab.part z.flat c none=some d:=he
 simp only [opF,hx,zPr,e1,ofO]
theorem ops_ldp2 {b c t n:Nat}{e:Env}{ds:List (D×List D)}{g:Option (Nat×Bool)}{l:List zPk}{k:List Kont}{Q:QP}{x:Opd}{z:D}{L:List D}(h:Ops T H b l k ⟨(t,.agg L)::e,ds⟩ s Q)(he:c+n≤z.flat.length)(hL:(z.flat.drop c).take n=L)(hw:wtD e g=some true:=by rfl)(hx:x.ev e=some (.vptr z c):=by rfl):Ops T H b (⟨some t,.load (some n) x,g,none⟩::l) k ⟨e,ds⟩ s Q:=by
 refine opA h hw ?_
 have e1:Nat.ble (c+n) z.flat.length=true:=Nat.ble_eq_true_of_le he
 have e2:Go.Ab.part z.flat c (some n)=some (.agg L):=by simp only [Go.Ab.part,e1,hL]
 simp only [opF,hx,zPr,e2,ofO]
theorem take2 {L:List D}{c:Nat}{a b:D}(h1:L[c]? =some a)(h2:L[c+1]? =some b):(L.drop c).take 2=[a,b]:=by
 obtain⟨q1,rfl⟩:=List.getElem?_eq_some_iff.1 h1
 obtain⟨q2,rfl⟩:=List.getElem?_eq_some_iff.1 h2
 rw [List.drop_eq_getElem_cons q1,List.drop_eq_getElem_cons q2]
 rfl
theorem shr4 {v:Nat}:((v:Int)).fdiv (2 ^ min (Int.toNat 4) IntKind.u8.bits)=((v / 16:Nat):Int):=by
 have:(2:Int) ^ min (Int.toNat 4) IntKind.u8.bits=16:=by decide
 rw [this,Int.fdiv_eq_ediv_of_nonneg _ (by decide)]
 omega
theorem roundN (hU:TU T)(hs:s.Ok){l r:List UInt8}{a:UInt8}{m:Nat}{k:List Kont}{Q:QP}(hl:l.length≤1000000000)(hm:(a::r).length≤m) (hl' :(a::r).length≤l.length)(hx: ¬ (a.toNat:Int) < 128)
  (hF:∀fr,Ret T H .ret k ⟨(2,.bool false)::fr,[]⟩ s Q):
  Run T H zOt (.loop (UI l s) [0] m::k) ⟨[(0,.str (a::r))],[]⟩ s Q:=by
 have h0:(0:Int) < ((a::r).length:Nat):=by rw [List.length_cons]; omega
 have hd:decide ((a.toNat:Int) < 128)=false:=decide_eq_false hx
 have ha:a.toNat < 256:=a.toNat_lt
 obtain⟨v,e1,hv⟩:=first_at a.toNat ha
 obtain⟨lo,hi,e2,e3⟩:=yHo (v / 16) (by omega)
 show Run T H (.seq _ _) _ _ s Q
 try refine go ?_
 refine yAu (n:=a.toNat) ?_ ha
 refine ops_ldp (d:= .int .u8 (v:Int)) (z:=firstD) (c:=0+a.toNat * 1) ?_ (by rw [Nat.zero_add,Nat.mul_one]; exact e1)
 try refine go ?_
 rw [shr4]
 generalize IntKind.wrap .i64 _=z
 refine yAu (n:=v / 16) ?_ (by omega)
 refine ops_ldp2 (z:=acceptD) (c:=0+v / 16 * 2) (L:=[.int .u8 (lo:Int),.int .u8 (hi:Int)]) ?_ (by show 0+v / 16 * 2+2≤32; omega) (by rw [Nat.zero_add,Nat.mul_comm]; exact take2 e2 e3)
 generalize IntKind.wrap .u8 _=z1
 try refine go ?_
 generalize h2:(z==2)=c
 cases c
 ·try refine go ?_
  generalize h3:(z==3)=c3
  cases c3
  ·try refine go ?_
   generalize h4:(z==4)=c4
   cases c4
   ·try refine go ?_
    exact hF _
   ·try refine go ?_
    by_cases hn:(a::r).length < 4
    ·have hd2:decide (((a::r).length:Int) < 4)=true:=decide_eq_true (by omega)
     try refine go ?_
     try simp only [hd2]
     try refine go ?_
     exact hF _
    ·obtain⟨c1,c2,c3,r2,rfl⟩:∃c1 c2 c3 r2,r=c1::c2::c3::r2:=by
      rcases r with _ | ⟨c1,_ | ⟨c2,_ | ⟨c3,r2⟩⟩⟩
      all_goals first | exact ⟨_,_,_,_,rfl⟩ | (simp at hn; done)
     have hd2:decide (((a::c1::c2::c3::r2).length:Int) < 4)=false:=decide_eq_false (by omega)
     try refine go ?_
     try simp only [hd2]
     try refine go ?_
     generalize hq6:decide ((_:Int) < _)=q6
     cases q6
     ·try refine go ?_
      generalize hq5:decide ((_:Int) < _)=q5
      cases q5
      ·try refine go ?_
       generalize hq4:decide ((_:Int) < _)=q4
       cases q4
       ·try refine go ?_
        generalize hq3:decide ((_:Int) < _)=q3
        cases q3
        ·try refine go ?_
         generalize hq2:decide ((_:Int) < _)=q2
         cases q2
         ·try refine go ?_
          generalize hq1:decide ((_:Int) < _)=q1
          cases q1
          ·try refine go ?_
           refine zCs (n:=4) (m:=a::c1::c2::c3::r2) ?_ (by omega)
           try refine go ?_
           exact rtN ((a::c1::c2::c3::r2).drop 4).length (by rw [List.length_drop]; omega) rfl ⟨rfl,_,Nat.le_refl _,by rw [List.length_drop]; omega,rfl⟩
          ·try refine go ?_
           exact hF _
         ·try refine go ?_
          exact hF _
        ·try refine go ?_
         exact hF _
       ·try refine go ?_
        exact hF _
      ·try refine go ?_
       exact hF _
     ·try refine go ?_
      exact hF _
  ·try refine go ?_
   by_cases hn:(a::r).length < 3
   ·have hd2:decide (((a::r).length:Int) < 3)=true:=decide_eq_true (by omega)
    try refine go ?_
    try simp only [hd2]
    try refine go ?_
    exact hF _
   ·obtain⟨c1,c2,r2,rfl⟩:∃c1 c2 r2,r=c1::c2::r2:=by
     rcases r with _ | ⟨c1,_ | ⟨c2,r2⟩⟩
     all_goals first | exact ⟨_,_,_,rfl⟩ | (simp at hn; done)
    have hd2:decide (((a::c1::c2::r2).length:Int) < 3)=false:=decide_eq_false (by omega)
    try refine go ?_
    try simp only [hd2]
    try refine go ?_
    generalize hq4:decide ((_:Int) < _)=q4
    cases q4
    ·try refine go ?_
     generalize hq3:decide ((_:Int) < _)=q3
     cases q3
     ·try refine go ?_
      generalize hq2:decide ((_:Int) < _)=q2
      cases q2
      ·try refine go ?_
       generalize hq1:decide ((_:Int) < _)=q1
       cases q1
       ·try refine go ?_
        refine zCs (n:=3) (m:=a::c1::c2::r2) ?_ (by omega)
        try refine go ?_
        exact rtN ((a::c1::c2::r2).drop 3).length (by rw [List.length_drop]; omega) rfl ⟨rfl,_,Nat.le_refl _,by rw [List.length_drop]; omega,rfl⟩
       ·try refine go ?_
        exact hF _
      ·try refine go ?_
       exact hF _
     ·try refine go ?_
      exact hF _
    ·try refine go ?_
     exact hF _
 ·try refine go ?_
  by_cases hn:(a::r).length < 2
  ·have hd2:decide (((a::r).length:Int) < 2)=true:=decide_eq_true (by omega)
   try refine go ?_
   try simp only [hd2]
   try refine go ?_
   exact hF _
  ·obtain⟨c1,r2,rfl⟩:∃c1 r2,r=c1::r2:=by
    rcases r with _ | ⟨c1,r2⟩
    all_goals first | exact ⟨_,_,rfl⟩ | (simp at hn; done)
   have hd2:decide (((a::c1::r2).length:Int) < 2)=false:=decide_eq_false (by omega)
   try refine go ?_
   try simp only [hd2]
   try refine go ?_
   generalize hq2:decide ((_:Int) < _)=q2
   cases q2
   ·try refine go ?_
    generalize hq1:decide ((_:Int) < _)=q1
    cases q1
    ·try refine go ?_
     refine zCs (n:=2) (m:=a::c1::r2) ?_ (by omega)
     try refine go ?_
     exact rtN ((a::c1::r2).drop 2).length (by rw [List.length_drop]; omega) rfl ⟨rfl,_,Nat.le_refl _,by rw [List.length_drop]; omega,rfl⟩
    ·try refine go ?_
     exact hF _
   ·try refine go ?_
    exact hF _
end
section
variable {T:Nat→Option AFn}{H:zAa}{s:St}
theorem yId (hU:TU T)(hs:s.Ok){l:List UInt8}(hl:l.length≤1000000000):EvP T H 68 [.str l] s fun d s1=>(∃b,d= .bool b)∧s1=s:=by
 refine evI hU.t68 ?_
 try refine go ?_
 refine zAm (UI l s) l.length rfl ⟨rfl,l,Nat.le_refl _,Nat.le_refl _,rfl⟩ ?_
 rintro m env s' ⟨rfl,l',q1,q2,rfl⟩
 rcases l' with _ | ⟨a,r⟩
 ·try refine go ?_
  exact rtF ⟨⟨_,rfl⟩,rfl⟩
 ·by_cases hx:(a.toNat:Int) < 128
  ·exact roundA hU hs hl q1 q2 hx
  ·refine roundN hU hs hl q1 q2 hx ?_
   intro fr
   try refine go ?_
   exact rtF ⟨⟨_,rfl⟩,rfl⟩
end
def tyR:Bool→Nat
 | true=>290
 | false=>293
def tyE:Bool→Nat
 | true=>319
 | false=>320
def kdE:Bool→IntKind
 | true=> .i8
 | false=> .i16
def wdE:Bool→Int
 | true=>1
 | false=>2
structure CeA (s:St)(co ro log:Nat)(b:Bool)(st:Nat)(C:List Int):Prop where
 go:s.get co=some (.var 274 (.agg [.int .i64 (log:Nat),.ifc (tyR b) (.agg [.sl ro 0 (2 ^ log) (2 ^ log),.int .i64 (wdE b)])]))
 gr:s.get ro=some (.arr 1 (tyE b) (C.map fun v=>D.int (kdE b) v) st)
 ln:C.length=2 ^ log
 st:st≤2 ^ log
 lo:3≤log
 hi:log≤if b then 7 else 15
 ne:co≠ro
theorem CeA.beh {W:Nat→Prop}{s s1:St}{co ro log st:Nat}{b:Bool}{C:List Int}(h:CeA s co ro log b st C)(hs:s.Ok)(hb:Beh W s s1)(h1: ¬ W co)(h2: ¬ W ro):CeA s1 co ro log b st C:=
 ⟨hb.get hs h.go h1,hb.get hs h.gr h2,h.ln,h.st,h.lo,h.hi,h.ne⟩
theorem CeA.pow {s:St}{co ro log st:Nat}{b:Bool}{C:List Int}(h:CeA s co ro log b st C):8≤2 ^ log∧2 ^ log≤32768:=by
 have h1:=h.lo
 have h2:log≤15:=by have:=h.hi; split at this <;> omega
 have e1:2 ^ 3≤2 ^ log:=Nat.pow_le_pow_right (by decide) h1
 have e2:2 ^ log≤2 ^ 15:=Nat.pow_le_pow_right (by decide) h2
 exact⟨e1,e2⟩
section
variable {T:Nat→Option AFn}{H:zAa}
theorem zTf (hT:TT T){s:St}{co ro log st:Nat}{b:Bool}{C:List Int}(h:CeA s co ro log b st C):EvP T H 163 [.ptr co 0] s fun d s1=>s1=s∧d= .bool false:=by
 obtain⟨h1,h2,h3,h4,h5,h6,h7⟩:=h
 refine evI hT.t163 ?_
 try refine go ?_
 exact rtF ⟨rfl,rfl⟩
theorem zZq (hT:TT T){s:St}{co ro log st:Nat}{b:Bool}{C:List Int}(h:CeA s co ro log b st C):EvP T H 140 [.ptr co 0] s fun d s1=>s1=s∧d= .int .i64 (log:Nat):=by
 have hn:=zTf (H:=H) hT h
 obtain⟨h1,h2,h3,h4,h5,h6,h7⟩:=h
 refine evI hT.t140 ?_
 try refine go ?_
 refine clE hn ?_
 rintro d s1 ⟨rfl,rfl⟩
 try refine go ?_
 exact rtF ⟨rfl,rfl⟩
theorem yEk (hT:TT T){s:St}{ro log:Nat}{b:Bool}:EvP T H (if b then 231 else 235) [.agg [.sl ro 0 (2 ^ log) (2 ^ log),.int .i64 (wdE b)]] s fun d s1=>s1=s∧d= .int .i64 (2 ^ log:Nat):=by
 cases b
 ·refine evI hT.t235 ?_
  try refine go ?_
  exact rtF ⟨rfl,rfl⟩
 ·refine evI hT.t231 ?_
  try refine go ?_
  exact rtF ⟨rfl,rfl⟩
theorem zZy (hT:TT T){s:St}{co ro log st:Nat}{b:Bool}{C:List Int}(h:CeA s co ro log b st C):EvP T H 170 [.ptr co 0] s fun d s1=>s1=s∧d= .int .i64 (2 ^ log:Nat):=by
 have hn:=zTf (H:=H) hT h
 have hl:=yEk (H:=H) hT (s:=s) (ro:=ro) (log:=log) (b:=b)
 obtain⟨h1,h2,h3,h4,h5,h6,h7⟩:=h
 cases b
 ·refine evI hT.t170 ?_
  repeat' first | refine go ?_ | (refine clE hn ?_; rintro d s1 ⟨rfl,rfl⟩) | (refine clE hl ?_; rintro d s1 ⟨rfl,rfl⟩)
  exact rtF ⟨rfl,rfl⟩
 ·refine evI hT.t170 ?_
  repeat' first | refine go ?_ | (refine clE hn ?_; rintro d s1 ⟨rfl,rfl⟩) | (refine clE hl ?_; rintro d s1 ⟨rfl,rfl⟩)
  exact rtF ⟨rfl,rfl⟩
theorem room_eq {N:Nat}(h:N≤32768):IntKind.wrap .i64 (Int.tdiv (IntKind.wrap .i64 (2 * (N:Int))) 3)=((2 * N / 3:Nat):Int):=by
 rw [wrap_small (n:=2 * (N:Int)) (by omega) (by omega)]
 have e:Int.tdiv (2 * (N:Int)) 3=((2 * N / 3:Nat):Int):=by
  rw [Int.tdiv_eq_ediv_of_nonneg (by omega)]; omega
 rw [e,wrap_small (by omega) (by omega)]
theorem zMx (hT:TT T){s:St}{co ro log st:Nat}{b:Bool}{C:List Int}(h:CeA s co ro log b st C):EvP T H 155 [.ptr co 0] s fun d s1=>s1=s∧d= .int .i64 (2 * 2 ^ log / 3:Nat):=by
 have hz:=zZy (H:=H) hT h
 have hp:=h.pow
 have hr:=room_eq hp.2
 refine evI hT.t155 ?_
 try refine go ?_
 refine clE hz ?_
 rintro d s1 ⟨rfl,rfl⟩
 try refine go ?_
 rw [hr]
 exact rtF ⟨rfl,rfl⟩
theorem zSf (hT:TT T){s:St}{co ro log st i:Nat}{b:Bool}{C:List Int}(h:CeA s co ro log b st C)(hi:i < 2 ^ log):EvP T H 164 [.ptr co 0,.int .i64 (i:Nat)] s fun d s1=>s1=s∧d= .int .i64 0:=by
 have hn:=zTf (H:=H) hT h
 have hz:=zZy (H:=H) hT h
 refine evI hT.t164 ?_
 try refine go ?_
 refine clE hn ?_
 rintro d s1 ⟨rfl,rfl⟩
 try refine go ?_
 refine clE hz ?_
 rintro d s1 ⟨rfl,rfl⟩
 try refine go ?_
 exact rtF ⟨rfl,rfl⟩
theorem may_ev (hT:TT T){s:St}{co ro log st:Nat}{b:Bool}{C:List Int}(h:CeA s co ro log b st C){v:Int}(hv:v= -1∨0≤v∧v < (2 * 2 ^ log / 3:Nat)):EvP T H 169 [.ptr co 0,.int .i64 v] s fun d s1=>s1=s∧d= .bool true:=by
 have hz:=zMx (H:=H) hT h
 refine evI hT.t169 ?_
 rcases hv with rfl | ⟨h1,h2⟩
 ·try refine go ?_
  exact rtF ⟨rfl,rfl⟩
 ·try refine go ?_
  refine clE hz ?_
  rintro d s1 ⟨rfl,rfl⟩
  try refine go ?_
  exact rtF ⟨rfl,rfl⟩
end
theorem wrap_i8 {n:Int}(h1: -128≤n)(h2:n < 128):IntKind.wrap .i8 n=n:=by
 simp only [IntKind.wrap,IntKind.signed,IntKind.bits,Bool.true_and,decide_eq_true_eq,ge_iff_le]
 rw [show ((2:Int) ^ (8 - 1))=128 from rfl,show ((2:Int) ^ 8)=256 from rfl]
 split <;> omega
theorem yIb {n:Int}(h1: -32768≤n)(h2:n < 32768):IntKind.wrap .i16 n=n:=by
 simp only [IntKind.wrap,IntKind.signed,IntKind.bits,Bool.true_and,decide_eq_true_eq,ge_iff_le]
 rw [show ((2:Int) ^ (16 - 1))=32768 from rfl,show ((2:Int) ^ 16)=65536 from rfl]
 split <;> omega
section
variable {T:Nat→Option AFn}{H:zAa}
theorem cget8_ev (hT:TT T){s:St}{ro st i:Nat}{N:Nat}{C:List Int}(hg:s.get ro=some (.arr 1 (tyE true) (C.map fun v=>D.int (kdE true) v) st))(hl:C.length=N)(hst:st≤N)(hi:i < N)(hb:∀v∈C, -1≤v∧v < 32768):
  EvP T H 230 [.agg [.sl ro 0 N N,.int .i64 (wdE true)],.int .i64 (i:Nat)] s fun d s1=>s1=s∧∃v,C[i]? =some v∧d= .int .i64 v:=by
 have hn:(C.map fun v=>D.int (kdE true) v).length=N:=by simp [hl]
 have hi' :i < C.length:=by omega
 have he:(C.map fun v=>D.int (kdE true) v)[0+i]? =some (.int (kdE true) C[i]):=by simp [hi']
 have hv:=hb C[i] (List.getElem_mem hi')
 have hci:C[i]? =some C[i]:=List.getElem?_eq_getElem hi'
 generalize C[i]=v at he hv hci
 have hw:IntKind.wrap .i64 v=v:=wrap_small (by omega) (by omega)
 refine evI hT.t230 ?_
 try refine go ?_
 rw [hw]
 exact rtF ⟨rfl,v,hci,rfl⟩
theorem yHf (hT:TT T){s:St}{ro st i:Nat}{N:Nat}{C:List Int}(hg:s.get ro=some (.arr 1 (tyE false) (C.map fun v=>D.int (kdE false) v) st))(hl:C.length=N)(hst:st≤N)(hi:i < N)(hb:∀v∈C, -1≤v∧v < 32768):
  EvP T H 234 [.agg [.sl ro 0 N N,.int .i64 (wdE false)],.int .i64 (i:Nat)] s fun d s1=>s1=s∧∃v,C[i]? =some v∧d= .int .i64 v:=by
 have hn:(C.map fun v=>D.int (kdE false) v).length=N:=by simp [hl]
 have hi' :i < C.length:=by omega
 have he:(C.map fun v=>D.int (kdE false) v)[0+i]? =some (.int (kdE false) C[i]):=by simp [hi']
 have hv:=hb C[i] (List.getElem_mem hi')
 have hci:C[i]? =some C[i]:=List.getElem?_eq_getElem hi'
 generalize C[i]=v at he hv hci
 have hw:IntKind.wrap .i64 v=v:=wrap_small (by omega) (by omega)
 refine evI hT.t234 ?_
 try refine go ?_
 rw [hw]
 exact rtF ⟨rfl,v,hci,rfl⟩
theorem yEl (hT:TT T){s:St}{co ro log st i:Nat}{b:Bool}{C:List Int}(h:CeA s co ro log b st C)(hi:i < 2 ^ log)(hb:∀v∈C, -1≤v∧v < 32768):
  EvP T H 141 [.ptr co 0,.int .i64 (i:Nat)] s fun d s1=>s1=s∧∃v,C[i]? =some v∧d= .tup [.int .i64 v,.int .i64 0]:=by
 have hw:=zSf (H:=H) hT h hi
 have h1:=h.go
 cases b
 ·have hg:=yHf (H:=H) hT h.gr h.ln h.st hi hb
  refine evI hT.t141 ?_
  try refine go ?_
  refine clE hw ?_
  rintro d s1 ⟨rfl,rfl⟩
  try refine go ?_
  refine clE hg ?_
  rintro d s1 ⟨rfl,v,hv,rfl⟩
  try refine go ?_
  exact rtF ⟨rfl,v,hv,rfl⟩
 ·have hg:=cget8_ev (H:=H) hT h.gr h.ln h.st hi hb
  refine evI hT.t141 ?_
  try refine go ?_
  refine clE hw ?_
  rintro d s1 ⟨rfl,rfl⟩
  try refine go ?_
  refine clE hg ?_
  rintro d s1 ⟨rfl,v,hv,rfl⟩
  try refine go ?_
  exact rtF ⟨rfl,v,hv,rfl⟩
theorem CeA.put {s:St}{co ro log st i:Nat}{b:Bool}{C:List Int}{v:Int}(h:CeA s co ro log b st C):CeA (s.set0 ro (.arr 1 (tyE b) (((C.map fun v=>D.int (kdE b) v)).set i (.int (kdE b) v)) (C.map fun v=>D.int (kdE b) v).length)) co ro log b (2 ^ log) (C.set i v):=by
 refine⟨St.gsN h.go h.ne, ?_,by rw [List.length_set]; exact h.ln,Nat.le_refl _,h.lo,h.hi,h.ne⟩
 rw [St.gsE,List.length_map,h.ln,List.map_set]
theorem zWt (hT:TT T){s:St}{co ro log st i:Nat}{C:List Int}{v:Int}(hs:s.Ok)(h:CeA s co ro log true st C)(hi:i < 2 ^ log)(hv: -1≤v∧v < 128):
  EvP T H 232 [.agg [.sl ro 0 (2 ^ log) (2 ^ log),.int .i64 (wdE true)],.int .i64 (i:Nat),.int .i64 v] s fun d s1=>CeA s1 co ro log true (2 ^ log) (C.set i v)∧Beh (fun j=>j=ro) s s1:=by
 have hg:=h.gr
 have lr:=hs.lt hg
 have hn:(C.map fun v=>D.int (kdE true) v).length=2 ^ log:=by simp [h.ln]
 have hst:=h.st
 have hi' :i < C.length:=by rw [h.ln]; exact hi
 have he:(C.map fun v=>D.int (kdE true) v)[0+i]? =some (.int (kdE true) C[i]):=by simp [hi']
 have hw:IntKind.wrap .i8 v=v:=wrap_i8 (by omega) (by omega)
 have hput:=h.put (i:=0+i) (v:=v)
 rw [Nat.zero_add]at hput
 refine evI hT.t232 ?_
 try refine go ?_
 rw [hw]
 refine zBx ⟨?_,Beh.set (Beh.refl hs) _ lr (fun _=>rfl)⟩
 rw [Nat.zero_add]
 exact hput
theorem zSg (hT:TT T){s:St}{co ro log st i:Nat}{C:List Int}{v:Int}(hs:s.Ok)(h:CeA s co ro log false st C)(hi:i < 2 ^ log)(hv: -1≤v∧v < 32768):
  EvP T H 236 [.agg [.sl ro 0 (2 ^ log) (2 ^ log),.int .i64 (wdE false)],.int .i64 (i:Nat),.int .i64 v] s fun d s1=>CeA s1 co ro log false (2 ^ log) (C.set i v)∧Beh (fun j=>j=ro) s s1:=by
 have hg:=h.gr
 have lr:=hs.lt hg
 have hn:(C.map fun v=>D.int (kdE false) v).length=2 ^ log:=by simp [h.ln]
 have hst:=h.st
 have hi' :i < C.length:=by rw [h.ln]; exact hi
 have he:(C.map fun v=>D.int (kdE false) v)[0+i]? =some (.int (kdE false) C[i]):=by simp [hi']
 have hw:IntKind.wrap .i16 v=v:=yIb (by omega) (by omega)
 have hput:=h.put (i:=0+i) (v:=v)
 rw [Nat.zero_add]at hput
 refine evI hT.t236 ?_
 try refine go ?_
 rw [hw]
 refine zBx ⟨?_,Beh.set (Beh.refl hs) _ lr (fun _=>rfl)⟩
 rw [Nat.zero_add]
 exact hput
theorem cSet_ev (hT:TT T){s:St}{co ro log st i:Nat}{b:Bool}{C:List Int}{v:Int}(hs:s.Ok)(h:CeA s co ro log b st C)(hi:i < 2 ^ log)(hv:v= -1∨0≤v∧v < (2 * 2 ^ log / 3:Nat)):
  EvP T H 154 [.ptr co 0,.int .i64 (i:Nat),.int .i64 v] s fun d s1=>d= .int .i64 0∧CeA s1 co ro log b (2 ^ log) (C.set i v)∧Beh (fun j=>j=ro) s s1:=by
 have hw:=zSf (H:=H) hT h hi
 have hm:=may_ev (H:=H) hT h hv
 have h1:=h.go
 have hp:=h.pow
 have hh:=h.hi
 have hl:=h.lo
 cases b
 ·have hg:=zSg (H:=H) hT hs h hi (v:=v) (by omega)
  refine evI hT.t154 ?_
  try refine go ?_
  refine clE hw ?_
  rintro d s1 ⟨rfl,rfl⟩
  try refine go ?_
  refine clE hm ?_
  rintro d s1 ⟨rfl,rfl⟩
  try refine go ?_
  refine clE hg ?_
  rintro d s1 ⟨q1,q2⟩
  try refine go ?_
  exact rtF ⟨rfl,q1,q2⟩
 ·have hp7:2 ^ log≤128:=by
   have e2:2 ^ log≤2 ^ 7:=Nat.pow_le_pow_right (by decide) (by simpa using hh)
   exact e2
  have hg:=zWt (H:=H) hT hs h hi (v:=v) (by omega)
  refine evI hT.t154 ?_
  try refine go ?_
  refine clE hw ?_
  rintro d s1 ⟨rfl,rfl⟩
  try refine go ?_
  refine clE hm ?_
  rintro d s1 ⟨rfl,rfl⟩
  try refine go ?_
  refine clE hg ?_
  rintro d s1 ⟨q1,q2⟩
  try refine go ?_
  exact rtF ⟨rfl,q1,q2⟩
end
theorem shl1 {log:Nat}(h:log≤20):IntKind.wrap .i64 (1 * 2 ^ min (Int.toNat (log:Int)) (IntKind.bits .i64))=((2 ^ log:Nat):Int):=by
 have e:min (Int.toNat (log:Int)) (IntKind.bits .i64)=log:=by
  show min (Int.toNat (log:Int)) 64=log
  rw [Int.toNat_natCast]; omega
 have h2:2 ^ log≤2 ^ 20:=Nat.pow_le_pow_right (by decide) h
 have e2:(1:Int) * 2 ^ log=((2 ^ log:Nat):Int):=by rw [Int.one_mul]; norm_cast
 have key:∀N:Nat,N≤2 ^ 20→IntKind.wrap .i64 (N:Int)=(N:Int):=fun N h=>wrap_small (by omega) (by omega)
 rw [e,e2]
 exact key _ h2
section
variable {T:Nat→Option AFn}{H:zAa}
theorem made8_ev (hT:TT T){s:St}{log:Nat}(hs:s.Ok)(h1:log≤7):
  EvP T H 166 [.int .i64 (log:Nat)] s fun d s1=>d= .ifc (tyR true) (.agg [.sl s.n 0 (2 ^ log) (2 ^ log),.int .i64 (wdE true)])∧s1=s.push0 (.arr 1 (tyE true) (List.replicate (2 ^ log) (.int (kdE true) 0)) 0):=by
 have hw:=shl1 (log:=log) (by omega)
 have h2:2 ^ log≤2 ^ 7:=Nat.pow_le_pow_right (by decide) h1
 refine evI hT.t166 ?_
 try refine go ?_
 rw [hw]
 refine zKu (l1:=2 ^ log) (c1:=2 ^ log) (zPz (kd:= .i64)) (zPz (kd:= .i64)) (Nat.le_refl _) (by omega) (by simp only [mxE]; omega) ?_
 try refine go ?_
 exact rtF ⟨rfl,rfl⟩
theorem yFt (hT:TT T){s:St}{log:Nat}(hs:s.Ok)(h0:7 < log)(h1:log≤15):
  EvP T H 166 [.int .i64 (log:Nat)] s fun d s1=>d= .ifc (tyR false) (.agg [.sl s.n 0 (2 ^ log) (2 ^ log),.int .i64 (wdE false)])∧s1=s.push0 (.arr 1 (tyE false) (List.replicate (2 ^ log) (.int (kdE false) 0)) 0):=by
 have hw:=shl1 (log:=log) (by omega)
 have h2:2 ^ log≤2 ^ 15:=Nat.pow_le_pow_right (by decide) h1
 refine evI hT.t166 ?_
 try refine go ?_
 rw [hw]
 refine zKu (l1:=2 ^ log) (c1:=2 ^ log) (zPz (kd:= .i64)) (zPz (kd:= .i64)) (Nat.le_refl _) (by omega) (by simp only [mxE]; omega) ?_
 try refine go ?_
 exact rtF ⟨rfl,rfl⟩
def begun (N j:Nat):List Int:=List.replicate j (-1)++List.replicate (N - j) 0
theorem zSn {N j:Nat}(h:j < N):(begun N j).set j (-1)=begun N (j+1):=by
 unfold begun
 rw [List.set_append_right _ _ (by simp),List.length_replicate,Nat.sub_self,show N - j=(N - (j+1))+1 by omega,List.replicate_succ,List.set_cons_zero,List.replicate_succ',List.append_assoc]
 rfl
theorem yHi {N j:Nat}(h:j≤N):(begun N j).length=N:=by simp [begun]; omega
theorem zSo (N:Nat):begun N N=List.replicate N (-1):=by simp [begun]
theorem begun_0 (N:Nat):begun N 0=List.replicate N 0:=by simp [begun]
theorem zSh {b:Bool}(hT:TT T){s:St}{log:Nat}(hs:s.Ok)(h3:3≤log)(hh:log≤if b then 7 else 15)
  (hm:EvP T H 166 [.int .i64 (log:Nat)] s fun d s1=>d= .ifc (tyR b) (.agg [.sl s.n 0 (2 ^ log) (2 ^ log),.int .i64 (wdE b)])∧s1=s.push0 (.arr 1 (tyE b) (List.replicate (2 ^ log) (.int (kdE b) 0)) 0)):
  EvP T H 145 [.int .i64 (log:Nat)] s fun d s1=>d= .tup [.ptr (s.n+1) 0,.int .i64 0]∧s.n+1 < s1.n∧(∃st,CeA s1 (s.n+1) s.n log b st (List.replicate (2 ^ log) (-1)))∧Beh Nil s s1:=by
 have hh15:log≤15:=by cases b <;> simp at hh <;> omega
 have hb0:Beh Nil s (s.push0 (.arr 1 (tyE b) (List.replicate (2 ^ log) (.int (kdE b) 0)) 0)):=Beh.push (Beh.refl hs) _
 have hb1:=Beh.push hb0 (.var 274 (.agg [.int .i64 (log:Nat),.ifc (tyR b) (.agg [.sl s.n 0 (2 ^ log) (2 ^ log),.int .i64 (wdE b)])]))
 have hc0:CeA ((s.push0 (.arr 1 (tyE b) (List.replicate (2 ^ log) (.int (kdE b) 0)) 0)).push0 (.var 274 (.agg [.int .i64 (log:Nat),.ifc (tyR b) (.agg [.sl s.n 0 (2 ^ log) (2 ^ log),.int .i64 (wdE b)])]))) (s.n+1) s.n log b 0 (begun (2 ^ log) 0):=by
  refine⟨St.gpE,St.gpN ?_ (by rw [St.nP0]; omega),yHi (Nat.zero_le _),Nat.zero_le _,h3,hh,by omega⟩
  rw [St.gpE,begun_0,List.map_replicate]
 have hcl:=yEk (H:=H) hT (s:=(s.push0 (.arr 1 (tyE b) (List.replicate (2 ^ log) (.int (kdE b) 0)) 0)).push0 (.var 274 (.agg [.int .i64 (log:Nat),.ifc (tyR b) (.agg [.sl s.n 0 (2 ^ log) (2 ^ log),.int .i64 (wdE b)])]))) (ro:=s.n) (log:=log) (b:=b)
 have hgo:=hc0.go
 have hok1:(s.push0 (.arr 1 (tyE b) (List.replicate (2 ^ log) (.int (kdE b) 0)) 0)).Ok:=hb0.ok
 refine evI hT.t145 ?_
 try refine go ?_
 refine clE hm ?_
 rintro d s1 ⟨rfl,rfl⟩
 cases b
 ·try refine go ?_
  refine clE hcl ?_
  rintro d s2 ⟨rfl,rfl⟩
  try refine go ?_
  refine zAh (2 ^ log) (fun j=> [(4,.ptr (s.n+1) 0),(21,.int .i64 (2 ^ log:Nat)),(22,.int .i64 (j:Nat))]) (fun j s' =>(∃st,CeA s' (s.n+1) s.n log false st (begun (2 ^ log) j))∧Beh Nil s s' ∧s.n+1 < s'.n) ⟨⟨0,hc0⟩,hb1,by simp only [St.nP0]; omega⟩ ?_
  rintro j s' hj ⟨⟨st,hc⟩,hb,hn⟩
  have hgo:=hc.go
  rcases Nat.lt_or_ge j (2 ^ log) with hl | hl
  ·have hset:=zSg (H:=H) hT hb.ok hc hl (v:= -1) (by omega)
   rw [zSn hl]at hset
   have hp:=hc.pow
   try refine go ?_
   refine clE hset ?_
   rintro d s3 ⟨q1,q2⟩
   have q3:=q2.n
   try refine go ?_
   exact rtC hl ⟨⟨_,q1⟩,hb.trans' q2 (by rintro o rfl ho; omega),by omega⟩
  ·have:j=2 ^ log:=by omega
   subst this
   rw [zSo]at hc
   try refine go ?_
   exact rtF ⟨rfl,hn,⟨st,hc⟩,hb⟩
 ·try refine go ?_
  refine clE hcl ?_
  rintro d s2 ⟨rfl,rfl⟩
  try refine go ?_
  refine zAh (2 ^ log) (fun j=> [(4,.ptr (s.n+1) 0),(21,.int .i64 (2 ^ log:Nat)),(22,.int .i64 (j:Nat))]) (fun j s' =>(∃st,CeA s' (s.n+1) s.n log true st (begun (2 ^ log) j))∧Beh Nil s s' ∧s.n+1 < s'.n) ⟨⟨0,hc0⟩,hb1,by simp only [St.nP0]; omega⟩ ?_
  rintro j s' hj ⟨⟨st,hc⟩,hb,hn⟩
  have hgo:=hc.go
  rcases Nat.lt_or_ge j (2 ^ log) with hl | hl
  ·have hset:=zWt (H:=H) hT hb.ok hc hl (v:= -1) (by omega)
   rw [zSn hl]at hset
   have hp:=hc.pow
   try refine go ?_
   refine clE hset ?_
   rintro d s3 ⟨q1,q2⟩
   have q3:=q2.n
   try refine go ?_
   exact rtC hl ⟨⟨_,q1⟩,hb.trans' q2 (by rintro o rfl ho; omega),by omega⟩
  ·have:j=2 ^ log:=by omega
   subst this
   rw [zSo]at hc
   try refine go ?_
   exact rtF ⟨rfl,hn,⟨st,hc⟩,hb⟩
theorem cNew_ev (hT:TT T){s:St}{log:Nat}(hs:s.Ok)(h3:3≤log)(hh:log≤15):
  EvP T H 145 [.int .i64 (log:Nat)] s fun d s1=>d= .tup [.ptr (s.n+1) 0,.int .i64 0]∧s.n+1 < s1.n∧(∃b st,CeA s1 (s.n+1) s.n log b st (List.replicate (2 ^ log) (-1)))∧Beh Nil s s1:=by
 rcases Nat.lt_or_ge 7 log with h | h
 ·exact (zSh (b:=false) hT hs h3 (by simpa using hh) (yFt hT hs h hh)).mono fun d s1 ⟨a1,a2,a3,a4⟩=>⟨a1,a2,⟨_,a3⟩,a4⟩
 ·exact (zSh (b:=true) hT hs h3 (by simpa using h) (made8_ev hT hs h)).mono fun d s1 ⟨a1,a2,a3,a4⟩=>⟨a1,a2,⟨_,a3⟩,a4⟩
end
end Go.Proofs.YtmcdajnpdekocaaGreatDoor.Tab
namespace Go.Ab.Trail
def step (log:Nat)(x:Nat×Nat):Nat×Nat:=((5 * x.1+x.2 / 32+1) % 2 ^ log,x.2 / 32)
def iter {α:Type}(f:α→α):Nat→α→α
 | 0,x=>x
 | n+1,x=>iter f n (f x)
theorem iter_add {α:Type}(f:α→α):∀(m n:Nat) (x:α),iter f (m+n) x=iter f n (iter f m x)
 | 0,n,x=>by rw [Nat.zero_add]; rfl
 | m+1,n,x=>by rw [Nat.succ_add]; exact iter_add f m n (f x)
def st (log c:Nat):Nat:=(5 * c+1) % 2 ^ log
def g:Nat→Nat
 | 0=>0
 | n+1=>5 * g n+1
theorem yHt (m:Nat):∀n,g (m+n)=(4 * g n+1) * g m+g n
 | 0=>by simp [g]
 | n+1=>by
  show 5 * g (m+n)+1=_
  rw [yHt m n,g]
  have:(4 * (5 * g n+1)+1) * g m=5 * ((4 * g n+1) * g m):=by rw [← Nat.mul_assoc]; congr 1; omega
  omega
theorem g_two:∀j,∃q,g (2 ^ j)=2 ^ j * (2 * q+1)
 | 0=>⟨0,rfl⟩
 | j+1=>by
  obtain⟨q,hq⟩:=g_two j
  have e:2 ^ (j+1)=2 ^ j+2 ^ j:=by rw [Nat.pow_succ]; omega
  refine⟨q+q * (2 * g (2 ^ j))+g (2 ^ j), ?_⟩
  rw [e,yHt]
  generalize g (2 ^ j)=G at *
  have h1:(4 * G+1) * G+G=(2 * G) * (2 * G+1):=by rw [Nat.add_mul,Nat.mul_add,Nat.one_mul,Nat.mul_one]; rw [show 4 * G * G=2 * G * (2 * G) by rw [Nat.mul_mul_mul_comm,Nat.mul_assoc]]; omega
  rw [h1,hq,← Nat.two_mul,Nat.mul_assoc 2 (2 ^ j),Nat.mul_assoc 2,Nat.mul_assoc]
  congr 1; congr 1
  rw [← hq]
  rw [Nat.add_mul,Nat.mul_add,Nat.one_mul,Nat.mul_one,Nat.mul_assoc]
  have:2 * (q * (2 * G))=2 * (q * (2 * G)):=rfl
  omega
theorem lift:∀L b,∃k,k < 2 ^ L∧g k % 2 ^ L=b % 2 ^ L
 | 0,b=>⟨0,by decide,by simp [Nat.mod_one]⟩
 | L+1,b=>by
  obtain⟨k,hk,h⟩:=lift L b
  obtain⟨q,hq⟩:=g_two L
  have hp:2 ^ (L+1)=2 * 2 ^ L:=by rw [Nat.pow_succ,Nat.mul_comm]
  have h0:0 < 2 ^ L:=Nat.two_pow_pos L
  generalize hP:2 ^ L=P at *
  rw [hp]
  have a1:=Nat.mod_add_div (g k) P
  have a2:=Nat.mod_add_div b P
  have m1:∀x,x % (2 * P)=x % P+P * ((x / P) % 2):=fun x=>by rw [Nat.mul_comm 2 P,Nat.mod_mul]
  by_cases he:(g k / P) % 2=(b / P) % 2
  ·exact⟨k,by omega,by rw [m1,m1,h,he]⟩
  ·refine⟨P+k,by omega, ?_⟩
   have e1:g (P+k)=g k+P * ((4 * g k+1) * (2 * q+1)):=by
    rw [yHt,hq,Nat.add_comm,← Nat.mul_assoc,Nat.mul_comm _ P,Nat.mul_assoc]
   rw [m1,m1,e1,Nat.add_mul_mod_self_left,h,Nat.add_mul_div_left _ _ h0]
   congr 2
   have e2:((4 * g k+1) * (2 * q+1)) % 2=1:=by
    rw [Nat.mul_mod]
    have:(4 * g k+1) % 2=1:=by omega
    have:(2 * q+1) % 2=1:=by omega
    simp [*]
   omega
theorem zTn {L:Nat}:∀(n c:Nat),c < 2 ^ L→iter (st L) n c=((4 * g n+1) * c+g n) % 2 ^ L
 | 0,c,h=>by simp [iter,g,Nat.mod_eq_of_lt h]
 | n+1,c,h=>by
  show iter (st L) n (st L c)=_
  rw [zTn n (st L c) (Nat.mod_lt _ (Nat.two_pow_pos L))]
  unfold st
  rw [Nat.add_mod,Nat.mul_mod,Nat.mod_mod,← Nat.mul_mod,← Nat.add_mod]
  congr 1
  rw [show n+1=1+n from Nat.add_comm _ _,yHt]
  show _=(4 * ((4 * g n+1) * 1+g n)+1) * c+((4 * g n+1) * 1+g n)
  rw [Nat.mul_add,Nat.mul_one,Nat.mul_left_comm]
  have:(4 * (4 * g n+1+g n)+1) * c=5 * ((4 * g n+1) * c):=by rw [← Nat.mul_assoc]; congr 1; omega
  omega
theorem zMm {L b:Nat}(hb:b < 2 ^ L):∃k,k < 2 ^ L∧iter (st L) k 0=b:=by
 obtain⟨k,hk,h⟩:=lift L b
 refine⟨k,hk, ?_⟩
 rw [zTn k 0 (Nat.two_pow_pos L),Nat.mul_zero,Nat.zero_add,h,Nat.mod_eq_of_lt hb]
theorem yGg (L:Nat):iter (st L) (2 ^ L) 0=0:=by
 obtain⟨q,hq⟩:=g_two L
 rw [zTn _ 0 (Nat.two_pow_pos L),Nat.mul_zero,Nat.zero_add,hq]
 exact Nat.mul_mod_right _ _
theorem full_all {log a b:Nat}(ha:a < 2 ^ log)(hb:b < 2 ^ log):∃k,k < 2 ^ log∧iter (st log) k a=b:=by
 obtain⟨i,hi,rfl⟩:=zMm ha
 obtain⟨j,hj,rfl⟩:=zMm hb
 rcases Nat.lt_or_ge j i with g | g
 ·refine⟨j+2 ^ log - i,by omega, ?_⟩
  rw [← iter_add,show i+(j+2 ^ log - i)=2 ^ log+j from by omega,iter_add,yGg log]
 ·refine⟨j - i,by omega, ?_⟩
  rw [← iter_add,show i+(j - i)=j from by omega]
theorem zPf (log:Nat):∀(n c p:Nat),p < 32 ^ n→(iter (step log) n (c,p)).2=0
 | 0,c,p,h=>by simpa [iter] using h
 | n+1,c,p,h=>by
  show (iter (step log) n (step log (c,p))).2=0
  refine zPf log n _ _ ?_
  show p / 32 < 32 ^ n
  rw [Nat.div_lt_iff_lt_mul (by decide),← Nat.pow_succ]; exact h
theorem cell_lt (log:Nat):∀(n c p:Nat),c < 2 ^ log→(iter (step log) n (c,p)).1 < 2 ^ log
 | 0,c,p,h=>h
 | n+1,c,p,h=>cell_lt log n _ _ (Nat.mod_lt _ (Nat.two_pow_pos log))
theorem zRq (log:Nat):∀(n c:Nat),iter (step log) n (c,0)=(iter (st log) n c,0)
 | 0,c=>rfl
 | n+1,c=>by
  show iter (step log) n (step log (c,0))=_
  have:step log (c,0)=(st log c,0):=by simp [step,st]
  rw [this,zRq log n]; rfl
theorem comes {log c p b:Nat}(hc:c < 2 ^ log)(hp:p < 2 ^ 64)(hb:b < 2 ^ log):∃k,k < 13+2 ^ log∧(iter (step log) k (c,p)).1=b:=by
 have h0:=zPf log 13 c p (by
  have:(2:Nat) ^ 64≤32 ^ 13:=by decide
  omega)
 have h1:=cell_lt log 13 c p hc
 obtain⟨k,hk,e⟩:=full_all h1 hb
 refine⟨13+k,by omega, ?_⟩
 rw [iter_add]
 have:iter (step log) 13 (c,p)=((iter (step log) 13 (c,p)).1,0):=by rw [← h0]
 rw [this,zRq]
 exact e
end Go.Ab.Trail
