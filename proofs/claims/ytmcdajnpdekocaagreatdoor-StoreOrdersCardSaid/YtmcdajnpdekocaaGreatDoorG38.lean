/- Part. -/
import Derived.Test.YtmcdajnpdekocaaGreatDoorG37
set_option linter.unusedSectionVars false
set_option linter.unusedSimpArgs false
set_option linter.unusedVariables false
set_option maxRecDepth 100000
set_option maxHeartbeats 2000000
namespace Go.Proofs.YtmcdajnpdekocaaGreatDoor.Tab
open Go Go.Ab Go.Ab.Sm
section
variable {T:Nat→Option AFn}{H Y:zAa}
def dropLoop:AC:=match yCw.body with
 | .seq _ (.seq (.seq _ (.block _ c)) _)=>c
 | _=> .skip
theorem zAv (E:List Ent):(E.map entD).length=E.length:=List.length_map _
theorem over_self {α:Type}:∀(l:List α) (i:Nat) (x:α),l[i]? =some x→over l i [x]=l
 | [],i,x,h=>by simp at h
 | a::l,0,x,h=>by simp at h; subst h; simp [over]
 | a::l,i+1,x,h=>by simp only [over]; rw [over_self l i x (by simpa using h)]
theorem zDr {α:Type}:∀(l:List α) (i:Nat),over l i []=l
 | [],0=>rfl
 | [],i+1=>rfl
 | a::l,0=>rfl
 | a::l,i+1=>by simp only [over,zDr l i]
theorem yGu {s:St}{eo st cp i:Nat}{E:List Ent}{e:Ent}(hs:s.Ok)(hg:s.get eo=some (.arr 5 243 (E.map entD) st))(hst:st≤i+cp)(hst2:st≤E.length)(hi:E[i]? =some e):
  ∃s1,zBn s 5 (.sl eo i 1 cp) [entD e]=some s1∧(∃st',st' ≤E.length∧(st' =st∨i+1=E.length)∧s1.get eo=some (.arr 5 243 (E.map entD) st'))∧Beh (fun j=>j=eo) s s1:=by
 have hl:i < E.length:=(List.getElem?_eq_some_iff.mp hi).1
 have hge:(E.map entD)[i]? =some (entD e):=by rw [List.getElem?_map,hi]; rfl
 have e5:Nat.beq 5 5=true:=rfl
 by_cases h:i+1=E.length
 ·refine⟨s.set0 eo (.arr 5 243 (E.map entD) (E.map entD).length), ?_,⟨E.length,Nat.le_refl _,.inr h,by rw [St.gsE,zAv]⟩,Beh.set (Beh.refl hs) _ (hs.lt hg) (fun _=>rfl)⟩
  have e1:Nat.beq (i+1) (E.map entD).length=true:=by rw [zAv,h]; exact Nat.beq_refl _
  have e2:Nat.ble [entD e].length 1=true:=rfl
  simp only [zBn,hg,e5,e1,e2,over_self _ _ _ hge,hs.set]
 ·refine⟨s, ?_,⟨st,hst2,.inl rfl,hg⟩,Beh.refl hs⟩
  have e1:Nat.beq (i+1) (E.map entD).length=false:=by rw [zAv]; exact T.beq_f h
  have e2:Nat.ble [entD e].length 1=true:=rfl
  have e3:Nat.ble (i+1) (E.map entD).length=true:=Nat.ble_eq_true_of_le (by rw [zAv]; omega)
  have e4:Nat.ble st (i+cp)=true:=Nat.ble_eq_true_of_le hst
  have e6:((E.map entD).drop i).take 1=[entD e]:=by
   rw [List.drop_eq_getElem_cons (by rw [zAv]; exact hl)]
   simp only [List.take_succ_cons,List.take_zero]
   have:=List.getElem?_eq_some_iff.mp hge
   rw [this.2]
  have e7:[entD e].all zUr=true:=rfl
  have e8:D.beqs [entD e] [entD e]=true:=by simp [entD,D.beqs,D.beq]
  simp only [zBn,hg,e5,e1,e2,e3,e4,List.length_cons,List.length_nil,Nat.zero_add,e6,e7,e8,Bool.and_self]
theorem copy_op {s s1:St}{eo st i:Nat}{E:List Ent}{e:Ent}{env:Env}{x y:Opd}(hg:s.get eo=some (.arr 5 243 (E.map entD) st))(hst:st≤E.length)(hi:E[i]? =some e)(hf:zBn s 5 (.sl eo i 1 (E.length - i)) [entD e]=some s1)
  (hx:x.ev env=some (.sl eo i 1 (E.length - i)))(hy:y.ev env=some (.sl eo i 1 (E.length - i))):opF zAq env s none (.copy 5 x y)=some (.int .i64 1,s1):=by
 have hl:i < E.length:=(List.getElem?_eq_some_iff.mp hi).1
 have hge:(E.map entD)[i]? =some (entD e):=by rw [List.getElem?_map,hi]; rfl
 have e3:Nat.ble (i+1) (E.map entD).length=true:=Nat.ble_eq_true_of_le (by rw [zAv]; omega)
 have e4:Nat.ble st (i+(E.length - i))=true:=Nat.ble_eq_true_of_le (by omega)
 have e6:((E.map entD).drop i).take 1=[entD e]:=by
  rw [List.drop_eq_getElem_cons (by rw [zAv]; exact hl)]
  simp only [List.take_succ_cons,List.take_zero]
  have:=List.getElem?_eq_some_iff.mp hge
  rw [this.2]
 have e7:allSz 5 ([entD e].take 1)=true:=rfl
 simp only [opF,hx,hy,items,hg,e3,e4,e6,lenD,e7,Nat.beq_refl,Bool.true_or]
 simp only [List.take_succ_cons,List.take_zero,hf,ofS]
 rfl
theorem clear_op {s:St}{eo st cp:Nat}{E:List Ent}{env:Env}{x:Opd}{z:D}(hs:s.Ok)(hg:s.get eo=some (.arr 5 243 (E.map entD) st))(hx:x.ev env=some (.sl eo E.length 0 cp))(hz:allSz 5 [z]=true):
  opF zAq env s none (.clear 5 z x)=some (.tup [],s.set0 eo (.arr 5 243 (E.map entD) E.length)):=by
 have e1:Nat.beq (E.length+0) E.length=true:=Nat.beq_refl _
 have e2:over (E.map entD) E.length []=E.map entD:=by
  rw [show E.length=(E.map entD).length from (zAv E).symm]
  exact zDr _ _
 have e3:Nat.ble ([]:List D).length 0=true:=rfl
 simp only [opF,hx,lenD,hz,List.replicate_zero,zBn,hg,Nat.beq_refl,e1,e3,e2,hs.set,ofS,zAv]
theorem zYm {s:St}{to eo st i:Nat}{c n1 n2 n3 n4:D}{E:List Ent}{e:Ent}{k:List Kont}{Q:QP}(hs:s.Ok)
  (gt:s.get to=some (.var 183 (.agg [.nilp,.sl eo 0 E.length E.length,c,n1,n2,n3,n4])))(ge:s.get eo=some (.arr 5 243 (E.map entD) st))(hst:st≤E.length)(hi:E[i]? =some e)(hE:E.length≤32000)
  (hk:∀s1 env,env.keep [0,2,8,9,10]=[(0,.ptr to 0),(2,.int .i64 (i+1:Nat)),(8,.sl eo 0 E.length E.length),(9,.int .i64 (E.length:Nat)),(10,.int .i64 (i+1:Nat))]→(∃st',st' ≤E.length∧s1.get eo=some (.arr 5 243 (E.map entD) st'))→Beh (fun j=>j=eo) s s1→Ret T H .normal k ⟨env,[]⟩ s1 Q):
  Run T H (match dropLoop with | .loop _ a=>a | _=> .skip) k ⟨[(0,.ptr to 0),(2,.int .i64 (i:Nat)),(8,.sl eo 0 E.length E.length),(9,.int .i64 (E.length:Nat)),(10,.int .i64 (i:Nat))],[]⟩ s Q:=by
 have hl:i < E.length:=(List.getElem?_eq_some_iff.mp hi).1
 have hln:=zAv E
 have hge:(E.map entD)[0+i]? =some (entD e):=by rw [Nat.zero_add,List.getElem?_map,hi]; rfl
 have hw:IntKind.wrap .i64 ((i:Int)+1)=((i+1:Nat):Int):=by rw [wrap_small (by omega) (by omega)]; omega
 obtain⟨s1,c1,⟨st',c2,_,c3⟩,c4⟩:=yGu (cp:=E.length - i) hs ge (by omega) hst hi
 show Run T H (.seq _ _) k _ s Q
 try refine go ?_
 simp only [hw]
 try refine go ?_
 have hi1:i+1 - i=1:=by omega
 simp only [Int.toNat_natCast,hi1,Nat.zero_add]
 refine zTp (d:= .int .i64 1) (s1:=s1) ?_ rfl (copy_op ge hst hi c1 rfl rfl)
 try refine go ?_
 simp only [hw]
 exact hk _ _ rfl ⟨st',c2,c3⟩ c4
theorem drop_ev (hT:TT T){s:St}{to eo st:Nat}{c n1 n2 n3 n4:D}{E:List Ent}(hs:s.Ok)
  (gt:s.get to=some (.var 183 (.agg [.nilp,.sl eo 0 E.length E.length,c,n1,n2,n3,n4])))(ge:s.get eo=some (.arr 5 243 (E.map entD) st))(hst:st≤E.length)(hE:E.length≤32000):
  EvP T H 158 [.ptr to 0] s fun _ s1=>s1.get to=some (.var 183 (.agg [.nilp,.sl eo 0 E.length E.length,c,n1,n2,n3,n4]))∧(∃st',st' ≤E.length∧s1.get eo=some (.arr 5 243 (E.map entD) st'))∧Beh (fun j=>j=eo∨j=to) s s1:=by
 have nte:to≠eo:=by rintro rfl; rw [gt]at ge; cases ge
 refine evI hT.t158 ?_
 try refine go ?_
 refine zAh E.length (fun j=> [(0,.ptr to 0),(2,.int .i64 (j:Nat)),(8,.sl eo 0 E.length E.length),(9,.int .i64 (E.length:Nat)),(10,.int .i64 (j:Nat))]) (fun j s' =>(∃st',st' ≤E.length∧s'.get eo=some (.arr 5 243 (E.map entD) st'))∧Beh (fun j=>j=eo) s s') ⟨⟨st,hst,ge⟩,Beh.refl hs⟩ ?_
 rintro j s' hj ⟨⟨st',q0,q1⟩,q2⟩
 have gt' :=q2.get hs gt nte
 rcases Nat.lt_or_ge j E.length with hl | hl
 ·refine zYm (i:=j) q2.ok gt' q1 q0 (List.getElem?_eq_getElem hl) hE ?_
  intro s1 env he z1 z2
  exact rtC (hF:=he) hl ⟨z1,q2.trans z2⟩
 ·have:j=E.length:=by omega
  subst this
  have hln:=zAv E
  try refine go ?_
  simp only [Int.toNat_natCast,Nat.sub_self,Nat.zero_add]
  refine zGh (s1:=s'.set0 eo (.arr 5 243 (E.map entD) E.length)) ?_ rfl (clear_op q2.ok q1 rfl rfl)
  have hb2:Beh (fun j=>j=eo) s' (s'.set0 eo (.arr 5 243 (E.map entD) E.length)):=Beh.set (Beh.refl q2.ok) _ (q2.ok.lt q1) (fun _=>rfl)
  have gt2:=hb2.get q2.ok gt' nte
  have lt2:=hb2.ok.lt gt2
  have ge2:(s'.set0 eo (.arr 5 243 (E.map entD) E.length)).get eo=some (.arr 5 243 (E.map entD) E.length):=St.gsE
  have ok2:=hb2.ok
  generalize s'.set0 eo (.arr 5 243 (E.map entD) E.length)=s2 at hb2 gt2 lt2 ge2 ok2 ⊢
  try refine go ?_
  have hb3:∀d:D,Beh (fun j=>j=eo∨j=to) s2 (s2.set0 to (.var 183 d)):=fun d=>Beh.set (W:=fun j=>j=eo∨j=to) (Beh.refl ok2) _ lt2 (fun _=> .inr rfl)
  exact zBx ⟨St.gsE,⟨E.length,Nat.le_refl _,St.gsN ge2 (Ne.symm nte)⟩,((q2.trans hb2).mono fun j hj=> .inl hj).trans (hb3 _)⟩
end
section
variable {T:Nat→Option AFn}{H Y:zAa}
theorem holds_ev (hT:TT T){s:St}{bo to j n:Nat}{x c n2 n3 n4:D}(gb:s.get bo=some (.var 131 (.ptr to 0)))(gt:s.get to=some (.var 183 (.agg [.nilp,x,c,.int .i64 (n:Nat),n2,n3,n4])))(hj:j≤20)(hn:n≤32000):
  EvP T H 157 [.int .i64 (j:Nat),.ptr bo 0] s fun d s1=>d= .bool (decide (3 * n≤2 ^ j))∧s1=s:=by
 have h1:=shl1 hj
 have h2:IntKind.wrap .i64 (3 * (n:Int))=((3 * n:Nat):Int):=by rw [wrap_small (by omega) (by omega)]; omega
 have h3:decide (((2 ^ j:Nat):Int) ≥ ((3 * n:Nat):Int))=decide (3 * n≤2 ^ j):=by
  rw [decide_eq_decide]; omega
 refine evI hT.t157 ?_
 try refine go ?_
 simp only [h1,h2,h3]
 exact rtF ⟨rfl,rfl⟩
theorem least_ev (hT:TT T){s:St}{bo to L n:Nat}{x c n2 n3 n4:D}(gb:s.get bo=some (.var 131 (.ptr to 0)))(gt:s.get to=some (.var 183 (.agg [.nilp,x,c,.int .i64 (n:Nat),n2,n3,n4])))(hn:n≤32000)
  (h3:3≤L)(hL:L≤15)(h1:3 * n≤2 ^ L)(h2:∀j,3≤j→j < L→2 ^ j < 3 * n):
  EvP T H 156 [.fn (.func 157) [] [.ptr bo 0]] s fun d s1=>d= .int .i64 (L:Nat)∧s1=s:=by
 refine evI hT.t156 ?_
 try refine go ?_
 refine zAh (L - 3) (fun j=> [(0,.fn (.func 157) [] [.ptr bo 0]),(2,.int .i64 0),(3,.int .i64 (3+j:Nat))]) (fun j s' =>s' =s) rfl ?_
 rintro j s' hj rfl
 have hh:=holds_ev (H:=H) hT gb gt (j:=3+j) (by omega) hn
 try refine go ?_
 refine clE hh ?_
 rintro d s2 ⟨rfl,rfl⟩
 rcases Nat.lt_or_ge j (L - 3) with hl | hl
 ·have hf:decide (3 * n≤2 ^ (3+j))=false:=by
   have:=h2 (3+j) (by omega) (by omega)
   rw [decide_eq_false_iff_not]; omega
  simp only [hf]
  try refine go ?_
  exact rtC hl rfl
 ·have hjL:3+j=L:=by omega
  have hf:decide (3 * n≤2 ^ (3+j))=true:=by
   rw [decide_eq_true_eq,hjL]; exact h1
  simp only [hf]
  try refine go ?_
  rw [hjL]
  exact rtF ⟨rfl,rfl⟩
end
inductive EnAt (s:St):D→Nat→List Ent→Prop
 | nil (eo:Nat):EnAt s (.vs true 0 []) eo []
 | sl (eo st:Nat) (E:List Ent) (h:s.get eo=some (.arr 5 243 (E.map entD) st)) (hs:st≤E.length):EnAt s (.sl eo 0 E.length E.length) eo E
theorem EnAt.beh {W:Nat→Prop}{s s1:St}{x:D}{eo:Nat}{E:List Ent}(h:EnAt s x eo E)(hs:s.Ok)(hb:Beh W s s1)(hw0:∀es st,s.get eo=some (.arr 5 243 es st)→ ¬ W eo):EnAt s1 x eo E:=by
 rcases h with _ | ⟨_,st,E,h,h1⟩
 ·exact .nil eo
 ·exact .sl eo st E (hb.get hs h (hw0 _ _ h)) h1
@[reducible] def tblD (x:D) (co n:Nat) (m:Int):D:= .agg [.nilp,x,.ptr co 0,.int .i64 (n:Nat),.int .i64 (n:Nat),.int .i64 m,.int .i64 (n:Nat)]
structure zQb (s:St)(to eo co ro log:Nat)(b:Bool)(st:Nat)(x:D)(E:List Ent)(C:List Int):Prop where
 go:s.get to=some (.var 183 (tblD x co E.length ((log:Int) - 2)))
 en:EnAt s x eo E
 ce:CeA s co ro log b st C
 la:zCe log (hsh E) C
 rm:E.length≤2 * 2 ^ log / 3
theorem zQb.cv {s:St}{to eo co ro log st:Nat}{b:Bool}{x:D}{E:List Ent}{C:List Int}(h:zQb s to eo co ro log b st x E C):∀v∈C, -1≤v∧v < (E.length:Int):=fun v hv=>by
 have:=h.la.vals v hv
 rwa [List.length_map]at this
theorem zQb.nt {s:St}{to eo co ro log st:Nat}{b:Bool}{x:D}{E:List Ent}{C:List Int}(h:zQb s to eo co ro log b st x E C):to≠ro∧to≠co∧co≠ro∧(E≠ []→eo≠to∧eo≠co∧eo≠ro):=by
 have h1:=h.go; have h2:=h.ce.go; have h3:=h.ce.gr
 refine⟨?_, ?_,h.ce.ne,fun hE=> ?_⟩
 ·rintro rfl; rw [h1]at h3; cases h3
 ·rintro rfl; rw [h1]at h2; simp at h2
 ·rcases h.en with _ | ⟨_,st,_,h4,_⟩
  ·exact absurd rfl hE
  ·refine⟨?_, ?_, ?_⟩
   ·rintro rfl; rw [h1]at h4; cases h4
   ·rintro rfl; rw [h2]at h4; cases h4
   ·rintro rfl; rw [h3]at h4; simp at h4
section
variable {T:Nat→Option AFn}{H Y:zAa}
theorem zJe (hT:TT T){s:St}{to co:Nat}{x n1 n2 n3 n4:D}(gt:s.get to=some (.var 183 (.agg [.nilp,x,.ptr co 0,n1,n2,n3,n4]))):EvP T H 138 [.ptr to 0] s fun _ s1=>s1=s:=by
 refine evI hT.t138 ?_
 try refine go ?_
 exact zBx rfl
def Added (s:St)(to:Nat)(E:List Ent)(en:Ent)(W:Nat→Prop)(s1:St):Prop:=∃eo co ro log b st x C,zQb s1 to eo co ro log b st x (E++ [en]) C∧(W eo∨s.n≤eo)∧(W co∨s.n≤co)∧(W ro∨s.n≤ro)∧Beh W s s1
theorem zOd {s s6:St}{to eo co ro log st st0:Nat}{b:Bool}{E:List Ent}{en:Ent} {C C' :List Int}{W:Nat→Prop}(g6:s6.get to=some (.var 183 (tblD (.sl eo 0 (E.length+1) (E.length+1)) co (E.length+1) ((log:Int) - 2))))
  (g6e:s6.get eo=some (.arr 5 243 ((E++ [en]).map entD) st0))(hst:st0≤E.length)(hc6:CeA s6 co ro log b st C')(hla:zCe log (hsh E) C)(hl:Laid log en.h (E.length:Nat) C C')(hn:E.length < 2 * 2 ^ log / 3)
  (hb:Beh W s s6)(we:W eo∨s.n≤eo)(wc:W co∨s.n≤co)(wr:W ro∨s.n≤ro):Added s to E en W s6:=by
 have hlen:(E++ [en]).length=E.length+1:=by simp
 refine⟨eo,co,ro,log,b,st,.sl eo 0 (E++ [en]).length (E++ [en]).length,C',⟨by rw [hlen]; exact g6,.sl eo st0 _ g6e (by omega),hc6, ?_,by omega⟩,we,wc,wr,hb⟩
 have:hsh (E++ [en])=hsh E++ [en.h]:=by simp [hsh]
 rw [this]
 exact .snoc hla (by rw [List.length_map]; exact hl)
theorem add_sl (hT:TT T){s:St}{to eo co ro log st st0:Nat}{b:Bool}{E:List Ent}{C:List Int}{h ky v:Int}{W:Nat→Prop}(hs:s.Ok)
  (ht:zQb s to eo co ro log b st (.sl eo 0 E.length E.length) E C)(ge:s.get eo=some (.arr 5 243 (E.map entD) st0))(hst:st0≤E.length)(hn:E.length < 2 * 2 ^ log / 3)(hE:E.length≤1000)
  (wt:W to)(we:W eo)(wr:W ro)(wc:W co):
  EvP T H 133 [.ptr to 0,.int .i64 h,.int .i64 ky,.int .i64 v] s fun d s1=>d= .tup [.int .i64 (E.length:Nat),.int .i64 0]∧Added s to E (Ent.mk h ky v (E.length:Nat)) W s1:=by
 obtain⟨n1,n2,n3,n4⟩:=ht.nt
 have hs0:Beh (fun _=>False) s (s.push0 (.var 131 (.ptr to 0))):=Beh.push (Beh.refl hs) _
 have gb:(s.push0 (.var 131 (.ptr to 0))).get s.n=some (.var 131 (.ptr to 0)):=St.gpE
 have gt:=hs0.get hs ht.go (fun h=>h)
 have ge1:=hs0.get hs ge (fun h=>h)
 have hc:=ht.ce.beh hs hs0 (fun h=>h) (fun h=>h)
 have lt:=hs.lt ht.go; have le:=hs.lt ge; have lr:=hs.lt ht.ce.gr; have lc:=hs.lt ht.ce.go
 have nte:to≠eo:=by rintro rfl; have:=ht.go; rw [this]at ge; cases ge
 have hln:=zAv E
 have hen:E.map entD++ [entD (Ent.mk h ky v (E.length:Nat))]=(E++ [Ent.mk h ky v (E.length:Nat)]).map entD:=by simp
 have hroom:=zMx (H:=H) hT hc
 have hbeg:=zJe (H:=H) hT gt
 have hok:=hs0.ok
 refine evI hT.t133 ?_
 try refine go ?_
 generalize hs1:s.push0 (.var 131 (.ptr to 0))=s1 at *
 have hn1:s1.n=s.n+1:=by rw [← hs1]; rfl
 refine clE hbeg ?_
 rintro d s2 rfl
 try refine go ?_
 refine dpC hroom ?_
 rintro d s3 ⟨rfl,rfl⟩
 refine⟨rfl,by simp [lost,AOp.kind,lAs,zAf,fpOf,wtD,fpRd,fpRd.objs,fpRg,Opd.ev,Env.get,sOb,D.flat,D.isAgg,cEq,D.beqs,D.beq,Nat.beq_refl,Obj.beq_rfl,laR,soR,D.bsR,D.beq_rfl,gb,gt,ge1], ?_⟩
 try refine go ?_
 refine zAg (fun hc=> ?_) (fun hc=> ?_)
 ·exfalso
  have:=Int.natCast_inj.mp (beq_iff_eq.mp hc)
  omega
 ·clear hc
  have lt3:=hok.lt gt; have le3:=hok.lt ge1
  have b4:Beh (fun j=>j=eo∨j=to) s3 (((s3.up 1).set0 eo (.arr 5 243 (E.map entD++ [entD (Ent.mk h ky v (E.length:Nat))]) st0)).set0 to (.var 183 (.agg [.nilp,.sl eo 0 (E.length+1) (E.length+1),.ptr co 0,.int .i64 (E.length:Nat),.int .i64 (E.length:Nat),.int .i64 ((log:Int) - 2),.int .i64 (E.length:Nat)]))):=
   Beh.set (W:=fun j=>j=eo∨j=to) (Beh.set (W:=fun j=>j=eo∨j=to) (Beh.up (Beh.refl hok) 1) _ (by rw [St.n_up]; omega) (fun _=> .inl rfl)) _ (by rw [St.nS0,St.n_up]; omega) (fun _=> .inr rfl)
  have g4t:(((s3.up 1).set0 eo (.arr 5 243 (E.map entD++ [entD (Ent.mk h ky v (E.length:Nat))]) st0)).set0 to (.var 183 (.agg [.nilp,.sl eo 0 (E.length+1) (E.length+1),.ptr co 0,.int .i64 (E.length:Nat),.int .i64 (E.length:Nat),.int .i64 ((log:Int) - 2),.int .i64 (E.length:Nat)]))).get to=_:=St.gsE
  have g4e:(((s3.up 1).set0 eo (.arr 5 243 (E.map entD++ [entD (Ent.mk h ky v (E.length:Nat))]) st0)).set0 to (.var 183 (.agg [.nilp,.sl eo 0 (E.length+1) (E.length+1),.ptr co 0,.int .i64 (E.length:Nat),.int .i64 (E.length:Nat),.int .i64 ((log:Int) - 2),.int .i64 (E.length:Nat)]))).get eo=some (.arr 5 243 ((E++ [Ent.mk h ky v (E.length:Nat)]).map entD) st0):=by
   rw [← hen]; exact St.gsN St.gsE (Ne.symm nte)
  have nce:co≠eo:=by rintro rfl; have:=ht.ce.go; rw [this]at ge; cases ge
  have nre:ro≠eo:=by rintro rfl; have:=ht.ce.gr; rw [this]at ge; simp at ge
  have hc4:=hc.beh hok b4 (by omega) (by omega)
  have hcv:∀v∈C, -1≤v∧v < 32768:=fun v hv=>by have:=ht.cv v hv; omega
  have hlay:=zUt (H:=H) (i:=E.length) (n:=E.length+1) (en:=Ent.mk h ky v (E.length:Nat)) hT b4.ok g4t g4e (by simp) (Nat.lt_succ_self _) (by simp) (by omega) hc4 hcv hn
  try refine go ?_
  refine clE hlay ?_
  rintro d s5 ⟨C',q1,⟨st',q2⟩,q3⟩
  have k5:Beh W s3 s5:=(b4.mono fun j hj=>by rcases hj with rfl | rfl; exact we; exact wt).trans (q3.mono fun j hj=>by subst hj; exact wr)
  have k0:Beh W s s5:=(hs0.mono fun j hj=>hj.elim).trans k5
  have g5t:=q3.get b4.ok g4t n1
  have g5e:=q3.get b4.ok g4e (Ne.symm nre)
  have g4b:=b4.get hok gb (by omega)
  have g5b:=q3.get b4.ok g4b (by omega)
  have lt5:=q3.ok.lt g5t
  have hok5:=q3.ok
  have hw1:IntKind.wrap .i64 ((E.length:Int)+1)=((E.length+1:Nat):Int):=by rw [wrap_small (by omega) (by omega)]; omega
  clear hlay hbeg hroom g4t g4e g4b
  try refine go ?_
  have b6:∀d1 d2 d3:D,Beh (fun j=>j=to) s5 (((s5.set0 to (.var 183 d1)).set0 to (.var 183 d2)).set0 to (.var 183 d3)):=fun d1 d2 d3=>
   Beh.set (W:=fun j=>j=to) (Beh.set (W:=fun j=>j=to) (Beh.set (W:=fun j=>j=to) (Beh.refl hok5) _ lt5 (fun _=>rfl)) _ lt5 (fun _=>rfl)) _ lt5 (fun _=>rfl)
  exact rtF ⟨rfl,zOd (log:=log) St.gsE ((b6 _ _ _).get hok5 g5e (Ne.symm nte)) hst (q2.beh hok5 (b6 _ _ _) (Ne.symm n2) (Ne.symm n1)) ht.la q1 hn (k0.trans ((b6 _ _ _).mono fun j hj=>by subst hj; exact wt)) (.inl we) (.inl wc) (.inl wr)⟩
end
section
variable {T:Nat→Option AFn}{H Y:zAa}
theorem add_nil (hT:TT T){s:St}{to eo co ro log st:Nat}{b:Bool}{C:List Int}{h ky v:Int}{W:Nat→Prop}(hs:s.Ok)
  (ht:zQb s to eo co ro log b st (.vs true 0 []) [] C)
  (wt:W to)(wr:W ro)(wc:W co):
  EvP T H 133 [.ptr to 0,.int .i64 h,.int .i64 ky,.int .i64 v] s fun d s1=>d= .tup [.int .i64 0,.int .i64 0]∧Added s to [] (Ent.mk h ky v 0) W s1:=by
 obtain⟨n1,n2,n3,n4⟩:=ht.nt
 have hn:0 < 2 * 2 ^ log / 3:=by have:=ht.ce.pow; omega
 have hs0:Beh (fun _=>False) s (s.push0 (.var 131 (.ptr to 0))):=Beh.push (Beh.refl hs) _
 have gb:(s.push0 (.var 131 (.ptr to 0))).get s.n=some (.var 131 (.ptr to 0)):=St.gpE
 have gt:(s.push0 (.var 131 (.ptr to 0))).get to=some (.var 183 (.agg [.nilp,.vs true 0 [],.ptr co 0,.int .i64 0,.int .i64 0,.int .i64 ((log:Int) - 2),.int .i64 0])):=hs0.get hs ht.go (fun h=>h)
 have hc:=ht.ce.beh hs hs0 (fun h=>h) (fun h=>h)
 have lt:=hs.lt ht.go; have lr:=hs.lt ht.ce.gr; have lc:=hs.lt ht.ce.go
 have hroom:=zMx (H:=H) hT hc
 have hbeg:=zJe (H:=H) hT gt
 have hok:=hs0.ok
 refine evI hT.t133 ?_
 try refine go ?_
 generalize hs1:s.push0 (.var 131 (.ptr to 0))=s1 at *
 have hn1:s1.n=s.n+1:=by rw [← hs1]; rfl
 refine clE hbeg ?_
 rintro d s2 rfl
 try refine go ?_
 refine dpC hroom ?_
 rintro d s3 ⟨rfl,rfl⟩
 refine⟨rfl,by simp [lost,AOp.kind,lAs,zAf,fpOf,wtD,fpRd,fpRd.objs,fpRg,Opd.ev,Env.get,sOb,D.flat,D.isAgg,cEq,D.beqs,D.beq,Nat.beq_refl,Obj.beq_rfl,laR,soR,D.bsR,D.beq_rfl,gb,gt], ?_⟩
 try refine go ?_
 refine zAg (fun hc=> ?_) (fun hc=> ?_)
 ·exfalso
  have:=Int.natCast_inj.mp (beq_iff_eq.mp hc)
  simp at this
  omega
 ·clear hc
  have lt3:=hok.lt gt
  have b4:Beh (fun j=>j=to) s3 (((s3.up 1).set0 (s3.n+0) (.arr 5 243 [entD (Ent.mk h ky v 0)] 0)).set0 to (.var 183 (.agg [.nilp,.sl (s3.n+0) 0 1 1,.ptr co 0,.int .i64 0,.int .i64 0,.int .i64 ((log:Int) - 2),.int .i64 0]))):=by
   refine Beh.set (W:=fun j=>j=to) ?_ _ (by rw [St.nS0,St.n_up]; omega) (fun _=>rfl)
   exact Beh.set (W:=fun j=>j=to) (Beh.up (Beh.refl hok) 1) _ (by rw [St.n_up]; omega) (fun h=>by omega)
  have g4t:(((s3.up 1).set0 (s3.n+0) (.arr 5 243 [entD (Ent.mk h ky v 0)] 0)).set0 to (.var 183 (.agg [.nilp,.sl (s3.n+0) 0 1 1,.ptr co 0,.int .i64 0,.int .i64 0,.int .i64 ((log:Int) - 2),.int .i64 0]))).get to=_:=St.gsE
  have g4e:(((s3.up 1).set0 (s3.n+0) (.arr 5 243 [entD (Ent.mk h ky v 0)] 0)).set0 to (.var 183 (.agg [.nilp,.sl (s3.n+0) 0 1 1,.ptr co 0,.int .i64 0,.int .i64 0,.int .i64 ((log:Int) - 2),.int .i64 0]))).get (s3.n+0)=some (.arr 5 243 (([Ent.mk h ky v 0]:List Ent).map entD) 0):=St.gsN St.gsE (by omega)
  have hc4:=hc.beh hok b4 (Ne.symm n2) (Ne.symm n1)
  have hcv:∀v∈C, -1≤v∧v < 32768:=fun v hv=>by have:=ht.cv v hv; simp at this; omega
  have hlay:=zUt (H:=H) (i:=0) (n:=1) (en:=Ent.mk h ky v 0) hT b4.ok g4t g4e (by simp) (by omega) (by simp) (by omega) hc4 hcv hn
  have l3:=hok.lt hc.gr
  try refine go ?_
  refine clE hlay ?_
  rintro d s5 ⟨C',q1,⟨st',q2⟩,q3⟩
  have k5:Beh W s3 s5:=(b4.mono fun j hj=>by subst hj; exact wt).trans (q3.mono fun j hj=>by subst hj; exact wr)
  have k0:Beh W s s5:=(hs0.mono fun j hj=>hj.elim).trans k5
  have g5t:=q3.get b4.ok g4t n1
  have g5e:=q3.get b4.ok g4e (by omega)
  have g4b:=b4.get hok gb (by omega)
  have g5b:=q3.get b4.ok g4b (by omega)
  have lt5:=q3.ok.lt g5t
  have hok5:=q3.ok
  clear hlay hbeg hroom g4t g4e g4b
  try refine go ?_
  have b6:∀d1 d2 d3:D,Beh (fun j=>j=to) s5 (((s5.set0 to (.var 183 d1)).set0 to (.var 183 d2)).set0 to (.var 183 d3)):=fun d1 d2 d3=>
   Beh.set (W:=fun j=>j=to) (Beh.set (W:=fun j=>j=to) (Beh.set (W:=fun j=>j=to) (Beh.refl hok5) _ lt5 (fun _=>rfl)) _ lt5 (fun _=>rfl)) _ lt5 (fun _=>rfl)
  exact rtF ⟨rfl,zOd (log:=log) (E:=[]) (en:=Ent.mk h ky v 0) St.gsE ((b6 _ _ _).get hok5 g5e (by omega)) (Nat.le_refl _) (q2.beh hok5 (b6 _ _ _) (Ne.symm n2) (Ne.symm n1)) ht.la q1 hn (k0.trans ((b6 _ _ _).mono fun j hj=>by subst hj; exact wt)) (.inr (by omega)) (.inl wc) (.inl wr)⟩
end
section
variable {T:Nat→Option AFn}{H Y:zAa}
theorem grow_num {log n:Nat}(h3:3≤log)(h:n=2 * 2 ^ log / 3)(hE:n≤1000):log≤10∧3 * n≤2 ^ (log+1)∧(∀j,3≤j→j < log+1→2 ^ j < 3 * n)∧n < 2 * 2 ^ (log+1) / 3:=by
 have e8:8≤2 ^ log:=(Nat.pow_le_pow_right (by decide) h3:2 ^ 3≤2 ^ log)
 have e1:2 ^ (log+1)=2 * 2 ^ log:=by rw [Nat.pow_succ,Nat.mul_comm]
 refine⟨?_,by omega,fun j hj hl=> ?_,by omega⟩
 ·rcases Nat.lt_or_ge log 11 with h1 | h1
  ·omega
  ·have:2 ^ 11≤2 ^ log:=Nat.pow_le_pow_right (by decide) h1
   omega
 ·have:2 ^ j≤2 ^ log:=Nat.pow_le_pow_right (by decide) (by omega)
  omega
theorem add_grow (hT:TT T){s:St}{to eo co ro log st st0:Nat}{b:Bool}{E:List Ent}{C:List Int}{h ky v:Int}{W:Nat→Prop}(hs:s.Ok)
  (ht:zQb s to eo co ro log b st (.sl eo 0 E.length E.length) E C)(ge:s.get eo=some (.arr 5 243 (E.map entD) st0))(hst:st0≤E.length)(hn0:E.length=2 * 2 ^ log / 3)(hE:E.length≤1000)
  (wt:W to)(we:W eo):
  EvP T H 133 [.ptr to 0,.int .i64 h,.int .i64 ky,.int .i64 v] s fun d s1=>d= .tup [.int .i64 (E.length:Nat),.int .i64 0]∧Added s to E (Ent.mk h ky v (E.length:Nat)) W s1:=by
 obtain⟨n1,n2,n3,n4⟩:=ht.nt
 have h3:=ht.ce.lo
 have hpow:=ht.ce.pow
 obtain⟨hl10,hL1,hL2,hn⟩:=grow_num ht.ce.lo hn0 hE
 have hs0:Beh (fun _=>False) s (s.push0 (.var 131 (.ptr to 0))):=Beh.push (Beh.refl hs) _
 have gb:(s.push0 (.var 131 (.ptr to 0))).get s.n=some (.var 131 (.ptr to 0)):=St.gpE
 have gt:=hs0.get hs ht.go (fun h=>h)
 have ge1:=hs0.get hs ge (fun h=>h)
 have hc:=ht.ce.beh hs hs0 (fun h=>h) (fun h=>h)
 have lt:=hs.lt ht.go; have le:=hs.lt ge; have lr:=hs.lt ht.ce.gr; have lc:=hs.lt ht.ce.go
 have nte:to≠eo:=by rintro rfl; have:=ht.go; rw [this]at ge; cases ge
 have hln:=zAv E
 have hen:E.map entD++ [entD (Ent.mk h ky v (E.length:Nat))]=(E++ [Ent.mk h ky v (E.length:Nat)]).map entD:=by simp
 have hroom:=zMx (H:=H) hT hc
 have hbeg:=zJe (H:=H) hT gt
 have hok:=hs0.ok
 refine evI hT.t133 ?_
 try refine go ?_
 generalize hs1:s.push0 (.var 131 (.ptr to 0))=s1 at *
 have hn1:s1.n=s.n+1:=by rw [← hs1]; rfl
 refine clE hbeg ?_
 rintro d s2 rfl
 try refine go ?_
 refine dpC hroom ?_
 rintro d s3 ⟨rfl,rfl⟩
 refine⟨rfl,by simp [lost,AOp.kind,lAs,zAf,fpOf,wtD,fpRd,fpRd.objs,fpRg,Opd.ev,Env.get,sOb,D.flat,D.isAgg,cEq,D.beqs,D.beq,Nat.beq_refl,Obj.beq_rfl,laR,soR,D.bsR,D.beq_rfl,gb,gt,ge1], ?_⟩
 try refine go ?_
 refine zAg (fun hc=> ?_) (fun hc=> ?_)
 rotate_left
 ·exfalso
  rw [hn0]at hc
  simp at hc
 ·clear hc
  have hleast:=least_ev (H:=H) (L:=log+1) hT gb gt (by omega) (by omega) (by omega) hL1 hL2
  have hdrop:=drop_ev (H:=H) hT hok gt ge1 hst (by omega)
  try refine go ?_
  refine clE hleast ?_
  rintro d s2 ⟨rfl,rfl⟩
  try refine go ?_
  refine clE hdrop ?_
  rintro d s4 ⟨z1,⟨st4,z2,z3⟩,z4⟩
  have gb4:=z4.get hok gb (by omega)
  have hindex:=zVz (H:=H) (log:=log+1) hT z4.ok z1 (by omega) (by omega) (by omega)
  try refine go ?_
  refine clE hindex ?_
  rintro d s5 ⟨co',ro',b',st5,C0,y1,y2,y3,y4,y5,y6⟩
  have ge5:=y6.get z4.ok z3 (Ne.symm nte)
  have gb5:=y6.get z4.ok gb4 (by omega)
  have hall:=yFy (H:=H) hT y6.ok y3 (.sl eo _ st4 E ge5 z2 (Nat.le_refl _)) y4 y5 (by omega) (by omega)
  try refine go ?_
  refine clE hall ?_
  rintro d s6 ⟨C6,st6,x1,x2,x3⟩
  have m4:=z4.n; have m5:=y6.n; have m6:=x3.n
  have nrt:to≠ro' :=by omega
  have nre:eo≠ro' :=by omega
  have hm:(log:Int) - 2+1=((log+1:Nat):Int) - 2:=by omega
  rw [hm]at y3
  have gt6:=x3.get y6.ok y3 nrt
  have ge6:=x3.get y6.ok ge5 nre
  have gb6:=x3.get y6.ok gb5 (by omega)
  have kk:Beh W s s6:=(hs0.mono fun j hj=>hj.elim).trans ((z4.mono fun j hj=>by rcases hj with rfl | rfl; exact we; exact wt).trans ((y6.mono fun j hj=>by subst hj; exact wt).trans' x3 (by rintro j rfl hj; omega)))
  have hok6:=x3.ok
  have lt3:=hok6.lt gt6; have le3:=hok6.lt ge6
  have b4:Beh (fun j=>j=eo∨j=to) s6 (((s6.up 1).set0 eo (.arr 5 243 (E.map entD++ [entD (Ent.mk h ky v (E.length:Nat))]) st4)).set0 to (.var 183 (.agg [.nilp,.sl eo 0 (E.length+1) (E.length+1),.ptr co' 0,.int .i64 (E.length:Nat),.int .i64 (E.length:Nat),.int .i64 (((log+1:Nat):Int) - 2),.int .i64 (E.length:Nat)]))):=
   Beh.set (W:=fun j=>j=eo∨j=to) (Beh.set (W:=fun j=>j=eo∨j=to) (Beh.up (Beh.refl hok6) 1) _ (by rw [St.n_up]; omega) (fun _=> .inl rfl)) _ (by rw [St.nS0,St.n_up]; omega) (fun _=> .inr rfl)
  have g4t:(((s6.up 1).set0 eo (.arr 5 243 (E.map entD++ [entD (Ent.mk h ky v (E.length:Nat))]) st4)).set0 to (.var 183 (.agg [.nilp,.sl eo 0 (E.length+1) (E.length+1),.ptr co' 0,.int .i64 (E.length:Nat),.int .i64 (E.length:Nat),.int .i64 (((log+1:Nat):Int) - 2),.int .i64 (E.length:Nat)]))).get to=_:=St.gsE
  have g4e:(((s6.up 1).set0 eo (.arr 5 243 (E.map entD++ [entD (Ent.mk h ky v (E.length:Nat))]) st4)).set0 to (.var 183 (.agg [.nilp,.sl eo 0 (E.length+1) (E.length+1),.ptr co' 0,.int .i64 (E.length:Nat),.int .i64 (E.length:Nat),.int .i64 (((log+1:Nat):Int) - 2),.int .i64 (E.length:Nat)]))).get eo=some (.arr 5 243 ((E++ [Ent.mk h ky v (E.length:Nat)]).map entD) st4):=by
   rw [← hen]; exact St.gsN St.gsE (Ne.symm nte)
  have hc4:=x2.beh hok6 b4 (by omega) (by omega)
  have hcv:∀v∈C6, -1≤v∧v < 32768:=fun v hv=>by have:=x1.vals v hv; rw [List.length_map]at this; omega
  have hlay:=zUt (H:=H) (i:=E.length) (n:=E.length+1) (en:=Ent.mk h ky v (E.length:Nat)) hT b4.ok g4t g4e (by simp) (Nat.lt_succ_self _) (by simp) (by omega) hc4 hcv hn
  clear hleast hdrop hindex hall hbeg hroom gb gt ge1 hc
  try refine go ?_
  refine clE hlay ?_
  rintro d s7 ⟨C',q1,⟨st',q2⟩,q3⟩
  have k7:Beh W s s7:=(kk.trans' b4 (by rintro j (rfl | rfl) hj; exact we; exact wt)).trans' q3 (by rintro j rfl hj; omega)
  have g5t:=q3.get b4.ok g4t nrt
  have g5e:=q3.get b4.ok g4e nre
  have g4b:=b4.get hok6 gb6 (by omega)
  have g5b:=q3.get b4.ok g4b (by omega)
  have lt5:=q3.ok.lt g5t
  have hok5:=q3.ok
  clear hlay g4t g4e g4b gb4 gb5 gb6 gt6 ge6 z1
  try refine go ?_
  have b6:∀d1 d2 d3:D,Beh (fun j=>j=to) s7 (((s7.set0 to (.var 183 d1)).set0 to (.var 183 d2)).set0 to (.var 183 d3)):=fun d1 d2 d3=>
   Beh.set (W:=fun j=>j=to) (Beh.set (W:=fun j=>j=to) (Beh.set (W:=fun j=>j=to) (Beh.refl hok5) _ lt5 (fun _=>rfl)) _ lt5 (fun _=>rfl)) _ lt5 (fun _=>rfl)
  exact rtF ⟨rfl,zOd (log:=log+1) St.gsE ((b6 _ _ _).get hok5 g5e (Ne.symm nte)) z2 (q2.beh hok5 (b6 _ _ _) (by omega) (by omega)) x1 q1 hn (k7.trans ((b6 _ _ _).mono fun j hj=>by subst hj; exact wt)) (.inl we) (.inr (by omega)) (.inr (by omega))⟩
end
section
variable {T:Nat→Option AFn}{H Y:zAa}
theorem Add_ev (hT:TT T){s:St}{to eo co ro log st:Nat}{b:Bool}{x:D}{E:List Ent}{C:List Int}{h ky v:Int}{W:Nat→Prop}(hs:s.Ok)
  (ht:zQb s to eo co ro log b st x E C)(hE:E.length≤1000)(wt:W to)(we:W eo)(wr:W ro)(wc:W co):
  EvP T H 133 [.ptr to 0,.int .i64 h,.int .i64 ky,.int .i64 v] s fun d s1=>d= .tup [.int .i64 (E.length:Nat),.int .i64 0]∧Added s to E (Ent.mk h ky v (E.length:Nat)) W s1:=by
 have he:=ht.en
 rcases he with _ | ⟨_,st0,E,g,hst⟩
 ·exact add_nil hT hs ht wt wr wc
 ·rcases Nat.lt_or_eq_of_le ht.rm with h1 | h1
  ·exact add_sl hT hs ht g hst h1 hE wt we wr wc
  ·exact add_grow hT hs ht g hst h1 hE wt we
theorem tlen_ev (hT:TT T){s:St}{to n:Nat}{x c n2 n3 n4:D}(gt:s.get to=some (.var 183 (.agg [.nilp,x,c,.int .i64 (n:Nat),n2,n3,n4]))):
  EvP T H 51 [.ptr to 0] s fun d s1=>d= .int .i64 (n:Nat)∧s1=s:=by
 refine evI hT.t51 ?_
 try refine go ?_
 exact rtF ⟨rfl,rfl⟩
theorem zOu (hT:TT T){s:St}{to eo st i:Nat}{E:List Ent}{c n1 n2 n3 n4:D}(gt:s.get to=some (.var 183 (.agg [.nilp,.sl eo 0 E.length E.length,c,n1,n2,n3,n4])))(ge:s.get eo=some (.arr 5 243 (E.map entD) st))(hst:st≤E.length)(hi:i < E.length)(hE:E.length≤2000):
  EvP T H 144 [.ptr to 0,.int .i64 (i:Nat)] s fun d s1=>d= .int .i64 0∧s1=s:=by
 have hge:(E.map entD)[0+i]? =some (entD E[i]):=by rw [Nat.zero_add,List.getElem?_map,List.getElem?_eq_getElem hi]; rfl
 have hln:=zAv E
 refine evI hT.t144 ?_
 try refine go ?_
 exact rtF ⟨rfl,rfl⟩
theorem At_ev (hT:TT T){s:St}{to eo st i:Nat}{E:List Ent}{e:Ent}{c n1 n2 n3 n4:D}(gt:s.get to=some (.var 183 (.agg [.nilp,.sl eo 0 E.length E.length,c,n1,n2,n3,n4])))(ge:s.get eo=some (.arr 5 243 (E.map entD) st))(hst:st≤E.length)(hi:E[i]? =some e)(hE:E.length≤2000):
  EvP T H 115 [.ptr to 0,.int .i64 (i:Nat)] s fun d s1=>d= .tup [entD e,.int .i64 0]∧s1=s:=by
 have hl:i < E.length:=(List.getElem?_eq_some_iff.mp hi).1
 have hge:(E.map entD)[0+i]? =some (entD e):=by rw [Nat.zero_add,List.getElem?_map,hi]; rfl
 have hln:=zAv E
 have hw:=zOu (H:=H) hT gt ge hst hl hE
 refine evI hT.t115 ?_
 try refine go ?_
 refine clE hw ?_
 rintro d s1 ⟨rfl,rfl⟩
 try refine go ?_
 exact rtF ⟨rfl,rfl⟩
end
end Go.Proofs.YtmcdajnpdekocaaGreatDoor.Tab
