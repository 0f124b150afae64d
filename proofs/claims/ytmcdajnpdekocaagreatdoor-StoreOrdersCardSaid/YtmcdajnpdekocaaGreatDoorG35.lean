/- Part. -/
import Derived.Test.YtmcdajnpdekocaaGreatDoorG34
set_option linter.unusedSectionVars false
set_option linter.unusedSimpArgs false
set_option linter.unusedVariables false
set_option maxRecDepth 100000
set_option maxHeartbeats 1000000
namespace Go.Proofs.YtmcdajnpdekocaaGreatDoor.Tab
open Go Go.Ab Go.Ab.Sm
theorem wrap_small {n:Int}(h1: -9223372036854775808≤n)(h2:n < 9223372036854775808):IntKind.wrap .i64 n=n:=by
 simp only [IntKind.wrap,IntKind.signed,IntKind.bits,Bool.true_and,decide_eq_true_eq,ge_iff_le]
 rw [show ((2:Int) ^ (64 - 1))=9223372036854775808 from rfl,show ((2:Int) ^ 64)=18446744073709551616 from rfl]
 split <;> omega
abbrev u32s (V:List Nat):List D:=V.map fun v:Nat=>D.int .u32 (v:Int)
theorem u3l (V:List Nat):(u32s V).length=V.length:=List.length_map _
inductive Ws (s:St):D→List Nat→Prop
 | vs (nl:Bool) (V:List Nat) (hn:nl=true→V=[]):Ws s (.vs nl 1 (u32s V)) V
 | nil:Ws s (.vs true 0 []) []
 | sl (o cp:Nat) (V R:List Nat) (h:s.get o=some (.arr 1 140 (u32s (V++R)) 0)) (hc:V.length≤cp):Ws s (.sl o 0 V.length cp) V
def zPm (V:List Nat):List Nat:=(V.reverse.dropWhile (· ==0)).reverse
theorem zDm (V:List Nat):zPm (V++ [0])=zPm V:=by simp [zPm]
theorem zDd {V:List Nat}{v:Nat}(h:v≠0):zPm (V++ [v])=V++ [v]:=by
 have:(v==0)=false:=by simp [h]
 simp [zPm,this]
theorem zHf {α:Type}(V:List α){n:Nat}(h:n < V.length):V.take (n+1)=V.take n++ [V[n]]:=by rw [List.take_add_one,List.getElem?_eq_getElem h]; rfl
theorem zKq (V:List Nat):zPm V=[]∨∃W v,zPm V=W++ [v]∧v≠0:=by
 unfold zPm
 cases h:V.reverse.dropWhile (· ==0) with
 | nil=>exact .inl rfl
 | cons v W=>
  refine .inr ⟨W.reverse,v,by simp, ?_⟩
  have:=List.head?_dropWhile_not (· ==0) V.reverse
  rw [h]at this
  simpa using this
theorem zDe (V:List Nat):zPm (zPm V)=zPm V:=by
 rcases zKq V with h | ⟨W,v,h,hv⟩
 ·rw [h]; rfl
 ·rw [h,zDd hv]
theorem zBy (V:List Nat):(zPm V).length≤V.length:=by
 unfold zPm
 rw [List.length_reverse]
 have:=(List.dropWhile_sublist (l:=V.reverse) (· ==0)).length_le
 rwa [List.length_reverse]at this
theorem Ws.items {s:St}{x:D}{V:List Nat}(h:Ws s x V):∃z,items s x=some (z,u32s V)∧(z=1∨V=[]):=by
 rcases h with ⟨nl,V,hn⟩ | _ | ⟨o,cp,V,R,hg,hc⟩
 ·exact⟨1,rfl,.inl rfl⟩
 ·exact⟨0,rfl,.inr rfl⟩
 ·refine⟨1, ?_,.inl rfl⟩
  have e1:Nat.ble (0+V.length) (u32s (V++R)).length=true:=Nat.ble_eq_true_of_le (by rw [u3l,List.length_append]; omega)
  have e2:Nat.ble 0 (0+cp)=true:=Nat.ble_eq_true_of_le (Nat.zero_le _)
  simp only [Ab.items,hg,e1,e2]
  congr 2
  simp
theorem Ws.beh {W:Nat→Prop}{s s1:St}{x:D}{V:List Nat}(h:Ws s x V)(hs:s.Ok)(hb:Beh W s s1)(hw:∀j es st,s.get j=some (.arr 1 140 es st)→ ¬ W j):Ws s1 x V:=by
 rcases h with ⟨nl,V,hn⟩ | _ | ⟨o,cp,V,R,hg,hc⟩
 ·exact .vs nl V hn
 ·exact .nil
 ·exact .sl o cp V R (hb.get hs hg (hw _ _ _ hg)) hc
theorem zFy (V:List Nat):allSz 1 (u32s V)=true:=by
 induction V with
 | nil=>rfl
 | cons v V ih=>simp only [u32s,List.map_cons,allSz]at ih ⊢; rw [ih]; rfl
section
variable {T:Nat→Option AFn}{H:zAa}
theorem zFc (hT:TW T){s:St}{x:D}{V:List Nat}(hx:Ws s x V)(hV:V.length≤maxLen):EvP T H 54 [x] s fun d s1=>s1=s∧Ws s d (zPm V):=by
 have hmax:maxLen=9223372036854775807:=by decide
 rcases hx with ⟨nl,V,hnl⟩ | _ | ⟨o,cp,V,R,hg,hc⟩
 ·refine evI hT.t54 ?_
  try refine go ?_
  refine zAm (fun m env s' =>s' =s∧m≤V.length∧env=[(0,.vs nl 1 (u32s (V.take m)))]∧zPm (V.take m)=zPm V) V.length rfl ⟨rfl,Nat.le_refl _, ?_,by rw [List.take_length]⟩ ?_
  ·rw [List.take_length]; rfl
  rintro m env s' ⟨rfl,hm,rfl,ht⟩
  have hl:(u32s (V.take m)).length=m:=by rw [u3l,List.length_take]; omega
  cases m with
  | zero=>
   try refine go ?_
   refine rtF ⟨rfl, ?_⟩
   rw [← ht]
   exact .vs nl (V.take 0) (fun _=>rfl)
  | succ m=>
   have hlt:m < V.length:=by omega
   have hw:IntKind.wrap .i64 (((u32s (V.take (m+1))).length:Int) - 1)=(m:Nat):=by rw [hl,wrap_small (by omega) (by omega)]; omega
   have he:(u32s (V.take (m+1)))[m]? =some (.int .u32 (V[m]:Nat)):=by simp [hlt]
   have htk:(u32s (V.take (m+1))).take m=u32s (V.take m):=by simp [List.take_take]
   have htl:=zHf V hlt
   generalize hv:V[m]=v at he htl
   by_cases h0:v=0
   ·try refine go ?_
    simp only [hw]
    try refine go ?_
    simp only [hw]
    refine ops_svs (L:=u32s (V.take (m+1))) (hi' :=m) (lo' :=0) (.inl rfl) rfl (show idxo _ (some (D.int .i64 (m:Nat)))=some m from zPz (kd:= .i64)) (Nat.zero_le _) (by omega) ?_
    try refine go ?_
    rw [List.drop_zero,htk]
    refine rtN m (by omega) rfl ⟨rfl,by omega,rfl, ?_⟩
    rw [← ht,htl,h0,zDm]
   ·try refine go ?_
    simp only [hw]
    try refine go ?_
    refine rtF ⟨rfl, ?_⟩
    rw [← ht,htl,zDd h0,← htl]
    exact .vs nl _ (fun h=>by rw [hnl h]; rfl)
 ·refine evI hT.t54 ?_
  try refine go ?_
  refine zCr ?_
  try refine go ?_
  exact rtF ⟨rfl,.nil⟩
 ·refine evI hT.t54 ?_
  try refine go ?_
  refine zAm (fun m env s' =>s' =s∧m≤V.length∧env=[(0,.sl o 0 m cp)]∧zPm (V.take m)=zPm V) V.length rfl ⟨rfl,Nat.le_refl _,rfl,by rw [List.take_length]⟩ ?_
  rintro m env s' ⟨rfl,hm,rfl,ht⟩
  have hln:(u32s (V++R)).length=V.length+R.length:=by rw [u3l,List.length_append]
  cases m with
  | zero=>
   try refine go ?_
   refine rtF ⟨rfl, ?_⟩
   rw [← ht]
   exact .sl o cp [] (V++R) hg (Nat.zero_le _)
  | succ m=>
   have hlt:m < V.length:=by omega
   have hw:IntKind.wrap .i64 (((m+1:Nat):Int) - 1)=(m:Nat):=by rw [wrap_small (by omega) (by omega)]; omega
   have he:(u32s (V++R))[0+m]? =some (.int .u32 (V[m]:Nat)):=by simp [hlt,List.getElem?_append]
   have htl:=zHf V hlt
   generalize hv:V[m]=v at he htl
   by_cases h0:v=0
   ·try refine go ?_
    simp only [hw]
    try refine go ?_
    simp only [hw]
    try refine go ?_
    refine rtN m (by omega) rfl ⟨rfl,by omega,rfl, ?_⟩
    rw [← ht,htl,h0,zDm]
   ·try refine go ?_
    simp only [hw]
    try refine go ?_
    refine rtF ⟨rfl, ?_⟩
    rw [← ht,htl,zDd h0,← htl]
    have:=Ws.sl (s:=s') o cp (V.take (m+1)) (V.drop (m+1)++R) (by rw [← List.append_assoc,List.take_append_drop]; exact hg) (by rw [List.length_take]; omega)
    rw [List.length_take,Nat.min_eq_left hm]at this
    exact this
end
section
variable {T:Nat→Option AFn}{H:zAa}
theorem zWu (hT:TW T){s:St}{x:D}{V:List Nat}(hs:s.Ok)(hx:Ws s x V)(hV:V.length≤mxE):EvP T H 53 [x] s fun d s1=>Ws s1 d V∧Beh Nil s s1:=by
 rcases hx with ⟨nl,V,hnl⟩ | _ | ⟨o,cp,V,R,hg,hc⟩
 ·cases nl with
  | true=>
   rw [hnl rfl]
   refine evI hT.t53 ?_
   try refine go ?_
   exact rtF ⟨.nil,Beh.refl hs⟩
  | false=>
   refine evI hT.t53 ?_
   cases V with
   | nil=>
    try refine go ?_
    refine yAy (z:=1) rfl ?_
    try refine go ?_
    exact rtF ⟨.sl s.n 0 [] [] St.gpE (Nat.le_refl _),Beh.push (Beh.refl hs) _⟩
   | cons v V=>
    have hll:0+(u32s (v::V)).length≤mxE:=by rw [u3l,Nat.zero_add]; exact hV
    refine zJl ?_
    try refine go ?_
    refine zJn (z:=1) (m:=u32s (v::V)) rfl rfl (by simp) (zFy _) hll ?_ (es:=[]) (off:=0) (he:=rfl)
    try refine go ?_
    refine rtF ⟨?_,Beh.set (Beh.push (Beh.refl hs) _) _ (by rw [St.nP0]; omega) (fun h=>by omega)⟩
    have:=Ws.sl (s:=(s.push0 (.arr 1 140 [] 0)).set0 s.n (.arr 1 140 ([]++u32s (v::V)) 0)) s.n (0+(u32s (v::V)).length) (v::V) [] (by rw [List.append_nil]; exact St.gsE) (by rw [u3l]; omega)
    rw [show 0+(u32s (v::V)).length=(v::V).length by rw [u3l]; omega]at this ⊢
    exact this
 ·refine evI hT.t53 ?_
  try refine go ?_
  exact rtF ⟨.nil,Beh.refl hs⟩
 ·refine evI hT.t53 ?_
  have lo:=hs.lt hg
  have hg1:(s.push0 (.arr 1 140 [] 0)).get o=some (.arr 1 140 (u32s (V++R)) 0):=St.gpN hg (by omega)
  obtain⟨z,hz,hz1⟩:=(Ws.sl (s:=s.push0 (.arr 1 140 [] 0)) o cp V R hg1 hc).items
  cases V with
  | nil=>
   try refine go ?_
   refine yAy hz ?_
   try refine go ?_
   exact rtF ⟨.sl s.n 0 [] [] St.gpE (Nat.le_refl _),Beh.push (Beh.refl hs) _⟩
  | cons v V=>
   have hll:0+(u32s (v::V)).length≤mxE:=by rw [u3l,Nat.zero_add]; exact hV
   have hz2:z=1:=by rcases hz1 with h | h; exact h; cases h
   try refine go ?_
   refine zJn hz hz2 (by simp) (zFy _) hll ?_ (es:=[]) (off:=0) (he:=rfl)
   try refine go ?_
   refine rtF ⟨?_,Beh.set (Beh.push (Beh.refl hs) _) _ (by rw [St.nP0]; omega) (fun h=>by omega)⟩
   have:=Ws.sl (s:=(s.push0 (.arr 1 140 [] 0)).set0 s.n (.arr 1 140 ([]++u32s (v::V)) 0)) s.n (0+(u32s (v::V)).length) (v::V) [] (by rw [List.append_nil]; exact St.gsE) (by rw [u3l]; omega)
   rw [show 0+(u32s (v::V)).length=(v::V).length by rw [u3l]; omega]at this ⊢
   exact this
def zPp (ng:Bool)(V:List Nat):Bool×List Nat:=match zPm V with
 | []=>(false,[])
 | v::W=>(ng,v::W)
theorem zYi (ng:Bool)(V:List Nat):zPp ng (zPm V)=zPp ng V:=by unfold zPp; rw [zDe]
theorem zYj (ng:Bool)(V:List Nat):zPp (zPp ng V).1 (zPp ng V).2=zPp ng V:=by
 unfold zPp
 cases h:zPm V with
 | nil=>rfl
 | cons v W=>simp only; rw [← h,zDe,h]
theorem yGk (ng:Bool)(V:List Nat):zPp (!(zPp (!(zPp ng V).1) (zPp ng V).2).1) (zPp (!(zPp ng V).1) (zPp ng V).2).2=zPp ng V:=by
 unfold zPp
 cases h:zPm V with
 | nil=>rfl
 | cons v W=>simp only; rw [← h,zDe,h]; simp only; rw [← h,zDe,h]; simp
theorem zHc (ng:Bool)(V:List Nat):(zPp ng V).2.length≤V.length:=by
 have:=zBy V
 unfold zPp
 cases h:zPm V with
 | nil=>simp
 | cons v W=>rw [h]at this; exact this
def IsN (s:St)(d:D)(n:Bool×List Nat):Prop:=∃y,d= .agg [.bool n.1,y]∧Ws s y n.2
theorem IsN.beh {W:Nat→Prop}{s s1:St}{d:D}{n:Bool×List Nat}(h:IsN s d n)(hs:s.Ok)(hb:Beh W s s1)(hw:∀j es st,s.get j=some (.arr 1 140 es st)→ ¬ W j):IsN s1 d n:=by
 obtain⟨y,h1,h2⟩:=h
 exact⟨y,h1,h2.beh hs hb hw⟩
theorem mlen {s:St}{y:D}{V:List Nat}(h:Ws s y V):lenD s 1 y=some V.length:=by
 rcases h with ⟨nl,V,hn⟩ | _ | ⟨o,cp,V,R,hg,hc⟩
 ·simp [lenD]
 ·rfl
 ·rfl
theorem zNj (hT:TW T){s:St}{x:D}{ng:Bool}{V:List Nat}(hx:Ws s x V)(hV:V.length≤maxLen):EvP T H 79 [.bool ng,x] s fun d s1=>s1=s∧IsN s d (zPp ng V):=by
 have hmax:maxLen=9223372036854775807:=by decide
 have htr:=zFc (H:=H) hT hx hV
 have hle:=zBy V
 unfold zPp
 rcases hx with ⟨nl,V,hn⟩ | _ | ⟨o,cp,V,R,hg,hc⟩
 all_goals
  refine evI hT.t79 ?_
  try refine go ?_
  refine clE htr ?_
  rintro d s1 ⟨rfl,hd⟩
  generalize zPm _=W at hd hle ⊢
  rcases hd with ⟨nl',W,hn'⟩ | _ | ⟨o',cp',W,R',hg',hc'⟩
  ·cases W with
   | nil=>
    try refine go ?_
    exact rtF ⟨rfl,_,rfl,.nil⟩
   | cons v W=>
    have hq:((u32s (v::W)).length:Int)≠0:=by rw [u3l,List.length_cons]; omega
    try refine go ?_
    exact rtF ⟨rfl,_,rfl,.vs _ _ hn'⟩
  ·try refine go ?_
   exact rtF ⟨rfl,_,rfl,.nil⟩
  ·cases W with
   | nil=>
    try refine go ?_
    exact rtF ⟨rfl,_,rfl,.nil⟩
   | cons v W=>
    have hq:((v::W).length:Int)≠0:=by rw [List.length_cons]; omega
    try refine go ?_
    exact rtF ⟨rfl,_,rfl,.sl _ _ _ _ hg' hc'⟩
end
open Go Go.Ab
def valN:List Nat→Nat
 | []=>0
 | a::r=>a+4294967296 * valN r
theorem zUy (V R:List Nat):valN (V++R)=valN V+4294967296 ^ V.length * valN R:=by
 induction V with
 | nil=>simp [valN]
 | cons a r ih=>simp only [List.cons_append,valN,ih,List.length_cons,Nat.pow_succ,Nat.mul_add]; rw [Nat.mul_comm (4294967296 ^ r.length) 4294967296,Nat.mul_assoc]; omega
theorem zVb {P:List Nat→Prop}(h0:P [])(h1:∀V v,P V→P (V++ [v]))(V:List Nat):P V:=by
 have key:∀W:List Nat,P W.reverse:=by
  intro W
  induction W with
  | nil=>exact h0
  | cons a r ih=>rw [List.reverse_cons]; exact h1 _ _ ih
 have:=key V.reverse
 rwa [List.reverse_reverse]at this
theorem zJu (V:List Nat):valN (zPm V)=valN V:=by
 refine zVb (P:=fun V=>valN (zPm V)=valN V) rfl (fun V v ih=> ?_) V
 by_cases h:v=0
 ·subst h; rw [zDm,ih,zUy]; simp [valN]
 ·rw [zDd h]
theorem zJv (V:List Nat)(h:zPm V≠ []):0 < valN (zPm V):=by
 rcases zKq V with h1 | ⟨W,v,h1,h2⟩
 ·exact absurd h1 h
 ·rw [h1,zUy]
  have:0 < 4294967296 ^ W.length * valN [v]:=Nat.mul_pos (Nat.pow_pos (by omega)) (by simp [valN]; omega)
  omega
theorem zHv (V:List Nat):zPm V=V.take (zPm V).length:=by
 refine zVb (P:=fun V=>zPm V=V.take (zPm V).length) rfl (fun V v ih=> ?_) V
 by_cases h:v=0
 ·subst h
  rw [zDm,List.take_append_of_le_length (zBy V)]; exact ih
 ·rw [zDd h,List.take_length]
def divN:List Nat→List Nat×Nat
 | []=>([],0)
 | a::r=>let q:=divN r; ((q.2 * 4294967296+a) / 1000000000::q.1,(q.2 * 4294967296+a) % 1000000000)
theorem zNz:∀V:List Nat,(divN V).1.length=V.length
 | []=>rfl
 | a::r=>by simp [divN,zNz r]
theorem zNd:∀V:List Nat,(divN V).2 < 1000000000
 | []=>by simp [divN]
 | a::r=>by simp only [divN]; omega
theorem zNy:∀V:List Nat,valN V=valN (divN V).1 * 1000000000+(divN V).2
 | []=>rfl
 | a::r=>by
  have:=zNy r
  simp only [divN,valN]
  omega
theorem zMp:∀V:List Nat,(∀v∈V,v < 4294967296)→∀v∈(divN V).1,v < 4294967296
 | [],_,v,hv=>by simp [divN]at hv
 | a::r,h,v,hv=>by
  simp only [divN,List.mem_cons]at hv
  rcases hv with rfl | hv
  ·have h1:=h a (by simp)
   have h2:=zNd r
   omega
  ·exact zMp r (fun v hv=>h v (by simp [hv])) v hv
theorem divN_q (V:List Nat):valN (divN V).1=valN V / 1000000000:=by
 have:=zNy V; have:=zNd V; omega
theorem divN_r (V:List Nat):(divN V).2=valN V % 1000000000:=by
 have:=zNy V; have:=zNd V; omega
def zAd (n:Nat):List Nat:=if h:n=0 then [] else n % 1000000000::zAd (n / 1000000000)
 termination_by n
 decreasing_by omega
theorem zKa:zAd 0=[]:=by rw [zAd,dif_pos rfl]
theorem zDn {n:Nat}(h:n≠0):zAd n=n % 1000000000::zAd (n / 1000000000):=by rw [zAd,dif_neg h]
theorem zXs (n:Nat):∀p∈zAd n,p < 1000000000:=by
 induction n using Nat.strongRecOn with
 | ind n ih=>
  intro p hp
  by_cases h:n=0
  ·rw [h,zKa]at hp; cases hp
  ·rw [zDn h]at hp
   simp only [List.mem_cons]at hp
   rcases hp with rfl | hp
   ·omega
   ·exact ih _ (by omega) p hp
theorem zUa (n:Nat):∀k,n < 1000000000 ^ k→(zAd n).length≤k:=by
 induction n using Nat.strongRecOn with
 | ind n ih=>
  intro k hk
  by_cases h:n=0
  ·rw [h,zKa]; simp
  ·cases k with
   | zero=>simp at hk; omega
   | succ k=>
    rw [zDn h,List.length_cons]
    have:=ih (n / 1000000000) (by omega) k (by rw [Nat.pow_succ]at hk; rw [Nat.div_lt_iff_lt_mul (by omega)]; exact hk)
    omega
def dig9 (n:Nat):List UInt8:=[n / 100000000,n / 10000000,n / 1000000,n / 100000,n / 10000,n / 1000,n / 100,n / 10,n].map fun d=>UInt8.ofNat (48+d % 10)
def zBq (P:List Nat):List UInt8:=P.reverse.flatMap dig9
def zRb (ng:Bool)(V:List Nat):List UInt8:=if zPm V=[] then [48] else (if ng then [45] else [])++(zBq (zAd (valN V))).dropWhile (· ==48)
theorem or_words {a b:Nat}(ha:a < 4294967296)(hb:b < 4294967296):IntKind.wrap .u64 (((BitVec.ofInt (IntKind.bits .u64) ((a * 4294967296:Nat):Int) ||| BitVec.ofInt (IntKind.bits .u64) (b:Int)).toNat:Nat):Int)=((a * 4294967296+b:Nat):Int):=by
 have e1:(BitVec.ofInt 64 ((a * 4294967296:Nat):Int)).toNat=a * 4294967296:=by
  rw [BitVec.ofInt_natCast,BitVec.toNat_ofNat,Nat.mod_eq_of_lt (by omega)]
 have e2:(BitVec.ofInt 64 ((b:Nat):Int)).toNat=b:=by
  rw [BitVec.ofInt_natCast,BitVec.toNat_ofNat,Nat.mod_eq_of_lt (by omega)]
 have e3:a * 4294967296 ||| b=a * 4294967296+b:=by
  have:=Nat.two_pow_add_eq_or_of_lt (i:=32) (b:=b) (by simpa using hb) a
  rw [show (2:Nat) ^ 32=4294967296 by rfl,Nat.mul_comm]at this
  exact this.symm
 show IntKind.wrap .u64 (((BitVec.ofInt 64 ((a * 4294967296:Nat):Int) ||| BitVec.ofInt 64 (b:Int)).toNat:Nat):Int)=_
 rw [BitVec.toNat_or,e1,e2,e3]
 simp only [IntKind.wrap,IntKind.signed,IntKind.bits,Bool.false_and,decide_eq_true_eq]
 rw [show ((2:Int) ^ 64)=18446744073709551616 from rfl]
 simp only [Bool.false_eq_true,if_false]
 omega
theorem zMt {n:Nat}(h:n < 18446744073709551616):IntKind.wrap .u64 (n:Int)=(n:Int):=by
 simp only [IntKind.wrap,IntKind.signed,IntKind.bits,Bool.false_and,decide_eq_true_eq]
 rw [show ((2:Int) ^ 64)=18446744073709551616 from rfl]
 simp only [Bool.false_eq_true,if_false]
 omega
theorem zMu {n:Nat}(h:n < 4294967296):IntKind.wrap .u32 (n:Int)=(n:Int):=by
 simp only [IntKind.wrap,IntKind.signed,IntKind.bits,Bool.false_and,decide_eq_true_eq]
 rw [show ((2:Int) ^ 32)=4294967296 from rfl]
 simp only [Bool.false_eq_true,if_false]
 omega
def dgd (x:Nat):D:= .int .u8 ((48+x % 10:Nat):Int)
def dgs (n:Nat):Nat→List D
 | 0=> [.int .u8 0,.int .u8 0,.int .u8 0,.int .u8 0,.int .u8 0,.int .u8 0,.int .u8 0,.int .u8 0,.int .u8 0]
 | 1=> [.int .u8 0,.int .u8 0,.int .u8 0,.int .u8 0,.int .u8 0,.int .u8 0,.int .u8 0,.int .u8 0,dgd (n / 10 ^ 0)]
 | 2=> [.int .u8 0,.int .u8 0,.int .u8 0,.int .u8 0,.int .u8 0,.int .u8 0,.int .u8 0,dgd (n / 10 ^ 1),dgd (n / 10 ^ 0)]
 | 3=> [.int .u8 0,.int .u8 0,.int .u8 0,.int .u8 0,.int .u8 0,.int .u8 0,dgd (n / 10 ^ 2),dgd (n / 10 ^ 1),dgd (n / 10 ^ 0)]
 | 4=> [.int .u8 0,.int .u8 0,.int .u8 0,.int .u8 0,.int .u8 0,dgd (n / 10 ^ 3),dgd (n / 10 ^ 2),dgd (n / 10 ^ 1),dgd (n / 10 ^ 0)]
 | 5=> [.int .u8 0,.int .u8 0,.int .u8 0,.int .u8 0,dgd (n / 10 ^ 4),dgd (n / 10 ^ 3),dgd (n / 10 ^ 2),dgd (n / 10 ^ 1),dgd (n / 10 ^ 0)]
 | 6=> [.int .u8 0,.int .u8 0,.int .u8 0,dgd (n / 10 ^ 5),dgd (n / 10 ^ 4),dgd (n / 10 ^ 3),dgd (n / 10 ^ 2),dgd (n / 10 ^ 1),dgd (n / 10 ^ 0)]
 | 7=> [.int .u8 0,.int .u8 0,dgd (n / 10 ^ 6),dgd (n / 10 ^ 5),dgd (n / 10 ^ 4),dgd (n / 10 ^ 3),dgd (n / 10 ^ 2),dgd (n / 10 ^ 1),dgd (n / 10 ^ 0)]
 | 8=> [.int .u8 0,dgd (n / 10 ^ 7),dgd (n / 10 ^ 6),dgd (n / 10 ^ 5),dgd (n / 10 ^ 4),dgd (n / 10 ^ 3),dgd (n / 10 ^ 2),dgd (n / 10 ^ 1),dgd (n / 10 ^ 0)]
 | _=> [dgd (n / 10 ^ 8),dgd (n / 10 ^ 7),dgd (n / 10 ^ 6),dgd (n / 10 ^ 5),dgd (n / 10 ^ 4),dgd (n / 10 ^ 3),dgd (n / 10 ^ 2),dgd (n / 10 ^ 1),dgd (n / 10 ^ 0)]
def dgF (n j:Nat):Env:=[(0,.int .u32 (n / 10 ^ j:Nat)),(2,(D.agg (dgs n 0)).lv),(3,(D.agg (dgs n j)).lv),(5,.int .i64 (j:Nat))]
theorem dg_b (x:Nat):D.int .u8 (IntKind.wrap .u8 (IntKind.wrap .u32 (48+Int.tmod (x:Int) 10)))=dgd x:=by
 have e1:48+Int.tmod (x:Int) 10=((48+x % 10:Nat):Int):=by rw [Int.tmod_eq_emod_of_nonneg (by omega)]; omega
 rw [e1,zMu (by omega)]
 have e2:IntKind.wrap .u8 ((48+x % 10:Nat):Int)=((48+x % 10:Nat):Int):=by
  simp only [IntKind.wrap,IntKind.signed,IntKind.bits,Bool.false_and,decide_eq_true_eq]
  rw [show ((2:Int) ^ 8)=256 from rfl]
  simp only [Bool.false_eq_true,if_false]
  omega
 rw [e2]; rfl
theorem dg_q {n:Nat}(h:n < 1000000000)(j:Nat):IntKind.wrap .u32 (Int.tdiv ((n / 10 ^ j:Nat):Int) 10)=((n / 10 ^ (j+1):Nat):Int):=by
 have e0:n / 10 ^ (j+1)=n / 10 ^ j / 10:=by rw [Nat.pow_succ,Nat.div_div_eq_div_mul]
 have e1:Int.tdiv ((n / 10 ^ j:Nat):Int) 10=((n / 10 ^ (j+1):Nat):Int):=by
  rw [e0]; generalize n / 10 ^ j=x; rw [Int.tdiv_eq_ediv_of_nonneg (by omega)]; omega
 have e2:n / 10 ^ (j+1)≤n:=Nat.div_le_self _ _
 rw [e1,zMu (by omega)]
theorem dgs_9 (n:Nat):dgs n 9=(dig9 n).map fun c=> .int .u8 c.toNat:=by
 have key:∀x:Nat,(((UInt8.ofNat (48+x % 10)).toNat:Nat):Int)=((48+x % 10:Nat):Int):=fun x=>by
  rw [UInt8.toNat_ofNat']; omega
 simp only [dgs,dig9,List.map_cons,List.map_nil,dgd,key,Nat.pow_zero,Nat.div_one]
section
variable {T:Nat→Option AFn}{H:zAa}{s:St}
theorem zCs {b:Nat}{k:List Kont}{l:List zPk}{Q:QP}{t n:Nat}{e:Env}{ds:List (D×List D)}{g:Option (Nat×Bool)}{x y:Opd}{m:List UInt8}(h:Ops T H b l k ⟨(t,.str (m.drop n))::e,ds⟩ s Q)(hn:n≤m.length)(hw:wtD e g=some true:=by rfl)(hx:x.ev e=some (.str m):=by rfl)(hy:y.ev e=some (.int .i64 (Nat.cast n)):=by rfl):Ops T H b (⟨some t,.sstr x (some y) none,g,none⟩::l) k ⟨e,ds⟩ s Q:=by
 have e1:Nat.ble n m.length=true:=Nat.ble_eq_true_of_le hn
 have e2:Nat.ble m.length m.length=true:=Nat.ble_eq_true_of_le (Nat.le_refl _)
 have e3:idxo 0 (some (.int .i64 (n:Int)))=some n:=by simp [idxo,idx]
 have e4:evo e (some y)=some (some (.int .i64 (n:Int))):=by simp [evo,hy]
 refine opA h hw ?_
 simp only [opF,hx,e4,show evo e none=some none from rfl,e3,show idxo m.length none=some m.length from rfl,e1,e2,List.take_length]
theorem Div32_ev (hX:TX T){hi lo:Nat}(h1:hi < 1000000000)(h2:lo < 4294967296):EvP T H 55 [.int .u32 hi,.int .u32 lo,.int .u32 1000000000] s fun d s1=>d= .tup [.int .u32 ((hi * 4294967296+lo) / 1000000000:Nat),.int .u32 ((hi * 4294967296+lo) % 1000000000:Nat)]∧s1=s:=by
 refine evI hX.t55 ?_
 try refine go ?_
 have e1:IntKind.wrap .u64 (hi:Int)=(hi:Int):=zMt (by omega)
 have e2:(hi:Int) * 2 ^ min (Int.toNat 32) (IntKind.bits .u64)=((hi * 4294967296:Nat):Int):=by
  rw [show (2:Int) ^ min (Int.toNat 32) (IntKind.bits .u64)=4294967296 from rfl]; omega
 have e3:IntKind.wrap .u64 ((hi * 4294967296:Nat):Int)=((hi * 4294967296:Nat):Int):=zMt (by omega)
 have e4:IntKind.wrap .u64 (lo:Int)=(lo:Int):=zMt (by omega)
 have e5:=or_words (a:=hi) (b:=lo) (by omega) h2
 have e6:IntKind.wrap .u64 1000000000=1000000000:=rfl
 have e7:Int.tdiv ((hi * 4294967296+lo:Nat):Int) 1000000000=(((hi * 4294967296+lo) / 1000000000:Nat):Int):=by
  rw [Int.tdiv_eq_ediv_of_nonneg (by omega)]; omega
 have e8:Int.tmod ((hi * 4294967296+lo:Nat):Int) 1000000000=(((hi * 4294967296+lo) % 1000000000:Nat):Int):=by
  rw [Int.tmod_eq_emod_of_nonneg (by omega)]; omega
 have e9:IntKind.wrap .u64 (((hi * 4294967296+lo) / 1000000000:Nat):Int)=(((hi * 4294967296+lo) / 1000000000:Nat):Int):=zMt (by omega)
 have e10:IntKind.wrap .u32 (((hi * 4294967296+lo) / 1000000000:Nat):Int)=(((hi * 4294967296+lo) / 1000000000:Nat):Int):=zMu (by omega)
 have e11:IntKind.wrap .u32 (((hi * 4294967296+lo) % 1000000000:Nat):Int)=(((hi * 4294967296+lo) % 1000000000:Nat):Int):=zMu (by omega)
 simp only [e1,e2,e3,e4,e5,e6,e7,e8,e9,e10,e11]
 exact rtF ⟨rfl,rfl⟩
theorem yGr (hX:TX T){n:Nat}(hn:n < 1000000000):EvP T H 57 [.int .u32 n] s fun d s1=>d= .agg ((dig9 n).map fun c=> .int .u8 c.toNat)∧s1=s:=by
 refine evI hX.t57 ?_
 try refine go ?_
 refine zAh 9 (fun j=>dgF n j) (fun j s' =>s' =s) rfl ?_ (hF:=by simp [dgF]; rfl)
 rintro j s' hj rfl
 rcases (show j=0∨j=1∨j=2∨j=3∨j=4∨j=5∨j=6∨j=7∨j=8∨j=9 by omega) with rfl | rfl | rfl | rfl | rfl | rfl | rfl | rfl | rfl | rfl
 ·show Run T H _ _ ⟨[(0,.int .u32 (n / 10 ^ 0:Nat)),(2,(D.agg (dgs n 0)).lv),(3,(D.agg (dgs n 0)).lv),(5,.int .i64 0)],[]⟩ _ _
  try refine go ?_
  rw [dg_b,dg_q hn]
  exact rtC (by omega) rfl rfl rfl
 ·show Run T H _ _ ⟨[(0,.int .u32 (n / 10 ^ 1:Nat)),(2,(D.agg (dgs n 0)).lv),(3,(D.agg (dgs n 1)).lv),(5,.int .i64 1)],[]⟩ _ _
  try refine go ?_
  rw [dg_b,dg_q hn]
  exact rtC (by omega) rfl rfl rfl
 ·show Run T H _ _ ⟨[(0,.int .u32 (n / 10 ^ 2:Nat)),(2,(D.agg (dgs n 0)).lv),(3,(D.agg (dgs n 2)).lv),(5,.int .i64 2)],[]⟩ _ _
  try refine go ?_
  rw [dg_b,dg_q hn]
  exact rtC (by omega) rfl rfl rfl
 ·show Run T H _ _ ⟨[(0,.int .u32 (n / 10 ^ 3:Nat)),(2,(D.agg (dgs n 0)).lv),(3,(D.agg (dgs n 3)).lv),(5,.int .i64 3)],[]⟩ _ _
  try refine go ?_
  rw [dg_b,dg_q hn]
  exact rtC (by omega) rfl rfl rfl
 ·show Run T H _ _ ⟨[(0,.int .u32 (n / 10 ^ 4:Nat)),(2,(D.agg (dgs n 0)).lv),(3,(D.agg (dgs n 4)).lv),(5,.int .i64 4)],[]⟩ _ _
  try refine go ?_
  rw [dg_b,dg_q hn]
  exact rtC (by omega) rfl rfl rfl
 ·show Run T H _ _ ⟨[(0,.int .u32 (n / 10 ^ 5:Nat)),(2,(D.agg (dgs n 0)).lv),(3,(D.agg (dgs n 5)).lv),(5,.int .i64 5)],[]⟩ _ _
  try refine go ?_
  rw [dg_b,dg_q hn]
  exact rtC (by omega) rfl rfl rfl
 ·show Run T H _ _ ⟨[(0,.int .u32 (n / 10 ^ 6:Nat)),(2,(D.agg (dgs n 0)).lv),(3,(D.agg (dgs n 6)).lv),(5,.int .i64 6)],[]⟩ _ _
  try refine go ?_
  rw [dg_b,dg_q hn]
  exact rtC (by omega) rfl rfl rfl
 ·show Run T H _ _ ⟨[(0,.int .u32 (n / 10 ^ 7:Nat)),(2,(D.agg (dgs n 0)).lv),(3,(D.agg (dgs n 7)).lv),(5,.int .i64 7)],[]⟩ _ _
  try refine go ?_
  rw [dg_b,dg_q hn]
  exact rtC (by omega) rfl rfl rfl
 ·show Run T H _ _ ⟨[(0,.int .u32 (n / 10 ^ 8:Nat)),(2,(D.agg (dgs n 0)).lv),(3,(D.agg (dgs n 8)).lv),(5,.int .i64 8)],[]⟩ _ _
  try refine go ?_
  rw [dg_b,dg_q hn]
  exact rtC (by omega) rfl rfl rfl
 ·show Run T H _ _ ⟨[(0,.int .u32 (n / 10 ^ 9:Nat)),(2,(D.agg (dgs n 0)).lv),(3,(D.agg (dgs n 9)).lv),(5,.int .i64 9)],[]⟩ _ _
  try refine go ?_
  refine rtF ⟨?_,rfl⟩
  rw [← dgs_9]; rfl
theorem zTu (hX:TX T){l:List UInt8}{c:UInt8}(hl:l.length≤1000000000):EvP T H 82 [.str l,.int .u8 c.toNat] s fun d s1=>d= .str (l.dropWhile (· ==c))∧s1=s:=by
 refine evI hX.t82 ?_
 try refine go ?_
 refine zAm (fun m env s' =>s' =s∧∃l',l'.length≤m∧l'.dropWhile (· ==c)=l.dropWhile (· ==c)∧l'.length≤l.length∧env=[(0,.str l'),(1,.int .u8 c.toNat)]) l.length rfl ⟨rfl,l,Nat.le_refl _,rfl,Nat.le_refl _,rfl⟩ ?_
 rintro m env s' ⟨rfl,l',hm,hd,hl',rfl⟩
 cases l' with
 | nil=>
  try refine go ?_
  exact rtF ⟨by rw [← hd],rfl⟩
 | cons a r=>
  have h0:(0:Int) < ((a::r).length:Nat):=by rw [List.length_cons]; omega
  try refine go ?_
  rcases Decidable.em (a=c) with hac | hac
  ·subst hac
   rw [show ((a.toNat:Int)==(a.toNat:Int))=true from beq_self_eq_true _]
   try refine go ?_
   refine zCs (n:=1) (m:=a::r) ?_ (by rw [List.length_cons]; omega)
   rw [show (a::r).drop 1=r from rfl]
   try refine go ?_
   rw [List.length_cons]at hm hl'
   refine rtN r.length (by omega) rfl ⟨rfl,r,Nat.le_refl _, ?_,by omega,rfl⟩
   rw [← hd,List.dropWhile_cons_of_pos (by simp)]
  ·rw [show ((a.toNat:Int)==(c.toNat:Int))=false from by rw [beq_eq_false_iff_ne]; intro h; exact hac (UInt8.toNat_inj.1 (by omega))]
   try refine go ?_
   refine rtF ⟨?_,rfl⟩
   rw [← hd,List.dropWhile_cons_of_neg (by simpa using hac)]
   rfl
end
def UI (l:List UInt8)(s:St)(m:Nat)(env:Env) (s' :St):Prop:=s' =s∧∃l',l'.length≤m∧l'.length≤l.length∧env=[(0,.str l')]
def zOt:AC:=match code68.body with
 | .seq _ (.seq (.block _ (.loop _ r)) _)=>r
 | _=> .skip
section
variable {T:Nat→Option AFn}{H:zAa}{s:St}
theorem zFw {b kk t n:Nat}{e:Env}{ds:List (D×List D)}{g:Option (Nat×Bool)}{acc:List Fp}{l:List (zPk×List Nat)}{k:List Kont}{Q:QP}{x y:Opd}{m:List UInt8}(h:DOps T H b kk l (acc++ [fpOf b e ⟨some t,.sstr x (some y) none,g,none⟩]) k ⟨(t,.str (m.drop n))::e,ds⟩ s Q)(hn:n≤m.length)(hw:wtD e g=some true:=by rfl)(hx:x.ev e=some (.str m):=by rfl)(hy:y.ev e=some (.int .i64 (Nat.cast n)):=by rfl)(hv0:Env.isLvo e (some t)=false:=by rfl):DOps T H b kk ((⟨some t,.sstr x (some y) none,g,none⟩,[])::l) acc k ⟨e,ds⟩ s Q:=by
 have e1:Nat.ble n m.length=true:=Nat.ble_eq_true_of_le hn
 have e2:Nat.ble m.length m.length=true:=Nat.ble_eq_true_of_le (Nat.le_refl _)
 have e3:idxo 0 (some (.int .i64 (n:Int)))=some n:=by simp [idxo,idx]
 have e4:evo e (some y)=some (some (.int .i64 (n:Int))):=by simp [evo,hy]
 refine zAl rfl hv0 (zCp rfl) h hw ?_ rfl
 simp only [opF,hx,e4,show evo e none=some none from rfl,e3,show idxo m.length none=some m.length from rfl,e1,e2,List.take_length]
theorem roundA (hU:TU T)(hs:s.Ok){l r:List UInt8}{a:UInt8}{m:Nat}{k:List Kont}{Q:QP}(hl:l.length≤1000000000)(hm:(a::r).length≤m) (hl' :(a::r).length≤l.length)(hx:(a.toNat:Int) < 128):
  Run T H zOt (.loop (UI l s) [0] m::k) ⟨[(0,.str (a::r))],[]⟩ s Q:=by
 have h0:(0:Int) < ((a::r).length:Nat):=by rw [List.length_cons]; omega
 have hd:decide ((a.toNat:Int) < 128)=true:=decide_eq_true hx
 show Run T H (.seq _ _) _ _ s Q
 try refine go ?_
 refine zCs (n:=1) (m:=a::r) ?_ (by rw [List.length_cons]; omega)
 rw [show (a::r).drop 1=r from rfl]
 have hr:r.length < m:=by rw [List.length_cons]at hm; omega
 have hr' :r.length≤l.length:=by rw [List.length_cons]at hl'; omega
 by_cases h8:8 < r.length
 ·have hd8:decide ((r.length:Int) > 8)=true:=decide_eq_true (by omega)
  try refine go ?_
  refine clE (zGf hU (by omega)) ?_
  rintro d s2 ⟨⟨w,rfl⟩,rfl⟩
  try refine go ?_
  generalize hb:(IntKind.wrap .u64 _==(0:Int))=b1
  cases b1
  ·try refine go ?_
   exact rtN r.length hr rfl ⟨rfl,r,Nat.le_refl _,hr',rfl⟩
  ·have h8' :8≤r.length:=by omega
   try refine go ?_
   refine zCs (n:=8) (m:=r) ?_ h8'
   obtain⟨r2,hr2⟩:∃r2,r2=r.drop 8:=⟨_,rfl⟩
   have hl2:r2.length+8=r.length:=by rw [hr2,List.length_drop]; omega
   rw [← hr2]
   by_cases h16:16 < r2.length
   ·have hd16:decide ((r2.length:Int) > 16)=true:=decide_eq_true (by omega)
    try refine go ?_
    try simp only [hd16]
    try refine go ?_
    refine dpC (zGf hU (l:=r2) (by omega)) ?_
    rintro d s3 ⟨⟨w2,rfl⟩,rfl⟩
    refine⟨rfl,by simp [lost,AOp.kind,lAs,zAf,fpOf,wtD,fpRd,fpRd.objs,fpRg,Opd.ev,Env.get,sOb,D.flat,D.isAgg,cEq,D.beqs,D.beq,Nat.beq_refl,Obj.beq_rfl,laR,soR,D.bsR,D.beq_rfl,List.getElem?_cons_zero], ?_⟩
    try refine go ?_
    refine zFw (n:=8) (m:=r2) ?_ (by omega)
    refine dpC (zGf hU (l:=r2.drop 8) (by rw [List.length_drop]; omega)) ?_
    rintro d s4 ⟨⟨w3,rfl⟩,rfl⟩
    refine⟨rfl,by simp [lost,AOp.kind,lAs,zAf,fpOf,wtD,fpRd,fpRd.objs,fpRg,Opd.ev,Env.get,sOb,D.flat,D.isAgg,cEq,D.beqs,D.beq,Nat.beq_refl,Obj.beq_rfl,laR,soR,D.bsR,D.beq_rfl,List.getElem?_cons_zero], ?_⟩
    try refine go ?_
    generalize hb2:(IntKind.wrap .u64 _==(0:Int))=b2
    cases b2
    ·try refine go ?_
     exact rtN r2.length (by omega) rfl ⟨rfl,r2,Nat.le_refl _,by omega,rfl⟩
    ·try refine go ?_
     refine zCs (n:=16) (m:=r2) ?_ (by omega)
     obtain⟨r3,hr3⟩:∃r3,r3=r2.drop 16:=⟨_,rfl⟩
     have hl3:r3.length+16=r2.length:=by rw [hr3,List.length_drop]; omega
     rw [← hr3]
     try refine go ?_
     refine zAm (fun m' env s' =>s' =s4∧∃l',l'.length≤m' ∧l'.length≤r3.length∧env=[(0,.str l')]) r3.length rfl ⟨rfl,r3,Nat.le_refl _,Nat.le_refl _,rfl⟩ ?_
     rintro m' env s' ⟨rfl,l',q1,q2,rfl⟩
     by_cases h32:32 < l'.length
     ·have hd32:decide ((l'.length:Int) > 32)=true:=decide_eq_true (by omega)
      try refine go ?_
      try simp only [hd32]
      try refine go ?_
      refine dpC (zGf hU (l:=l') (by omega)) ?_
      rintro d s3 ⟨⟨w4,rfl⟩,rfl⟩
      refine⟨rfl,by simp [lost,AOp.kind,lAs,zAf,fpOf,wtD,fpRd,fpRd.objs,fpRg,Opd.ev,Env.get,sOb,D.flat,D.isAgg,cEq,D.beqs,D.beq,Nat.beq_refl,Obj.beq_rfl,laR,soR,D.bsR,D.beq_rfl,List.getElem?_cons_zero], ?_⟩
      try refine go ?_
      refine zFw (n:=8) (m:=l') ?_ (by omega)
      refine dpC (zGf hU (l:=l'.drop 8) (by rw [List.length_drop]; omega)) ?_
      rintro d s4 ⟨⟨w5,rfl⟩,rfl⟩
      refine⟨rfl,by simp [lost,AOp.kind,lAs,zAf,fpOf,wtD,fpRd,fpRd.objs,fpRg,Opd.ev,Env.get,sOb,D.flat,D.isAgg,cEq,D.beqs,D.beq,Nat.beq_refl,Obj.beq_rfl,laR,soR,D.bsR,D.beq_rfl,List.getElem?_cons_zero], ?_⟩
      try refine go ?_
      refine zFw (n:=16) (m:=l') ?_ (by omega)
      refine dpC (zGf hU (l:=l'.drop 16) (by rw [List.length_drop]; omega)) ?_
      rintro d s5 ⟨⟨w6,rfl⟩,rfl⟩
      refine⟨rfl,by simp [lost,AOp.kind,lAs,zAf,fpOf,wtD,fpRd,fpRd.objs,fpRg,Opd.ev,Env.get,sOb,D.flat,D.isAgg,cEq,D.beqs,D.beq,Nat.beq_refl,Obj.beq_rfl,laR,soR,D.bsR,D.beq_rfl,List.getElem?_cons_zero], ?_⟩
      try refine go ?_
      refine zFw (n:=24) (m:=l') ?_ (by omega)
      refine dpC (zGf hU (l:=l'.drop 24) (by rw [List.length_drop]; omega)) ?_
      rintro d s6 ⟨⟨w7,rfl⟩,rfl⟩
      refine⟨rfl,by simp [lost,AOp.kind,lAs,zAf,fpOf,wtD,fpRd,fpRd.objs,fpRg,Opd.ev,Env.get,sOb,D.flat,D.isAgg,cEq,D.beqs,D.beq,Nat.beq_refl,Obj.beq_rfl,laR,soR,D.bsR,D.beq_rfl,List.getElem?_cons_zero], ?_⟩
      try refine go ?_
      generalize hb3:(IntKind.wrap .u64 _==(0:Int))=b3
      cases b3
      ·try refine go ?_
       exact rtN l'.length (by omega) rfl ⟨rfl,l',Nat.le_refl _,by omega,rfl⟩
      ·try refine go ?_
       refine zCs (n:=32) (m:=l') ?_ (by omega)
       try refine go ?_
       exact rtN (l'.drop 32).length (by rw [List.length_drop]; omega) rfl ⟨rfl,_,Nat.le_refl _,by rw [List.length_drop]; omega,rfl⟩
     ·have hd32:decide ((l'.length:Int) > 32)=false:=decide_eq_false (by omega)
      try refine go ?_
      try simp only [hd32]
      try refine go ?_
      refine zBg ?_ (by simp [lost,AOp.kind,lAs,zAf,fpOf,wtD,fpRd,fpRd.objs,fpRg,Opd.ev,Env.get,sOb,D.flat,D.isAgg,cEq,D.beqs,D.beq,Nat.beq_refl,Obj.beq_rfl,laR,soR,D.bsR,D.beq_rfl,List.getElem?_cons_zero])
      try refine go ?_
      refine zBg ?_ (by simp [lost,AOp.kind,lAs,zAf,fpOf,wtD,fpRd,fpRd.objs,fpRg,Opd.ev,Env.get,sOb,D.flat,D.isAgg,cEq,D.beqs,D.beq,Nat.beq_refl,Obj.beq_rfl,laR,soR,D.bsR,D.beq_rfl,List.getElem?_cons_zero])
      try refine go ?_
      refine zBg ?_ (by simp [lost,AOp.kind,lAs,zAf,fpOf,wtD,fpRd,fpRd.objs,fpRg,Opd.ev,Env.get,sOb,D.flat,D.isAgg,cEq,D.beqs,D.beq,Nat.beq_refl,Obj.beq_rfl,laR,soR,D.bsR,D.beq_rfl,List.getElem?_cons_zero])
      try refine go ?_
      refine zBg ?_ (by simp [lost,AOp.kind,lAs,zAf,fpOf,wtD,fpRd,fpRd.objs,fpRg,Opd.ev,Env.get,sOb,D.flat,D.isAgg,cEq,D.beqs,D.beq,Nat.beq_refl,Obj.beq_rfl,laR,soR,D.bsR,D.beq_rfl,List.getElem?_cons_zero])
      try refine go ?_
      exact rtN l'.length (by omega) rfl ⟨rfl,l',Nat.le_refl _,by omega,rfl⟩
   ·have hd16:decide ((r2.length:Int) > 16)=false:=decide_eq_false (by omega)
    try refine go ?_
    try simp only [hd16]
    try refine go ?_
    refine zBg ?_ (by simp [lost,AOp.kind,lAs,zAf,fpOf,wtD,fpRd,fpRd.objs,fpRg,Opd.ev,Env.get,sOb,D.flat,D.isAgg,cEq,D.beqs,D.beq,Nat.beq_refl,Obj.beq_rfl,laR,soR,D.bsR,D.beq_rfl,List.getElem?_cons_zero])
    try refine go ?_
    refine zBg ?_ (by simp [lost,AOp.kind,lAs,zAf,fpOf,wtD,fpRd,fpRd.objs,fpRg,Opd.ev,Env.get,sOb,D.flat,D.isAgg,cEq,D.beqs,D.beq,Nat.beq_refl,Obj.beq_rfl,laR,soR,D.bsR,D.beq_rfl,List.getElem?_cons_zero])
    try refine go ?_
    exact rtN r2.length (by omega) rfl ⟨rfl,r2,Nat.le_refl _,by omega,rfl⟩
 ·have hd8:decide ((r.length:Int) > 8)=false:=decide_eq_false (by omega)
  try refine go ?_
  exact rtN r.length hr rfl ⟨rfl,r,Nat.le_refl _,hr',rfl⟩
end
end Go.Proofs.YtmcdajnpdekocaaGreatDoor.Tab
