/- Part. -/
import Derived.Test.YtmcdajnpdekocaaGreatDoorG21
import Derived.Orders
set_option linter.unusedSectionVars false
set_option linter.unusedSimpArgs false
set_option linter.unusedVariables false
namespace Go.Ab
open Go
variable [Vals]
theorem zMq {y:zPk}{ah:List Nat}:∀ {xs:List zPk} {i0:Nat} {l:List Nat},zZh y ah i0 xs=some l→∀i x,xs[i]? =some x→
  i0+i∈ah∨(zDg x y=true∧(zQr x.op y.op=0∨(zQr x.op y.op=1∧i0+i∈l)))
 | [],i0,l,h,i,x,hx=>by simp at hx
 | z::r,i0,l,h,i,x,hx=>by
  simp only [zZh]at h
  split at h
  ·cases h
  ·rename_i l1 h1
   cases i with
   | zero=>
    simp only [List.getElem?_cons_zero,Option.some.injEq]at hx
    subst hx
    split at h
    ·rename_i hm; exact .inl (zGz.1 hm)
    ·split at h
     ·cases h
     ·rename_i hs
      refine .inr ⟨hs, ?_⟩
      split at h
      ·rename_i hk; exact .inl hk
      ·rename_i hk
       simp only [Option.some.injEq]at h; subst h
       exact .inr ⟨hk,by simp⟩
      ·cases h
   | succ i=>
    simp only [List.getElem?_cons_succ]at hx
    have hl:∀q,q∈l1→q∈l:=by
     intro q hq
     split at h
     ·simp only [Option.some.injEq]at h; subst h; exact hq
     ·split at h
      ·cases h
      ·split at h
       ·simp only [Option.some.injEq]at h; subst h; exact hq
       ·simp only [Option.some.injEq]at h; subst h; exact List.mem_cons_of_mem _ hq
       ·cases h
    rcases zMq h1 i x hx with g | ⟨g1,g2 | ⟨g2,g3⟩⟩
    ·exact .inl (by rw [show i0+(i+1)=i0+1+i by omega]; exact g)
    ·exact .inr ⟨g1,.inl g2⟩
    ·exact .inr ⟨g1,.inr ⟨g2,by rw [show i0+(i+1)=i0+1+i by omega]; exact hl _ g3⟩⟩
theorem zSi {ahs:List (List Nat)}:∀ {os bef:List zPk} {ys:List (zPk×List Nat)},chks ahs bef os=some ys→ys.map (·.1)=os∧
  ∀j o l,ys[j]? =some (o,l)→zQe o=true∧zZh o (ahs.getD (bef.length+j) []) 0 (bef++os.take j)=some l
 | [],bef,ys,h=>by
  simp only [chks,Option.some.injEq]at h; subst h
  exact⟨rfl,fun j o l h=>by simp at h⟩
 | o::r,bef,ys,h=>by
  simp only [chks]at h
  split at h
  ·rename_i l x h1 h2 h3
   simp only [Option.some.injEq]at h; subst h
   obtain⟨g1,g2⟩:=zSi h3
   refine⟨by simp [g1],fun j o' l' hj=> ?_⟩
   cases j with
   | zero=>
    simp only [List.getElem?_cons_zero,Option.some.injEq,Prod.mk.injEq]at hj
    obtain⟨rfl,rfl⟩:=hj
    exact⟨h1,by simpa using h2⟩
   | succ j=>
    simp only [List.getElem?_cons_succ]at hj
    obtain⟨k1,k2⟩:=g2 j o' l' hj
    refine⟨k1, ?_⟩
    rw [List.take_succ_cons]
    simpa [Nat.add_assoc,Nat.add_comm 1 j] using k2
  ·cases h
theorem zHq {ds:List (List Nat)}{L:Nat→Prop}(hdown:∀j d,ds[j]? =some d→L j→∀i∈d,L i):∀(rest pre acc:List (List Nat)),ds=pre++rest→acc.length=pre.length→
  (∀j d,ds[j]? =some d→(∀i∈d,L i)→∀i∈acc.getD j [],L i)→∀j d,ds[j]? =some d→(∀i∈d,L i)→∀i∈(zJg acc rest).getD j [],L i
 | [],pre,acc,_,_,h=>h
 | d0::r,pre,acc,hd,hl,h=>by
  simp only [zJg]
  refine zHq hdown r (pre++ [d0]) _ (by simp [hd]) (by simp [hl]) fun j d hj hd' i hi=> ?_
  rcases Nat.lt_trichotomy j acc.length with hlt | heq | hgt
  ·rw [List.getD_eq_getElem?_getD,List.getElem?_append_left hlt,← List.getD_eq_getElem?_getD]at hi
   exact h j d hj hd' i hi
  ·subst heq
   have:d=d0:=by
    rw [hd,hl]at hj
    simpa using hj.symm
   subst this
   rw [List.getD_eq_getElem?_getD,List.getElem?_append_right (Nat.le_refl _)]at hi
   simp only [Nat.sub_self,List.getElem?_cons_zero,Option.getD_some,List.mem_eraseDups,List.mem_append,List.mem_flatMap]at hi
   rcases hi with hi | ⟨q,hq,hi⟩
   ·exact hd' i hi
   ·have hLq:=hd' q hq
    rcases hdq:ds[q]? with _ | dq
    ·have h1:ds.length≤q:=by simpa using hdq
     have:acc.getD q []=[]:=by
      rw [List.getD_eq_getElem?_getD,List.getElem?_eq_none (by rw [hd]at h1; simp at h1; omega)]; rfl
     rw [this]at hi; cases hi
    ·exact h q dq hdq (hdown q dq hdq hLq) i hi
  ·rw [List.getD_eq_getElem?_getD,List.getElem?_eq_none (by simp; omega)]at hi
   simp at hi
theorem zRn:∀ {ds:List (List Nat)} {j0:Nat},lowB j0 ds=true→∀j d,ds[j]? =some d→∀i∈d,i < j0+j
 | [],_,_,j,d,h=>by simp at h
 | d0::r,j0,h,j,d,hj=>by
  simp only [lowB,Bool.and_eq_true,List.all_eq_true]at h
  cases j with
  | zero=>
   simp only [List.getElem?_cons_zero,Option.some.injEq]at hj; subst hj
   intro i hi
   exact Nat.le_of_ble_eq_true (h.1 i hi)
  | succ j=>
   simp only [List.getElem?_cons_succ]at hj
   intro i hi
   have:=zRn h.2 j d hj i hi
   omega
theorem zEd:∀ {a b:List Nat},disj a b=true→∀x,x∈a→x∈b→False
 | [],_,_,x,h,_=>by cases h
 | y::r,b,h,x,hx,hb=>by
  simp only [disj]at h
  split at h
  ·cases h
  ·rename_i hm
   rcases List.mem_cons.1 hx with rfl | hx
   ·rw [zGz.2 hb]at hm; cases hm
   ·exact zEd h x hx hb
section
variable {C:zAa}{b hi:Nat}
theorem yGj {e:Env}{p:AOp}{x:Nat}(h:x∈fpRd e p):p.kind=1∨p.kind=2∨p.kind=9:=by
 cases p <;> simp [fpRd]at h <;> simp [AOp.kind]
theorem zKf {e:Env}{p:AOp}{x:Nat}(h:x∈fpWr e p):p.kind=2∨p.kind=9:=by
 cases p <;> simp [fpWr]at h <;> simp [AOp.kind]
theorem zHb {e:Env}{o:zPk}{x:Nat}(h:x∈(fpOf b e o).1):o.op.kind=1∨o.op.kind=2∨o.op.kind=9:=by
 unfold fpOf at h
 split at h
 ·exact yGj h
 ·cases h
theorem zBv {e:Env}{o:zPk}{x:Nat}(hok:zQe o=true)(h:x∈(fpOf b e o).2.1):o.op.kind=2∨o.op.kind=3∨o.op.kind=9:=by
 unfold fpOf at h
 split at h
 ·simp only at h
  split at h
  ·rename_i r hr
   simp only [zQe,hr,zZf,Bool.and_eq_true,Option.isSome_some]at hok
   have:=hok.2
   simp at this
   rcases this with h | h
   ·exact .inr (.inl h)
   ·exact .inr (.inr h)
  ·rcases zKf h with h | h
   ·exact .inl h
   ·exact .inr (.inr h)
 ·cases h
theorem fp3 {e:Env}{o:zPk}{x:Nat}(hk:o.op.kind=3)(h:x∈(fpOf b e o).2.1):∃r,o.al=some r∧x=b+r:=by
 unfold fpOf at h
 split at h
 ·simp only at h
  split at h
  ·rename_i r hr
   rcases List.mem_cons.1 h with rfl | h
   ·exact⟨r,hr,rfl⟩
   ·have:=zKf h; omega
  ·have:=zKf h; omega
 ·cases h
theorem zIx {p:AOp}{t:Nat}(h:p.own=some t):p.kind=6∨p.kind=7:=by
 cases p <;> simp [AOp.own]at h <;> simp [AOp.kind]
theorem zRe {p:AOp}{t:Nat}(h:p.ownW=some t):p.kind=7:=by
 cases p <;> simp [AOp.ownW]at h <;> simp [AOp.kind]
theorem zDi {d:Option Nat}{l:List Nat}{t:Nat}(hd:d=some t)(h:zOn d l=false):t ∉ l:=by
 subst hd
 intro ht
 simp only [zOn,zGz.2 ht]at h
 cases h
theorem yGh {x y:zPk}{fx fy:Fr} {sx sx' sy sy' :St}(hx:zQe x=true)(hy:zQe y=true)(hs:zDg x y=true)(hp:zQx x.op.kind y.op.kind=0∨(zQx x.op.kind y.op.kind=1∧zDb (fpOf b fx.env x) (fpOf b fy.env y)=true))(hax:∀r,x.al=some r→b+r < hi)(hay:∀r,y.al=some r→b+r < hi)(hkp:y.op.kind=5→zQx x.op.kind y.op.kind=1→∀q∈(fpOf b fx.env x).1,skel (sy'.get q)=skel (sy.get q)∧∀c,inRg (fpOf b fx.env x).2.2 q c→zPt (sy'.get q) c=zPt (sy.get q) c)(hkp2:x.op.kind=5→zQx x.op.kind y.op.kind=1→∀q∈(fpOf b fy.env y).1,sx'.get q=sx.get q)(k:Key):
  ¬(wrK b x fx sx sx' k∧rdK b hi y fy k)∧ ¬(rdK b hi x fx k∧wrK b y fy sy sy' k)∧ ¬(wrK b x fx sx sx' k∧wrK b y fy sy sy' k):=by
 simp only [zDg,Bool.and_eq_true,Bool.not_eq_true']at hs
 obtain⟨s1,s2,s3⟩:=hs
 have hp1:∀(q:Nat) (K:Prop),(x.op.kind=5→zQx x.op.kind y.op.kind=1→q∈(fpOf b fy.env y).1→K→False)→(x.op.kind=5∧K)∨q∈(fpOf b fx.env x).2.1→(y.op.kind=4∧(q < b∨hi≤q))∨y.op.kind=5∨q∈(fpOf b fy.env y).1∨q∈(fpOf b fy.env y).2.1→False:=by
  intro q K hK hq hr
  by_cases h51:x.op.kind=5∧y.op.kind=1
  ·rcases hq with hq | hq
   ·rcases hr with h | h | h | h
    ·omega
    ·omega
    ·exact hK h51.1 (by rw [h51.1,h51.2]; decide) h hq.2
    ·have:=zBv hy h; omega
   ·have:=zBv hx hq; omega
  by_cases h34:x.op.kind=3∧y.op.kind=4
  ·rcases hq with h | h
   ·omega
   ·obtain⟨r,hr1,hr2⟩:=fp3 h34.1 h
    have:=hax r hr1
    rcases hr with h | h | h | h
    ·omega
    ·omega
    ·have:=zHb h; omega
    ·have:=zBv hy h; omega
  have kx:x.op.kind=2∨x.op.kind=3∨x.op.kind=5∨x.op.kind=9:=hq.elim (fun h=>by omega) (fun h=>by have:=zBv hx h; omega)
  have ky:y.op.kind=1∨y.op.kind=2∨y.op.kind=3∨y.op.kind=4∨y.op.kind=5∨y.op.kind=9:=by
   rcases hr with h | h | h | h
   ·omega
   ·omega
   ·have:=zHb h; omega
   ·have:=zBv hy h; omega
  rcases hp with hp | ⟨hp,ha⟩
  ·clear hr hq h51
   rcases kx with kx | kx | kx | kx <;> rcases ky with ky | ky | ky | ky | ky | ky <;> rw [kx,ky]at hp <;> rw [kx,ky]at h34 <;> revert hp h34 <;> decide
  ·have: ¬ x.op.kind=5∧ ¬ y.op.kind=4∧ ¬ y.op.kind=5:=by
    have nope: ¬ (x.op.kind=5∧y.op.kind=1):=h51
    clear hr hq h34 h51
    rcases kx with kx | kx | kx | kx <;> rcases ky with ky | ky | ky | ky | ky | ky <;> rw [kx,ky]at hp ⊢ <;> rw [kx,ky]at nope <;> revert hp nope <;> decide
   have hq:=hq.resolve_left (fun h=>this.1 h.1)
   have hr:=(hr.resolve_left (fun h=>this.2.1 h.1)).resolve_left this.2.2
   simp only [zDb,Bool.and_eq_true]at ha
   rcases hr with h | h
   ·exact zEd ha.2.1 q hq h
   ·exact zEd ha.1 q hq h
 have hp2:∀(q:Nat) (K:Prop),(y.op.kind=5→zQx x.op.kind y.op.kind=1→q∈(fpOf b fx.env x).1→K→False)→(y.op.kind=5∧K)∨q∈(fpOf b fy.env y).2.1→(x.op.kind=4∧(q < b∨hi≤q))∨x.op.kind=5∨q∈(fpOf b fx.env x).1∨q∈(fpOf b fx.env x).2.1→False:=by
  intro q K hK hq hr
  by_cases h15:x.op.kind=1∧y.op.kind=5
  ·have hnf:q ∉ (fpOf b fy.env y).2.1:=fun h=>by have:=zBv hy h; omega
   rcases hq with hq | hq
   ·rcases hr with h | h | h | h
    ·omega
    ·omega
    ·exact hK h15.2 (by rw [h15.1,h15.2]; decide) h hq.2
    ·have:=zBv hx h; omega
   ·exact hnf hq
  by_cases h34:y.op.kind=3∧x.op.kind=4
  ·rcases hq with h | h
   ·omega
   ·obtain⟨r,hr1,hr2⟩:=fp3 h34.1 h
    have:=hay r hr1
    rcases hr with h | h | h | h
    ·omega
    ·omega
    ·have:=zHb h; omega
    ·have:=zBv hx h; omega
  have kx:y.op.kind=2∨y.op.kind=3∨y.op.kind=5∨y.op.kind=9:=hq.elim (fun h=>by omega) (fun h=>by have:=zBv hy h; omega)
  have ky:x.op.kind=1∨x.op.kind=2∨x.op.kind=3∨x.op.kind=4∨x.op.kind=5∨x.op.kind=9:=by
   rcases hr with h | h | h | h
   ·omega
   ·omega
   ·have:=zHb h; omega
   ·have:=zBv hx h; omega
  rcases hp with hp | ⟨hp,ha⟩
  ·clear hr hq
   rcases kx with kx | kx | kx | kx <;> rcases ky with ky | ky | ky | ky | ky | ky <;> rw [kx,ky]at hp <;> rw [kx,ky]at h34 <;> revert hp h34 <;> decide
  ·have: ¬ y.op.kind=5∧ ¬ x.op.kind=4∧ ¬ x.op.kind=5:=by
    have nope: ¬ (x.op.kind=1∧y.op.kind=5):=h15
    clear h15 h34 hr hq
    rcases kx with kx | kx | kx | kx <;> rcases ky with ky | ky | ky | ky | ky | ky <;> rw [kx,ky]at hp ⊢ <;> rw [kx,ky]at nope <;> revert hp nope <;> decide
   have hq:=hq.resolve_left (fun h=>this.1 h.1)
   have hr:=(hr.resolve_left (fun h=>this.2.1 h.1)).resolve_left this.2.2
   simp only [zDb,Bool.and_eq_true]at ha
   rcases hr with h | h
   ·exact zEd ha.2.2 q h hq
   ·exact zEd ha.1 q h hq
 have hk5:∀kx ky,x.op.kind=kx→y.op.kind=ky→zQx kx ky=2→False:=by
  intro kx ky h1 h2 h3
  rw [h1,h2,h3]at hp
  rcases hp with hp | ⟨hp,_⟩ <;> cases hp
 have c1:∀t,x.op.ownW=some t→y.op.own=some t→False:=by
  intro t h1 h2
  rcases zIx h2 with h2 | h2 <;> exact hk5 _ _ (zRe h1) h2 (by decide)
 have c2:∀t,x.op.own=some t→y.op.ownW=some t→False:=by
  intro t h1 h2
  rcases zIx h1 with h1 | h1 <;> exact hk5 _ _ h1 (zRe h2) (by decide)
 cases k with
 | g t=>
  simp only [wrK,rdK]
  refine⟨fun ⟨h1,h2⟩=>zDi h1 s1 h2,fun ⟨h1,h2⟩=>zDi h2 s2 h1,fun ⟨h1,h2⟩=>zDi h1 s3 (by simp [h2])⟩
 | c t=>
  refine⟨fun ⟨h1,h2⟩=>c1 t h1 h2,fun ⟨h1,h2⟩=>c2 t h1 h2,fun ⟨h1,h2⟩=>c1 t h1 (yHp (b:=b) (hi:=hi) (fr:=fy) (k:= .c t) h2 (by intro u e; cases e))⟩
 | h q=>
  have hw:wrK b y fy sy sy' (.h q)→rdK b hi y fy (.h q):=fun h=>yHp h (by intro u e; cases e)
  simp only [wrK,rdK]at hw ⊢
  have k2:=hp2 q (skel (sy'.get q)≠skel (sy.get q)) (fun h5 h1 hm hne=>hne (hkp h5 h1 q hm).1)
  have k1:=hp1 q (skel (sx'.get q)≠skel (sx.get q)) (fun h5 h1 hm hne=>hne (by rw [hkp2 h5 h1 q hm]))
  exact⟨fun ⟨h1,h2⟩=>k1 h1 h2,fun ⟨h1,h2⟩=>k2 h2 h1,fun ⟨h1,h2⟩=>k1 h1 (hw h2)⟩
 | hc q c=>
  have hw:wrK b y fy sy sy' (.hc q c)→rdK b hi y fy (.hc q c):=fun h=>yHp h (by intro u e; cases e)
  simp only [wrK,rdK]at hw ⊢
  have k1:=hp1 q (zPt (sx'.get q) c≠zPt (sx.get q) c) (fun h5 h1 hm hne=>hne (by rw [hkp2 h5 h1 q hm]))
  refine⟨fun ⟨h1,h2⟩=>k1 h1 (h2.imp id (Or.imp id (Or.imp And.left id))),fun ⟨h1,h2⟩=> ?_,fun ⟨h1,h2⟩=>k1 h1 ((hw h2).imp id (Or.imp id (Or.imp And.left id)))⟩
  rcases h1 with h | h | ⟨h,hr⟩ | h
  ·exact hp2 q (zPt (sy'.get q) c≠zPt (sy.get q) c) (fun h5 h1 _ _=>by rw [h.1,h5]at h1; revert h1; decide) h2 (.inl h)
  ·exact hp2 q (zPt (sy'.get q) c≠zPt (sy.get q) c) (fun h5 h1 _ _=>by rw [h,h5]at h1; revert h1; decide) h2 (.inr (.inl h))
  ·exact hp2 q (zPt (sy'.get q) c≠zPt (sy.get q) c) (fun h5 h1 hm hne=>hne ((hkp h5 h1 q hm).2 c hr)) h2 (.inr (.inr (.inl h)))
  ·exact hp2 q (zPt (sy'.get q) c≠zPt (sy.get q) c) (fun h5 h1 hm _=>by
    have h7:=zBv hx h
    have h8:=zHb hm
    rcases h7 with h7 | h7 | h7 <;> rw [h7,h5]at h1 <;> revert h1 <;> decide) h2 (.inr (.inr (.inr h)))
 | n=>
  simp only [wrK,rdK]
  refine⟨fun ⟨h1,h2⟩=> ?_,fun ⟨h1,h2⟩=> ?_,fun ⟨h1,h2⟩=>hk5 _ _ h1 h2 (by decide)⟩
  ·rcases h2 with h2 | h2 | h2 | h2 <;> exact hk5 _ _ h1 h2 (by decide)
  ·rcases h1 with h1 | h1 | h1 | h1 <;> exact hk5 _ _ h1 h2 (by decide)
 | d=>
  simp only [wrK,rdK]
  exact⟨fun ⟨h1,h2⟩=>hk5 _ _ h1 h2 (by decide),fun ⟨h1,h2⟩=>hk5 _ _ h1 h2 (by decide),fun ⟨h1,h2⟩=>hk5 _ _ h1 h2 (by decide)⟩
theorem zXv {x y:AOp}:zQr x y=zQx x.kind y.kind∨∃a b,x.own=some a∧y.own=some b∧a≠b:=by
 unfold zQr
 split
 ·rename_i a b ha hb
  cases h:Nat.beq a b with
  | true=>exact .inl rfl
  | false=>exact .inr ⟨a,b,ha,hb,fun e=>by rw [e,Nat.beq_refl]at h; cases h⟩
 ·exact .inl rfl
theorem zIy {p:AOp}{t:Nat}(h:p.ownW=some t):p.own=some t:=by
 cases p <;> simp [AOp.ownW]at h <;> simp [AOp.own,h]
theorem free_of {x y:zPk}{fx fy:Fr} {sx sx' sy sy' :St}(hx:zQe x=true)(hy:zQe y=true)(hs:zDg x y=true)(hp:zQr x.op y.op=0∨(zQr x.op y.op=1∧zDb (fpOf b fx.env x) (fpOf b fy.env y)=true))(hax:∀r,x.al=some r→b+r < hi)(hay:∀r,y.al=some r→b+r < hi)(hkp:y.op.kind=5→zQr x.op y.op=1→∀q∈(fpOf b fx.env x).1,skel (sy'.get q)=skel (sy.get q)∧∀c,inRg (fpOf b fx.env x).2.2 q c→zPt (sy'.get q) c=zPt (sy.get q) c)(hkp2:x.op.kind=5→zQr x.op y.op=1→∀q∈(fpOf b fy.env y).1,sx'.get q=sx.get q)(k:Key):
  ¬(wrK b x fx sx sx' k∧rdK b hi y fy k)∧ ¬(rdK b hi x fx k∧wrK b y fy sy sy' k)∧ ¬(wrK b x fx sx sx' k∧wrK b y fy sy sy' k):=by
 rcases zXv (x:=x.op) (y:=y.op) with h | ⟨u,v,hu,hv,huv⟩
 ·rw [h]at hp; exact yGh hx hy hs hp hax hay (fun h5 h1=>hkp h5 (h ▸ h1)) (fun h5 h1=>hkp2 h5 (h ▸ h1)) k
 simp only [zDg,Bool.and_eq_true,Bool.not_eq_true']at hs
 obtain⟨s1,s2,s3⟩:=hs
 have kx:=zIx hu
 have ky:=zIx hv
 have nx:∀(q:Nat) (K:Prop),(x.op.kind=5∧K)∨q∈(fpOf b fx.env x).2.1→False:=fun q K hq=>by
  rcases hq with h | h
  ·omega
  ·have:=zBv hx h; omega
 have ny:∀(q:Nat) (K:Prop),(y.op.kind=5∧K)∨q∈(fpOf b fy.env y).2.1→False:=fun q K hq=>by
  rcases hq with h | h
  ·omega
  ·have:=zBv hy h; omega
 cases k with
 | g t=>
  simp only [wrK,rdK]
  refine⟨fun ⟨h1,h2⟩=>zDi h1 s1 h2,fun ⟨h1,h2⟩=>zDi h2 s2 h1,fun ⟨h1,h2⟩=>zDi h1 s3 (by simp [h2])⟩
 | c t=>
  simp only [wrK,rdK]
  refine⟨fun ⟨h1,h2⟩=> ?_,fun ⟨h1,h2⟩=> ?_,fun ⟨h1,h2⟩=> ?_⟩
  ·rw [zIy h1]at hu; rw [h2]at hv; simp only [Option.some.injEq]at hu hv; omega
  ·rw [h1]at hu; rw [zIy h2]at hv; simp only [Option.some.injEq]at hu hv; omega
  ·rw [zIy h1]at hu; rw [zIy h2]at hv; simp only [Option.some.injEq]at hu hv; omega
 | h q=>exact ⟨fun ⟨h1,_⟩=>nx q _ h1,fun ⟨_,h2⟩=>ny q _ h2,fun ⟨h1,_⟩=>nx q _ h1⟩
 | hc q c=>exact ⟨fun ⟨h1,_⟩=>nx q _ h1,fun ⟨_,h2⟩=>ny q _ h2,fun ⟨h1,_⟩=>nx q _ h1⟩
 | n=>
  simp only [wrK]
  exact⟨fun ⟨h1,_⟩=>by omega,fun ⟨_,h2⟩=>by omega,fun ⟨h1,_⟩=>by omega⟩
 | d=>
  simp only [wrK]
  exact⟨fun ⟨h1,_⟩=>by omega,fun ⟨_,h2⟩=>by omega,fun ⟨h1,_⟩=>by omega⟩
end
end Go.Ab
