/- Part. -/
import Derived.Test.YtjaldhgmboeffaaGreatDoorG16
import Derived.Orders
set_option linter.unusedSimpArgs false
set_option linter.unusedVariables false
set_option linter.unusedSectionVars false
namespace Go.Ab
open Go
variable [eV]
theorem ze {y:bg}{ah:List Nat}:∀ {xs:List bg} {i0:Nat} {l:List Nat},DV y ah i0 xs=some l->∀i x,xs[i]? =some x->
  i0+i∈ah\/(mT x y=true/\(qR x.op y.op=0\/(qR x.op y.op=1/\i0+i∈l)))
 | [],i0,l,h,i,x,hx=>by simp at hx
 | z::r,i0,l,h,i,x,hx=>by
  simp only [DV]at h;split at h
  ·cases h
  ·rename_i l1 h1;cases i with
   | zero=>
    simp only [aR,aa]at hx;subst hx;split at h
    ·rename_i hm; exact .inl (oO.1 hm)
    ·split at h
     ·cases h
     ·rename_i hs;refine .inr ⟨hs, ?_⟩;split at h
      ·rename_i hk; exact .inl hk
      ·rename_i hk;simp only [aa]at h; subst h;exact .inr ⟨hk,by simp⟩
      ·cases h
   | succ i=>
    simp only [bY]at hx;have hl:∀q,q∈l1->q∈l:=by
     intro q hq;split at h
     ·simp only [aa]at h; subst h; exact hq
     ·split at h
      ·cases h
      ·split at h
       ·simp only [aa]at h; subst h; exact hq
       ·simp only [aa]at h; subst h; exact eF _ hq
       ·cases h
    rcases ze h1 i x hx with g | ⟨g1,g2 | ⟨g2,g3⟩⟩
    ·exact .inl (by rw [show i0+(i+1)=i0+1+i by omega]; exact g)
    ·exact .inr ⟨g1,.inl g2⟩
    ·exact .inr ⟨g1,.inr ⟨g2,by rw [show i0+(i+1)=i0+1+i by omega]; exact hl _ g3⟩⟩
theorem AS {ahs:List (List Nat)}:∀ {os bef:List bg} {ys:List (bg×List Nat)},Nz ahs bef os=some ys->ys.map (·.1)=os/\
  ∀j o l,ys[j]? =some (o,l)->l8 o=true/\DV o (ahs.getD (bef.length+j) []) 0 (bef++os.take j)=some l
 | [],bef,ys,h=>by
  simp only [Nz,aa]at h; subst h;exact⟨rfl,fun j o l h=>by simp at h⟩
 | o::r,bef,ys,h=>by
  simp only [Nz]at h;split at h
  ·rename_i l x h1 h2 h3;simp only [aa]at h; subst h;obtain⟨g1,g2⟩:=AS h3;refine⟨by simp [g1],fun j o' l' hj=> ?_⟩;cases j with
   | zero=>
    simp only [aR,aa,ae]at hj;obtain⟨rfl,rfl⟩:=hj;exact⟨h1,by simpa using h2⟩
   | succ j=>
    simp only [bY]at hj;obtain⟨k1,k2⟩:=g2 j o' l' hj;refine⟨k1, ?_⟩;rw [gD];simpa [iE,Nat.add_comm 1 j] using k2
  ·cases h
theorem s9 {ds:List (List Nat)}{L:Nat->Prop}(SY:∀j d,ds[j]? =some d->L j->∀i∈d,L i):∀(rest pre acc:List (List Nat)),ds=pre++rest->acc.length=pre.length->
  (∀j d,ds[j]? =some d->(∀i∈d,L i)->∀i∈acc.getD j [],L i)->∀j d,ds[j]? =some d->(∀i∈d,L i)->∀i∈(ud acc rest).getD j [],L i
 | [],pre,acc,_,_,h=>h
 | d0::r,pre,acc,hd,hl,h=>by
  simp only [ud];refine s9 SY r (pre++ [d0]) _ (by simp [hd]) (by simp [hl]) fun j d hj Ae i hi=> ?_;rcases gZ j acc.length with dM | heq | u7
  ·rw [ed,aP dM,← List.getD_eq_getElem?_getD]at hi;exact h j d hj Ae i hi
  ·subst heq;have:d=d0:=by
    rw [hd,hl]at hj;simpa using hj.symm
   subst this;rw [ed,aT (aq _)]at hi;simp only [eG,aR,eZ,List.mem_eraseDups,bK,List.mem_flatMap]at hi;rcases hi with hi | ⟨q,hq,hi⟩
   ·exact Ae i hi
   ·have hLq:=Ae q hq;rcases hdq:ds[q]? with _ | dq
    ·have h1:ds.length<=q:=by simpa using hdq
     have:acc.getD q []=[]:=by
      rw [ed,eN (by rw [hd]at h1; simp at h1; omega)]; rfl
     rw [this]at hi; cases hi
    ·exact h q dq hdq (SY q dq hdq hLq) i hi
  ·rw [ed,eN (by simp; omega)]at hi;simp at hi
theorem Al:∀ {ds:List (List Nat)} {j0:Nat},PZ j0 ds=true->∀j d,ds[j]? =some d->∀i∈d,i < j0+j
 | [],_,_,j,d,h=>by simp at h
 | d0::r,j0,h,j,d,hj=>by
  simp only [PZ,aB,dg]at h;cases j with
  | zero=>
   simp only [aR,aa]at hj; subst hj;intro i hi;exact az (h.1 i hi)
  | succ j=>
   simp only [bY]at hj;intro i hi;have:=Al h.2 j d hj i hi;omega
theorem oF:∀ {a b:List Nat},rU a b=true->∀x,x∈a->x∈b->False
 | [],_,_,x,h,_=>by cases h
 | y::r,b,h,x,hx,hb=>by
  simp only [rU]at h;split at h
  ·cases h
  ·rename_i hm;rcases bR.1 hx with rfl | hx
   ·rw [oO.2 hb]at hm; cases hm
   ·exact oF h x hx hb
section
variable {C:ay}{b hi:Nat}
theorem KG {e:Env}{p:eQ}{x:Nat}(h:x∈bC e p):p.kind=1\/p.kind=2\/p.kind=9:=by
 cases p <;> simp [bC]at h <;> simp [eQ.kind]
theorem vm {e:Env}{p:eQ}{x:Nat}(h:x∈nC e p):p.kind=2\/p.kind=9:=by
 cases p <;> simp [nC]at h <;> simp [eQ.kind]
theorem rj {e:Env}{o:bg}{x:Nat}(h:x∈(cF b e o).1):o.op.kind=1\/o.op.kind=2\/o.op.kind=9:=by
 unfold cF at h;split at h
 ·exact KG h
 ·cases h
theorem jA {e:Env}{o:bg}{x:Nat}(fK:l8 o=true)(h:x∈(cF b e o).2.1):o.op.kind=2\/o.op.kind=3\/o.op.kind=9:=by
 unfold cF at h;split at h
 ·simp only at h;split at h
  ·rename_i r hr;simp only [l8,hr,D9,aB,Option.isSome_some]at fK;have:=fK.2;simp at this;rcases this with h | h
   ·exact .inr (.inl h)
   ·exact .inr (.inr h)
  ·rcases vm h with h | h
   ·exact .inl h
   ·exact .inr (.inr h)
 ·cases h
theorem fp3 {e:Env}{o:bg}{x:Nat}(hk:o.op.kind=3)(h:x∈(cF b e o).2.1):∃r,o.al=some r/\x=b+r:=by
 unfold cF at h;split at h
 ·simp only at h;split at h
  ·rename_i r hr;rcases bR.1 h with rfl | h
   ·exact⟨r,hr,rfl⟩
   ·have:=vm h; omega
  ·have:=vm h; omega
 ·cases h
theorem tS {p:eQ}{t:Nat}(h:p.own=some t):p.kind=6\/p.kind=7:=by
 cases p <;> simp [eQ.own]at h <;> simp [eQ.kind]
theorem Ay {p:eQ}{t:Nat}(h:p.vU=some t):p.kind=7:=by
 cases p <;> simp [eQ.vU]at h <;> simp [eQ.kind]
theorem mM {d:Option Nat}{l:List Nat}{t:Nat}(hd:d=some t)(h:tv d l=false):t ∉ l:=by
 subst hd;intro ht;simp only [tv,oO.2 ht]at h;cases h
theorem Ko {x y:bg}{fx fy:Fr} {sx sx' sy sy' :St}(hx:l8 x=true)(hy:l8 y=true)(hs:mT x y=true)(hp:sW x.op.kind y.op.kind=0\/(sW x.op.kind y.op.kind=1/\lz (cF b fx.env x) (cF b fy.env y)=true))(hax:∀r,x.al=some r->b+r < hi)(hay:∀r,y.al=some r->b+r < hi)(hkp:y.op.kind=5->sW x.op.kind y.op.kind=1->∀q∈(cF b fx.env x).1,kg (sy'.get q)=kg (sy.get q)/\∀c,Sf (cF b fx.env x).2.2 q c->jq (sy'.get q) c=jq (sy.get q) c)(Qe:x.op.kind=5->sW x.op.kind y.op.kind=1->∀q∈(cF b fy.env y).1,sx'.get q=sx.get q)(k:Key):
  ¬(kW b x fx sx sx' k/\tO b hi y fy k)/\ ¬(tO b hi x fx k/\kW b y fy sy sy' k)/\ ¬(kW b x fx sx sx' k/\kW b y fy sy sy' k):=by
 simp only [mT,aB,ff]at hs;obtain⟨s1,s2,s3⟩:=hs;have QV:∀(q:Nat) (K:Prop),(x.op.kind=5->sW x.op.kind y.op.kind=1->q∈(cF b fy.env y).1->K->False)->(x.op.kind=5/\K)\/q∈(cF b fx.env x).2.1->(y.op.kind=4/\(q < b\/hi<=q))\/y.op.kind=5\/q∈(cF b fy.env y).1\/q∈(cF b fy.env y).2.1->False:=by
  intro q K hK hq hr;by_cases Yg:x.op.kind=5/\y.op.kind=1
  ·rcases hq with hq | hq
   ·rcases hr with h | h | h | h
    ·omega
    ·omega
    ·exact hK Yg.1 (by rw [Yg.1,Yg.2]; decide) h hq.2
    ·have:=jA hy h; omega
   ·have:=jA hx hq; omega
  by_cases P1:x.op.kind=3/\y.op.kind=4
  ·rcases hq with h | h
   ·omega
   ·obtain⟨r,Xe,zx⟩:=fp3 P1.1 h;have:=hax r Xe;rcases hr with h | h | h | h
    ·omega
    ·omega
    ·have:=rj h; omega
    ·have:=jA hy h; omega
  have kx:x.op.kind=2\/x.op.kind=3\/x.op.kind=5\/x.op.kind=9:=hq.elim (fun h=>by omega) (fun h=>by have:=jA hx h; omega);have ky:y.op.kind=1\/y.op.kind=2\/y.op.kind=3\/y.op.kind=4\/y.op.kind=5\/y.op.kind=9:=by
   rcases hr with h | h | h | h
   ·omega
   ·omega
   ·have:=rj h; omega
   ·have:=jA hy h; omega
  rcases hp with hp | ⟨hp,ha⟩
  ·clear hr hq Yg;rcases kx with kx | kx | kx | kx <;> rcases ky with ky | ky | ky | ky | ky | ky <;> rw [kx,ky]at hp <;> rw [kx,ky]at P1 <;> revert hp P1 <;> decide
  ·have: ¬ x.op.kind=5/\ ¬ y.op.kind=4/\ ¬ y.op.kind=5:=by
    have nope: ¬ (x.op.kind=5/\y.op.kind=1):=Yg;clear hr hq P1 Yg;rcases kx with kx | kx | kx | kx <;> rcases ky with ky | ky | ky | ky | ky | ky <;> rw [kx,ky]at hp ⊢ <;> rw [kx,ky]at nope <;> revert hp nope <;> decide
   have hq:=hq.resolve_left (fun h=>this.1 h.1);have hr:=(hr.resolve_left (fun h=>this.2.1 h.1)).resolve_left this.2.2;simp only [lz,aB]at ha;rcases hr with h | h
   ·exact oF ha.2.1 q hq h
   ·exact oF ha.1 q hq h
 have KC:∀(q:Nat) (K:Prop),(y.op.kind=5->sW x.op.kind y.op.kind=1->q∈(cF b fx.env x).1->K->False)->(y.op.kind=5/\K)\/q∈(cF b fy.env y).2.1->(x.op.kind=4/\(q < b\/hi<=q))\/x.op.kind=5\/q∈(cF b fx.env x).1\/q∈(cF b fx.env x).2.1->False:=by
  intro q K hK hq hr;by_cases ZW:x.op.kind=1/\y.op.kind=5
  ·have hnf:q ∉ (cF b fy.env y).2.1:=fun h=>by have:=jA hy h; omega
   rcases hq with hq | hq
   ·rcases hr with h | h | h | h
    ·omega
    ·omega
    ·exact hK ZW.2 (by rw [ZW.1,ZW.2]; decide) h hq.2
    ·have:=jA hx h; omega
   ·exact hnf hq
  by_cases P1:y.op.kind=3/\x.op.kind=4
  ·rcases hq with h | h
   ·omega
   ·obtain⟨r,Xe,zx⟩:=fp3 P1.1 h;have:=hay r Xe;rcases hr with h | h | h | h
    ·omega
    ·omega
    ·have:=rj h; omega
    ·have:=jA hx h; omega
  have kx:y.op.kind=2\/y.op.kind=3\/y.op.kind=5\/y.op.kind=9:=hq.elim (fun h=>by omega) (fun h=>by have:=jA hy h; omega);have ky:x.op.kind=1\/x.op.kind=2\/x.op.kind=3\/x.op.kind=4\/x.op.kind=5\/x.op.kind=9:=by
   rcases hr with h | h | h | h
   ·omega
   ·omega
   ·have:=rj h; omega
   ·have:=jA hx h; omega
  rcases hp with hp | ⟨hp,ha⟩
  ·clear hr hq;rcases kx with kx | kx | kx | kx <;> rcases ky with ky | ky | ky | ky | ky | ky <;> rw [kx,ky]at hp <;> rw [kx,ky]at P1 <;> revert hp P1 <;> decide
  ·have: ¬ y.op.kind=5/\ ¬ x.op.kind=4/\ ¬ x.op.kind=5:=by
    have nope: ¬ (x.op.kind=1/\y.op.kind=5):=ZW;clear ZW P1 hr hq;rcases kx with kx | kx | kx | kx <;> rcases ky with ky | ky | ky | ky | ky | ky <;> rw [kx,ky]at hp ⊢ <;> rw [kx,ky]at nope <;> revert hp nope <;> decide
   have hq:=hq.resolve_left (fun h=>this.1 h.1);have hr:=(hr.resolve_left (fun h=>this.2.1 h.1)).resolve_left this.2.2;simp only [lz,aB]at ha;rcases hr with h | h
   ·exact oF ha.2.2 q h hq
   ·exact oF ha.1 q h hq
 have S8:∀kx ky,x.op.kind=kx->y.op.kind=ky->sW kx ky=2->False:=by
  intro kx ky h1 h2 h3;rw [h1,h2,h3]at hp;rcases hp with hp | ⟨hp,_⟩ <;> cases hp
 have c1:∀t,x.op.vU=some t->y.op.own=some t->False:=by
  intro t h1 h2;rcases tS h2 with h2 | h2 <;> exact S8 _ _ (Ay h1) h2 (by decide)
 have c2:∀t,x.op.own=some t->y.op.vU=some t->False:=by
  intro t h1 h2;rcases tS h1 with h1 | h1 <;> exact S8 _ _ h1 (Ay h2) (by decide)
 cases k with
 | g t=>
  simp only [kW,tO];refine⟨fun ⟨h1,h2⟩=>mM h1 s1 h2,fun ⟨h1,h2⟩=>mM h2 s2 h1,fun ⟨h1,h2⟩=>mM h1 s3 (by simp [h2])⟩
 | c t=>
  refine⟨fun ⟨h1,h2⟩=>c1 t h1 h2,fun ⟨h1,h2⟩=>c2 t h1 h2,fun ⟨h1,h2⟩=>c1 t h1 (It (b:=b) (hi:=hi) (fr:=fy) (k:= .c t) h2 (by intro u e; cases e))⟩
 | h q=>
  have hw:kW b y fy sy sy' (.h q)->tO b hi y fy (.h q):=fun h=>It h (by intro u e; cases e);simp only [kW,tO]at hw ⊢;have k2:=KC q (kg (sy'.get q)≠kg (sy.get q)) (fun h5 h1 hm cE=>cE (hkp h5 h1 q hm).1);have k1:=QV q (kg (sx'.get q)≠kg (sx.get q)) (fun h5 h1 hm cE=>cE (by rw [Qe h5 h1 q hm]));exact⟨fun ⟨h1,h2⟩=>k1 h1 h2,fun ⟨h1,h2⟩=>k2 h2 h1,fun ⟨h1,h2⟩=>k1 h1 (hw h2)⟩
 | hc q c=>
  have hw:kW b y fy sy sy' (.hc q c)->tO b hi y fy (.hc q c):=fun h=>It h (by intro u e; cases e);simp only [kW,tO]at hw ⊢;have k1:=QV q (jq (sx'.get q) c≠jq (sx.get q) c) (fun h5 h1 hm cE=>cE (by rw [Qe h5 h1 q hm]));refine⟨fun ⟨h1,h2⟩=>k1 h1 (h2.imp id (Or.imp id (Or.imp pt id))),fun ⟨h1,h2⟩=> ?_,fun ⟨h1,h2⟩=>k1 h1 ((hw h2).imp id (Or.imp id (Or.imp pt id)))⟩;rcases h1 with h | h | ⟨h,hr⟩ | h
  ·exact KC q (jq (sy'.get q) c≠jq (sy.get q) c) (fun h5 h1 _ _=>by rw [h.1,h5]at h1; revert h1; decide) h2 (.inl h)
  ·exact KC q (jq (sy'.get q) c≠jq (sy.get q) c) (fun h5 h1 _ _=>by rw [h,h5]at h1; revert h1; decide) h2 (.inr (.inl h))
  ·exact KC q (jq (sy'.get q) c≠jq (sy.get q) c) (fun h5 h1 hm cE=>cE ((hkp h5 h1 q hm).2 c hr)) h2 (.inr (.inr (.inl h)))
  ·exact KC q (jq (sy'.get q) c≠jq (sy.get q) c) (fun h5 h1 hm _=>by
    have h7:=jA hx h;have h8:=rj hm;rcases h7 with h7 | h7 | h7 <;> rw [h7,h5]at h1 <;> revert h1 <;> decide) h2 (.inr (.inr (.inr h)))
 | n=>
  simp only [kW,tO];refine⟨fun ⟨h1,h2⟩=> ?_,fun ⟨h1,h2⟩=> ?_,fun ⟨h1,h2⟩=>S8 _ _ h1 h2 (by decide)⟩
  ·rcases h2 with h2 | h2 | h2 | h2 <;> exact S8 _ _ h1 h2 (by decide)
  ·rcases h1 with h1 | h1 | h1 | h1 <;> exact S8 _ _ h1 h2 (by decide)
 | d=>
  simp only [kW,tO];exact⟨fun ⟨h1,h2⟩=>S8 _ _ h1 h2 (by decide),fun ⟨h1,h2⟩=>S8 _ _ h1 h2 (by decide),fun ⟨h1,h2⟩=>S8 _ _ h1 h2 (by decide)⟩
theorem GZ {x y:eQ}:qR x y=sW x.kind y.kind\/∃a b,x.own=some a/\y.own=some b/\a≠b:=by
 unfold qR;split
 ·rename_i a b ha hb;cases h:Nat.beq a b with
  | true=>exact .inl rfl
  | false=>exact .inr ⟨a,b,ha,hb,fun e=>by rw [e,aA]at h; cases h⟩
 ·exact .inl rfl
theorem ua {p:eQ}{t:Nat}(h:p.vU=some t):p.own=some t:=by
 cases p <;> simp [eQ.vU]at h <;> simp [eQ.own,h]
theorem Rm {x y:bg}{fx fy:Fr} {sx sx' sy sy' :St}(hx:l8 x=true)(hy:l8 y=true)(hs:mT x y=true)(hp:qR x.op y.op=0\/(qR x.op y.op=1/\lz (cF b fx.env x) (cF b fy.env y)=true))(hax:∀r,x.al=some r->b+r < hi)(hay:∀r,y.al=some r->b+r < hi)(hkp:y.op.kind=5->qR x.op y.op=1->∀q∈(cF b fx.env x).1,kg (sy'.get q)=kg (sy.get q)/\∀c,Sf (cF b fx.env x).2.2 q c->jq (sy'.get q) c=jq (sy.get q) c)(Qe:x.op.kind=5->qR x.op y.op=1->∀q∈(cF b fy.env y).1,sx'.get q=sx.get q)(k:Key):
  ¬(kW b x fx sx sx' k/\tO b hi y fy k)/\ ¬(tO b hi x fx k/\kW b y fy sy sy' k)/\ ¬(kW b x fx sx sx' k/\kW b y fy sy sy' k):=by
 rcases GZ (x:=x.op) (y:=y.op) with h | ⟨u,v,hu,hv,huv⟩
 ·rw [h]at hp; exact Ko hx hy hs hp hax hay (fun h5 h1=>hkp h5 (h ▸ h1)) (fun h5 h1=>Qe h5 (h ▸ h1)) k
 simp only [mT,aB,ff]at hs;obtain⟨s1,s2,s3⟩:=hs;have kx:=tS hu;have ky:=tS hv
 have nx:∀(q:Nat) (K:Prop),(x.op.kind=5/\K)\/q∈(cF b fx.env x).2.1->False:=fun q K hq=>by
  rcases hq with h | h
  ·omega
  ·have:=jA hx h; omega
 have ny:∀(q:Nat) (K:Prop),(y.op.kind=5/\K)\/q∈(cF b fy.env y).2.1->False:=fun q K hq=>by
  rcases hq with h | h
  ·omega
  ·have:=jA hy h; omega
 cases k with
 | g t=>
  simp only [kW,tO];refine⟨fun ⟨h1,h2⟩=>mM h1 s1 h2,fun ⟨h1,h2⟩=>mM h2 s2 h1,fun ⟨h1,h2⟩=>mM h1 s3 (by simp [h2])⟩
 | c t=>
  simp only [kW,tO];refine⟨fun ⟨h1,h2⟩=> ?_,fun ⟨h1,h2⟩=> ?_,fun ⟨h1,h2⟩=> ?_⟩
  ·rw [ua h1]at hu; rw [h2]at hv; simp only [aa]at hu hv; omega
  ·rw [h1]at hu; rw [ua h2]at hv; simp only [aa]at hu hv; omega
  ·rw [ua h1]at hu; rw [ua h2]at hv; simp only [aa]at hu hv; omega
 | h q=>exact ⟨fun ⟨h1,_⟩=>nx q _ h1,fun ⟨_,h2⟩=>ny q _ h2,fun ⟨h1,_⟩=>nx q _ h1⟩
 | hc q c=>exact ⟨fun ⟨h1,_⟩=>nx q _ h1,fun ⟨_,h2⟩=>ny q _ h2,fun ⟨h1,_⟩=>nx q _ h1⟩
 | n=>
  simp only [kW];exact⟨fun ⟨h1,_⟩=>by omega,fun ⟨_,h2⟩=>by omega,fun ⟨h1,_⟩=>by omega⟩
 | d=>
  simp only [kW];exact⟨fun ⟨h1,_⟩=>by omega,fun ⟨_,h2⟩=>by omega,fun ⟨h1,_⟩=>by omega⟩
end
end Go.Ab
