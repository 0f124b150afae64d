/- Part. -/
import Derived.Test.YtmcdajnpdekocaaGreatDoorG29
import Derived.Test.YtmcdajnpdekocaaGreatDoorG30
import Derived.Test.YtmcdajnpdekocaaGreatDoorG31
import Derived.Test.YtmcdajnpdekocaaGreatDoorG32
import Derived.Test.YtmcdajnpdekocaaGreatDoorG33
import Derived.Deep.Slices
import Derived.ChangeArms
import Derived.OpenShut
import Derived.LaidLaws
set_option maxRecDepth 1000000
set_option linter.unusedSectionVars false
set_option linter.unusedVariables false
set_option linter.unusedSimpArgs false
set_option maxHeartbeats 1000000
namespace Go.Proofs.YtmcdajnpdekocaaGreatDoor.Tab
open Go Go.Ab
noncomputable def tabA:Nat→Option AFn:=without tab0 [5]
theorem e40:tabA 40=some code40:=by kernel_rfl
theorem e53:tabA 53=some code53:=by kernel_rfl
theorem e54:tabA 54=some code54:=by kernel_rfl
theorem e71:tabA 71=some code71:=by kernel_rfl
theorem e79:tabA 79=some code79:=by kernel_rfl
theorem e90:tabA 90=some code90:=by kernel_rfl
theorem isTW:TW tabA:=⟨e40,e53,e54,e71,e79,e90⟩
theorem e23:tabA 23=some code23:=by kernel_rfl
theorem e48:tabA 48=some code48:=by kernel_rfl
theorem e49:tabA 49=some code49:=by kernel_rfl
theorem e50:tabA 50=some code50:=by kernel_rfl
theorem e56:tabA 56=some code56:=by kernel_rfl
theorem e80:tabA 80=some code80:=by kernel_rfl
theorem e107:tabA 107=some yEh:=by kernel_rfl
theorem e108:tabA 108=some yEg:=by kernel_rfl
theorem e109:tabA 109=some yEf:=by kernel_rfl
theorem e120:tabA 120=some yDx:=by kernel_rfl
theorem e134:tabA 134=some yDo:=by kernel_rfl
theorem e135:tabA 135=some yDn:=by kernel_rfl
theorem e136:tabA 136=some yDm:=by kernel_rfl
theorem e137:tabA 137=some yDl:=by kernel_rfl
theorem e161:tabA 161=some yCt:=by kernel_rfl
theorem e162:tabA 162=some yCs:=by kernel_rfl
theorem e171:tabA 171=some yCk:=by kernel_rfl
theorem e174:tabA 174=some yCj:=by kernel_rfl
theorem isTV:TV tabA:=⟨e23,e48,e49,e50,e56,e80,e107,e108,e109,e120,e134,e135,e136,e137,e161,e162,e171,e174⟩
theorem e51:tabA 51=some code51:=by kernel_rfl
theorem e96:tabA 96=some code96:=by kernel_rfl
theorem e111:tabA 111=some yEd:=by kernel_rfl
theorem e113:tabA 113=some yEb:=by kernel_rfl
theorem e115:tabA 115=some yDz:=by kernel_rfl
theorem e116:tabA 116=some yDy:=by kernel_rfl
theorem e127:tabA 127=some yDt:=by kernel_rfl
theorem e133:tabA 133=some yDp:=by kernel_rfl
theorem e138:tabA 138=some yDk:=by kernel_rfl
theorem e139:tabA 139=some yDj:=by kernel_rfl
theorem e140:tabA 140=some yDi:=by kernel_rfl
theorem e141:tabA 141=some yDh:=by kernel_rfl
theorem e142:tabA 142=some yDg:=by kernel_rfl
theorem e143:tabA 143=some yDf:=by kernel_rfl
theorem e144:tabA 144=some yDe:=by kernel_rfl
theorem e145:tabA 145=some yDd:=by kernel_rfl
theorem e146:tabA 146=some yDc:=by kernel_rfl
theorem e153:tabA 153=some yDb:=by kernel_rfl
theorem e154:tabA 154=some yDa:=by kernel_rfl
theorem e155:tabA 155=some yCz:=by kernel_rfl
theorem e156:tabA 156=some yCy:=by kernel_rfl
theorem e157:tabA 157=some yCx:=by kernel_rfl
theorem e158:tabA 158=some yCw:=by kernel_rfl
theorem e159:tabA 159=some yCv:=by kernel_rfl
theorem e160:tabA 160=some yCu:=by kernel_rfl
theorem e163:tabA 163=some yCr:=by kernel_rfl
theorem e164:tabA 164=some yCq:=by kernel_rfl
theorem e165:tabA 165=some yCp:=by kernel_rfl
theorem e166:tabA 166=some yCo:=by kernel_rfl
theorem e168:tabA 168=some yCn:=by kernel_rfl
theorem e169:tabA 169=some yCm:=by kernel_rfl
theorem e170:tabA 170=some yCl:=by kernel_rfl
theorem e230:tabA 230=some yBx:=by kernel_rfl
theorem e231:tabA 231=some yBw:=by kernel_rfl
theorem e232:tabA 232=some yBv:=by kernel_rfl
theorem e234:tabA 234=some yBu:=by kernel_rfl
theorem e235:tabA 235=some yBt:=by kernel_rfl
theorem e236:tabA 236=some yBs:=by kernel_rfl
theorem isTT:TT tabA:=⟨e51,e96,e111,e113,e115,e116,e127,e133,e138,e139,e140,e141,e142,e143,e144,e145,e146,e153,e154,e155,e156,e157,e158,e159,e160,e163,e164,e165,e166,e168,e169,e170,e230,e231,e232,e234,e235,e236⟩
theorem e27:tabA 27=some code27:=by kernel_rfl
theorem e75:tabA 75=some code75:=by kernel_rfl
theorem e92:tabA 92=some code92:=by kernel_rfl
theorem e94:tabA 94=some code94:=by kernel_rfl
theorem e95:tabA 95=some code95:=by kernel_rfl
theorem e106:tabA 106=some yEi:=by kernel_rfl
theorem e110:tabA 110=some yEe:=by kernel_rfl
theorem e112:tabA 112=some yEc:=by kernel_rfl
theorem e114:tabA 114=some yEa:=by kernel_rfl
theorem e124:tabA 124=some yDw:=by kernel_rfl
theorem e125:tabA 125=some yDv:=by kernel_rfl
theorem e126:tabA 126=some yDu:=by kernel_rfl
theorem e128:tabA 128=some yDs:=by kernel_rfl
theorem e131:tabA 131=some yDr:=by kernel_rfl
theorem e132:tabA 132=some yDq:=by kernel_rfl
theorem isTP:TP tabA:=⟨e27,e75,e92,e94,e95,e106,e110,e112,e114,e124,e125,e126,e128,e131,e132⟩
theorem e4:tabA 4=some code4:=by kernel_rfl
theorem e6:tabA 6=some code6:=by kernel_rfl
theorem e7:tabA 7=some code7:=by kernel_rfl
theorem e8:tabA 8=some code8:=by kernel_rfl
theorem e9:tabA 9=some code9:=by kernel_rfl
theorem e10:tabA 10=some code10:=by kernel_rfl
theorem e11:tabA 11=some code11:=by kernel_rfl
theorem e12:tabA 12=some code12:=by kernel_rfl
theorem e16:tabA 16=some code16:=by kernel_rfl
theorem e17:tabA 17=some code17:=by kernel_rfl
theorem e18:tabA 18=some code18:=by kernel_rfl
theorem e19:tabA 19=some code19:=by kernel_rfl
theorem e20:tabA 20=some code20:=by kernel_rfl
theorem e21:tabA 21=some code21:=by kernel_rfl
theorem e22:tabA 22=some code22:=by kernel_rfl
theorem e24:tabA 24=some code24:=by kernel_rfl
theorem e25:tabA 25=some code25:=by kernel_rfl
theorem e26:tabA 26=some code26:=by kernel_rfl
theorem e34:tabA 34=some code34:=by kernel_rfl
theorem e35:tabA 35=some code35:=by kernel_rfl
theorem e36:tabA 36=some code36:=by kernel_rfl
theorem e37:tabA 37=some code37:=by kernel_rfl
theorem e38:tabA 38=some code38:=by kernel_rfl
theorem e39:tabA 39=some code39:=by kernel_rfl
theorem e41:tabA 41=some code41:=by kernel_rfl
theorem e42:tabA 42=some code42:=by kernel_rfl
theorem e43:tabA 43=some code43:=by kernel_rfl
theorem e44:tabA 44=some code44:=by kernel_rfl
theorem e45:tabA 45=some code45:=by kernel_rfl
theorem e46:tabA 46=some code46:=by kernel_rfl
theorem e47:tabA 47=some code47:=by kernel_rfl
theorem e66:tabA 66=some code66:=by kernel_rfl
theorem e67:tabA 67=some code67:=by kernel_rfl
theorem e69:tabA 69=some code69:=by kernel_rfl
theorem e70:tabA 70=some code70:=by kernel_rfl
theorem e72:tabA 72=some code72:=by kernel_rfl
theorem e73:tabA 73=some code73:=by kernel_rfl
theorem e74:tabA 74=some code74:=by kernel_rfl
theorem e76:tabA 76=some code76:=by kernel_rfl
theorem e77:tabA 77=some code77:=by kernel_rfl
theorem e78:tabA 78=some code78:=by kernel_rfl
theorem e89:tabA 89=some code89:=by kernel_rfl
theorem e91:tabA 91=some code91:=by kernel_rfl
theorem e93:tabA 93=some code93:=by kernel_rfl
theorem e97:tabA 97=some code97:=by kernel_rfl
theorem e197:tabA 197=some yCi:=by kernel_rfl
theorem e198:tabA 198=some yCh:=by kernel_rfl
theorem e199:tabA 199=some yCg:=by kernel_rfl
theorem e200:tabA 200=some yCf:=by kernel_rfl
theorem e202:tabA 202=some yCe:=by kernel_rfl
theorem e204:tabA 204=some yCd:=by kernel_rfl
theorem e206:tabA 206=some yCc:=by kernel_rfl
theorem e208:tabA 208=some yCb:=by kernel_rfl
theorem e210:tabA 210=some yCa:=by kernel_rfl
theorem e213:tabA 213=some yBz:=by kernel_rfl
theorem e218:tabA 218=some yBy:=by kernel_rfl
theorem isTS:TS tabA:=⟨e4,e6,e7,e8,e9,e10,e11,e12,e16,e17,e18,e19,e20,e21,e22,e24,e25,e26,e34,e35,e36,e37,e38,e39,e41,e42,e43,e44,e45,e46,e47,e66,e67,e69,e70,e72,e73,e74,e76,e77,e78,e89,e91,e93,e97,e197,e198,e199,e200,e202,e204,e206,e208,e210,e213,e218⟩
theorem e30:tabA 30=some code30:=by kernel_rfl
theorem e32:tabA 32=some code32:=by kernel_rfl
theorem e55:tabA 55=some code55:=by kernel_rfl
theorem e57:tabA 57=some code57:=by kernel_rfl
theorem e58:tabA 58=some code58:=by kernel_rfl
theorem e59:tabA 59=some code59:=by kernel_rfl
theorem e60:tabA 60=some code60:=by kernel_rfl
theorem e64:tabA 64=some code64:=by kernel_rfl
theorem e81:tabA 81=some code81:=by kernel_rfl
theorem e82:tabA 82=some code82:=by kernel_rfl
theorem e87:tabA 87=some code87:=by kernel_rfl
theorem e102:tabA 102=some yEj:=by kernel_rfl
theorem isTX:TX tabA:=⟨e30,e32,e55,e57,e58,e59,e60,e64,e81,e82,e87,e102⟩
theorem e68:tabA 68=some code68:=by kernel_rfl
theorem e88:tabA 88=some code88:=by kernel_rfl
theorem isTU:TU tabA:=⟨e68,e88⟩
theorem e3:tabA 3=some code3:=by kernel_rfl
theorem isTL:TL tabA:=⟨e3⟩
open Go Go.Ab Go.Ab.Sm
theorem zYy {C:zAa}{f:Nat}(h:Ab.isTrue (C f [] st0)=true)(s:St):alone C f [] s=some (.bool true,s):=by
 unfold alone
 split
 ·generalize C f [] st0=r at h
  unfold Ab.isTrue at h
  split at h
  ·rfl
  ·cases h
 ·rename_i h1; cases h1
theorem yHj:Ab.isTrue (zPn tab0 zAq 200 5 [] st0)=true:=by kernel_rfl
noncomputable def aw:zAa:=alone (zPn tab0 zAq 200)
theorem zUo (s:St):aw 5 [] s=some (.bool true,s):=zYy yHj s
theorem evp_hook {T:Nat→Option AFn}{H:zAa}{f:Nat}{x:List D}{s s1:St}{d:D}{R:D→St→Prop}(h:H f x s=some (d,s1))(ht:T f=none)(hr:R d s1):EvP T H f x s R:=by
 refine⟨d,s1,⟨1, ?_⟩,hr⟩
 unfold zPn
 rw [ht]
 split <;> exact h
theorem tabA5:tabA 5=none:=rfl
theorem yHk (s:St):EvP tabA aw 5 [] s fun d s1=>d= .bool true∧s1=s:=evp_hook (zUo s) tabA5 ⟨rfl,rfl⟩
end Go.Proofs.YtmcdajnpdekocaaGreatDoor.Tab
namespace Go.Ab
open Go
inductive Sh where
 | bool | int (k:IntKind) | str
 | slice (sz:Nat) (one:Bool) (e:Sh)
 | st (l:List Sh)
def mkE (one:Bool)(l:List D):D:=match one with
 | true=>l.headD .nilp
 | false=> .agg l
variable [Vals]
variable {H:Type}{enc:TypeId×Value→H}{P:Program}{w:World}
theorem RepL.len {ρ:Gh}:∀ {ds:List D} {vs:List Value},RepL ρ w ds vs→ds.length=vs.length
 | [],vs,h=>by simp only [RepL]at h; subst h; rfl
 | d::l,vs,h=>by
  simp only [RepL]at h
  obtain⟨v,r,rfl,_,h2⟩:=h
  simp [RepL.len h2]
theorem RepL.app {ρ:Gh}:∀ {a b:List D} {u v:List Value},RepL ρ w a u→RepL ρ w b v→RepL ρ w (a++b) (u++v)
 | [],b,u,v,h,k=>by simp only [RepL]at h; subst h; simpa using k
 | d::l,b,u,v,h,k=>by
  simp only [RepL]at h
  obtain⟨x,r,rfl,h1,h2⟩:=h
  simp only [List.cons_append,RepL]
  exact⟨x,_,rfl,h1,RepL.app h2 k⟩
theorem RepL.lit {ρ:Gh}{d:D}{v:Value}(h:Rep ρ w d v):RepL ρ w [d] [v]:=by
 simp only [RepL]
 exact⟨v,[],rfl,h,rfl⟩
theorem RepL.inv1 {ρ:Gh}{d:D}{vs:List Value}(h:RepL ρ w [d] vs):∃v,vs=[v]∧Rep ρ w d v:=by
 simp only [RepL]at h
 obtain⟨v,r,rfl,h1,rfl⟩:=h
 exact⟨v,rfl,h1⟩
end Go.Ab
namespace Go.Ab
open Go
mutual
def zQp:Sh→List D→Prop
 | .bool,ds=>∃b,ds=[.bool b]
 | .int k,ds=>∃n,ds=[.int k n]∧(Lit.int k n).wf=true
 | .str,ds=>∃s,ds=[.str s]∧s.length≤reachBytes
 | .slice sz one e,ds=>∃nl L,ds=[.vs nl sz L]∧(nl=true→L=[])∧L.length≤reachBytes∧∀d,d∈L→∃l,d=mkE one l∧zQp e l
 | .st fs,ds=>zUu fs ds
def zUu:List Sh→List D→Prop
 | [],ds=>ds=[]
 | s::r,ds=>∃a b,ds=a++b∧zQp s a∧zUu r b
end
mutual
def zQo (P:Program):Sh→TypeId→Prop
 | .bool,t=>P.underlying t=some .bool
 | .int k,t=>P.underlying t=some (.int k)
 | .str,t=>P.underlying t=some .string
 | .slice sz one e,t=>∃u,P.underlying t=some (.slice u)∧P.cellsOf u=sz∧0 < sz∧(one=true→sz=1)∧0 < P.bytesOf u∧zQo P e u
 | .st fs,t=>∃fl,P.underlying t=some (.struct fl)∧zGt P fs fl.toList 0 (P.cellsOf t)
def zGt (P:Program):List Sh→List Field→Nat→Nat→Prop
 | [],[],off,n=>off=n
 | s::r,f::fl,off,n=>f.offset=off∧zQo P s f.type∧zGt P r fl (off+P.cellsOf f.type) n
 | _,_,_,_=>False
end
section
variable {H:Type}{P:Program}
theorem zGe {e:TypeId}{d:DataW H}{b:Nat}:∀ {l:List (DataW H)},d∈l→b∈d.weights P e→b∈DataW.weightsAll P e l
 | [],h,_=>by cases h
 | x::r,h,hb=>by
  unfold DataW.weightsAll
  rw [List.mem_append]
  rcases List.mem_cons.1 h with rfl | h
  ·exact .inl hb
  ·exact .inr (zGe h hb)
theorem zDo {t:TypeId}{d:DataW H}{b:Nat}:∀ {i:Nat} {ts:List TypeId} {l:List (DataW H)},ts[i]? =some t→l[i]? =some d→b∈d.weights P t→b∈DataW.weightsEach P ts l
 | _,[],_,h,_,_=>by simp at h
 | _,_::_,[],_,h,_=>by simp at h
 | 0,t' ::ts,x::r,h1,h2,hb=>by
  simp only [List.getElem?_cons_zero,Option.some.injEq]at h1 h2
  subst h1; subst h2
  unfold DataW.weightsEach
  exact List.mem_append.2 (.inl hb)
 | i+1,t' ::ts,x::r,h1,h2,hb=>by
  unfold DataW.weightsEach
  exact List.mem_append.2 (.inr (zDo (by simpa using h1) (by simpa using h2) hb))
end
variable [Vals]
variable {H:Type}{enc:TypeId×Value→H}{P:Program}{w:World}
mutual
theorem zJt:∀(s:Sh) (n:Nat) (t:TypeId) (cs:List Value) (x:DataW H×List MemPlace),zQo P s t→DataW.trod enc P w 0 (fun _=>true) true n t cs=some x→(∀b∈x.1.weights P t,b≤reachBytes)→∃ds,RepL rho0 w ds cs∧zQp s ds∧ds.all D.sc=true
 | .bool,n,t,cs,x,hs,h,_=>by
  simp only [zQo]at hs
  obtain⟨b,rfl,_⟩:=DataW.trod_bool hs h
  exact⟨[.bool b],RepL.lit (by simp [Rep]),⟨b,rfl⟩,rfl⟩
 | .int k,n,t,cs,x,hs,h,_=>by
  simp only [zQo]at hs
  obtain⟨m,rfl,_,hw⟩:=DataW.trod_int hs h
  exact⟨[.int k m],RepL.lit (by simp [Rep]),⟨m,rfl,hw⟩,rfl⟩
 | .str,n,t,cs,x,hs,h,hw=>by
  simp only [zQo]at hs
  obtain⟨b,rfl,rfl,hl⟩:=DataW.trod_string hs h
  exact⟨[.str b.data.toList],RepL.lit (by simp [Rep]),⟨_,rfl,hw _ (by simp [DataW.weights])⟩,rfl⟩
 | .slice sz one e,n,t,cs,x,hs,h,hw=>by
  simp only [zQo]at hs
  obtain⟨u,hu,hc,h0,hone,hbt,he⟩:=hs
  rcases Deep.open_slice hu h with ⟨rfl,rfl⟩ | ⟨a,len,cap,m,n',Df,Pl,rfl,hb,hl,hm,hmm,rfl,hx⟩
  ·exact⟨[.vs true sz []],RepL.lit (by simp [Rep]),⟨true,[],rfl,fun _=>rfl,by simp,fun d hd=>by cases hd⟩,rfl⟩
  ·have hmc:m=cap:=by rw [hmm]; rfl
   subst hmc
   have hwt:DataW.weights P t (.slice ((List.range len).map Df) ((List.range (m - len)).map fun j=>Df (len+j)))=(((List.range len).map Df).length+((List.range (m - len)).map fun j=>Df (len+j)).length) * P.bytesOf u::(DataW.weightsAll P u ((List.range len).map Df)++DataW.weightsAll P u ((List.range (m - len)).map fun j=>Df (len+j))):=by
    simp only [DataW.weights,hu]
   simp only [hwt,List.mem_cons,List.mem_append]at hw
   have hlr:len≤reachBytes:=by
    have h1:=hw _ (.inl rfl)
    rw [List.length_map,List.length_range]at h1
    have h2:len≤(len+((List.range (m - len)).map fun j=>Df (len+j)).length) * P.bytesOf u:=Nat.le_trans (Nat.le_add_right _ _) (Nat.le_mul_of_pos_right _ hbt)
    omega
   have key:∀i,i < len→∃d l v,d=mkE one l∧zQp e l∧Rep rho0 w d v∧v.cells.size=sz∧d.st=true∧∀j,j < sz→w.cell? ((a.add (i * sz)).add j)=v.cells[j]? :=by
    intro i hi
    obtain⟨cs',h1,h2⟩:=hx i (by omega)
    rw [hc]at h1
    obtain⟨_,hlen,hcell⟩:=World.cells?_some h1
    obtain⟨l,g1,g2,g3⟩:=zJt e n' u cs' _ he h2 (fun b hb' =>hw b (.inr (.inl (zGe (List.mem_map.2 ⟨i,List.mem_range.2 hi,rfl⟩) hb'))))
    have hll:=g1.len
    cases one with
    | false=>
     refine⟨.agg l,l,.agg cs'.toArray,rfl,g2, ?_,by simp [Value.cells,hlen],by simp [D.st,g3],fun j hj=> ?_⟩
     ·simp only [Rep]; exact ⟨_,rfl,by simpa using g1,g3⟩
     ·rw [hcell j hj]; simp [Value.cells]
    | true=>
     have h1:=hone rfl
     subst h1
     match l,hll with
     | [d],hll=>
      obtain⟨v,rfl,hv⟩:=g1.inv1
      simp only [List.all_cons,List.all_nil,Bool.and_true]at g3
      obtain⟨_,hvc⟩:=hv.sc g3
      refine⟨d,[d],v,rfl,g2,hv,by rw [hvc]; rfl,D.sc_st g3,fun j hj=> ?_⟩
      rw [hcell j hj,hvc]; simp
     | [],hll=>simp [hlen]at hll
     | _::_::_,hll=>simp [hlen]at hll
   have build:∀k,k≤len→∃L:List D,L.length=k∧(∀d,d∈L→∃l,d=mkE one l∧zQp e l)∧
     ∀i d,L[i]? =some d→∃v,Rep rho0 w d v∧v.cells.size=sz∧d.st=true∧∀j,j < sz→w.cell? ((a.add (i * sz)).add j)=v.cells[j]? :=by
    intro k
    induction k with
    | zero=>intro _; exact ⟨[],rfl,fun d hd=>(by cases hd),fun i d hd=>by simp at hd⟩
    | succ k ih=>
     intro hk
     obtain⟨L,l1,l2,l3⟩:=ih (by omega)
     obtain⟨d,l,v,k1,k2,k3,k4,k5,k6⟩:=key k (by omega)
     refine⟨L++ [d],by simp [l1],fun q hq=> ?_,fun i q hq=> ?_⟩
     ·rcases List.mem_append.1 hq with hq | hq
      ·exact l2 q hq
      ·simp only [List.mem_singleton]at hq; subst hq; exact ⟨l,k1,k2⟩
     ·rcases Nat.lt_or_ge i L.length with hi | hi
      ·rw [List.getElem?_append_left hi]at hq; exact l3 i q hq
      ·rw [List.getElem?_append_right hi]at hq
       have:i - L.length=0:=by
        rcases Nat.eq_zero_or_pos (i - L.length) with h | h
        ·exact h
        ·rw [List.getElem?_eq_none (by simp; omega)]at hq; cases hq
       rw [this]at hq
       simp only [List.getElem?_cons_zero,Option.some.injEq]at hq; subst hq
       have:i=k:=by omega
       subst this
       exact⟨v,k3,k4,k5,k6⟩
   obtain⟨L,l1,l2,l3⟩:=build len (Nat.le_refl _)
   refine⟨[.vs false sz L],RepL.lit ?_,⟨false,L,rfl,fun h=>(by cases h),by omega,l2⟩,rfl⟩
   simp only [Rep]
   refine .inr ⟨trivial,a,m,by rw [l1],by omega, ?_⟩
   by_cases hL:L=[]
   ·exact .inl hL
   ·right
    have hpos:0 < len:=by
     rcases Nat.eq_zero_or_pos len with h | h
     ·exact absurd (List.eq_nil_of_length_eq_zero (l1.trans h)) hL
     ·exact h
    have hspot:a.spot=none:=by
     obtain⟨d,l,v,k1,k2,k3,k4,k5,k6⟩:=key 0 (by omega)
     have:=k6 0 h0
     simp only [Nat.zero_mul,Addr.add,if_true]at this
     rw [Array.getElem?_eq_getElem (by omega)]at this
     unfold World.cell? at this
     split at this
     ·split at this
      ·cases this
      ·rename_i hh; simpa using hh
     ·cases this
    refine⟨a.block,a.off,by cases a; simp only [Addr.mk.injEq,true_and]; exact hspot,rfl, ?_⟩
    have haeq:∀q j,((a.add q).add j)=⟨a.block,a.off+q+j,none⟩:=fun q j=>by
     cases a
     simp only at hspot
     subst hspot
     rw [Addr.add_mid,Addr.add_mid]
    refine RepE.of h0 _ _ fun i d hd=> ?_
    obtain⟨v,v1,v2,v3,v4⟩:=l3 i d hd
    refine⟨v,v1,v2,fun j hj=> ?_,v3⟩
    rw [v2]at hj
    have:=v4 j hj
    rw [haeq]at this
    exact this
 | .st fs,n,t,cs,x,hs,h,hw=>by
  simp only [zQo]at hs
  obtain⟨fl,hu,hf⟩:=hs
  obtain⟨xs,n',rfl,rfl,hlen,hxs,hg⟩:=DataW.trod_struct hu h
  have hg' :∀(i:Nat) (f:Field),fl.toList[i]? =some f→∃y,DataW.trod enc P w 0 (fun _=>true) true n' f.type ((cs.drop f.offset).take (P.cellsOf f.type))=some y∧∀b∈y.1.weights P f.type,b≤reachBytes:=fun i f hi=>by
   have hi' :fl[i]? =some f:=by simpa using hi
   rw [hg i f hi']
   have:i < fl.size:=by
    rcases Nat.lt_or_ge i fl.size with h | h
    ·exact h
    ·rw [Array.getElem?_eq_none h]at hi'; cases hi'
   have hx' :xs[i]? =some (xs[i]'(by omega)):=List.getElem?_eq_getElem (by omega)
   refine⟨_,hx',fun b hb=>hw b ?_⟩
   show b∈DataW.weights P t (.agg (xs.map (·.1)))
   unfold DataW.weights
   rw [hu]
   exact zDo (i:=i) (by rw [List.getElem?_map,hi]; rfl) (by rw [List.getElem?_map,hx']; rfl) hb
  obtain⟨ds,g1,g2,g3⟩:=zLs fs fl.toList 0 (P.cellsOf t) n' cs hf hlen (fun i f hi=>hg' i f hi)
  exact⟨ds,by simpa using g1,g2,g3⟩
theorem zLs:∀(fs:List Sh) (fl:List Field) (off N n:Nat) (cs:List Value),zGt P fs fl off N→cs.length=N→(∀(i:Nat) (f:Field),fl[i]? =some f→∃y:DataW H×List MemPlace,DataW.trod enc P w 0 (fun _=>true) true n f.type ((cs.drop f.offset).take (P.cellsOf f.type))=some y∧∀b∈y.1.weights P f.type,b≤reachBytes)→
  ∃ds,RepL rho0 w ds (cs.drop off)∧zUu fs ds∧ds.all D.sc=true
 | [],fl,off,N,n,cs,hs,hl,_=>by
  cases fl with
  | nil=>
   simp only [zGt]at hs
   refine⟨[], ?_,rfl,rfl⟩
   rw [List.drop_of_length_le (by omega)]
   simp [RepL]
  | cons _ _=>simp [zGt]at hs
 | s::r,fl,off,N,n,cs,hs,hl,hg=>by
  cases fl with
  | nil=>simp [zGt]at hs
  | cons f fl=>
   simp only [zGt]at hs
   obtain⟨h1,h2,h3⟩:=hs
   obtain⟨y,hy,hyw⟩:=hg 0 f rfl
   obtain⟨a,a1,a2,a3⟩:=zJt s n f.type _ y h2 hy hyw
   obtain⟨b,b1,b2,b3⟩:=zLs r fl (off+P.cellsOf f.type) N n cs h3 hl (fun i g hi=>hg (i+1) g (by simpa using hi))
   refine⟨a++b, ?_,⟨a,b,rfl,a2,b2⟩,by simp [a3,b3]⟩
   have:=RepL.app a1 b1
   rw [h1]at this
   rwa [show List.take (P.cellsOf f.type) (List.drop off cs)++List.drop (off+P.cellsOf f.type) cs=List.drop off cs by rw [← List.drop_drop]; exact List.take_append_drop _ _]at this
end
theorem zYv {t u:TypeId}{sz:Nat}{one:Bool}{e:Sh}{v:Value}{d:DataW H}{ps:List MemPlace}{base:Nat}(hs:zQo P (.slice sz one e) t)(hu:P.underlying t=some (.slice u))(hv:Value.okWide P w .any base t v)
  (h:DataW.Trod enc P w 0 (fun _=>true) true t v d ps)(hw:∀b∈d.weights P t,b≤reachBytes):∃nl L,Rep rho0 w (.vs nl sz L) v∧zQp (.slice sz one e) [.vs nl sz L]:=by
 obtain⟨n,h⟩:=h
 have hc:∃a k c,v= .slice a k c:=by
  simp only [Value.okWide,hu,Cell.okWide]at hv
  unfold Cell.ok at hv
  rw [hu]at hv
  split at hv <;> first
   | (rename_i h1 _; simp at h1; done)
   | exact ⟨_,_,_,rfl⟩
   | (simp_all; done)
   | exact hv.elim
 obtain⟨a,k,c,rfl⟩:=hc
 obtain⟨ds,g1,g2,g3⟩:=zJt _ n t _ _ hs h hw
 have hcs:(Value.slice a k c).cells.toList=[.slice a k c]:=rfl
 rw [hcs]at g1
 simp only [zQp]at g2
 obtain⟨nl,L,rfl,q0,q1,q2⟩:=g2
 obtain⟨v',hv',g1⟩:=g1.inv1
 simp only [List.cons.injEq,and_true]at hv'
 subst hv'
 exact⟨nl,L,g1,by simp only [zQp]; exact ⟨nl,L,rfl,q0,q1,q2⟩⟩
end Go.Ab
namespace Go.Ab
open Go
section
variable {H:Type}{enc:TypeId×Value→H}{P:Program}{w:World}{base:Nat}{spare:Nat→Bool}{held:Bool}{fuel t e n:Nat}{cs:List Value}{k:IntKind}{p:List MemPlace}
theorem row_ints (ht:P.underlying t=some (.array n e))(he:P.underlying e=some (.int k))(hc:P.cellsOf e=1)(hct:P.cellsOf t=n){Z:List Int}
  (h:DataW.trod enc P w base spare held fuel t cs=some (.agg (Z.map fun z=> .lit (.int k z)),p)):cs=Z.map (Value.int k):=by
 obtain⟨xs,m,rfl,hx,hl,hn,hg⟩:=DataW.trod_array ht h
 simp only [Prod.mk.injEq,DataW.agg.injEq]at hx
 have hzx:Z.length=xs.length:=by have:=congrArg List.length hx.1; simpa using this
 refine List.ext_getElem? fun i=> ?_
 by_cases hi:i < n
 ·have h1:=hg i hi
  have hx' :xs[i]? =some (xs[i]'(by omega)):=List.getElem?_eq_getElem (by omega)
  have hz' :Z[i]? =some (Z[i]'(by omega)):=List.getElem?_eq_getElem (by omega)
  rw [hc,Nat.mul_one,hx']at h1
  obtain⟨v,e1,e2,_⟩:=DataW.trod_int he h1
  have e3:=congrArg (fun l=>l[i]?) hx.1
  simp only [List.getElem?_map,hx',hz',Option.map_some,e2,Option.some.injEq,DataW.lit.injEq,Lit.int.injEq,true_and]at e3
  rw [List.getElem?_map,hz',Option.map_some,e3]
  have e4:(cs.drop i)[0]? =some (.int k v):=by
   have:=congrArg (fun l=>l[0]?) e1
   simpa using this
  rw [List.getElem?_drop]at e4
  simpa using e4
 ·rw [List.getElem?_eq_none (by omega),List.getElem?_eq_none (by rw [List.length_map]; omega)]
def yHu (k:IntKind)(Z:List (Int×Int)):List Value:=Z.flatMap fun z=> [.int k z.1,.int k z.2]
theorem zWd:∀(Z:List (Int×Int)) (cs:List Value),cs.length=2 * Z.length→(∀i z,Z[i]? =some z→(cs.drop (i * 2)).take 2=[.int k z.1,.int k z.2])→cs=yHu k Z
 | [],cs,hl,_=>by
  have:cs=[]:=List.eq_nil_of_length_eq_zero (by simpa using hl)
  subst this; rfl
 | z::Z,cs,hl,h=>by
  have h0:=h 0 z rfl
  rw [Nat.zero_mul,List.drop_zero]at h0
  have hr:=zWd Z (cs.drop 2) (by rw [List.length_drop,hl,List.length_cons]; omega) fun i z' hz=>by
   have:=h (i+1) z' (by simpa using hz)
   rw [List.drop_drop,show 2+i * 2=(i+1) * 2 by omega]
   exact this
  have:cs=cs.take 2++cs.drop 2:=(List.take_append_drop 2 cs).symm
  rw [this,h0,hr]; rfl
theorem yFa {f0 f1:Field}(ht:P.underlying t=some (.array n e))(he:P.underlying e=some (.struct #[f0,f1]))(o0:f0.offset=0)(o1:f1.offset=1)(c0:P.cellsOf f0.type=1)(c1:P.cellsOf f1.type=1)(k0:P.underlying f0.type=some (.int k))(k1:P.underlying f1.type=some (.int k))(hc:P.cellsOf e=2)(hct:P.cellsOf t=2 * n){Z:List (Int×Int)}
  (h:DataW.trod enc P w base spare held fuel t cs=some (.agg (Z.map fun z=> .agg [.lit (.int k z.1),.lit (.int k z.2)]),p)):cs=yHu k Z:=by
 obtain⟨xs,m,rfl,hx,hl,hn,hg⟩:=DataW.trod_array ht h
 simp only [Prod.mk.injEq,DataW.agg.injEq]at hx
 have hzx:Z.length=xs.length:=by have:=congrArg List.length hx.1; simpa using this
 refine zWd Z cs (by omega) fun i z hz=> ?_
 have hi:i < n:=by have:=(List.getElem?_eq_some_iff.mp hz).1; omega
 have h1:=hg i hi
 have hx' :xs[i]? =some (xs[i]'(by omega)):=List.getElem?_eq_getElem (by omega)
 rw [hc,hx']at h1
 obtain⟨ys,m',rfl,hy,hly,hny,hgy⟩:=DataW.trod_struct he h1
 have e3:=congrArg (fun l=>l[i]?) hx.1
 simp only [List.getElem?_map,hx',hz,Option.map_some,hy,Option.some.injEq,DataW.agg.injEq]at e3
 have hys:ys.length=2:=hny
 obtain⟨y0,y1,rfl⟩:∃a b,ys=[a,b]:=by
  match ys,hys with
  | [a,b],_=>exact ⟨a,b,rfl⟩
 simp only [List.map_cons,List.map_nil,List.cons.injEq,and_true]at e3
 have g0:=hgy 0 f0 rfl
 have g1:=hgy 1 f1 rfl
 rw [o0,c0]at g0
 rw [o1,c1]at g1
 obtain⟨v0,a1,a2,_⟩:=DataW.trod_int k0 g0
 obtain⟨v1,b1,b2,_⟩:=DataW.trod_int k1 g1
 rw [a2,b2]at e3
 simp only [DataW.lit.injEq,Lit.int.injEq,true_and]at e3
 rw [hc]at hly
 obtain⟨u0,u1,hu⟩:∃a b,(cs.drop (i * 2)).take 2=[a,b]:=by
  match (cs.drop (i * 2)).take 2,hly with
  | [a,b],_=>exact ⟨a,b,rfl⟩
 rw [hu]at a1 b1 ⊢
 simp only [List.drop_zero,List.take_succ_cons,List.take_zero,List.drop_succ_cons,List.cons.injEq,and_true]at a1 b1
 rw [a1,b1,e3.1,e3.2]
end
section
variable [Vals]
theorem zPg {ρ:Gh}{w:World}{k:IntKind}:∀Z:List Int,RepL ρ w (Z.map (D.int k)) (Z.map (Value.int k))
 | []=>by simp [RepL]
 | z::Z=>by
  simp only [List.map_cons,RepL]
  exact⟨_,_,rfl,by simp [Rep],zPg Z⟩
theorem zWc {w:World}{g:Nat}{k:IntKind}{Z:List Int}{cs:Array Value}{ty:TypeId}{fz:Nat×Nat}(hh:w.heap[g]? =some (.cells cs ty fz))(hc:cs.toList=Z.map (Value.int k))(hz:Z≠ []):Rep rho0 w (.vptr (.agg (Z.map (D.int k))) 0) (.pointer (some ⟨g,0,none⟩)):=by
 simp only [Rep]
 have hs:cs.size=Z.length:=by rw [← Array.length_toList,hc,List.length_map]
 have hall:(Z.map (D.int k)).all D.sc=true:=by
  rw [List.all_eq_true]; intro d hd; obtain ⟨z,_,rfl⟩:=List.mem_map.1 hd; rfl
 refine⟨g,0,.agg cs,rfl,⟨cs,rfl,by rw [hc]; exact zPg Z,hall⟩,fun j hj=> ?_,⟨?_, ?_⟩,rfl⟩
 ·simp only [World.cell?,hh,Value.cells,Nat.zero_add,Option.isSome_none,Bool.false_eq_true,if_false]
 ·simp only [Value.cells,hs]
  exact List.length_pos_iff.2 hz
 ·simp only [D.st]; exact hall
theorem top_okG {P:Program}{C:zAa}{G:Gl}(hC:ClO .none P G C){f:Nat}{l:List D}{w:World}{vs:List Value}(hg:∀g d,G g=some d→Rep rho0 w (.vptr d 0) (.pointer (some ⟨g,0,none⟩)))(h:isTrue (C f l st0)=true)(hr:RepL rho0 w l vs):
  Calls P f vs.toArray w fun e w' =>e= .returned (.bool true)∧(w'.os=w.os∧w'.tape=w.tape∧w'.output=w.output∧w.heap.size≤w'.heap.size∧∀b,b < w.heap.size→w'.heap[b]? =w.heap[b]?):=by
 unfold isTrue at h
 split at h
 ·rename_i s' h1
  have hs0:zPl rho0 st0 w:=by
   refine⟨fun o x hx=> ?_,fun o x hx=> ?_,fun o _=>rfl,fun b o hb=>(by cases hb),fun b hb=>rfl⟩
   ·simp [st0,St.get,T.get]at hx
   ·simp [st0,St.get,T.get]at hx
  refine (hC.calls f l st0 _ _ rho0 w vs h1 hs0 ⟨hg,trivial⟩ hr).mono fun e w' he=> ?_
  cases e with
  | returned v=>
   obtain⟨ρ',k1,k2,k3⟩:=he
   simp only [Rep]at k3
   exact⟨by rw [k3],k1.os,k1.tape,k1.output,k1.size,fun b hb=>(k1.kept b hb (fun o h=>by cases h)).1⟩
  | panicked _=>exact he.elim
  | outgrown=>exact he.elim
 ·cases h
end
end Go.Ab
namespace Go.Proofs.YtmcdajnpdekocaaGreatDoor.Tab
open Go Go.Ab Go.Ab.Sm
section
variable {T:Nat→Option AFn}{H:zAa}{s:St}
theorem zBg {b kk t:Nat}{e:Env}{ds:List (D×List D)}{g:Option (Nat×Bool)}{q:List Nat}{acc:List Fp}{l:List (zPk×List Nat)}{k:List Kont}{Q:QP}{fp:Fp}{op:AOp}{al:Option Nat}(h:DOps T H b kk l (acc++ [fpC fp s s]) k ⟨(t,.tup [])::e,ds⟩ s Q)(hlo:lost acc s s ⟨some t,op,g,al⟩ q=false)(hw:wtD e g=some false:=by rfl)(hf:fpOf b e ⟨some t,op,g,al⟩=fp:=by exact fI)(hc:ckA acc fp q=true:=by exact cI)(hv0:Env.isLvo e (some t)=false:=by rfl)(hk:Nat.beq (zPk.op ⟨some t,op,g,al⟩).kind 5=true:=by rfl):
  DOps T H b kk ((⟨some t,op,g,al⟩,q)::l) acc k ⟨e,ds⟩ s Q:=by
 subst hf
 obtain⟨n,f2,s2,h5,h6⟩:=h.out
 refine⟨⟨n,f2,s2, ?_,h6⟩⟩
 have e1:oper (cutC b kk (zPn T H n)) b ⟨some t,op,g,al⟩ ⟨e,ds⟩ s=some (⟨(t,.tup [])::e,ds⟩,s):=by
  unfold oper
  simp only [hw]
  rfl
 have e2:Env.isLvo ((t,D.tup [])::e) (some t)=false:=zCp rfl
 simp only [zBk,hc,hv0,Bool.not_false,Bool.and_self,e1,e2,hlo,Bool.or_self,fpX,hk]
 exact h5
theorem zGf (hU:TU T){l:List UInt8}(hl:8≤l.length):EvP T H 88 [.str l] s fun d s1=>(∃n:Int,d= .int .u64 n)∧s1=s:=by
 obtain⟨a0,a1,a2,a3,a4,a5,a6,a7,r,rfl⟩:∃a0 a1 a2 a3 a4 a5 a6 a7 r,l=a0::a1::a2::a3::a4::a5::a6::a7::r:=by
  rcases l with _ | ⟨a0,_ | ⟨a1,_ | ⟨a2,_ | ⟨a3,_ | ⟨a4,_ | ⟨a5,_ | ⟨a6,_ | ⟨a7,r⟩⟩⟩⟩⟩⟩⟩⟩
  all_goals first | exact ⟨_,_,_,_,_,_,_,_,_,rfl⟩ | (simp at hl; done)
 refine evI hU.t88 ?_
 try refine go ?_
 exact rtF ⟨⟨_,rfl⟩,rfl⟩
end
end Go.Proofs.YtmcdajnpdekocaaGreatDoor.Tab
