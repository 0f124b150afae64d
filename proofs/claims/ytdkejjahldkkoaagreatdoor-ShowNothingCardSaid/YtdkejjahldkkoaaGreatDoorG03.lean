/- Part. -/
import Derived.Test.YtdkejjahldkkoaaGreatDoorG02
import Derived.Deep.MidRow
import Derived.Laws.StructEq
import Derived.Laws.Concat
import Derived.Laws.Strings
set_option linter.unusedSectionVars false
set_option linter.unusedSimpArgs false
set_option linter.unusedVariables false
namespace Go.Ab
open Go
variable [eW]
variable {ρ:Gh}{w:World}
theorem br.length:∀ {l:List D} {vs:List Value},br ρ w l vs->l.length=vs.length
 | [],_,h=>by simp only [br]at h; subst h; rfl
 | d::l,_,h=>by
  simp only [br]at h;obtain⟨v,r,rfl,_,h2⟩:=h;simp [br.length h2]
theorem br.append:∀ {l l' :List D} {vs vs' :List Value},br ρ w l vs->br ρ w l' vs' ->br ρ w (l++l') (vs++vs')
 | [],_,_,_,h,h' =>by simp only [br]at h; subst h; simpa using h'
 | d::l,_,_,_,h,h' =>by
  simp only [br]at h;obtain⟨v,r,rfl,h1,h2⟩:=h;simp only [iL,br];exact⟨v,_,rfl,h1,br.append h2 h'⟩
theorem br.take:∀ {l:List D} {vs:List Value} (n:Nat),br ρ w l vs->br ρ w (l.take n) (vs.take n)
 | [],_,n,h=>by simp only [br]at h; subst h; simp [br]
 | d::l,_,0,h=>by simp [br]
 | d::l,_,n+1,h=>by
  simp only [br]at h;obtain⟨v,r,rfl,h1,h2⟩:=h;simp only [gC,br];exact⟨v,_,rfl,h1,br.take n h2⟩
theorem br.drop:∀ {l:List D} {vs:List Value} (n:Nat),br ρ w l vs->br ρ w (l.drop n) (vs.drop n)
 | [],_,n,h=>by simp only [br]at h; subst h; simp [br]
 | d::l,_,0,h=>by simpa using h
 | d::l,_,n+1,h=>by
  simp only [br]at h;obtain⟨v,r,rfl,h1,h2⟩:=h;simpa using br.drop n h2
theorem br.get:∀ {l:List D} {vs:List Value} {i:Nat} {d:D},br ρ w l vs->l[i]? =some d->∃v,vs[i]? =some v/\aS ρ w d v
 | [],_,i,d,h,hi=>by simp at hi
 | x::l,_,0,d,h,hi=>by
  simp only [br]at h;obtain⟨v,r,rfl,h1,h2⟩:=h;simp at hi; subst hi;exact⟨v,by simp,h1⟩
 | x::l,_,i+1,d,h,hi=>by
  simp only [br]at h;obtain⟨v,r,rfl,h1,h2⟩:=h;simp at hi;simpa using br.get h2 hi
theorem br.one {d:D}{v:Value}(h:aS ρ w d v):br ρ w [d] [v]:=by simp only [br]; exact ⟨v,[],rfl,h,rfl⟩
theorem br.replicate {d:D}{v:Value}(h:aS ρ w d v):∀n,br ρ w (List.replicate n d) (List.replicate n v)
 | 0=>by simp [br]
 | n+1=>by
  simp only [lu,br];exact⟨v,_,rfl,h,br.replicate h n⟩
theorem Gh.jL {ρ:Gh}{o:Nat}{dd:Prop}{Q:Nat->Nat->Prop}(h:ρ.at o dd Q)(hq:∀sz b,Q sz b->dd):dd:=by
 unfold Gh.at at h;split at h
 ·exact h.elim
 ·exact h
 ·obtain⟨b,_,h2⟩:=h; exact hq _ b h2
theorem aS.sc {d:D}{v:Value}(h:aS ρ w d v)(hs:d.sc=true):v.oneCell' =true/\v.cells= #[v]:=by
 cases d <;> simp only [D.sc]at hs <;> (try cases hs) <;> simp only [aS]at h
 case bool=>subst h; exact ⟨rfl,rfl⟩
 case int=>subst h; exact ⟨rfl,rfl⟩
 case str=>subst h; exact ⟨rfl,rfl⟩
 case cT=>subst h; exact ⟨rfl,rfl⟩
 case ptr o c=>obtain ⟨a,rfl⟩:=Gh.jL h fun _ _ q=>⟨_,q⟩; exact ⟨rfl,rfl⟩
 case jK=>obtain ⟨a,rfl⟩:=Gh.jL h fun _ _ q=>⟨_,q.2.2.2⟩; exact ⟨rfl,rfl⟩
 case jE=>obtain ⟨_,_,_,_,_,_,_,rfl⟩:=h; exact ⟨rfl,rfl⟩
 case vs=>rcases h with ⟨_,_,rfl⟩ | ⟨_,_,_,rfl,_⟩ <;> exact ⟨rfl,rfl⟩
 case sl=>obtain ⟨a,c,rfl⟩:=Gh.jL h fun _ _ ⟨_,_,_,_,_,q,_⟩=>⟨_,_,q⟩; exact ⟨rfl,rfl⟩
 case qz=>subst h; exact ⟨rfl,rfl⟩
 case mp=>obtain ⟨b,rfl⟩:=Gh.jL h fun _ _ q=>⟨_,q⟩; exact ⟨rfl,rfl⟩
 case fn=>obtain ⟨_,_,rfl,_⟩:=h; exact ⟨rfl,rfl⟩
 case mf=>subst h; exact ⟨rfl,rfl⟩
 case ig=>obtain ⟨_,rfl,_⟩:=h; exact ⟨rfl,rfl⟩
 case nv=>subst h; exact ⟨rfl,rfl⟩
 case sint=>obtain ⟨rfl,_⟩:=h; exact ⟨rfl,rfl⟩
 case pz=>obtain ⟨rfl,_⟩:=h; exact ⟨rfl,rfl⟩
 case rN=>subst h; exact ⟨rfl,rfl⟩
 case yl=>obtain ⟨_,rfl⟩:=h; exact ⟨rfl,rfl⟩
theorem br.IA:∀ {l:List D} {vs:List Value},br ρ w l vs->l.all D.sc=true->∀u∈vs,u.oneCell' =true
 | [],_,h,_,u,hu=>by simp only [br]at h; subst h; simp at hu
 | d::l,_,h,hs,u,hu=>by
  simp only [br]at h;obtain⟨v,r,rfl,h1,h2⟩:=h;simp only [gQ,aA]at hs;rcases bS.1 hu with rfl | hu
  ·exact (h1.sc hs.1).1
  ·exact br.IA h2 hs.2 u hu
theorem D.mX {d:D}(h:d.st=true):d.flat.all D.sc=true:=by
 cases d <;> simp_all [D.st,D.flat,D.sc]
theorem D.L8 {d:D}(h:d.sc=true):d.st=true:=by
 cases d <;> simp_all [D.st,D.sc]
theorem D.Dk {d:D}(h:d.st=true):(∃l,d= .agg l/\l.all D.sc=true)\/d.sc=true:=by
 cases d <;> simp_all [D.st,D.sc]
theorem aS.flat {d:D}{v:Value}(h:aS ρ w d v)(hs:d.st=true):br ρ w d.flat v.cells.toList/\∀u∈v.cells.toList,u.oneCell' =true:=by
 rcases D.Dk hs with ⟨l,rfl,hl⟩ | hc
 ·simp only [aS]at h;obtain⟨vs,rfl,h1,_⟩:=h;exact⟨by simpa [D.flat,Value.cells] using h1,by simpa [Value.cells] using br.IA h1 hl⟩
 ·obtain⟨h1,h2⟩:=h.sc hc;rw [h2];refine⟨?_,by simpa using h1⟩;have:d.flat=[d]:=by cases d <;> simp_all [D.flat,D.sc]
  rw [this];exact br.one h
theorem aS.size {d:D}{v:Value}(h:aS ρ w d v)(hs:d.st=true):v.cells.size=d.flat.length:=by
 have:=(h.flat hs).1.length;simpa using this.symm
theorem aS.agg {l:List D}{vs:List Value}(h:br ρ w l vs)(hs:l.all D.sc=true):aS ρ w (.agg l) (.agg vs.toArray):=by
 simp only [aS]; exact ⟨_,rfl,by simpa using h,hs⟩
theorem rI {cs:List D}{vs:List Value}{c:Nat}{sz:Option Nat}{d:D}(h:br ρ w cs vs)(hs:cs.all D.sc=true)(hp:part cs c sz=some d):
  match sz with
  | some s=>c+s<=vs.length/\aS ρ w d (.agg ((vs.drop c).take s).toArray)
  | none=>∃v,vs[c]? =some v/\aS ρ w d v/\d.sc=true:=by
 cases sz with
 | some s=>
  simp only [part]at hp;split at hp
  ·rename_i hb;simp only [aa]at hp;subst hp;have hle:=ax hb;rw [h.length]at hle;refine⟨hle,aS.agg ((h.drop c).take s) ?_⟩;exact dh.2 fun x hx=>(dh.1 hs) x (nE (fV hx))
  ·cases hp
 | none=>
  simp only [part]at hp;obtain⟨v,h1,h2⟩:=h.get hp;exact⟨v,h1,h2,(dh.1 hs) d (aK hp)⟩
theorem mE {w:World}{b x:Nat}{v:Value}(h:cl w b x v):w.rangeAt b x v.cells.toList:=fun j u hj=>by
 have dQ:j < v.cells.size:=by simpa using (af.1 hj).1
 rw [h j dQ]; simpa using hj
theorem vY {w:World}{b x:Nat}{v:Value}(h:w.rangeAt b x v.cells.toList):cl w b x v:=fun j hj=>by
 rw [h j v.cells[j] (by simp [hj])]; simp [hj]
theorem CJ {w:World}{b x:Nat}{vs:List Value}(h:w.rangeAt b x vs)(c s:Nat):w.rangeAt b (x+c) ((vs.drop c).take s):=fun j u hj=>by
 rw [de]at hj;split at hj
 ·rw [cW]at hj;have:=h (c+j) u hj;rwa [show x+c+j=x+(c+j) by omega]
 ·cases hj
theorem rangeAt_of_block {w:World}{b:Nat}{cs:Array Value}{e:TypeId}{f:Nat×Nat}(h:w.heap[b]? =some (.cells cs e f)):w.rangeAt b 0 cs.toList:=fun j u hj=>by
 have VE :cs[j]? =some u:=by simpa using hj
 simp [World.cell?,h,VE]
theorem run_load {P:Program}{w:World}{b x c:Nat}{vs:List Value}{t:TypeId}{sz:Option Nat}(hr:w.rangeAt b x vs)(gZ:iN P t=some sz):
  match sz with
  | some s=>c+s<=vs.length->(Instr.loadAt t (.pointer (some ⟨b,x+c,none⟩))).run P w= .ok (.agg ((vs.drop c).take s).toArray) w
  | none=>∀v,vs[c]? =some v->(Instr.loadAt t (.pointer (some ⟨b,x+c,none⟩))).run P w= .ok v w:=by
 have hi:∀s,dM P t=some s->(P.info? t).map (·.size)=some s:=fun s h=>h;cases hu:P.underlying t with
 | none=>simp [iN,oV,hu]at gZ
 | some d=>
  cases hz:dM P t with
  | none=>simp [iN,hz]at gZ
  | some s=>
   by_cases hd:d.isRow=true
   ·have ha:oV P t=some true:=by cases d <;> simp_all [oV,TypeDesc.isRow]
    simp only [iN,ha,hz,aa]at gZ;subst gZ;intro hle;have hlen:((vs.drop c).take s).length=s:=by simp; omega
    exact run_loadAt_mid w b (x+c) t _ d (CJ hr c s) hu hd (by rw [hlen]; exact hi s hz)
   ·have ha:oV P t=some false:=by cases d <;> simp_all [oV,TypeDesc.isRow]
    have h1:sz=none:=by
     simp only [iN,ha,hz]at gZ;split at gZ
     ·simp_all
     ·simpa using gZ.symm
     ·cases gZ
    subst h1;intro v hv;have hd:d.isRow=false:=by simpa using hd
    have Ou:(isAgg t).run P w= .ok false w:=by
     unfold isAgg;rw [Sem.run_bind,run_underlying hu w];cases d <;> simp_all [TypeDesc.isRow]
    have hc:=hr c v hv;simp [Instr.loadAt,Instr.sureAddr,loadVar,Ou,hc]
end Go.Ab
namespace Go.Ab
open Go
variable [eW]
variable {ρ:Gh}{w:World}{P:Program}{G:Gl}{X:iJ}{A:nJ}
structure iO where
 J:Gh->World->Prop
 mono:∀ {ρ ρ' :Gh} {w w' :World},Kp ρ w ρ' w' ->J ρ w->J ρ' w'
def iO.none:iO:=⟨fun _ _=>True,fun _ _=>trivial⟩
def HZ (k l:Nat)(r:Go.Loop)(e:Env)(ρ:Gh)(w:World):Prop:=ρ.kd k= .dead/\ρ.lp k=(l,r)/\∀t d,e.get t=some d->∃v,r.tmps[t]? =some v/\aS ρ w d v
theorem HZ.mono {k l:Nat}{r:Go.Loop}{e:Env} {ρ ρ' :Gh} {w w' :World}(h:Kp ρ w ρ' w')(p:HZ k l r e ρ w):HZ k l r e ρ' w' :=by
 obtain⟨k1,k2,k3⟩:=p;refine⟨(h.dead _ k1).1,(h.dead _ k1).2.trans k2,fun t d hd=> ?_⟩;obtain⟨v,h1,h2⟩:=k3 t d hd;exact⟨v,h1,h2.mono h⟩
def iO.loop (J:iO)(k l:Nat)(r:Go.Loop)(e:Env):iO:=⟨fun ρ w=>HZ k l r e ρ w/\J.J ρ w,fun h p=>⟨p.1.mono h,J.mono h p.2⟩⟩
def gF (pn:iO)(G:Gl)(ρ:Gh)(w:World):Prop:=(∀g d,G g=some d->aS ρ w (.jE d 0) (.pointer (some ⟨g,0,none⟩)))/\pn.J ρ w
variable {pn:iO}
theorem gF.mono {ρ' :Gh} {w' :World}(h:Kp ρ w ρ' w')(g:gF pn G ρ w):gF pn G ρ' w' :=⟨fun x d hx=>(g.1 x d hx).mono h,pn.mono h g.2⟩
mutual
theorem kh:∀(v:Value) (d:D),wK v=some d->aS ρ w d v
 | .bool b,d,h=>by simp only [wK,aa]at h; subst h; simp [aS]
 | .int k n,d,h=>by simp only [wK,aa]at h; subst h; simp [aS]
 | .string s,d,h=>by simp only [wK,aa]at h; subst h; simp [aS]
 | .pointer none,d,h=>by simp only [wK,aa]at h; subst h; simp [aS]
 | .pointer (some _),d,h=>by simp [wK]at h
 | .slice none 0 0,d,h=>by simp only [wK,aa]at h; subst h; simp [aS]
 | .slice (some _) _ _,d,h=>by simp [wK]at h
 | .slice none (_+1) _,d,h=>by simp [wK]at h
 | .slice none 0 (_+1),d,h=>by simp [wK]at h
 | .map none,d,h=>by simp only [wK,aa]at h; subst h; simp [aS]
 | .map (some _),d,h=>by simp [wK]at h
 | .func f a b,d,h=>by
  simp only [wK]at h;split at h
  ·rename_i x y hx hy;simp only [aa]at h; subst h;simp only [aS];exact⟨a,b,rfl,rH a.toList x hx,rH b.toList y hy⟩
  ·cases h
 | .nilFunc,d,h=>by simp only [wK,aa]at h; subst h; simp [aS]
 | .nilIface,d,h=>by simp only [wK,aa]at h; subst h; simp [aS]
 | .iface t v,d,h=>by
  simp only [wK]at h;split at h
  ·rename_i x hx;simp only [aa]at h; subst h;simp only [aS];exact⟨v,rfl,kh v x hx⟩
  ·cases h
 | .agg cs,d,h=>by
  simp only [wK]at h;split at h
  ·rename_i l hl;split at h
   ·rename_i hs;simp only [aa]at h; subst h;simp only [aS];exact⟨cs,rfl,rH cs.toList l hl,hs⟩
   ·cases h
  ·cases h
 | .tuple cs,d,h=>by
  simp only [wK]at h;split at h
  ·rename_i l hl;simp only [aa]at h; subst h;simp only [aS];exact⟨cs,rfl,rH cs.toList l hl⟩
  ·cases h
 | .float _ _,d,h=>by simp [wK]at h
 | .complex _ _ _,d,h=>by simp [wK]at h
 | .chan _,d,h=>by simp [wK]at h
theorem rH:∀(vs:List Value) (l:List D),D1 vs=some l->br ρ w l vs
 | [],l,h=>by simp only [D1,aa]at h; subst h; simp [br]
 | v::r,l,h=>by
  simp only [D1]at h;split at h
  ·rename_i d t hd ht;simp only [aa]at h; subst h;simp only [br];exact⟨v,r,rfl,kh v d hd,rH r t ht⟩
  ·cases h
end
variable {lo:Nat}{env:Env}{a:Act}
theorem yB {t:Nat}{v:Value}(h:a.tmps[t]? =some v):a.eval (.tmp t)=v:=by
 simp [Act.eval,h]
theorem aZ {x' :Operand}{x:bP}{d:D}(hx:eK G x' =some x)(he:eu ρ w lo env a.tmps)(hg:gF pn G ρ w)(h:x.ev env=some d):aS ρ w d (a.eval x'):=by
 cases x' with
 | tmp t=>
  simp only [eK,aa]at hx; subst hx;simp only [bP.ev]at h;split at h
  ·cases h
  ·cases h
  ·rename_i r h1 h2;have hs:=he.slot t d h;cases d with
   | lv _=>exact absurd h (h1 _)
   | iI _ _=>exact absurd h (h2 _ _)
   | _=>
    simp only [ej]at hs;obtain⟨v,hv,hr⟩:=hs;rw [yB hv]; exact hr
 | const v=>
  simp only [eK,aY]at hx;obtain⟨d',h1,rfl⟩:=hx;simp only [bP.ev,aa]at h; subst h;exact kh v _ h1
 | global g=>
  simp only [eK,aY]at hx;obtain⟨d',h1,rfl⟩:=hx;simp only [bP.ev,aa]at h; subst h;exact hg.1 g d' h1
 | func f=>
  simp only [eK,aa]at hx; subst hx;simp only [bP.ev,aa]at h; subst h;simp only [aS,Act.eval];exact⟨#[], #[],rfl,by simp [br],by simp [br]⟩
def fq (ρ:Gh)(w:World)(env:Env)(tmps:Array Value)(d:D)(v:Value):Prop:=
 match d with
 | .iI a c=>∀x,env.get a=some (.lv x)->∃b,tmps[a]? =some (.pointer (some ⟨b,0,none⟩))/\v= .pointer (some ⟨b,c,none⟩)
 | .lv _=>False
 | d=>aS ρ w d v
theorem fq.yR {tmps:Array Value}{d:D}{v:Value}(h:aS ρ w d v):fq ρ w env tmps d v:=by
 cases d <;> first | exact h | (simp only [aS]at h)
theorem lI {x' :Operand}{x:bP}{d:D}(hx:eK G x' =some x)(he:eu ρ w lo env a.tmps)(hg:gF pn G ρ w)(h:x.zb env=some d):fq ρ w env a.tmps d (a.eval x'):=by
 by_cases h' :x.ev env=some d
 ·exact .yR (aZ hx he hg h')
 ·cases x' with
  | tmp t=>
   simp only [eK,aa]at hx; subst hx;simp only [bP.zb]at h;cases hd:env.get t with
   | none=>simp [hd]at h
   | some e=>
    have hs:=he.slot t e hd;cases e <;> simp only [hd,aa]at h <;> subst h <;> (try (simp [bP.ev,hd]at h'))
    case lv y=>
     simp only [ej]at hs;obtain⟨b,v,el,h1,_⟩:=hs;simp only [fq];exact fun _ _=>⟨b,h1,yB h1⟩
    case iI u c=>
     simp only [ej]at hs;simp only [fq];intro y hy;obtain⟨b,h1,h2⟩:=hs y hy;exact⟨b,h1,yB h2⟩
  | const v=>
   simp only [eK,aY]at hx;obtain⟨d',h1,rfl⟩:=hx;exact absurd h (by simpa [bP.ev,bP.zb] using h')
  | global g=>
   simp only [eK,aY]at hx;obtain⟨d',h1,rfl⟩:=hx;exact absurd h (by simpa [bP.ev,bP.zb] using h')
  | func f=>
   simp only [eK,aa]at hx; subst hx;exact absurd h (by simpa [bP.ev,bP.zb] using h')
theorem mapM_cons {α β:Type}(f:α->Option β)(x:α)(l:List α)(r:List β):(x::l).mapM f=some r->∃y t,f x=some y/\l.mapM f=some t/\r=y::t:=by
 intro h;simp only [jC,aD,aj,aP,aa]at h;obtain⟨y,h1,t,h2,h3⟩:=h;exact⟨y,t,h1,h2,h3.symm⟩
theorem mapM_nil {α β:Type}(f:α->Option β)(r:List β):([]:List α).mapM f=some r->r=[]:=by
 intro h; simpa using h.symm
theorem Du (he:eu ρ w lo env a.tmps)(hg:gF pn G ρ w):∀(l:List Operand) (xs:List bP) (ds:List D),l.mapM (eK G)=some xs->sK env xs=some ds->br ρ w ds (l.map a.eval)
 | [],xs,ds,h,h' =>by
  have:=mapM_nil _ _ h; subst this;simp only [sK,aa]at h'; subst h';simp [br]
 | x::l,xs,ds,h,h' =>by
  obtain⟨y,t,h1,h2,rfl⟩:=mapM_cons _ _ _ _ h;simp only [sK]at h';split at h'
  ·rename_i d hd;split at h'
   ·rename_i r hr;simp only [aa]at h'; subst h';simp only [bG,br];exact⟨_,_,rfl,aZ h1 he hg hd,Du he hg l t r h2 hr⟩
   ·cases h'
  ·cases h'
theorem Bn (he:eu ρ w lo env a.tmps)(hg:gF pn G ρ w){l:Array Operand}{xs:List bP}{ds:List D}(h:rV G l=some xs) (h' :sK env xs=some ds):br ρ w ds (l.map a.eval).toList:=by
 have:=Du he hg l.toList xs ds h h';simpa using this
end Go.Ab
namespace Go.Ab
open Go
variable [eW]
variable {ρ:Gh}{w:World}{P:Program}
theorem oR:∀(a b:List UInt8),Op.bytesLess a b=oe a b
 | _,[]=>by simp [Op.bytesLess,oe]
 | [],_::_=>by simp [Op.bytesLess,oe]
 | a::x,b::y=>by simp [Op.bytesLess,oe,oR x y]
theorem oB (op:BinOp)(t:TypeId)(px py:Operand)(k j:IntKind)(a b:Int):(eqGuard op t px py (.int k a) (.int j b)).run P w= .ok () w:=by
 cases op <;> simp [eqGuard]
theorem AU (op:BinOp)(t:TypeId)(px py:Operand)(a b:ByteArray):(eqGuard op t px py (.string a) (.string b)).run P w= .ok () w:=by
 cases op <;> simp [eqGuard]
theorem AO {op:BinOp}{k:IntKind}{a b:Int}{d:D}(h:tB op k a b=some d)(t:TypeId):∃r,(binOp op t (.int k a) (.int k b)).run P w= .ok r w/\aS ρ w d r:=by
 cases op <;> simp only [tB,aa]at h
 case add=>subst h; exact ⟨_,by simp [binOp,Op.intArith]; rfl,by simp [aS]⟩
 case sub=>subst h; exact ⟨_,by simp [binOp,Op.intArith]; rfl,by simp [aS]⟩
 case mul=>subst h; exact ⟨_,by simp [binOp,Op.intArith]; rfl,by simp [aS]⟩
 case quo=>
  split at h
  ·cases h
  ·rename_i hb;simp only [aa]at h; subst h;exact⟨_,by simp [binOp,Op.intDiv,hb]; rfl,by simp [aS]⟩
 case rem=>
  split at h
  ·cases h
  ·rename_i hb;simp only [aa]at h; subst h;exact⟨_,by simp [binOp,Op.intDiv,hb]; rfl,by simp [aS]⟩
 case and=>subst h; exact ⟨_,by simp only [binOp,ne_eq,jj,iw,Op.intBits,Sem.run_pure]; rfl,by simp [aS]⟩
 case or=>subst h; exact ⟨_,by simp only [binOp,ne_eq,jj,iw,Op.intBits,Sem.run_pure]; rfl,by simp [aS]⟩
 case xor=>subst h; exact ⟨_,by simp only [binOp,ne_eq,jj,iw,Op.intBits,Sem.run_pure]; rfl,by simp [aS]⟩
 case andNot=>subst h; exact ⟨_,by simp only [binOp,ne_eq,jj,iw,Op.intBits,Sem.run_pure]; rfl,by simp [aS]⟩
 case eql=>subst h; exact ⟨_,by simp [binOp,Op.intCmp]; rfl,by simp [aS]⟩
 case neq=>subst h; exact ⟨_,by simp [binOp,Op.intCmp]; rfl,by simp [aS]⟩
 case lss=>subst h; exact ⟨_,by simp [binOp,Op.intCmp]; rfl,by simp [aS]⟩
 case leq=>subst h; exact ⟨_,by simp [binOp,Op.intCmp]; rfl,by simp [aS]⟩
 case gtr=>subst h; exact ⟨_,by simp [binOp,Op.intCmp]; rfl,by simp [aS]⟩
 case geq=>subst h; exact ⟨_,by simp [binOp,Op.intCmp]; rfl,by simp [aS]⟩
 all_goals cases h
theorem AE {op:BinOp}{a b:List UInt8}{d:D}(h:yV op a b=some d)(t:TypeId):∃r,(binOp op t (.string ⟨⟨a⟩⟩) (.string ⟨⟨b⟩⟩)).run P w= .ok r w/\aS ρ w d r:=by
 have ha:(⟨⟨a⟩⟩:ByteArray).toList=a:=ByteArray.toList_mk a;have hb:(⟨⟨b⟩⟩:ByteArray).toList=b:=ByteArray.toList_mk b;cases op <;> simp only [yV,aa]at h
 case add=>
  split at h
  ·rename_i hl;simp only [aa]at h; subst h;have hle:=ax hl;refine⟨.string (⟨⟨a⟩⟩++⟨⟨b⟩⟩), ?_, ?_⟩
   ·have:=run_string_add_sum (P:=P) (w:=w) ⟨⟨a⟩⟩ ⟨⟨b⟩⟩ (by simp only [ByteArray.size_mk',km]; omega);simpa [binOp] using this
   ·simp only [aS];exact congrArg Value.string (ByteArray.mk_append_mk a b)
  ·cases h
 case eql=>subst h; exact ⟨_,by simp [binOp,Op.stringOp,ha,hb]; rfl,by simp [aS]⟩
 case neq=>subst h; exact ⟨_,by simp [binOp,Op.stringOp,ha,hb]; rfl,by simp [aS]⟩
 case lss=>subst h; exact ⟨_,by simp only [binOp,Op.stringOp,ha,hb,oR,Sem.run_pure]; rfl,by simp [aS]⟩
 case leq=>subst h; exact ⟨_,by simp only [binOp,Op.stringOp,ha,hb,oR,Sem.run_pure]; rfl,by simp [aS]⟩
 case gtr=>subst h; exact ⟨_,by simp only [binOp,Op.stringOp,ha,hb,oR,Sem.run_pure]; rfl,by simp [aS]⟩
 case geq=>subst h; exact ⟨_,by simp only [binOp,Op.stringOp,ha,hb,oR,Sem.run_pure]; rfl,by simp [aS]⟩
 all_goals cases h
theorem HI {lo hi c n:Int}(h:Qu lo hi c=true)(h1:lo<=n)(h2:n<=hi):(n==c)=false/\(c==n)=false:=by
 simp only [Qu,eC,aX]at h;have:n≠c:=by omega
 exact⟨by simpa using this,by simpa using fun e=>this e.symm⟩
theorem HX {ex:List (List UInt8)}{lo hi:Nat}{c n:List UInt8}(h:Ry ex lo hi c=true)(h0:n ∉ ex)(h1:lo<=n.length)(h2:n.length<=hi):(n==c)=false/\(c==n)=false:=by
 have:n≠c:=by
  rintro rfl;simp only [Ry,eC,List.any_eq_true]at h;rcases h with h | h | ⟨z,hz,h⟩
  ·have:=ax h; omega
  ·have:=ax h; omega
  ·exact h0 ((eq_of_beq h) ▸ hz)
 exact⟨by simpa using this,by simpa using fun e=>this e.symm⟩
theorem jf {c b r:Bool}(h:mV c b=some r):c=true/\r=b:=by
 unfold mV at h;split at h
 ·simp only [aa]at h; exact ⟨rfl,h.symm⟩
 ·cases h
theorem yF {x y:D}{r:Bool}{u v:Value}(h:eqI x y=some r)(hu:aS ρ w x u)(hv:aS ρ w y v):∃k a b,u= .int k a/\v= .int k b/\r=(a==b):=by
 unfold eqI at h;split at h
 ·obtain⟨h1,h2⟩:=jf h;obtain rfl:=bA h1;simp only [aS]at hu hv;exact⟨_,_,_,hu,hv,h2⟩
 ·obtain⟨h1,h2⟩:=jf h;simp only [aA]at h1;obtain rfl:=bA h1.1;simp only [aS]at hu hv;exact⟨_,_,_,hu.1,hv,by rw [(HI h1.2 hu.2.1 hu.2.2).1]; exact h2⟩
 ·obtain⟨h1,h2⟩:=jf h;simp only [aA]at h1;obtain rfl:=bA h1.1;simp only [aS]at hu hv;exact⟨_,_,_,hu,hv.1,by rw [(HI h1.2 hv.2.1 hv.2.2).2]; exact h2⟩
 ·obtain⟨h1,h2⟩:=jf h;simp only [aA]at h1;obtain rfl:=bA h1.1;obtain rfl:=bA h1.2;simp only [aS]at hu hv;exact⟨_,_,_,hu.1,hv.1,by simpa using h2⟩
 ·cases h
theorem zn {x y:D}{r:Bool}{u v:Value}(h:X6 x y=some r)(hu:aS ρ w x u)(hv:aS ρ w y v):∃a b:List UInt8,u= .string ⟨⟨a⟩⟩/\v= .string ⟨⟨b⟩⟩/\r=(a==b):=by
 unfold X6 at h;split at h
 ·simp only [aa]at h;simp only [aS]at hu hv;exact⟨_,_,hu,hv,h.symm⟩
 ·obtain⟨h1,h2⟩:=jf h;simp only [aS]at hu hv;exact⟨_,_,hu.1,hv,by rw [(HX h1 hu.2.1 hu.2.2.1 hu.2.2.2).1]; exact h2⟩
 ·obtain⟨h1,h2⟩:=jf h;simp only [aS]at hu hv;exact⟨_,_,hu,hv.1,by rw [(HX h1 hv.2.1 hv.2.2.1 hv.2.2.2).2]; exact h2⟩
 ·obtain⟨h1,h2⟩:=jf h;obtain rfl:=aF h1;simp only [aS]at hu hv;exact⟨_,_,hu.1,hv.1,by simpa using h2⟩
 ·cases h
theorem vB {x y:D}{r:Bool}{u v:Value}(h:W8 x y=some r)(hu:aS ρ w x u)(hv:aS ρ w y v):∃a b,u= .bool a/\v= .bool b/\r=(a==b):=by
 unfold W8 at h;split at h
 ·simp only [aa]at h;simp only [aS]at hu hv;exact⟨_,_,hu,hv,h.symm⟩
 ·obtain⟨h1,h2⟩:=jf h;obtain rfl:=aF h1;simp only [aS]at hu hv;exact⟨_,_,hu,hv,by simpa using h2⟩
 ·cases h
theorem qF {x y d:D}{u v:Value}(h:A2 x y=some d)(hu:aS ρ w x u)(hv:aS ρ w y v):∃k a b,u= .int k a/\v= .int k b/\d= .bool (decide (a < b)):=by
 unfold A2 at h;split at h
 ·split at h
  ·rename_i hk;obtain rfl:=bA hk;simp only [aS]at hu hv;split at h
   ·rename_i h1;have:=bA h1;simp only [aa]at h; subst h;exact⟨_,_,_,hu.1,hv,congrArg D.bool (cK (by omega)).symm⟩
   ·rename_i h1 _;have:=bA h1;simp only [aa]at h; subst h;exact⟨_,_,_,hu.1,hv,congrArg D.bool (bk (by omega)).symm⟩
   ·cases h
  ·cases h
 ·split at h
  ·rename_i hk;obtain rfl:=bA hk;simp only [aS]at hu hv;split at h
   ·rename_i h1;have:=bA h1;simp only [aa]at h; subst h;exact⟨_,_,_,hu,hv.1,congrArg D.bool (cK (by omega)).symm⟩
   ·rename_i h1 _;have:=bA h1;simp only [aa]at h; subst h;exact⟨_,_,_,hu,hv.1,congrArg D.bool (bk (by omega)).symm⟩
   ·cases h
  ·cases h
 ·cases h
theorem xR {x y d:D}{u v:Value}(h:I1 x y=some d)(hu:aS ρ w x u)(hv:aS ρ w y v):
  (∃k a b,u= .int k a/\v= .int k b/\d= .bool (a==b))\/∃a b:List UInt8,u= .string ⟨⟨a⟩⟩/\v= .string ⟨⟨b⟩⟩/\d= .bool (a==b):=by
 unfold I1 at h;split at h
 ·rename_i r hr;obtain⟨k,a,b,h1,h2,rfl⟩:=yF hr hu hv;simp only [aa]at h; subst h;exact .inl ⟨k,a,b,h1,h2,rfl⟩
 ·split at h
  ·rename_i r hr;obtain⟨a,b,h1,h2,rfl⟩:=zn hr hu hv;simp only [aa]at h; subst h;exact .inr ⟨a,b,h1,h2,rfl⟩
  ·cases h
theorem JI {m c:Int}:∀ {a:Sym},(MO m c a).val=m * a.val+c
 | .i _=>rfl
 | .len _=>rfl
 | .lin m' c' a=>by simp only [MO,Sym.val,Int.mul_add,Int.mul_assoc,Int.add_assoc]
theorem wrap64 {n:Int}(h1: -9223372036854775808<=n)(h2:n<=9223372036854775807):IntKind.wrap .i64 n=n:=by
 simp only [IntKind.wrap,IntKind.signed,IntKind.bits,fM,aX,ge_iff_le];rw [show ((2:Int) ^ (64 - 1))=9223372036854775808 from rfl,show ((2:Int) ^ 64)=18446744073709551616 from rfl];split <;> omega
theorem pF {k:IntKind}{m c lo hi n:Int}{a:Sym}{d:D}(h:vQ k m c a lo hi=some d)(hn:n=m * a.val+c)(h1:lo<=n)(h2:n<=hi):aS ρ w d (.int k (k.wrap n)):=by
 unfold vQ at h;split at h
 ·rename_i hk hl hh;have hk:=bA hk;have hl:=bA hl;have hh:=bA hh;simp only [aa]at h; subst h;subst hk;simp only [aS,JI];rw [wrap64 (by omega) (by omega),← hn];exact⟨rfl,h1,h2⟩
 ·cases h
theorem Dm {x y d:D}{u v:Value}(h:Gu x y=some d)(hu:aS ρ w x u)(hv:aS ρ w y v):∃k a b,u= .int k a/\v= .int k b/\aS ρ w d (.int k (k.wrap (a+b))):=by
 unfold Gu at h;split at h
 ·split at h
  ·rename_i hk;obtain rfl:=bA hk;simp only [aS]at hu hv;exact⟨_,_,_,hu.1,hv,pF h (by omega) (by omega) (by omega)⟩
  ·cases h
 ·split at h
  ·rename_i hk;obtain rfl:=bA hk;simp only [aS]at hu hv;exact⟨_,_,_,hu,hv.1,pF h (by omega) (by omega) (by omega)⟩
  ·cases h
 ·cases h
theorem Eh {x y d:D}{u v:Value}(h:G2 x y=some d)(hu:aS ρ w x u)(hv:aS ρ w y v):∃k a b,u= .int k a/\v= .int k b/\aS ρ w d (.int k (k.wrap (a - b))):=by
 unfold G2 at h;split at h
 ·split at h
  ·rename_i hk;obtain rfl:=bA hk;simp only [aS]at hu hv;exact⟨_,_,_,hu.1,hv,pF h (by omega) (by omega) (by omega)⟩
  ·cases h
 ·split at h
  ·rename_i hk;obtain rfl:=bA hk;simp only [aS]at hu hv;exact⟨_,_,_,hu,hv.1,pF h (by omega) (by omega) (by omega)⟩
  ·cases h
 ·cases h
theorem RN (t:TypeId)(k:IntKind)(a b:Int):(binOp .add t (.int k a) (.int k b)).run P w= .ok (.int k (k.wrap (a+b))) w:=by
 simp [binOp,Op.intArith]
theorem Qx (t:TypeId)(k:IntKind)(a b:Int):(binOp .sub t (.int k a) (.int k b)).run P w= .ok (.int k (k.wrap (a - b))) w:=by
 simp [binOp,Op.intArith]
theorem Xc {op:BinOp}{x y d:D}{u v:Value}(hu:aS ρ w x u)(hv:aS ρ w y v)(h:JQ op x y=some d)(t:TypeId)(px py:Operand):
  ∃r,(do eqGuard op t px py u v; binOp op t u v:Sem Value).run P w= .ok r w/\aS ρ w d r:=by
 unfold JQ at h;split at h
 ·simp only [aS]at hu hv; subst hu hv;split at h
  ·cases h
  ·rename_i hb;simp only [aa]at h; subst h;exact⟨_,by simp only [Sem.run_bind,oB,Result.andThen_ok]; simp [binOp,Op.shift,hb]; rfl,by simp [aS]⟩
 ·simp only [aS]at hu hv; subst hu hv;split at h
  ·cases h
  ·rename_i hb;simp only [aa]at h; subst h;exact⟨_,by simp only [Sem.run_bind,oB,Result.andThen_ok]; simp [binOp,Op.shift,hb]; rfl,by simp [aS]⟩
 ·simp only [aS]at hu hv; subst hu hv;split at h
  ·rename_i hk;have xi :=bA hk;subst xi;obtain⟨r,h1,h2⟩:=AO (P:=P) (ρ:=ρ) (w:=w) h t;exact⟨r,by simp only [Sem.run_bind,oB,Result.andThen_ok]; exact h1,h2⟩
  ·cases h
 ·simp only [aS]at hu hv; subst hu hv;obtain⟨r,h1,h2⟩:=AE (P:=P) (ρ:=ρ) (w:=w) h t;exact⟨r,by simp only [Sem.run_bind,AU,Result.andThen_ok]; exact h1,h2⟩
 all_goals
  have int:∀(op:BinOp) (k:IntKind) (a b:Int) (d:D),tB op k a b=some d->∃r,(do eqGuard op t px py (.int k a) (.int k b); binOp op t (.int k a) (.int k b):Sem Value).run P w= .ok r w/\aS ρ w d r:=fun op k a b d h=>by
   obtain⟨r,h1,h2⟩:=AO (P:=P) (ρ:=ρ) (w:=w) h t;exact⟨r,by simp only [Sem.run_bind,oB,Result.andThen_ok]; exact h1,h2⟩
  have str:∀(op:BinOp) (a b:List UInt8) (d:D),yV op a b=some d->∃r,(do eqGuard op t px py (.string ⟨⟨a⟩⟩) (.string ⟨⟨b⟩⟩); binOp op t (.string ⟨⟨a⟩⟩) (.string ⟨⟨b⟩⟩):Sem Value).run P w= .ok r w/\aS ρ w d r:=fun op a b d h=>by
   obtain⟨r,h1,h2⟩:=AE (P:=P) (ρ:=ρ) (w:=w) h t;exact⟨r,by simp only [Sem.run_bind,AU,Result.andThen_ok]; exact h1,h2⟩
 ·rcases xR h hu hv with ⟨k,a,b,rfl,rfl,rfl⟩ | ⟨a,b,rfl,rfl,rfl⟩
  ·exact int _ _ _ _ _ rfl
  ·exact str _ _ _ _ rfl
 ·split at h
  ·rename_i b0 yq;simp only [aa]at h; subst h;rcases xR yq hu hv with ⟨k,a,b,rfl,rfl,hd⟩ | ⟨a,b,rfl,rfl,hd⟩
   ·simp only [D.bool.injEq]at hd; subst hd;exact int _ _ _ _ _ rfl
   ·simp only [D.bool.injEq]at hd; subst hd;exact str _ _ _ _ rfl
  ·cases h
 ·obtain⟨k,a,b,rfl,rfl,rfl⟩:=qF h hu hv;exact int _ _ _ _ _ rfl
 ·obtain⟨k,a,b,rfl,rfl,rfl⟩:=qF h hv hu;exact int _ _ _ _ _ rfl
 ·unfold Cw at h;split at h
  ·rename_i b0 yq;simp only [aa]at h; subst h;obtain⟨k,a,b,rfl,rfl,hd⟩:=qF yq hu hv;simp only [D.bool.injEq]at hd; subst hd;refine int _ _ _ _ _ ?_;simp only [tB,aa,D.bool.injEq];by_cases hh:a < b
   ·rw [cK hh,bk (by omega)]; rfl
   ·rw [bk hh,cK (by omega)]; rfl
  ·cases h
 ·unfold Cw at h;split at h
  ·rename_i b0 yq;simp only [aa]at h; subst h;obtain⟨k,a,b,rfl,rfl,hd⟩:=qF yq hv hu;simp only [D.bool.injEq]at hd; subst hd;refine int _ _ _ _ _ ?_;simp only [tB,aa,D.bool.injEq];by_cases hh:a < b
   ·rw [cK hh,bk (by omega)]; rfl
   ·rw [bk hh,cK (by omega)]; rfl
  ·cases h
 ·obtain⟨k,a,b,rfl,rfl,hd⟩:=Dm h hu hv;exact⟨_,by simp only [Sem.run_bind,oB,Result.andThen_ok]; exact RN t k a b,hd⟩
 ·obtain⟨k,a,b,rfl,rfl,hd⟩:=Eh h hu hv;exact⟨_,by simp only [Sem.run_bind,oB,Result.andThen_ok]; exact Qx t k a b,hd⟩
 ·cases h
theorem ZT {op:UnOp}{x d:D}{u:Value}(hu:aS ρ w x u)(h:unD op x=some d):∃r,(Op.unary op u).run P w= .ok r w/\aS ρ w d r:=by
 unfold unD at h;split at h
 ·simp only [aS]at hu; subst hu;simp only [aa]at h; subst h;exact⟨_,by simp [Op.unary,Op.intArith]; rfl,by simp [aS]⟩
 ·simp only [aS]at hu; subst hu;simp only [aa]at h; subst h;exact⟨_,by simp only [Op.unary,Op.intBits,Sem.run_pure]; rfl,by simp [aS]⟩
 ·simp only [aS]at hu; subst hu;simp only [aa]at h; subst h;exact⟨_,by simp [Op.unary]; rfl,by simp [aS]⟩
 ·cases h
theorem qm {t:TypeId}{cs:Array Value}{l:List D}{off:Nat}{sz:Option Nat}{d:D}(hl:br ρ w l cs.toList)(hs:l.all D.sc=true)(gZ:iN P t=some sz)(hp:part l off sz=some d):
  ∃v,(Go.part t cs off).run P w= .ok v w/\aS ρ w d v:=by
 have hr:=rI hl hs hp;cases hu:P.underlying t with
 | none=>simp [iN,oV,hu]at gZ
 | some e=>
  by_cases hd:e.isRow=true
  ·have ha:oV P t=some true:=by cases e <;> simp_all [oV,TypeDesc.isRow]
   cases hz:dM P t with
   | none=>simp [iN,hz]at gZ
   | some s=>
    simp only [iN,ha,hz,aa]at gZ;subst gZ;simp only at hr;obtain⟨h1,h2⟩:=hr;have Ou:(isAgg t).run P w= .ok true w:=by
     unfold isAgg;rw [Sem.run_bind,run_underlying hu w];cases e <;> simp_all [TypeDesc.isRow]
    cases hq:P.info? t with
    | none=>simp [dM,hq]at hz
    | some i=>
     have hi:i.size=s:=by simpa [dM,hq] using hz
     refine⟨.agg (cs.extract off (off+s)), ?_, ?_⟩
     ·simp [Go.part,Ou,sizeOf,typeInfo,hq,hi]
     ·have e1:cs.extract off (off+s)=((cs.toList.drop off).take s).toArray:=by
       apply Array.toList_inj.1;simp [Array.toList_extract]
      rw [e1]; exact h2
  ·have ha:oV P t=some false:=by cases e <;> simp_all [oV,TypeDesc.isRow]
   have h1:sz=none:=by
    simp only [iN,ha]at gZ;split at gZ
    ·simp_all
    ·simpa using gZ.symm
    ·cases gZ
   subst h1;simp only at hr;obtain⟨v,h1,h2,_⟩:=hr;have hd:e.isRow=false:=by simpa using hd
   have Ou:(isAgg t).run P w= .ok false w:=by
    unfold isAgg;rw [Sem.run_bind,run_underlying hu w];cases e <;> simp_all [TypeDesc.isRow]
   have G4 :cs[off]? =some v:=by simpa using h1
   exact⟨v,by simp [Go.part,Ou,G4],h2⟩
theorem D6 {t:TypeId}{fs:Array Field}(h:P.underlying t=some (.struct fs)):P.fieldsOf t=fs:=by
 simp [Program.fieldsOf,h]
theorem wx {d:Nat}{f:TypeId->Option ET}{xs ys:Array Value}{lx ly:List D}(hx:br ρ w lx xs.toList)(hy:br ρ w ly ys.toList)(QN:lx.all D.sc=true)(X5:ly.all D.sc=true)
  (ih:∀t e,f t=some e->∀x y r u v,tq false e x y=some r->aS ρ w x u->aS ρ w y v->(Op.equalIn d t u v).run P w= .ok r w):
  ∀(fs:List Field) (l:VC),sP.fieldsB P f fs=some l->∀r,Pf l lx ly=some r->(Op.eqFields d xs ys fs).run P w= .ok r w
 | [],l,h,r,hr=>by
  simp only [sP.fieldsB,aa]at h; subst h;simp only [Pf,aa]at hr; subst hr;simp [Op.eqFields]
 | x::fs,l,h,r,hr=>by
  simp only [sP.fieldsB]at h;split at h
  ·cases h
  ·rename_i hn;split at h
   ·rename_i s e l' h1 h2 h3;simp only [aa]at h; subst h;simp only [Pf]at hr;split at hr
    ·rename_i p q hp hq;obtain⟨u,hu1,hu2⟩:=qm (P:=P) hx QN h1 hp;obtain⟨v,qw,Sw⟩:=qm (P:=P) hy X5 h1 hq;have cC : x.name ≠ "_" := by simpa using hn
     split at hr
     ·rename_i hb;have hi:=ih x.type e h2 p q true u v hb hu2 Sw;have Ih:=wx hx hy QN X5 ih fs l' h3 r hr;simp only [Op.eqFields,cC,ne_eq,dD,ep,Sem.run_bind,hu1,qw,hi,Result.andThen_ok];simpa using Ih
     ·rename_i hb;simp only [aa]at hr; subst hr;have hi:=ih x.type e h2 p q false u v hb hu2 Sw;simp only [Op.eqFields,cC,ne_eq,dD,ep,Sem.run_bind,hu1,qw,hi,Result.andThen_ok];simp
     ·cases hr
    ·cases hr
   ·cases h
set_option maxHeartbeats 2000000 in
theorem NK (oc:Bool):∀(n:Nat) (t:TypeId) (et:ET),sP P n t=some et->∀(d:Nat),n<=d->∀(x y:D) (r:Bool) (u v:Value),tq oc et x y=some r->aS ρ w x u->aS ρ w y v->(Op.equalIn d t u v).run P w= .ok r w:=by
 intro n;induction n generalizing oc with
 | zero=>intro t et h; simp [sP]at h
 | succ n ih=>
  intro t et h d hd x y r u v he hu hv;obtain⟨d,rfl⟩:∃k,d=k+1:=⟨d - 1,by omega⟩;simp only [sP]at h;split at h
  ·rename_i qv;simp only [aa]at h; subst h;simp only [tq]at he;obtain⟨p,q,rfl,rfl,rfl⟩:=vB he hu hv;exact run_equalIn_bool w d t _ _ qv
  ·rename_i k qv;simp only [aa]at h; subst h;simp only [tq]at he;obtain⟨_,p,q,rfl,rfl,rfl⟩:=yF he hu hv;exact run_equalIn_int w d t _ _ _ _ qv
  ·rename_i qv;simp only [aa]at h; subst h;simp only [tq]at he;obtain⟨p,q,rfl,rfl,rfl⟩:=zn he hu hv;rw [run_equalIn_string w d t _ _ qv,ByteArray.toList_eq,ByteArray.toList_eq]
  ·rename_i e qv;split at h
   ·rename_i m hm;simp only [aa]at h; subst h;have key:∀(a b:Option Addr),(a=none\/b=none)->(Op.equalIn (d+1) t (.pointer a) (.pointer b)).run P w= .ok (a.isNone && b.isNone) w:=by
     intro a b hab;cases a <;> cases b <;> simp_all [Op.equalIn,run_underlying qv]
    have shp:∀(z:D) (q:Value),aS ρ w z q->(∃o c,z= .ptr o c)\/(∃o i c e,z= .jK o i c e)\/(∃e c,z= .jE e c)->∃a,q= .pointer (some a):=by
     intro z q hz hs;rcases hs with ⟨o,c,rfl⟩ | ⟨o,i,c,e,rfl⟩ | ⟨e,c,rfl⟩ <;> simp only [aS]at hz
     ·exact Gh.jL hz fun _ _ q=>⟨_,q⟩
     ·exact Gh.jL hz fun _ _ q=>⟨_,q.2.2.2⟩
     ·obtain⟨_,_,_,_,_,_,_,rfl⟩:=hz; exact ⟨_,rfl⟩
    simp only [tq]at he;split at he <;> (try cases he)
    ·simp only [aS]at hu hv; subst hu hv; simpa using key none none (.inl rfl)
    ·obtain⟨a,rfl⟩:=shp _ _ hv (.inl ⟨_,_,rfl⟩); simp only [aS]at hu; subst hu; simpa using key none (some a) (.inl rfl)
    ·obtain⟨a,rfl⟩:=shp _ _ hu (.inl ⟨_,_,rfl⟩); simp only [aS]at hv; subst hv; simpa using key (some a) none (.inr rfl)
    ·obtain⟨a,rfl⟩:=shp _ _ hv (.inr (.inl ⟨_,_,_,_,rfl⟩)); simp only [aS]at hu; subst hu; simpa using key none (some a) (.inl rfl)
    ·obtain⟨a,rfl⟩:=shp _ _ hu (.inr (.inl ⟨_,_,_,_,rfl⟩)); simp only [aS]at hv; subst hv; simpa using key (some a) none (.inr rfl)
    ·obtain⟨a,rfl⟩:=shp _ _ hv (.inr (.inr ⟨_,_,rfl⟩)); simp only [aS]at hu; subst hu; simpa using key none (some a) (.inl rfl)
    ·obtain⟨a,rfl⟩:=shp _ _ hu (.inr (.inr ⟨_,_,rfl⟩)); simp only [aS]at hv; subst hv; simpa using key (some a) none (.inr rfl)
   ·cases h
  ·rename_i ms qv;simp only [aa]at h; subst h;simp only [tq]at he;split at he
   ·split at he
    ·cases he; simp only [aS]at hu hv; subst hu hv; simp [Op.equalIn,run_underlying qv]
    ·cases he
   ·cases he; simp only [aS]at hu hv; subst hu; obtain ⟨_,rfl,_⟩:=hv; simp [Op.equalIn,run_underlying qv]
   ·cases he; simp only [aS]at hu hv; subst hv; obtain ⟨_,rfl,_⟩:=hu; simp [Op.equalIn,run_underlying qv]
   ·split at he
    ·cases he
    ·rename_i hb;cases he;simp only [aS]at hu hv;obtain⟨_,rfl,_⟩:=hu;obtain⟨_,rfl,_⟩:=hv;have cC:=Nat.ne_of_beq_eq_false hb;simp [Op.equalIn,run_underlying qv,cC]
   ·cases he
  ·rename_i e qv;simp only [aa]at h; subst h;have nilv:∀(nl:Bool) (sz:Nat) (l:List D) (q:Value),aS ρ w (.vs nl sz l) q->∃a n c,q= .slice a n c/\a.isNone=nl:=by
    intro nl sz l q hq;simp only [aS]at hq;rcases hq with ⟨h1,_,rfl⟩ | ⟨h1,ad,c,rfl,_⟩
    ·exact⟨_,_,_,rfl,by simp [h1]⟩
    ·exact⟨_,_,_,rfl,by simp [h1]⟩
   have key:∀(a b:Option Addr) (n c n' c' :Nat),(a=none\/b=none)->(Op.equalIn (d+1) t (.slice a n c) (.slice b n' c')).run P w= .ok (a.isNone && b.isNone) w:=by
    intro a b n c n' c' hab;cases a <;> cases b <;> simp_all [Op.equalIn,run_underlying qv]
   simp only [tq]at he;split at he <;> (try cases he)
   ·obtain⟨a,n1,c1,rfl,ha⟩:=nilv _ _ _ _ hu;obtain⟨b,n2,c2,rfl,hb⟩:=nilv _ _ _ _ hv;rw [key a b _ _ _ _ (.inr (by simpa using hb)),ha,hb]; simp
   ·obtain⟨a,n1,c1,rfl,ha⟩:=nilv _ _ _ _ hu;obtain⟨b,n2,c2,rfl,hb⟩:=nilv _ _ _ _ hv;rw [key a b _ _ _ _ (.inl (by simpa using ha)),ha,hb]; simp
   ·obtain⟨b,n2,c2,rfl,hb⟩:=nilv _ _ _ _ hv;simp only [aS]at hu;obtain⟨a,c,rfl⟩:=Gh.jL hu fun _ _ ⟨_,_,_,_,_,q,_⟩=>⟨_,_,q⟩;rw [key _ b _ _ _ _ (.inr (by simpa using hb))]; simp
   ·obtain⟨b,n2,c2,rfl,hb⟩:=nilv _ _ _ _ hu;simp only [aS]at hv;obtain⟨a,c,rfl⟩:=Gh.jL hv fun _ _ ⟨_,_,_,_,_,q,_⟩=>⟨_,_,q⟩;rw [key b _ _ _ _ _ (.inl (by simpa using hb))]; simp
  ·rename_i q e qv;simp only [aa]at h; subst h;simp only [tq]at he;split at he <;> (try cases he)
   ·simp only [aS]at hu hv; subst hu hv; simp [Op.equalIn,run_underlying qv]
   ·simp only [aS]at hu hv; subst hu; obtain ⟨b,rfl⟩:=Gh.jL hv fun _ _ q=>⟨_,q⟩; simp [Op.equalIn,run_underlying qv]
   ·simp only [aS]at hu hv; subst hv; obtain ⟨b,rfl⟩:=Gh.jL hu fun _ _ q=>⟨_,q⟩; simp [Op.equalIn,run_underlying qv]
  ·rename_i ps rs vr qv;simp only [aa]at h; subst h;simp only [tq]at he;split at he <;> (try cases he)
   ·simp only [aS]at hu hv; subst hu hv; simp [Op.equalIn,run_underlying qv]
   ·simp only [aS]at hu hv; subst hu; obtain ⟨_,_,rfl,_⟩:=hv; simp [Op.equalIn,run_underlying qv]
   ·simp only [aS]at hu hv; subst hv; obtain ⟨_,_,rfl,_⟩:=hu; simp [Op.equalIn,run_underlying qv]
  ·rename_i fs qv;split at h
   ·cases h
   ·rename_i dT;simp only [aY]at h;obtain⟨l,hl,rfl⟩:=h;simp only [tq]at he;split at he
    ·simp only [aS]at hu hv;obtain⟨xs,rfl,vG,vX⟩:=hu;obtain⟨ys,rfl,xc,yo⟩:=hv;have R3:=D6 qv;rw [run_equalIn_struct w d t xs ys (by rw [R3]; exact qv) dT,R3];exact wx vG xc vX yo (fun t' e' h' x' y' r' u' v' Ol tz CL =>ih false t' e' h' d (by omega) x' y' r' u' v' Ol tz CL) fs.toList l hl r he
    ·cases he
  ·cases h
end Go.Ab
