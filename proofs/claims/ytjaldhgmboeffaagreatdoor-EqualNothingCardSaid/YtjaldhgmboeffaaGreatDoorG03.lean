/- Part. -/
import Derived.Test.YtjaldhgmboeffaaGreatDoorG02
import Derived.Deep.MidRow
import Derived.Laws.StructEq
import Derived.Laws.Concat
import Derived.Laws.Strings
set_option linter.unusedSectionVars false
namespace Go.Ab
open Go
variable [eV]
variable {ρ:Gh}{w:World}
theorem bw.length:∀ {l:List D} {vs:List Value},bw ρ w l vs->l.length=vs.length
 | [],_,h=>by simp only [bw]at h; subst h; rfl
 | d::l,_,h=>by
  simp only [bw]at h;obtain⟨v,r,rfl,_,h2⟩:=h;simp [bw.length h2]
theorem bw.append:∀ {l l' :List D} {vs vs' :List Value},bw ρ w l vs->bw ρ w l' vs' ->bw ρ w (l++l') (vs++vs')
 | [],_,_,_,h,h' =>by simp only [bw]at h; subst h; simpa using h'
 | d::l,_,_,_,h,h' =>by
  simp only [bw]at h;obtain⟨v,r,rfl,h1,h2⟩:=h;simp only [iJ,bw];exact⟨v,_,rfl,h1,bw.append h2 h'⟩
theorem bw.take:∀ {l:List D} {vs:List Value} (n:Nat),bw ρ w l vs->bw ρ w (l.take n) (vs.take n)
 | [],_,n,h=>by simp only [bw]at h; subst h; simp [bw]
 | d::l,_,0,h=>by simp [bw]
 | d::l,_,n+1,h=>by
  simp only [bw]at h;obtain⟨v,r,rfl,h1,h2⟩:=h;simp only [gD,bw];exact⟨v,_,rfl,h1,bw.take n h2⟩
theorem bw.drop:∀ {l:List D} {vs:List Value} (n:Nat),bw ρ w l vs->bw ρ w (l.drop n) (vs.drop n)
 | [],_,n,h=>by simp only [bw]at h; subst h; simp [bw]
 | d::l,_,0,h=>by simpa using h
 | d::l,_,n+1,h=>by
  simp only [bw]at h;obtain⟨v,r,rfl,h1,h2⟩:=h;simpa using bw.drop n h2
theorem bw.get:∀ {l:List D} {vs:List Value} {i:Nat} {d:D},bw ρ w l vs->l[i]? =some d->∃v,vs[i]? =some v/\aU ρ w d v
 | [],_,i,d,h,hi=>by simp at hi
 | x::l,_,0,d,h,hi=>by
  simp only [bw]at h;obtain⟨v,r,rfl,h1,h2⟩:=h;simp at hi; subst hi;exact⟨v,by simp,h1⟩
 | x::l,_,i+1,d,h,hi=>by
  simp only [bw]at h;obtain⟨v,r,rfl,h1,h2⟩:=h;simp at hi;simpa using bw.get h2 hi
theorem bw.one {d:D}{v:Value}(h:aU ρ w d v):bw ρ w [d] [v]:=by simp only [bw]; exact ⟨v,[],rfl,h,rfl⟩
theorem bw.replicate {d:D}{v:Value}(h:aU ρ w d v):∀n,bw ρ w (List.replicate n d) (List.replicate n v)
 | 0=>by simp [bw]
 | n+1=>by
  simp only [lA,bw];exact⟨v,_,rfl,h,bw.replicate h n⟩
theorem Gh.jM {ρ:Gh}{o:Nat}{dd:Prop}{Q:Nat->Nat->Prop}(h:ρ.at o dd Q)(hq:∀sz b,Q sz b->dd):dd:=by
 unfold Gh.at at h;split at h
 ·exact h.elim
 ·exact h
 ·obtain⟨b,_,h2⟩:=h; exact hq _ b h2
theorem aU.sc {d:D}{v:Value}(h:aU ρ w d v)(hs:d.sc=true):v.oneCell' =true/\v.cells= #[v]:=by
 cases d <;> simp only [D.sc]at hs <;> (try cases hs) <;> simp only [aU]at h
 case bool=>subst h; exact ⟨rfl,rfl⟩
 case int=>subst h; exact ⟨rfl,rfl⟩
 case str=>subst h; exact ⟨rfl,rfl⟩
 case cz=>subst h; exact ⟨rfl,rfl⟩
 case ptr o c=>obtain ⟨a,rfl⟩:=Gh.jM h fun _ _ q=>⟨_,q⟩; exact ⟨rfl,rfl⟩
 case jI=>obtain ⟨a,rfl⟩:=Gh.jM h fun _ _ q=>⟨_,q.2.2.2⟩; exact ⟨rfl,rfl⟩
 case jD=>obtain ⟨_,_,_,_,_,_,_,rfl⟩:=h; exact ⟨rfl,rfl⟩
 case vs=>rcases h with ⟨_,_,rfl⟩ | ⟨_,_,_,rfl,_⟩ <;> exact ⟨rfl,rfl⟩
 case sl=>obtain ⟨a,c,rfl⟩:=Gh.jM h fun _ _ ⟨_,_,_,_,_,q,_⟩=>⟨_,_,q⟩; exact ⟨rfl,rfl⟩
 case qz=>subst h; exact ⟨rfl,rfl⟩
 case mp=>obtain ⟨b,rfl⟩:=Gh.jM h fun _ _ q=>⟨_,q⟩; exact ⟨rfl,rfl⟩
 case fn=>obtain ⟨_,_,rfl,_⟩:=h; exact ⟨rfl,rfl⟩
 case mw=>subst h; exact ⟨rfl,rfl⟩
 case ia=>obtain ⟨_,rfl,_⟩:=h; exact ⟨rfl,rfl⟩
 case ow=>subst h; exact ⟨rfl,rfl⟩
 case sint=>obtain ⟨rfl,_⟩:=h; exact ⟨rfl,rfl⟩
 case pj=>obtain ⟨rfl,_⟩:=h; exact ⟨rfl,rfl⟩
 case rl=>subst h; exact ⟨rfl,rfl⟩
 case yl=>obtain ⟨_,rfl⟩:=h; exact ⟨rfl,rfl⟩
theorem bw.Iq:∀ {l:List D} {vs:List Value},bw ρ w l vs->l.all D.sc=true->∀u∈vs,u.oneCell' =true
 | [],_,h,_,u,hu=>by simp only [bw]at h; subst h; simp at hu
 | d::l,_,h,hs,u,hu=>by
  simp only [bw]at h;obtain⟨v,r,rfl,h1,h2⟩:=h;simp only [gQ,aB]at hs;rcases bR.1 hu with rfl | hu
  ·exact (h1.sc hs.1).1
  ·exact bw.Iq h2 hs.2 u hu
theorem D.na {d:D}(h:d.st=true):d.flat.all D.sc=true:=by
 cases d <;> simp_all [D.st,D.flat,D.sc]
theorem D.Na {d:D}(h:d.sc=true):d.st=true:=by
 cases d <;> simp_all [D.st,D.sc]
theorem D.Ek {d:D}(h:d.st=true):(∃l,d= .agg l/\l.all D.sc=true)\/d.sc=true:=by
 cases d <;> simp_all [D.st,D.sc]
theorem aU.flat {d:D}{v:Value}(h:aU ρ w d v)(hs:d.st=true):bw ρ w d.flat v.cells.toList/\∀u∈v.cells.toList,u.oneCell' =true:=by
 rcases D.Ek hs with ⟨l,rfl,hl⟩ | hc
 ·simp only [aU]at h;obtain⟨vs,rfl,h1,_⟩:=h;exact⟨by simpa [D.flat,Value.cells] using h1,by simpa [Value.cells] using bw.Iq h1 hl⟩
 ·obtain⟨h1,h2⟩:=h.sc hc;rw [h2];refine⟨?_,by simpa using h1⟩;have:d.flat=[d]:=by cases d <;> simp_all [D.flat,D.sc]
  rw [this];exact bw.one h
theorem aU.size {d:D}{v:Value}(h:aU ρ w d v)(hs:d.st=true):v.cells.size=d.flat.length:=by
 have:=(h.flat hs).1.length;simpa using this.symm
theorem aU.agg {l:List D}{vs:List Value}(h:bw ρ w l vs)(hs:l.all D.sc=true):aU ρ w (.agg l) (.agg vs.toArray):=by
 simp only [aU]; exact ⟨_,rfl,by simpa using h,hs⟩
theorem rJ {cs:List D}{vs:List Value}{c:Nat}{sz:Option Nat}{d:D}(h:bw ρ w cs vs)(hs:cs.all D.sc=true)(hp:part cs c sz=some d):
  match sz with
  | some s=>c+s<=vs.length/\aU ρ w d (.agg ((vs.drop c).take s).toArray)
  | none=>∃v,vs[c]? =some v/\aU ρ w d v/\d.sc=true:=by
 cases sz with
 | some s=>
  simp only [part]at hp;split at hp
  ·rename_i hb;simp only [aa]at hp;subst hp;have hle:=az hb;rw [h.length]at hle;refine⟨hle,aU.agg ((h.drop c).take s) ?_⟩;exact dg.2 fun x hx=>(dg.1 hs) x (nG (fW hx))
  ·cases hp
 | none=>
  simp only [part]at hp;obtain⟨v,h1,h2⟩:=h.get hp;exact⟨v,h1,h2,(dg.1 hs) d (aM hp)⟩
theorem mJ {w:World}{b x:Nat}{v:Value}(h:cr w b x v):w.rangeAt b x v.cells.toList:=fun j u hj=>by
 have dM:j < v.cells.size:=by simpa using (aj.1 hj).1
 rw [h j dM]; simpa using hj
theorem vn {w:World}{b x:Nat}{v:Value}(h:w.rangeAt b x v.cells.toList):cr w b x v:=fun j hj=>by
 rw [h j v.cells[j] (by simp [hj])]; simp [hj]
theorem Cj {w:World}{b x:Nat}{vs:List Value}(h:w.rangeAt b x vs)(c s:Nat):w.rangeAt b (x+c) ((vs.drop c).take s):=fun j u hj=>by
 rw [de]at hj;split at hj
 ·rw [cX]at hj;have:=h (c+j) u hj;rwa [show x+c+j=x+(c+j) by omega]
 ·cases hj
theorem rangeAt_of_block {w:World}{b:Nat}{cs:Array Value}{e:TypeId}{f:Nat×Nat}(h:w.heap[b]? =some (.cells cs e f)):w.rangeAt b 0 cs.toList:=fun j u hj=>by
 have V9 :cs[j]? =some u:=by simpa using hj
 simp [World.cell?,h,V9]
theorem run_load {P:Program}{w:World}{b x c:Nat}{vs:List Value}{t:TypeId}{sz:Option Nat}(hr:w.rangeAt b x vs)(gX:iL P t=some sz):
  match sz with
  | some s=>c+s<=vs.length->(Instr.loadAt t (.pointer (some ⟨b,x+c,none⟩))).run P w= .ok (.agg ((vs.drop c).take s).toArray) w
  | none=>∀v,vs[c]? =some v->(Instr.loadAt t (.pointer (some ⟨b,x+c,none⟩))).run P w= .ok v w:=by
 have hi:∀s,dO P t=some s->(P.info? t).map (·.size)=some s:=fun s h=>h;cases hu:P.underlying t with
 | none=>simp [iL,pd,hu]at gX
 | some d=>
  cases hz:dO P t with
  | none=>simp [iL,hz]at gX
  | some s=>
   by_cases hd:d.isRow=true
   ·have ha:pd P t=some true:=by cases d <;> simp_all [pd,TypeDesc.isRow]
    simp only [iL,ha,hz,aa]at gX;subst gX;intro hle;have hlen:((vs.drop c).take s).length=s:=by simp; omega
    exact run_loadAt_mid w b (x+c) t _ d (Cj hr c s) hu hd (by rw [hlen]; exact hi s hz)
   ·have ha:pd P t=some false:=by cases d <;> simp_all [pd,TypeDesc.isRow]
    have h1:sz=none:=by
     simp only [iL,ha,hz]at gX;split at gX
     ·simp_all
     ·simpa using gX.symm
     ·cases gX
    subst h1;intro v hv;have hd:d.isRow=false:=by simpa using hd
    have L8:(isAgg t).run P w= .ok false w:=by
     unfold isAgg;rw [Sem.run_bind,run_underlying hu w];cases d <;> simp_all [TypeDesc.isRow]
    have hc:=hr c v hv;simp [Instr.loadAt,Instr.sureAddr,loadVar,L8,hc]
end Go.Ab
namespace Go.Ab
open Go
variable [eV]
variable {ρ:Gh}{w:World}{P:Program}{G:Gl}{X:iw}{A:nA}
structure jn where
 J:Gh->World->Prop
 mono:∀ {ρ ρ' :Gh} {w w' :World},Kp ρ w ρ' w' ->J ρ w->J ρ' w'
def jn.none:jn:=⟨fun _ _=>True,fun _ _=>trivial⟩
def HS (k l:Nat)(r:Go.Loop)(e:Env)(ρ:Gh)(w:World):Prop:=ρ.kd k= .dead/\ρ.lp k=(l,r)/\∀t d,e.get t=some d->∃v,r.tmps[t]? =some v/\aU ρ w d v
theorem HS.mono {k l:Nat}{r:Go.Loop}{e:Env} {ρ ρ' :Gh} {w w' :World}(h:Kp ρ w ρ' w')(p:HS k l r e ρ w):HS k l r e ρ' w' :=by
 obtain⟨k1,k2,k3⟩:=p;refine⟨(h.dead _ k1).1,(h.dead _ k1).2.trans k2,fun t d hd=> ?_⟩;obtain⟨v,h1,h2⟩:=k3 t d hd;exact⟨v,h1,h2.mono h⟩
def jn.loop (J:jn)(k l:Nat)(r:Go.Loop)(e:Env):jn:=⟨fun ρ w=>HS k l r e ρ w/\J.J ρ w,fun h p=>⟨p.1.mono h,J.mono h p.2⟩⟩
def gN (pn:jn)(G:Gl)(ρ:Gh)(w:World):Prop:=(∀g d,G g=some d->aU ρ w (.jD d 0) (.pointer (some ⟨g,0,none⟩)))/\pn.J ρ w
variable {pn:jn}
theorem gN.mono {ρ' :Gh} {w' :World}(h:Kp ρ w ρ' w')(g:gN pn G ρ w):gN pn G ρ' w' :=⟨fun x d hx=>(g.1 x d hx).mono h,pn.mono h g.2⟩
mutual
theorem kq:∀(v:Value) (d:D),wJ v=some d->aU ρ w d v
 | .bool b,d,h=>by simp only [wJ,aa]at h; subst h; simp [aU]
 | .int k n,d,h=>by simp only [wJ,aa]at h; subst h; simp [aU]
 | .string s,d,h=>by simp only [wJ,aa]at h; subst h; simp [aU]
 | .pointer none,d,h=>by simp only [wJ,aa]at h; subst h; simp [aU]
 | .pointer (some _),d,h=>by simp [wJ]at h
 | .slice none 0 0,d,h=>by simp only [wJ,aa]at h; subst h; simp [aU]
 | .slice (some _) _ _,d,h=>by simp [wJ]at h
 | .slice none (_+1) _,d,h=>by simp [wJ]at h
 | .slice none 0 (_+1),d,h=>by simp [wJ]at h
 | .map none,d,h=>by simp only [wJ,aa]at h; subst h; simp [aU]
 | .map (some _),d,h=>by simp [wJ]at h
 | .func f a b,d,h=>by
  simp only [wJ]at h;split at h
  ·rename_i x y hx hy;simp only [aa]at h; subst h;simp only [aU];exact⟨a,b,rfl,rC a.toList x hx,rC b.toList y hy⟩
  ·cases h
 | .nilFunc,d,h=>by simp only [wJ,aa]at h; subst h; simp [aU]
 | .nilIface,d,h=>by simp only [wJ,aa]at h; subst h; simp [aU]
 | .iface t v,d,h=>by
  simp only [wJ]at h;split at h
  ·rename_i x hx;simp only [aa]at h; subst h;simp only [aU];exact⟨v,rfl,kq v x hx⟩
  ·cases h
 | .agg cs,d,h=>by
  simp only [wJ]at h;split at h
  ·rename_i l hl;split at h
   ·rename_i hs;simp only [aa]at h; subst h;simp only [aU];exact⟨cs,rfl,rC cs.toList l hl,hs⟩
   ·cases h
  ·cases h
 | .tuple cs,d,h=>by
  simp only [wJ]at h;split at h
  ·rename_i l hl;simp only [aa]at h; subst h;simp only [aU];exact⟨cs,rfl,rC cs.toList l hl⟩
  ·cases h
 | .float _ _,d,h=>by simp [wJ]at h
 | .complex _ _ _,d,h=>by simp [wJ]at h
 | .chan _,d,h=>by simp [wJ]at h
theorem rC:∀(vs:List Value) (l:List D),E9 vs=some l->bw ρ w l vs
 | [],l,h=>by simp only [E9,aa]at h; subst h; simp [bw]
 | v::r,l,h=>by
  simp only [E9]at h;split at h
  ·rename_i d t hd ht;simp only [aa]at h; subst h;simp only [bw];exact⟨v,r,rfl,kq v d hd,rC r t ht⟩
  ·cases h
end
variable {lo:Nat}{env:Env}{a:Act}
theorem yg {t:Nat}{v:Value}(h:a.tmps[t]? =some v):a.eval (.tmp t)=v:=by
 simp [Act.eval,h]
theorem ba {x' :Operand}{x:bP}{d:D}(hx:eO G x' =some x)(he:ew ρ w lo env a.tmps)(hg:gN pn G ρ w)(h:x.ev env=some d):aU ρ w d (a.eval x'):=by
 cases x' with
 | tmp t=>
  simp only [eO,aa]at hx; subst hx;simp only [bP.ev]at h;split at h
  ·cases h
  ·cases h
  ·rename_i r h1 h2;have hs:=he.slot t d h;cases d with
   | lv _=>exact absurd h (h1 _)
   | iG _ _=>exact absurd h (h2 _ _)
   | _=>
    simp only [er]at hs;obtain⟨v,hv,hr⟩:=hs;rw [yg hv]; exact hr
 | const v=>
  simp only [eO,bj]at hx;obtain⟨d',h1,rfl⟩:=hx;simp only [bP.ev,aa]at h; subst h;exact kq v _ h1
 | global g=>
  simp only [eO,bj]at hx;obtain⟨d',h1,rfl⟩:=hx;simp only [bP.ev,aa]at h; subst h;exact hg.1 g d' h1
 | func f=>
  simp only [eO,aa]at hx; subst hx;simp only [bP.ev,aa]at h; subst h;simp only [aU,Act.eval];exact⟨#[], #[],rfl,by simp [bw],by simp [bw]⟩
def ft (ρ:Gh)(w:World)(env:Env)(tmps:Array Value)(d:D)(v:Value):Prop:=
 match d with
 | .iG a c=>∀x,env.get a=some (.lv x)->∃b,tmps[a]? =some (.pointer (some ⟨b,0,none⟩))/\v= .pointer (some ⟨b,c,none⟩)
 | .lv _=>False
 | d=>aU ρ w d v
theorem ft.yW {tmps:Array Value}{d:D}{v:Value}(h:aU ρ w d v):ft ρ w env tmps d v:=by
 cases d <;> first | exact h | (simp only [aU]at h)
theorem lL {x' :Operand}{x:bP}{d:D}(hx:eO G x' =some x)(he:ew ρ w lo env a.tmps)(hg:gN pn G ρ w)(h:x.yP env=some d):ft ρ w env a.tmps d (a.eval x'):=by
 by_cases h' :x.ev env=some d
 ·exact .yW (ba hx he hg h')
 ·cases x' with
  | tmp t=>
   simp only [eO,aa]at hx; subst hx;simp only [bP.yP]at h;cases hd:env.get t with
   | none=>simp [hd]at h
   | some e=>
    have hs:=he.slot t e hd;cases e <;> simp only [hd,aa]at h <;> subst h <;> (try (simp [bP.ev,hd]at h'))
    case lv y=>
     simp only [er]at hs;obtain⟨b,v,el,h1,_⟩:=hs;simp only [ft];exact fun _ _=>⟨b,h1,yg h1⟩
    case iG u c=>
     simp only [er]at hs;simp only [ft];intro y hy;obtain⟨b,h1,h2⟩:=hs y hy;exact⟨b,h1,yg h2⟩
  | const v=>
   simp only [eO,bj]at hx;obtain⟨d',h1,rfl⟩:=hx;exact absurd h (by simpa [bP.ev,bP.yP] using h')
  | global g=>
   simp only [eO,bj]at hx;obtain⟨d',h1,rfl⟩:=hx;exact absurd h (by simpa [bP.ev,bP.yP] using h')
  | func f=>
   simp only [eO,aa]at hx; subst hx;exact absurd h (by simpa [bP.ev,bP.yP] using h')
theorem mapM_cons {α β:Type}(f:α->Option β)(x:α)(l:List α)(r:List β):(x::l).mapM f=some r->∃y t,f x=some y/\l.mapM f=some t/\r=y::t:=by
 intro h;simp only [jB,aE,an,aQ,aa]at h;obtain⟨y,h1,t,h2,h3⟩:=h;exact⟨y,t,h1,h2,h3.symm⟩
theorem mapM_nil {α β:Type}(f:α->Option β)(r:List β):([]:List α).mapM f=some r->r=[]:=by
 intro h; simpa using h.symm
theorem EW (he:ew ρ w lo env a.tmps)(hg:gN pn G ρ w):∀(l:List Operand) (xs:List bP) (ds:List D),l.mapM (eO G)=some xs->sg env xs=some ds->bw ρ w ds (l.map a.eval)
 | [],xs,ds,h,h' =>by
  have:=mapM_nil _ _ h; subst this;simp only [sg,aa]at h'; subst h';simp [bw]
 | x::l,xs,ds,h,h' =>by
  obtain⟨y,t,h1,h2,rfl⟩:=mapM_cons _ _ _ _ h;simp only [sg]at h';split at h'
  ·rename_i d hd;split at h'
   ·rename_i r hr;simp only [aa]at h'; subst h';simp only [bG,bw];exact⟨_,_,rfl,ba h1 he hg hd,EW he hg l t r h2 hr⟩
   ·cases h'
  ·cases h'
theorem AQ (he:ew ρ w lo env a.tmps)(hg:gN pn G ρ w){l:Array Operand}{xs:List bP}{ds:List D}(h:rX G l=some xs) (h' :sg env xs=some ds):bw ρ w ds (l.map a.eval).toList:=by
 have:=EW he hg l.toList xs ds h h';simpa using this
end Go.Ab
namespace Go.Ab
open Go
variable [eV]
variable {ρ:Gh}{w:World}{P:Program}
theorem o6:∀(a b:List UInt8),Op.bytesLess a b=od a b
 | _,[]=>by simp [Op.bytesLess,od]
 | [],_::_=>by simp [Op.bytesLess,od]
 | a::x,b::y=>by simp [Op.bytesLess,od,o6 x y]
theorem oN (op:BinOp)(t:TypeId)(px py:Operand)(k j:IntKind)(a b:Int):(eqGuard op t px py (.int k a) (.int j b)).run P w= .ok () w:=by
 cases op <;> simp [eqGuard]
theorem A7 (op:BinOp)(t:TypeId)(px py:Operand)(a b:ByteArray):(eqGuard op t px py (.string a) (.string b)).run P w= .ok () w:=by
 cases op <;> simp [eqGuard]
theorem AJ {op:BinOp}{k:IntKind}{a b:Int}{d:D}(h:te op k a b=some d)(t:TypeId):∃r,(binOp op t (.int k a) (.int k b)).run P w= .ok r w/\aU ρ w d r:=by
 cases op <;> simp only [te,aa]at h
 case add=>subst h; exact ⟨_,by simp [binOp,Op.intArith]; rfl,by simp [aU]⟩
 case sub=>subst h; exact ⟨_,by simp [binOp,Op.intArith]; rfl,by simp [aU]⟩
 case mul=>subst h; exact ⟨_,by simp [binOp,Op.intArith]; rfl,by simp [aU]⟩
 case quo=>
  split at h
  ·cases h
  ·rename_i hb;simp only [aa]at h; subst h;exact⟨_,by simp [binOp,Op.intDiv,hb]; rfl,by simp [aU]⟩
 case rem=>
  split at h
  ·cases h
  ·rename_i hb;simp only [aa]at h; subst h;exact⟨_,by simp [binOp,Op.intDiv,hb]; rfl,by simp [aU]⟩
 case and=>subst h; exact ⟨_,by simp only [binOp,ne_eq,jh,jg,Op.intBits,Sem.run_pure]; rfl,by simp [aU]⟩
 case or=>subst h; exact ⟨_,by simp only [binOp,ne_eq,jh,jg,Op.intBits,Sem.run_pure]; rfl,by simp [aU]⟩
 case xor=>subst h; exact ⟨_,by simp only [binOp,ne_eq,jh,jg,Op.intBits,Sem.run_pure]; rfl,by simp [aU]⟩
 case andNot=>subst h; exact ⟨_,by simp only [binOp,ne_eq,jh,jg,Op.intBits,Sem.run_pure]; rfl,by simp [aU]⟩
 case eql=>subst h; exact ⟨_,by simp [binOp,Op.intCmp]; rfl,by simp [aU]⟩
 case neq=>subst h; exact ⟨_,by simp [binOp,Op.intCmp]; rfl,by simp [aU]⟩
 case lss=>subst h; exact ⟨_,by simp [binOp,Op.intCmp]; rfl,by simp [aU]⟩
 case leq=>subst h; exact ⟨_,by simp [binOp,Op.intCmp]; rfl,by simp [aU]⟩
 case gtr=>subst h; exact ⟨_,by simp [binOp,Op.intCmp]; rfl,by simp [aU]⟩
 case geq=>subst h; exact ⟨_,by simp [binOp,Op.intCmp]; rfl,by simp [aU]⟩
 all_goals cases h
theorem Ba {op:BinOp}{a b:List UInt8}{d:D}(h:zg op a b=some d)(t:TypeId):∃r,(binOp op t (.string ⟨⟨a⟩⟩) (.string ⟨⟨b⟩⟩)).run P w= .ok r w/\aU ρ w d r:=by
 have ha:(⟨⟨a⟩⟩:ByteArray).toList=a:=ByteArray.toList_mk a;have hb:(⟨⟨b⟩⟩:ByteArray).toList=b:=ByteArray.toList_mk b;cases op <;> simp only [zg,aa]at h
 case add=>
  split at h
  ·rename_i hl;simp only [aa]at h; subst h;have hle:=az hl;refine⟨.string (⟨⟨a⟩⟩++⟨⟨b⟩⟩), ?_, ?_⟩
   ·have:=run_string_add_sum (P:=P) (w:=w) ⟨⟨a⟩⟩ ⟨⟨b⟩⟩ (by simp only [ByteArray.size_mk',ku]; omega);simpa [binOp] using this
   ·simp only [aU];exact congrArg Value.string (ByteArray.mk_append_mk a b)
  ·cases h
 case eql=>subst h; exact ⟨_,by simp [binOp,Op.stringOp,ha,hb]; rfl,by simp [aU]⟩
 case neq=>subst h; exact ⟨_,by simp [binOp,Op.stringOp,ha,hb]; rfl,by simp [aU]⟩
 case lss=>subst h; exact ⟨_,by simp only [binOp,Op.stringOp,ha,hb,o6,Sem.run_pure]; rfl,by simp [aU]⟩
 case leq=>subst h; exact ⟨_,by simp only [binOp,Op.stringOp,ha,hb,o6,Sem.run_pure]; rfl,by simp [aU]⟩
 case gtr=>subst h; exact ⟨_,by simp only [binOp,Op.stringOp,ha,hb,o6,Sem.run_pure]; rfl,by simp [aU]⟩
 case geq=>subst h; exact ⟨_,by simp only [binOp,Op.stringOp,ha,hb,o6,Sem.run_pure]; rfl,by simp [aU]⟩
 all_goals cases h
theorem HH {lo hi c n:Int}(h:P5 lo hi c=true)(h1:lo<=n)(h2:n<=hi):(n==c)=false/\(c==n)=false:=by
 simp only [P5,eD,aY]at h;have:n≠c:=by omega
 exact⟨by simpa using this,by simpa using fun e=>this e.symm⟩
theorem Hu {ex:List (List UInt8)}{lo hi:Nat}{c n:List UInt8}(h:RZ ex lo hi c=true)(h0:n ∉ ex)(h1:lo<=n.length)(h2:n.length<=hi):(n==c)=false/\(c==n)=false:=by
 have:n≠c:=by
  rintro rfl;simp only [RZ,eD,List.any_eq_true]at h;rcases h with h | h | ⟨z,hz,h⟩
  ·have:=az h; omega
  ·have:=az h; omega
  ·exact h0 ((eq_of_beq h) ▸ hz)
 exact⟨by simpa using this,by simpa using fun e=>this e.symm⟩
theorem je {c b r:Bool}(h:mZ c b=some r):c=true/\r=b:=by
 unfold mZ at h;split at h
 ·simp only [aa]at h; exact ⟨rfl,h.symm⟩
 ·cases h
theorem yc {x y:D}{r:Bool}{u v:Value}(h:eqI x y=some r)(hu:aU ρ w x u)(hv:aU ρ w y v):∃k a b,u= .int k a/\v= .int k b/\r=(a==b):=by
 unfold eqI at h;split at h
 ·obtain⟨h1,h2⟩:=je h;obtain rfl:=bD h1;simp only [aU]at hu hv;exact⟨_,_,_,hu,hv,h2⟩
 ·obtain⟨h1,h2⟩:=je h;simp only [aB]at h1;obtain rfl:=bD h1.1;simp only [aU]at hu hv;exact⟨_,_,_,hu.1,hv,by rw [(HH h1.2 hu.2.1 hu.2.2).1]; exact h2⟩
 ·obtain⟨h1,h2⟩:=je h;simp only [aB]at h1;obtain rfl:=bD h1.1;simp only [aU]at hu hv;exact⟨_,_,_,hu,hv.1,by rw [(HH h1.2 hv.2.1 hv.2.2).2]; exact h2⟩
 ·obtain⟨h1,h2⟩:=je h;simp only [aB]at h1;obtain rfl:=bD h1.1;obtain rfl:=bD h1.2;simp only [aU]at hu hv;exact⟨_,_,_,hu.1,hv.1,by simpa using h2⟩
 ·cases h
theorem yO {x y:D}{r:Bool}{u v:Value}(h:X7 x y=some r)(hu:aU ρ w x u)(hv:aU ρ w y v):∃a b:List UInt8,u= .string ⟨⟨a⟩⟩/\v= .string ⟨⟨b⟩⟩/\r=(a==b):=by
 unfold X7 at h;split at h
 ·simp only [aa]at h;simp only [aU]at hu hv;exact⟨_,_,hu,hv,h.symm⟩
 ·obtain⟨h1,h2⟩:=je h;simp only [aU]at hu hv;exact⟨_,_,hu.1,hv,by rw [(Hu h1 hu.2.1 hu.2.2.1 hu.2.2.2).1]; exact h2⟩
 ·obtain⟨h1,h2⟩:=je h;simp only [aU]at hu hv;exact⟨_,_,hu,hv.1,by rw [(Hu h1 hv.2.1 hv.2.2.1 hv.2.2.2).2]; exact h2⟩
 ·obtain⟨h1,h2⟩:=je h;obtain rfl:=aD h1;simp only [aU]at hu hv;exact⟨_,_,hu.1,hv.1,by simpa using h2⟩
 ·cases h
theorem vK {x y:D}{r:Bool}{u v:Value}(h:XE x y=some r)(hu:aU ρ w x u)(hv:aU ρ w y v):∃a b,u= .bool a/\v= .bool b/\r=(a==b):=by
 unfold XE at h;split at h
 ·simp only [aa]at h;simp only [aU]at hu hv;exact⟨_,_,hu,hv,h.symm⟩
 ·obtain⟨h1,h2⟩:=je h;obtain rfl:=aD h1;simp only [aU]at hu hv;exact⟨_,_,hu,hv,by simpa using h2⟩
 ·cases h
theorem qF {x y d:D}{u v:Value}(h:AU x y=some d)(hu:aU ρ w x u)(hv:aU ρ w y v):∃k a b,u= .int k a/\v= .int k b/\d= .bool (decide (a < b)):=by
 unfold AU at h;split at h
 ·split at h
  ·rename_i hk;obtain rfl:=bD hk;simp only [aU]at hu hv;split at h
   ·rename_i h1;have:=bD h1;simp only [aa]at h; subst h;exact⟨_,_,_,hu.1,hv,congrArg D.bool (cO (by omega)).symm⟩
   ·rename_i h1 _;have:=bD h1;simp only [aa]at h; subst h;exact⟨_,_,_,hu.1,hv,congrArg D.bool (bk (by omega)).symm⟩
   ·cases h
  ·cases h
 ·split at h
  ·rename_i hk;obtain rfl:=bD hk;simp only [aU]at hu hv;split at h
   ·rename_i h1;have:=bD h1;simp only [aa]at h; subst h;exact⟨_,_,_,hu,hv.1,congrArg D.bool (cO (by omega)).symm⟩
   ·rename_i h1 _;have:=bD h1;simp only [aa]at h; subst h;exact⟨_,_,_,hu,hv.1,congrArg D.bool (bk (by omega)).symm⟩
   ·cases h
  ·cases h
 ·cases h
theorem yC {x y d:D}{u v:Value}(h:IH x y=some d)(hu:aU ρ w x u)(hv:aU ρ w y v):
  (∃k a b,u= .int k a/\v= .int k b/\d= .bool (a==b))\/∃a b:List UInt8,u= .string ⟨⟨a⟩⟩/\v= .string ⟨⟨b⟩⟩/\d= .bool (a==b):=by
 unfold IH at h;split at h
 ·rename_i r hr;obtain⟨k,a,b,h1,h2,rfl⟩:=yc hr hu hv;simp only [aa]at h; subst h;exact .inl ⟨k,a,b,h1,h2,rfl⟩
 ·split at h
  ·rename_i r hr;obtain⟨a,b,h1,h2,rfl⟩:=yO hr hu hv;simp only [aa]at h; subst h;exact .inr ⟨a,b,h1,h2,rfl⟩
  ·cases h
theorem Kf {m c:Int}:∀ {a:Sym},(M3 m c a).val=m * a.val+c
 | .i _=>rfl
 | .len _=>rfl
 | .lin m' c' a=>by simp only [M3,Sym.val,Int.mul_add,Int.mul_assoc,Int.add_assoc]
theorem wrap64 {n:Int}(h1: -9223372036854775808<=n)(h2:n<=9223372036854775807):IntKind.wrap .i64 n=n:=by
 simp only [IntKind.wrap,IntKind.signed,IntKind.bits,fM,aY,ge_iff_le];rw [show ((2:Int) ^ (64 - 1))=9223372036854775808 from rfl,show ((2:Int) ^ 64)=18446744073709551616 from rfl];split <;> omega
theorem pL {k:IntKind}{m c lo hi n:Int}{a:Sym}{d:D}(h:vq k m c a lo hi=some d)(hn:n=m * a.val+c)(h1:lo<=n)(h2:n<=hi):aU ρ w d (.int k (k.wrap n)):=by
 unfold vq at h;split at h
 ·rename_i hk hl hh;have hk:=bD hk;have hl:=bD hl;have hh:=bD hh;simp only [aa]at h; subst h;subst hk;simp only [aU,Kf];rw [wrap64 (by omega) (by omega),← hn];exact⟨rfl,h1,h2⟩
 ·cases h
theorem CF {x y d:D}{u v:Value}(h:GD x y=some d)(hu:aU ρ w x u)(hv:aU ρ w y v):∃k a b,u= .int k a/\v= .int k b/\aU ρ w d (.int k (k.wrap (a+b))):=by
 unfold GD at h;split at h
 ·split at h
  ·rename_i hk;obtain rfl:=bD hk;simp only [aU]at hu hv;exact⟨_,_,_,hu.1,hv,pL h (by omega) (by omega) (by omega)⟩
  ·cases h
 ·split at h
  ·rename_i hk;obtain rfl:=bD hk;simp only [aU]at hu hv;exact⟨_,_,_,hu,hv.1,pL h (by omega) (by omega) (by omega)⟩
  ·cases h
 ·cases h
theorem C7 {x y d:D}{u v:Value}(h:Gg x y=some d)(hu:aU ρ w x u)(hv:aU ρ w y v):∃k a b,u= .int k a/\v= .int k b/\aU ρ w d (.int k (k.wrap (a - b))):=by
 unfold Gg at h;split at h
 ·split at h
  ·rename_i hk;obtain rfl:=bD hk;simp only [aU]at hu hv;exact⟨_,_,_,hu.1,hv,pL h (by omega) (by omega) (by omega)⟩
  ·cases h
 ·split at h
  ·rename_i hk;obtain rfl:=bD hk;simp only [aU]at hu hv;exact⟨_,_,_,hu,hv.1,pL h (by omega) (by omega) (by omega)⟩
  ·cases h
 ·cases h
theorem PT (t:TypeId)(k:IntKind)(a b:Int):(binOp .add t (.int k a) (.int k b)).run P w= .ok (.int k (k.wrap (a+b))) w:=by
 simp [binOp,Op.intArith]
theorem Rx (t:TypeId)(k:IntKind)(a b:Int):(binOp .sub t (.int k a) (.int k b)).run P w= .ok (.int k (k.wrap (a - b))) w:=by
 simp [binOp,Op.intArith]
theorem VV {op:BinOp}{x y d:D}{u v:Value}(hu:aU ρ w x u)(hv:aU ρ w y v)(h:KE op x y=some d)(t:TypeId)(px py:Operand):
  ∃r,(do eqGuard op t px py u v; binOp op t u v:Sem Value).run P w= .ok r w/\aU ρ w d r:=by
 unfold KE at h;split at h
 ·simp only [aU]at hu hv; subst hu hv;split at h
  ·cases h
  ·rename_i hb;simp only [aa]at h; subst h;exact⟨_,by simp only [Sem.run_bind,oN,Result.andThen_ok]; simp [binOp,Op.shift,hb]; rfl,by simp [aU]⟩
 ·simp only [aU]at hu hv; subst hu hv;split at h
  ·cases h
  ·rename_i hb;simp only [aa]at h; subst h;exact⟨_,by simp only [Sem.run_bind,oN,Result.andThen_ok]; simp [binOp,Op.shift,hb]; rfl,by simp [aU]⟩
 ·simp only [aU]at hu hv; subst hu hv;split at h
  ·rename_i hk;have wZ :=bD hk;subst wZ;obtain⟨r,h1,h2⟩:=AJ (P:=P) (ρ:=ρ) (w:=w) h t;exact⟨r,by simp only [Sem.run_bind,oN,Result.andThen_ok]; exact h1,h2⟩
  ·cases h
 ·simp only [aU]at hu hv; subst hu hv;obtain⟨r,h1,h2⟩:=Ba (P:=P) (ρ:=ρ) (w:=w) h t;exact⟨r,by simp only [Sem.run_bind,A7,Result.andThen_ok]; exact h1,h2⟩
 all_goals
  have int:∀(op:BinOp) (k:IntKind) (a b:Int) (d:D),te op k a b=some d->∃r,(do eqGuard op t px py (.int k a) (.int k b); binOp op t (.int k a) (.int k b):Sem Value).run P w= .ok r w/\aU ρ w d r:=fun op k a b d h=>by
   obtain⟨r,h1,h2⟩:=AJ (P:=P) (ρ:=ρ) (w:=w) h t;exact⟨r,by simp only [Sem.run_bind,oN,Result.andThen_ok]; exact h1,h2⟩
  have str:∀(op:BinOp) (a b:List UInt8) (d:D),zg op a b=some d->∃r,(do eqGuard op t px py (.string ⟨⟨a⟩⟩) (.string ⟨⟨b⟩⟩); binOp op t (.string ⟨⟨a⟩⟩) (.string ⟨⟨b⟩⟩):Sem Value).run P w= .ok r w/\aU ρ w d r:=fun op a b d h=>by
   obtain⟨r,h1,h2⟩:=Ba (P:=P) (ρ:=ρ) (w:=w) h t;exact⟨r,by simp only [Sem.run_bind,A7,Result.andThen_ok]; exact h1,h2⟩
 ·rcases yC h hu hv with ⟨k,a,b,rfl,rfl,rfl⟩ | ⟨a,b,rfl,rfl,rfl⟩
  ·exact int _ _ _ _ _ rfl
  ·exact str _ _ _ _ rfl
 ·split at h
  ·rename_i b0 ya;simp only [aa]at h; subst h;rcases yC ya hu hv with ⟨k,a,b,rfl,rfl,hd⟩ | ⟨a,b,rfl,rfl,hd⟩
   ·simp only [D.bool.injEq]at hd; subst hd;exact int _ _ _ _ _ rfl
   ·simp only [D.bool.injEq]at hd; subst hd;exact str _ _ _ _ rfl
  ·cases h
 ·obtain⟨k,a,b,rfl,rfl,rfl⟩:=qF h hu hv;exact int _ _ _ _ _ rfl
 ·obtain⟨k,a,b,rfl,rfl,rfl⟩:=qF h hv hu;exact int _ _ _ _ _ rfl
 ·unfold BU at h;split at h
  ·rename_i b0 ya;simp only [aa]at h; subst h;obtain⟨k,a,b,rfl,rfl,hd⟩:=qF ya hu hv;simp only [D.bool.injEq]at hd; subst hd;refine int _ _ _ _ _ ?_;simp only [te,aa,D.bool.injEq];by_cases hh:a < b
   ·rw [cO hh,bk (by omega)]; rfl
   ·rw [bk hh,cO (by omega)]; rfl
  ·cases h
 ·unfold BU at h;split at h
  ·rename_i b0 ya;simp only [aa]at h; subst h;obtain⟨k,a,b,rfl,rfl,hd⟩:=qF ya hv hu;simp only [D.bool.injEq]at hd; subst hd;refine int _ _ _ _ _ ?_;simp only [te,aa,D.bool.injEq];by_cases hh:a < b
   ·rw [cO hh,bk (by omega)]; rfl
   ·rw [bk hh,cO (by omega)]; rfl
  ·cases h
 ·obtain⟨k,a,b,rfl,rfl,hd⟩:=CF h hu hv;exact⟨_,by simp only [Sem.run_bind,oN,Result.andThen_ok]; exact PT t k a b,hd⟩
 ·obtain⟨k,a,b,rfl,rfl,hd⟩:=C7 h hu hv;exact⟨_,by simp only [Sem.run_bind,oN,Result.andThen_ok]; exact Rx t k a b,hd⟩
 ·cases h
theorem YL {op:UnOp}{x d:D}{u:Value}(hu:aU ρ w x u)(h:unD op x=some d):∃r,(Op.unary op u).run P w= .ok r w/\aU ρ w d r:=by
 unfold unD at h;split at h
 ·simp only [aU]at hu; subst hu;simp only [aa]at h; subst h;exact⟨_,by simp [Op.unary,Op.intArith]; rfl,by simp [aU]⟩
 ·simp only [aU]at hu; subst hu;simp only [aa]at h; subst h;exact⟨_,by simp only [Op.unary,Op.intBits,Sem.run_pure]; rfl,by simp [aU]⟩
 ·simp only [aU]at hu; subst hu;simp only [aa]at h; subst h;exact⟨_,by simp [Op.unary]; rfl,by simp [aU]⟩
 ·cases h
theorem qh {t:TypeId}{cs:Array Value}{l:List D}{off:Nat}{sz:Option Nat}{d:D}(hl:bw ρ w l cs.toList)(hs:l.all D.sc=true)(gX:iL P t=some sz)(hp:part l off sz=some d):
  ∃v,(Go.part t cs off).run P w= .ok v w/\aU ρ w d v:=by
 have hr:=rJ hl hs hp;cases hu:P.underlying t with
 | none=>simp [iL,pd,hu]at gX
 | some e=>
  by_cases hd:e.isRow=true
  ·have ha:pd P t=some true:=by cases e <;> simp_all [pd,TypeDesc.isRow]
   cases hz:dO P t with
   | none=>simp [iL,hz]at gX
   | some s=>
    simp only [iL,ha,hz,aa]at gX;subst gX;simp only at hr;obtain⟨h1,h2⟩:=hr;have L8:(isAgg t).run P w= .ok true w:=by
     unfold isAgg;rw [Sem.run_bind,run_underlying hu w];cases e <;> simp_all [TypeDesc.isRow]
    cases hq:P.info? t with
    | none=>simp [dO,hq]at hz
    | some i=>
     have hi:i.size=s:=by simpa [dO,hq] using hz
     refine⟨.agg (cs.extract off (off+s)), ?_, ?_⟩
     ·simp [Go.part,L8,sizeOf,typeInfo,hq,hi]
     ·have e1:cs.extract off (off+s)=((cs.toList.drop off).take s).toArray:=by
       apply Array.toList_inj.1;simp [Array.toList_extract]
      rw [e1]; exact h2
  ·have ha:pd P t=some false:=by cases e <;> simp_all [pd,TypeDesc.isRow]
   have h1:sz=none:=by
    simp only [iL,ha]at gX;split at gX
    ·simp_all
    ·simpa using gX.symm
    ·cases gX
   subst h1;simp only at hr;obtain⟨v,h1,h2,_⟩:=hr;have hd:e.isRow=false:=by simpa using hd
   have L8:(isAgg t).run P w= .ok false w:=by
    unfold isAgg;rw [Sem.run_bind,run_underlying hu w];cases e <;> simp_all [TypeDesc.isRow]
   have FZ :cs[off]? =some v:=by simpa using h1
   exact⟨v,by simp [Go.part,L8,FZ],h2⟩
theorem Dh {t:TypeId}{fs:Array Field}(h:P.underlying t=some (.struct fs)):P.fieldsOf t=fs:=by
 simp [Program.fieldsOf,h]
theorem wA {d:Nat}{f:TypeId->Option ET}{xs ys:Array Value}{lx ly:List D}(hx:bw ρ w lx xs.toList)(hy:bw ρ w ly ys.toList)(RO:lx.all D.sc=true)(Yd:ly.all D.sc=true)
  (ih:∀t e,f t=some e->∀x y r u v,th false e x y=some r->aU ρ w x u->aU ρ w y v->(Op.equalIn d t u v).run P w= .ok r w):
  ∀(fs:List Field) (l:Wi),sK.fieldsB P f fs=some l->∀r,LY l lx ly=some r->(Op.eqFields d xs ys fs).run P w= .ok r w
 | [],l,h,r,hr=>by
  simp only [sK.fieldsB,aa]at h; subst h;simp only [LY,aa]at hr; subst hr;simp [Op.eqFields]
 | x::fs,l,h,r,hr=>by
  simp only [sK.fieldsB]at h;split at h
  ·cases h
  ·rename_i hn;split at h
   ·rename_i s e l' h1 h2 h3;simp only [aa]at h; subst h;simp only [LY]at hr;split at hr
    ·rename_i p q hp hq;obtain⟨u,hu1,hu2⟩:=qh (P:=P) hx RO h1 hp;obtain⟨v,qq,P0⟩:=qh (P:=P) hy Yd h1 hq;have cE : x.name ≠ "_" := by simpa using hn
     split at hr
     ·rename_i hb;have hi:=ih x.type e h2 p q true u v hb hu2 P0;have Ih:=wA hx hy RO Yd ih fs l' h3 r hr;simp only [Op.eqFields,cE,ne_eq,dC,eu,Sem.run_bind,hu1,qq,hi,Result.andThen_ok];simpa using Ih
     ·rename_i hb;simp only [aa]at hr; subst hr;have hi:=ih x.type e h2 p q false u v hb hu2 P0;simp only [Op.eqFields,cE,ne_eq,dC,eu,Sem.run_bind,hu1,qq,hi,Result.andThen_ok];simp
     ·cases hr
    ·cases hr
   ·cases h
set_option maxHeartbeats 2000000 in
theorem Pa (oc:Bool):∀(n:Nat) (t:TypeId) (et:ET),sK P n t=some et->∀(d:Nat),n<=d->∀(x y:D) (r:Bool) (u v:Value),th oc et x y=some r->aU ρ w x u->aU ρ w y v->(Op.equalIn d t u v).run P w= .ok r w:=by
 intro n;induction n generalizing oc with
 | zero=>intro t et h; simp [sK]at h
 | succ n ih=>
  intro t et h d hd x y r u v he hu hv;obtain⟨d,rfl⟩:∃k,d=k+1:=⟨d - 1,by omega⟩;simp only [sK]at h;split at h
  ·rename_i qs;simp only [aa]at h; subst h;simp only [th]at he;obtain⟨p,q,rfl,rfl,rfl⟩:=vK he hu hv;exact run_equalIn_bool w d t _ _ qs
  ·rename_i k qs;simp only [aa]at h; subst h;simp only [th]at he;obtain⟨_,p,q,rfl,rfl,rfl⟩:=yc he hu hv;exact run_equalIn_int w d t _ _ _ _ qs
  ·rename_i qs;simp only [aa]at h; subst h;simp only [th]at he;obtain⟨p,q,rfl,rfl,rfl⟩:=yO he hu hv;rw [run_equalIn_string w d t _ _ qs,ByteArray.toList_eq,ByteArray.toList_eq]
  ·rename_i e qs;split at h
   ·rename_i m hm;simp only [aa]at h; subst h;have key:∀(a b:Option Addr),(a=none\/b=none)->(Op.equalIn (d+1) t (.pointer a) (.pointer b)).run P w= .ok (a.isNone && b.isNone) w:=by
     intro a b ZU;cases a <;> cases b <;> simp_all [Op.equalIn,run_underlying qs]
    have shp:∀(z:D) (q:Value),aU ρ w z q->(∃o c,z= .ptr o c)\/(∃o i c e,z= .jI o i c e)\/(∃e c,z= .jD e c)->∃a,q= .pointer (some a):=by
     intro z q hz hs;rcases hs with ⟨o,c,rfl⟩ | ⟨o,i,c,e,rfl⟩ | ⟨e,c,rfl⟩ <;> simp only [aU]at hz
     ·exact Gh.jM hz fun _ _ q=>⟨_,q⟩
     ·exact Gh.jM hz fun _ _ q=>⟨_,q.2.2.2⟩
     ·obtain⟨_,_,_,_,_,_,_,rfl⟩:=hz; exact ⟨_,rfl⟩
    simp only [th]at he;split at he <;> (try cases he)
    ·simp only [aU]at hu hv; subst hu hv; simpa using key none none (.inl rfl)
    ·obtain⟨a,rfl⟩:=shp _ _ hv (.inl ⟨_,_,rfl⟩); simp only [aU]at hu; subst hu; simpa using key none (some a) (.inl rfl)
    ·obtain⟨a,rfl⟩:=shp _ _ hu (.inl ⟨_,_,rfl⟩); simp only [aU]at hv; subst hv; simpa using key (some a) none (.inr rfl)
    ·obtain⟨a,rfl⟩:=shp _ _ hv (.inr (.inl ⟨_,_,_,_,rfl⟩)); simp only [aU]at hu; subst hu; simpa using key none (some a) (.inl rfl)
    ·obtain⟨a,rfl⟩:=shp _ _ hu (.inr (.inl ⟨_,_,_,_,rfl⟩)); simp only [aU]at hv; subst hv; simpa using key (some a) none (.inr rfl)
    ·obtain⟨a,rfl⟩:=shp _ _ hv (.inr (.inr ⟨_,_,rfl⟩)); simp only [aU]at hu; subst hu; simpa using key none (some a) (.inl rfl)
    ·obtain⟨a,rfl⟩:=shp _ _ hu (.inr (.inr ⟨_,_,rfl⟩)); simp only [aU]at hv; subst hv; simpa using key (some a) none (.inr rfl)
   ·cases h
  ·rename_i ms qs;simp only [aa]at h; subst h;simp only [th]at he;split at he
   ·split at he
    ·cases he; simp only [aU]at hu hv; subst hu hv; simp [Op.equalIn,run_underlying qs]
    ·cases he
   ·cases he; simp only [aU]at hu hv; subst hu; obtain ⟨_,rfl,_⟩:=hv; simp [Op.equalIn,run_underlying qs]
   ·cases he; simp only [aU]at hu hv; subst hv; obtain ⟨_,rfl,_⟩:=hu; simp [Op.equalIn,run_underlying qs]
   ·split at he
    ·cases he
    ·rename_i hb;cases he;simp only [aU]at hu hv;obtain⟨_,rfl,_⟩:=hu;obtain⟨_,rfl,_⟩:=hv;have cE:=Nat.ne_of_beq_eq_false hb;simp [Op.equalIn,run_underlying qs,cE]
   ·cases he
  ·rename_i e qs;simp only [aa]at h; subst h;have nilv:∀(nl:Bool) (sz:Nat) (l:List D) (q:Value),aU ρ w (.vs nl sz l) q->∃a n c,q= .slice a n c/\a.isNone=nl:=by
    intro nl sz l q hq;simp only [aU]at hq;rcases hq with ⟨h1,_,rfl⟩ | ⟨h1,ad,c,rfl,_⟩
    ·exact⟨_,_,_,rfl,by simp [h1]⟩
    ·exact⟨_,_,_,rfl,by simp [h1]⟩
   have key:∀(a b:Option Addr) (n c n' c' :Nat),(a=none\/b=none)->(Op.equalIn (d+1) t (.slice a n c) (.slice b n' c')).run P w= .ok (a.isNone && b.isNone) w:=by
    intro a b n c n' c' ZU;cases a <;> cases b <;> simp_all [Op.equalIn,run_underlying qs]
   simp only [th]at he;split at he <;> (try cases he)
   ·obtain⟨a,n1,c1,rfl,ha⟩:=nilv _ _ _ _ hu;obtain⟨b,n2,c2,rfl,hb⟩:=nilv _ _ _ _ hv;rw [key a b _ _ _ _ (.inr (by simpa using hb)),ha,hb]; simp
   ·obtain⟨a,n1,c1,rfl,ha⟩:=nilv _ _ _ _ hu;obtain⟨b,n2,c2,rfl,hb⟩:=nilv _ _ _ _ hv;rw [key a b _ _ _ _ (.inl (by simpa using ha)),ha,hb]; simp
   ·obtain⟨b,n2,c2,rfl,hb⟩:=nilv _ _ _ _ hv;simp only [aU]at hu;obtain⟨a,c,rfl⟩:=Gh.jM hu fun _ _ ⟨_,_,_,_,_,q,_⟩=>⟨_,_,q⟩;rw [key _ b _ _ _ _ (.inr (by simpa using hb))]; simp
   ·obtain⟨b,n2,c2,rfl,hb⟩:=nilv _ _ _ _ hu;simp only [aU]at hv;obtain⟨a,c,rfl⟩:=Gh.jM hv fun _ _ ⟨_,_,_,_,_,q,_⟩=>⟨_,_,q⟩;rw [key b _ _ _ _ _ (.inl (by simpa using hb))]; simp
  ·rename_i q e qs;simp only [aa]at h; subst h;simp only [th]at he;split at he <;> (try cases he)
   ·simp only [aU]at hu hv; subst hu hv; simp [Op.equalIn,run_underlying qs]
   ·simp only [aU]at hu hv; subst hu; obtain ⟨b,rfl⟩:=Gh.jM hv fun _ _ q=>⟨_,q⟩; simp [Op.equalIn,run_underlying qs]
   ·simp only [aU]at hu hv; subst hv; obtain ⟨b,rfl⟩:=Gh.jM hu fun _ _ q=>⟨_,q⟩; simp [Op.equalIn,run_underlying qs]
  ·rename_i ps rs vr qs;simp only [aa]at h; subst h;simp only [th]at he;split at he <;> (try cases he)
   ·simp only [aU]at hu hv; subst hu hv; simp [Op.equalIn,run_underlying qs]
   ·simp only [aU]at hu hv; subst hu; obtain ⟨_,_,rfl,_⟩:=hv; simp [Op.equalIn,run_underlying qs]
   ·simp only [aU]at hu hv; subst hv; obtain ⟨_,_,rfl,_⟩:=hu; simp [Op.equalIn,run_underlying qs]
  ·rename_i fs qs;split at h
   ·cases h
   ·rename_i dN;simp only [bj]at h;obtain⟨l,hl,rfl⟩:=h;simp only [th]at he;split at he
    ·simp only [aU]at hu hv;obtain⟨xs,rfl,vR,vQ⟩:=hu;obtain⟨ys,rfl,w7,yp⟩:=hv;have RD:=Dh qs;rw [run_equalIn_struct w d t xs ys (by rw [RD]; exact qs) dN,RD];exact wA vR w7 vQ yp (fun t' e' h' x' y' r' u' v' Pp tL Ct =>ih false t' e' h' d (by omega) x' y' r' u' v' Pp tL Ct) fs.toList l hl r he
    ·cases he
  ·cases h
end Go.Ab
