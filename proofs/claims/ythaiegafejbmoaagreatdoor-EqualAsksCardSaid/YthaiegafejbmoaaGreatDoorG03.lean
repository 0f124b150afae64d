/- Part. -/
import Derived.Test.YthaiegafejbmoaaGreatDoorG02
import Derived.Deep.MidRow
set_option linter.unusedSectionVars false
set_option linter.unusedSimpArgs false
set_option linter.unusedVariables false
namespace Go.Ab
open Go
variable [eh]
variable {ρ:Gh}{w:World}
theorem bu.length:∀ {l:List D} {vs:List Value},bu ρ w l vs->l.length=vs.length
 | [],_,h=>by simp only [bu]at h; subst h; rfl
 | d::l,_,h=>by
  simp only [bu]at h;obtain⟨v,r,rfl,_,h2⟩:=h;simp [bu.length h2]
theorem bu.append:∀ {l l' :List D} {vs vs' :List Value},bu ρ w l vs->bu ρ w l' vs' ->bu ρ w (l++l') (vs++vs')
 | [],_,_,_,h,h' =>by simp only [bu]at h; subst h; simpa using h'
 | d::l,_,_,_,h,h' =>by
  simp only [bu]at h;obtain⟨v,r,rfl,h1,h2⟩:=h;simp only [gz,bu];exact⟨v,_,rfl,h1,bu.append h2 h'⟩
theorem bu.take:∀ {l:List D} {vs:List Value} (n:Nat),bu ρ w l vs->bu ρ w (l.take n) (vs.take n)
 | [],_,n,h=>by simp only [bu]at h; subst h; simp [bu]
 | d::l,_,0,h=>by simp [bu]
 | d::l,_,n+1,h=>by
  simp only [bu]at h;obtain⟨v,r,rfl,h1,h2⟩:=h;simp only [fZ,bu];exact⟨v,_,rfl,h1,bu.take n h2⟩
theorem bu.drop:∀ {l:List D} {vs:List Value} (n:Nat),bu ρ w l vs->bu ρ w (l.drop n) (vs.drop n)
 | [],_,n,h=>by simp only [bu]at h; subst h; simp [bu]
 | d::l,_,0,h=>by simpa using h
 | d::l,_,n+1,h=>by
  simp only [bu]at h;obtain⟨v,r,rfl,h1,h2⟩:=h;simpa using bu.drop n h2
theorem bu.get:∀ {l:List D} {vs:List Value} {i:Nat} {d:D},bu ρ w l vs->l[i]? =some d->∃v,vs[i]? =some v/\aR ρ w d v
 | [],_,i,d,h,hi=>by simp at hi
 | x::l,_,0,d,h,hi=>by
  simp only [bu]at h;obtain⟨v,r,rfl,h1,h2⟩:=h;simp at hi; subst hi;exact⟨v,by simp,h1⟩
 | x::l,_,i+1,d,h,hi=>by
  simp only [bu]at h;obtain⟨v,r,rfl,h1,h2⟩:=h;simp at hi;simpa using bu.get h2 hi
theorem bu.one {d:D}{v:Value}(h:aR ρ w d v):bu ρ w [d] [v]:=by simp only [bu]; exact ⟨v,[],rfl,h,rfl⟩
theorem bu.replicate {d:D}{v:Value}(h:aR ρ w d v):∀n,bu ρ w (List.replicate n d) (List.replicate n v)
 | 0=>by simp [bu]
 | n+1=>by
  simp only [je,bu];exact⟨v,_,rfl,h,bu.replicate h n⟩
theorem Gh.jF {ρ:Gh}{o:Nat}{dd:Prop}{Q:Nat->Nat->Prop}(h:ρ.at o dd Q)(hq:∀sz b,Q sz b->dd):dd:=by
 unfold Gh.at at h;split at h
 ·exact h.elim
 ·exact h
 ·obtain⟨b,_,h2⟩:=h; exact hq _ b h2
theorem aR.sc {d:D}{v:Value}(h:aR ρ w d v)(hs:d.sc=true):v.oneCell' =true/\v.cells= #[v]:=by
 cases d <;> simp only [D.sc]at hs <;> (try cases hs) <;> simp only [aR]at h
 case bool=>subst h; exact ⟨rfl,rfl⟩
 case int=>subst h; exact ⟨rfl,rfl⟩
 case str=>subst h; exact ⟨rfl,rfl⟩
 case dU=>subst h; exact ⟨rfl,rfl⟩
 case ptr o c=>obtain ⟨a,rfl⟩:=Gh.jF h fun _ _ q=>⟨_,q⟩; exact ⟨rfl,rfl⟩
 case jN=>obtain ⟨a,rfl⟩:=Gh.jF h fun _ _ q=>⟨_,q.2.2.2⟩; exact ⟨rfl,rfl⟩
 case jJ=>obtain ⟨_,_,_,_,_,_,_,rfl⟩:=h; exact ⟨rfl,rfl⟩
 case vs=>rcases h with ⟨_,_,rfl⟩ | ⟨_,_,_,rfl,_⟩ <;> exact ⟨rfl,rfl⟩
 case sl=>obtain ⟨a,c,rfl⟩:=Gh.jF h fun _ _ ⟨_,_,_,_,_,q,_⟩=>⟨_,_,q⟩; exact ⟨rfl,rfl⟩
 case qD=>subst h; exact ⟨rfl,rfl⟩
 case mp=>obtain ⟨b,rfl⟩:=Gh.jF h fun _ _ q=>⟨_,q⟩; exact ⟨rfl,rfl⟩
 case fn=>obtain ⟨_,_,rfl,_⟩:=h; exact ⟨rfl,rfl⟩
 case lX=>subst h; exact ⟨rfl,rfl⟩
 case eM=>obtain ⟨_,rfl,_⟩:=h; exact ⟨rfl,rfl⟩
 case jc=>subst h; exact ⟨rfl,rfl⟩
 case sint=>obtain ⟨rfl,_⟩:=h; exact ⟨rfl,rfl⟩
 case pa=>obtain ⟨rfl,_⟩:=h; exact ⟨rfl,rfl⟩
 case rY=>subst h; exact ⟨rfl,rfl⟩
 case yl=>obtain ⟨_,rfl⟩:=h; exact ⟨rfl,rfl⟩
theorem bu.Iv:∀ {l:List D} {vs:List Value},bu ρ w l vs->l.all D.sc=true->∀u∈vs,u.oneCell' =true
 | [],_,h,_,u,hu=>by simp only [bu]at h; subst h; simp at hu
 | d::l,_,h,hs,u,hu=>by
  simp only [bu]at h;obtain⟨v,r,rfl,h1,h2⟩:=h;simp only [h9,aB]at hs;rcases aN.1 hu with rfl | hu
  ·exact (h1.sc hs.1).1
  ·exact bu.Iv h2 hs.2 u hu
theorem D.mH {d:D}(h:d.st=true):d.flat.all D.sc=true:=by
 cases d <;> simp_all [D.st,D.flat,D.sc]
theorem D.Vc {d:D}(h:d.sc=true):d.st=true:=by
 cases d <;> simp_all [D.st,D.sc]
theorem D.Fk {d:D}(h:d.st=true):(∃l,d= .agg l/\l.all D.sc=true)\/d.sc=true:=by
 cases d <;> simp_all [D.st,D.sc]
theorem aR.flat {d:D}{v:Value}(h:aR ρ w d v)(hs:d.st=true):bu ρ w d.flat v.cells.toList/\∀u∈v.cells.toList,u.oneCell' =true:=by
 rcases D.Fk hs with ⟨l,rfl,hl⟩ | hc
 ·simp only [aR]at h;obtain⟨vs,rfl,h1,_⟩:=h;exact⟨by simpa [D.flat,Value.cells] using h1,by simpa [Value.cells] using bu.Iv h1 hl⟩
 ·obtain⟨h1,h2⟩:=h.sc hc;rw [h2];refine⟨?_,by simpa using h1⟩;have:d.flat=[d]:=by cases d <;> simp_all [D.flat,D.sc]
  rw [this];exact bu.one h
theorem aR.size {d:D}{v:Value}(h:aR ρ w d v)(hs:d.st=true):v.cells.size=d.flat.length:=by
 have:=(h.flat hs).1.length;simpa using this.symm
theorem aR.agg {l:List D}{vs:List Value}(h:bu ρ w l vs)(hs:l.all D.sc=true):aR ρ w (.agg l) (.agg vs.toArray):=by
 simp only [aR]; exact ⟨_,rfl,by simpa using h,hs⟩
theorem rX {cs:List D}{vs:List Value}{c:Nat}{sz:Option Nat}{d:D}(h:bu ρ w cs vs)(hs:cs.all D.sc=true)(hp:part cs c sz=some d):
  match sz with
  | some s=>c+s<=vs.length/\aR ρ w d (.agg ((vs.drop c).take s).toArray)
  | none=>∃v,vs[c]? =some v/\aR ρ w d v/\d.sc=true:=by
 cases sz with
 | some s=>
  simp only [part]at hp;split at hp
  ·rename_i hb;simp only [aa]at hp;subst hp;have hle:=az hb;rw [h.length]at hle;refine⟨hle,aR.agg ((h.drop c).take s) ?_⟩;exact c9.2 fun x hx=>(c9.1 hs) x (mJ (fG hx))
  ·cases hp
 | none=>
  simp only [part]at hp;obtain⟨v,h1,h2⟩:=h.get hp;exact⟨v,h1,h2,(c9.1 hs) d (bG hp)⟩
theorem mz {w:World}{b x:Nat}{v:Value}(h:bS w b x v):w.rangeAt b x v.cells.toList:=fun j u hj=>by
 have eW:j < v.cells.size:=by simpa using (aj.1 hj).1
 rw [h j eW]; simpa using hj
theorem vB {w:World}{b x:Nat}{v:Value}(h:w.rangeAt b x v.cells.toList):bS w b x v:=fun j hj=>by
 rw [h j v.cells[j] (by simp [hj])]; simp [hj]
theorem CI {w:World}{b x:Nat}{vs:List Value}(h:w.rangeAt b x vs)(c s:Nat):w.rangeAt b (x+c) ((vs.drop c).take s):=fun j u hj=>by
 rw [da]at hj;split at hj
 ·rw [cS]at hj;have:=h (c+j) u hj;rwa [show x+c+j=x+(c+j) by omega]
 ·cases hj
theorem rangeAt_of_block {w:World}{b:Nat}{cs:Array Value}{e:TypeId}{f:Nat×Nat}(h:w.heap[b]? =some (.cells cs e f)):w.rangeAt b 0 cs.toList:=fun j u hj=>by
 have YA :cs[j]? =some u:=by simpa using hj
 simp [World.cell?,h,YA]
theorem run_load {P:Program}{w:World}{b x c:Nat}{vs:List Value}{t:TypeId}{sz:Option Nat}(hr:w.rangeAt b x vs)(iC:iH P t=some sz):
  match sz with
  | some s=>c+s<=vs.length->(Instr.loadAt t (.pointer (some ⟨b,x+c,none⟩))).run P w= .ok (.agg ((vs.drop c).take s).toArray) w
  | none=>∀v,vs[c]? =some v->(Instr.loadAt t (.pointer (some ⟨b,x+c,none⟩))).run P w= .ok v w:=by
 have hi:∀s,dC P t=some s->(P.info? t).map (·.size)=some s:=fun s h=>h;cases hu:P.underlying t with
 | none=>simp [iH,oQ,hu]at iC
 | some d=>
  cases hz:dC P t with
  | none=>simp [iH,hz]at iC
  | some s=>
   by_cases hd:d.isRow=true
   ·have ha:oQ P t=some true:=by cases d <;> simp_all [oQ,TypeDesc.isRow]
    simp only [iH,ha,hz,aa]at iC;subst iC;intro hle;have hlen:((vs.drop c).take s).length=s:=by simp; omega
    exact run_loadAt_mid w b (x+c) t _ d (CI hr c s) hu hd (by rw [hlen]; exact hi s hz)
   ·have ha:oQ P t=some false:=by cases d <;> simp_all [oQ,TypeDesc.isRow]
    have h1:sz=none:=by
     simp only [iH,ha,hz]at iC;split at iC
     ·simp_all
     ·simpa using iC.symm
     ·cases iC
    subst h1;intro v hv;have hd:d.isRow=false:=by simpa using hd
    have Ot:(isAgg t).run P w= .ok false w:=by
     unfold isAgg;rw [Sem.run_bind,run_underlying hu w];cases d <;> simp_all [TypeDesc.isRow]
    have hc:=hr c v hv;simp [Instr.loadAt,Instr.sureAddr,loadVar,Ot,hc]
end Go.Ab
namespace Go.Ab
open Go
variable [eh]
variable {ρ:Gh}{w:World}{P:Program}{G:Gl}{X:ig}{A:mT}
structure gY where
 J:Gh->World->Prop
 mono:∀ {ρ ρ' :Gh} {w w' :World},Kp ρ w ρ' w' ->J ρ w->J ρ' w'
def gY.none:gY:=⟨fun _ _=>True,fun _ _=>trivial⟩
def HC (k l:Nat)(r:Go.Loop)(e:Env)(ρ:Gh)(w:World):Prop:=ρ.kd k= .dead/\ρ.lp k=(l,r)/\∀t d,e.get t=some d->∃v,r.tmps[t]? =some v/\aR ρ w d v
theorem HC.mono {k l:Nat}{r:Go.Loop}{e:Env} {ρ ρ' :Gh} {w w' :World}(h:Kp ρ w ρ' w')(p:HC k l r e ρ w):HC k l r e ρ' w' :=by
 obtain⟨k1,k2,k3⟩:=p;refine⟨(h.dead _ k1).1,(h.dead _ k1).2.trans k2,fun t d hd=> ?_⟩;obtain⟨v,h1,h2⟩:=k3 t d hd;exact⟨v,h1,h2.mono h⟩
def gY.loop (J:gY)(k l:Nat)(r:Go.Loop)(e:Env):gY:=⟨fun ρ w=>HC k l r e ρ w/\J.J ρ w,fun h p=>⟨p.1.mono h,J.mono h p.2⟩⟩
def gn (pn:gY)(G:Gl)(ρ:Gh)(w:World):Prop:=(∀g d,G g=some d->aR ρ w (.jJ d 0) (.pointer (some ⟨g,0,none⟩)))/\pn.J ρ w
variable {pn:gY}
theorem gn.mono {ρ' :Gh} {w' :World}(h:Kp ρ w ρ' w')(g:gn pn G ρ w):gn pn G ρ' w' :=⟨fun x d hx=>(g.1 x d hx).mono h,pn.mono h g.2⟩
mutual
theorem jY:∀(v:Value) (d:D),w8 v=some d->aR ρ w d v
 | .bool b,d,h=>by simp only [w8,aa]at h; subst h; simp [aR]
 | .int k n,d,h=>by simp only [w8,aa]at h; subst h; simp [aR]
 | .string s,d,h=>by simp only [w8,aa]at h; subst h; simp [aR]
 | .pointer none,d,h=>by simp only [w8,aa]at h; subst h; simp [aR]
 | .pointer (some _),d,h=>by simp [w8]at h
 | .slice none 0 0,d,h=>by simp only [w8,aa]at h; subst h; simp [aR]
 | .slice (some _) _ _,d,h=>by simp [w8]at h
 | .slice none (_+1) _,d,h=>by simp [w8]at h
 | .slice none 0 (_+1),d,h=>by simp [w8]at h
 | .map none,d,h=>by simp only [w8,aa]at h; subst h; simp [aR]
 | .map (some _),d,h=>by simp [w8]at h
 | .func f a b,d,h=>by
  simp only [w8]at h;split at h
  ·rename_i x y hx hy;simp only [aa]at h; subst h;simp only [aR];exact⟨a,b,rfl,rV a.toList x hx,rV b.toList y hy⟩
  ·cases h
 | .nilFunc,d,h=>by simp only [w8,aa]at h; subst h; simp [aR]
 | .nilIface,d,h=>by simp only [w8,aa]at h; subst h; simp [aR]
 | .iface t v,d,h=>by
  simp only [w8]at h;split at h
  ·rename_i x hx;simp only [aa]at h; subst h;simp only [aR];exact⟨v,rfl,jY v x hx⟩
  ·cases h
 | .agg cs,d,h=>by
  simp only [w8]at h;split at h
  ·rename_i l hl;split at h
   ·rename_i hs;simp only [aa]at h; subst h;simp only [aR];exact⟨cs,rfl,rV cs.toList l hl,hs⟩
   ·cases h
  ·cases h
 | .tuple cs,d,h=>by
  simp only [w8]at h;split at h
  ·rename_i l hl;simp only [aa]at h; subst h;simp only [aR];exact⟨cs,rfl,rV cs.toList l hl⟩
  ·cases h
 | .float _ _,d,h=>by simp [w8]at h
 | .complex _ _ _,d,h=>by simp [w8]at h
 | .chan _,d,h=>by simp [w8]at h
theorem rV:∀(vs:List Value) (l:List D),EB vs=some l->bu ρ w l vs
 | [],l,h=>by simp only [EB,aa]at h; subst h; simp [bu]
 | v::r,l,h=>by
  simp only [EB]at h;split at h
  ·rename_i d t hd ht;simp only [aa]at h; subst h;simp only [bu];exact⟨v,r,rfl,jY v d hd,rV r t ht⟩
  ·cases h
end
variable {lo:Nat}{env:Env}{a:Act}
theorem yI {t:Nat}{v:Value}(h:a.tmps[t]? =some v):a.eval (.tmp t)=v:=by
 simp [Act.eval,h]
theorem bc {x' :Operand}{x:bO}{d:D}(hx:ew G x' =some x)(he:dW ρ w lo env a.tmps)(hg:gn pn G ρ w)(h:x.ev env=some d):aR ρ w d (a.eval x'):=by
 cases x' with
 | tmp t=>
  simp only [ew,aa]at hx; subst hx;simp only [bO.ev]at h;split at h
  ·cases h
  ·cases h
  ·rename_i r h1 h2;have hs:=he.slot t d h;cases d with
   | lv _=>exact absurd h (h1 _)
   | iE _ _=>exact absurd h (h2 _ _)
   | _=>
    simp only [dV]at hs;obtain⟨v,hv,hr⟩:=hs;rw [yI hv]; exact hr
 | const v=>
  simp only [ew,aW]at hx;obtain⟨d',h1,rfl⟩:=hx;simp only [bO.ev,aa]at h; subst h;exact jY v _ h1
 | global g=>
  simp only [ew,aW]at hx;obtain⟨d',h1,rfl⟩:=hx;simp only [bO.ev,aa]at h; subst h;exact hg.1 g d' h1
 | func f=>
  simp only [ew,aa]at hx; subst hx;simp only [bO.ev,aa]at h; subst h;simp only [aR,Act.eval];exact⟨#[], #[],rfl,by simp [bu],by simp [bu]⟩
def fe (ρ:Gh)(w:World)(env:Env)(tmps:Array Value)(d:D)(v:Value):Prop:=
 match d with
 | .iE a c=>∀x,env.get a=some (.lv x)->∃b,tmps[a]? =some (.pointer (some ⟨b,0,none⟩))/\v= .pointer (some ⟨b,c,none⟩)
 | .lv _=>False
 | d=>aR ρ w d v
theorem fe.zC {tmps:Array Value}{d:D}{v:Value}(h:aR ρ w d v):fe ρ w env tmps d v:=by
 cases d <;> first | exact h | (simp only [aR]at h)
theorem kP {x' :Operand}{x:bO}{d:D}(hx:ew G x' =some x)(he:dW ρ w lo env a.tmps)(hg:gn pn G ρ w)(h:x.A9 env=some d):fe ρ w env a.tmps d (a.eval x'):=by
 by_cases h' :x.ev env=some d
 ·exact .zC (bc hx he hg h')
 ·cases x' with
  | tmp t=>
   simp only [ew,aa]at hx; subst hx;simp only [bO.A9]at h;cases hd:env.get t with
   | none=>simp [hd]at h
   | some e=>
    have hs:=he.slot t e hd;cases e <;> simp only [hd,aa]at h <;> subst h <;> (try (simp [bO.ev,hd]at h'))
    case lv y=>
     simp only [dV]at hs;obtain⟨b,v,el,h1,_⟩:=hs;simp only [fe];exact fun _ _=>⟨b,h1,yI h1⟩
    case iE u c=>
     simp only [dV]at hs;simp only [fe];intro y hy;obtain⟨b,h1,h2⟩:=hs y hy;exact⟨b,h1,yI h2⟩
  | const v=>
   simp only [ew,aW]at hx;obtain⟨d',h1,rfl⟩:=hx;exact absurd h (by simpa [bO.ev,bO.A9] using h')
  | global g=>
   simp only [ew,aW]at hx;obtain⟨d',h1,rfl⟩:=hx;exact absurd h (by simpa [bO.ev,bO.A9] using h')
  | func f=>
   simp only [ew,aa]at hx; subst hx;exact absurd h (by simpa [bO.ev,bO.A9] using h')
theorem mapM_cons {α β:Type}(f:α->Option β)(x:α)(l:List α)(r:List β):(x::l).mapM f=some r->∃y t,f x=some y/\l.mapM f=some t/\r=y::t:=by
 intro h;simp only [jh,aE,ae,aL,aa]at h;obtain⟨y,h1,t,h2,h3⟩:=h;exact⟨y,t,h1,h2,h3.symm⟩
theorem mapM_nil {α β:Type}(f:α->Option β)(r:List β):([]:List α).mapM f=some r->r=[]:=by
 intro h; simpa using h.symm
theorem EJ (he:dW ρ w lo env a.tmps)(hg:gn pn G ρ w):∀(l:List Operand) (xs:List bO) (ds:List D),l.mapM (ew G)=some xs->tF env xs=some ds->bu ρ w ds (l.map a.eval)
 | [],xs,ds,h,h' =>by
  have:=mapM_nil _ _ h; subst this;simp only [tF,aa]at h'; subst h';simp [bu]
 | x::l,xs,ds,h,h' =>by
  obtain⟨y,t,h1,h2,rfl⟩:=mapM_cons _ _ _ _ h;simp only [tF]at h';split at h'
  ·rename_i d hd;split at h'
   ·rename_i r hr;simp only [aa]at h'; subst h';simp only [bT,bu];exact⟨_,_,rfl,bc h1 he hg hd,EJ he hg l t r h2 hr⟩
   ·cases h'
  ·cases h'
theorem Bz (he:dW ρ w lo env a.tmps)(hg:gn pn G ρ w){l:Array Operand}{xs:List bO}{ds:List D}(h:rW G l=some xs) (h' :tF env xs=some ds):bu ρ w ds (l.map a.eval).toList:=by
 have:=EJ he hg l.toList xs ds h h';simpa using this
end Go.Ab
