/- Part. -/
import Derived.Test.YtmcdajnpdekocaaGreatDoorG02
import Derived.Deep.MidRow
set_option linter.unusedSectionVars false
set_option linter.unusedSimpArgs false
set_option linter.unusedVariables false
namespace Go.Ab
open Go
variable [Vals]
variable {ρ:Gh}{w:World}
theorem RepL.length:∀ {l:List D} {vs:List Value},RepL ρ w l vs→l.length=vs.length
 | [],_,h=>by simp only [RepL]at h; subst h; rfl
 | d::l,_,h=>by
  simp only [RepL]at h
  obtain⟨v,r,rfl,_,h2⟩:=h
  simp [RepL.length h2]
theorem RepL.append:∀ {l l' :List D} {vs vs' :List Value},RepL ρ w l vs→RepL ρ w l' vs' →RepL ρ w (l++l') (vs++vs')
 | [],_,_,_,h,h' =>by simp only [RepL]at h; subst h; simpa using h'
 | d::l,_,_,_,h,h' =>by
  simp only [RepL]at h
  obtain⟨v,r,rfl,h1,h2⟩:=h
  simp only [List.cons_append,RepL]
  exact⟨v,_,rfl,h1,RepL.append h2 h'⟩
theorem RepL.take:∀ {l:List D} {vs:List Value} (n:Nat),RepL ρ w l vs→RepL ρ w (l.take n) (vs.take n)
 | [],_,n,h=>by simp only [RepL]at h; subst h; simp [RepL]
 | d::l,_,0,h=>by simp [RepL]
 | d::l,_,n+1,h=>by
  simp only [RepL]at h
  obtain⟨v,r,rfl,h1,h2⟩:=h
  simp only [List.take_succ_cons,RepL]
  exact⟨v,_,rfl,h1,RepL.take n h2⟩
theorem RepL.drop:∀ {l:List D} {vs:List Value} (n:Nat),RepL ρ w l vs→RepL ρ w (l.drop n) (vs.drop n)
 | [],_,n,h=>by simp only [RepL]at h; subst h; simp [RepL]
 | d::l,_,0,h=>by simpa using h
 | d::l,_,n+1,h=>by
  simp only [RepL]at h
  obtain⟨v,r,rfl,h1,h2⟩:=h
  simpa using RepL.drop n h2
theorem RepL.get:∀ {l:List D} {vs:List Value} {i:Nat} {d:D},RepL ρ w l vs→l[i]? =some d→∃v,vs[i]? =some v∧Rep ρ w d v
 | [],_,i,d,h,hi=>by simp at hi
 | x::l,_,0,d,h,hi=>by
  simp only [RepL]at h
  obtain⟨v,r,rfl,h1,h2⟩:=h
  simp at hi; subst hi
  exact⟨v,by simp,h1⟩
 | x::l,_,i+1,d,h,hi=>by
  simp only [RepL]at h
  obtain⟨v,r,rfl,h1,h2⟩:=h
  simp at hi
  simpa using RepL.get h2 hi
theorem RepL.one {d:D}{v:Value}(h:Rep ρ w d v):RepL ρ w [d] [v]:=by simp only [RepL]; exact ⟨v,[],rfl,h,rfl⟩
theorem RepL.replicate {d:D}{v:Value}(h:Rep ρ w d v):∀n,RepL ρ w (List.replicate n d) (List.replicate n v)
 | 0=>by simp [RepL]
 | n+1=>by
  simp only [List.replicate_succ,RepL]
  exact⟨v,_,rfl,h,RepL.replicate h n⟩
theorem Gh.at_any {ρ:Gh}{o:Nat}{dd:Prop}{Q:Nat→Nat→Prop}(h:ρ.at o dd Q)(hq:∀sz b,Q sz b→dd):dd:=by
 unfold Gh.at at h
 split at h
 ·exact h.elim
 ·exact h
 ·obtain⟨b,_,h2⟩:=h; exact hq _ b h2
theorem Rep.sc {d:D}{v:Value}(h:Rep ρ w d v)(hs:d.sc=true):v.oneCell' =true∧v.cells= #[v]:=by
 cases d <;> simp only [D.sc]at hs <;> (try cases hs) <;> simp only [Rep]at h
 case bool=>subst h; exact ⟨rfl,rfl⟩
 case int=>subst h; exact ⟨rfl,rfl⟩
 case str=>subst h; exact ⟨rfl,rfl⟩
 case nilp=>subst h; exact ⟨rfl,rfl⟩
 case ptr o c=>obtain ⟨a,rfl⟩:=Gh.at_any h fun _ _ q=>⟨_,q⟩; exact ⟨rfl,rfl⟩
 case eptr=>obtain ⟨a,rfl⟩:=Gh.at_any h fun _ _ q=>⟨_,q.2.2.2⟩; exact ⟨rfl,rfl⟩
 case vptr=>obtain ⟨_,_,_,_,_,_,_,rfl⟩:=h; exact ⟨rfl,rfl⟩
 case vs=>rcases h with ⟨_,_,rfl⟩ | ⟨_,_,_,rfl,_⟩ <;> exact ⟨rfl,rfl⟩
 case sl=>obtain ⟨a,c,rfl⟩:=Gh.at_any h fun _ _ ⟨_,_,_,_,_,q,_⟩=>⟨_,_,q⟩; exact ⟨rfl,rfl⟩
 case nilm=>subst h; exact ⟨rfl,rfl⟩
 case mp=>obtain ⟨b,rfl⟩:=Gh.at_any h fun _ _ q=>⟨_,q⟩; exact ⟨rfl,rfl⟩
 case fn=>obtain ⟨_,_,rfl,_⟩:=h; exact ⟨rfl,rfl⟩
 case nilf=>subst h; exact ⟨rfl,rfl⟩
 case ifc=>obtain ⟨_,rfl,_⟩:=h; exact ⟨rfl,rfl⟩
 case nili=>subst h; exact ⟨rfl,rfl⟩
 case sint=>obtain ⟨rfl,_⟩:=h; exact ⟨rfl,rfl⟩
 case sstr=>obtain ⟨rfl,_⟩:=h; exact ⟨rfl,rfl⟩
 case sbool=>subst h; exact ⟨rfl,rfl⟩
 case yl=>obtain ⟨_,rfl⟩:=h; exact ⟨rfl,rfl⟩
theorem RepL.oneCell:∀ {l:List D} {vs:List Value},RepL ρ w l vs→l.all D.sc=true→∀u∈vs,u.oneCell' =true
 | [],_,h,_,u,hu=>by simp only [RepL]at h; subst h; simp at hu
 | d::l,_,h,hs,u,hu=>by
  simp only [RepL]at h
  obtain⟨v,r,rfl,h1,h2⟩:=h
  simp only [List.all_cons,Bool.and_eq_true]at hs
  rcases List.mem_cons.1 hu with rfl | hu
  ·exact (h1.sc hs.1).1
  ·exact RepL.oneCell h2 hs.2 u hu
theorem D.st_flat {d:D}(h:d.st=true):d.flat.all D.sc=true:=by
 cases d <;> simp_all [D.st,D.flat,D.sc]
theorem D.sc_st {d:D}(h:d.sc=true):d.st=true:=by
 cases d <;> simp_all [D.st,D.sc]
theorem D.st_cases {d:D}(h:d.st=true):(∃l,d= .agg l∧l.all D.sc=true)∨d.sc=true:=by
 cases d <;> simp_all [D.st,D.sc]
theorem Rep.flat {d:D}{v:Value}(h:Rep ρ w d v)(hs:d.st=true):RepL ρ w d.flat v.cells.toList∧∀u∈v.cells.toList,u.oneCell' =true:=by
 rcases D.st_cases hs with ⟨l,rfl,hl⟩ | hc
 ·simp only [Rep]at h
  obtain⟨vs,rfl,h1,_⟩:=h
  exact⟨by simpa [D.flat,Value.cells] using h1,by simpa [Value.cells] using RepL.oneCell h1 hl⟩
 ·obtain⟨h1,h2⟩:=h.sc hc
  rw [h2]
  refine⟨?_,by simpa using h1⟩
  have:d.flat=[d]:=by cases d <;> simp_all [D.flat,D.sc]
  rw [this]
  exact RepL.one h
theorem Rep.size {d:D}{v:Value}(h:Rep ρ w d v)(hs:d.st=true):v.cells.size=d.flat.length:=by
 have:=(h.flat hs).1.length
 simpa using this.symm
theorem Rep.agg {l:List D}{vs:List Value}(h:RepL ρ w l vs)(hs:l.all D.sc=true):Rep ρ w (.agg l) (.agg vs.toArray):=by
 simp only [Rep]; exact ⟨_,rfl,by simpa using h,hs⟩
theorem zGx {cs:List D}{vs:List Value}{c:Nat}{sz:Option Nat}{d:D}(h:RepL ρ w cs vs)(hs:cs.all D.sc=true)(hp:part cs c sz=some d):
  match sz with
  | some s=>c+s≤vs.length∧Rep ρ w d (.agg ((vs.drop c).take s).toArray)
  | none=>∃v,vs[c]? =some v∧Rep ρ w d v∧d.sc=true:=by
 cases sz with
 | some s=>
  simp only [part]at hp
  split at hp
  ·rename_i hb
   simp only [Option.some.injEq]at hp
   subst hp
   have hle:=Nat.le_of_ble_eq_true hb
   rw [h.length]at hle
   refine⟨hle,Rep.agg ((h.drop c).take s) ?_⟩
   exact List.all_eq_true.2 fun x hx=>(List.all_eq_true.1 hs) x (List.mem_of_mem_drop (List.mem_of_mem_take hx))
  ·cases hp
 | none=>
  simp only [part]at hp
  obtain⟨v,h1,h2⟩:=h.get hp
  exact⟨v,h1,h2,(List.all_eq_true.1 hs) d (List.mem_of_getElem? hp)⟩
theorem zCy {w:World}{b x:Nat}{v:Value}(h:CeA w b x v):w.rangeAt b x v.cells.toList:=fun j u hj=>by
 have hlt:j < v.cells.size:=by simpa using (List.getElem?_eq_some_iff.1 hj).1
 rw [h j hlt]; simpa using hj
theorem zIs {w:World}{b x:Nat}{v:Value}(h:w.rangeAt b x v.cells.toList):CeA w b x v:=fun j hj=>by
 rw [h j v.cells[j] (by simp [hj])]; simp [hj]
theorem zSs {w:World}{b x:Nat}{vs:List Value}(h:w.rangeAt b x vs)(c s:Nat):w.rangeAt b (x+c) ((vs.drop c).take s):=fun j u hj=>by
 rw [List.getElem?_take]at hj
 split at hj
 ·rw [List.getElem?_drop]at hj
  have:=h (c+j) u hj
  rwa [show x+c+j=x+(c+j) by omega]
 ·cases hj
theorem zCz {w:World}{b:Nat}{cs:Array Value}{e:TypeId}{f:Nat×Nat}(h:w.heap[b]? =some (.cells cs e f)):w.rangeAt b 0 cs.toList:=fun j u hj=>by
 have hj' :cs[j]? =some u:=by simpa using hj
 simp [World.cell?,h,hj']
theorem run_load {P:Program}{w:World}{b x c:Nat}{vs:List Value}{t:TypeId}{sz:Option Nat}(hr:w.rangeAt b x vs)(hsh:zBm P t=some sz):
  match sz with
  | some s=>c+s≤vs.length→(Instr.loadAt t (.pointer (some ⟨b,x+c,none⟩))).run P w= .ok (.agg ((vs.drop c).take s).toArray) w
  | none=>∀v,vs[c]? =some v→(Instr.loadAt t (.pointer (some ⟨b,x+c,none⟩))).run P w= .ok v w:=by
 have hi:∀s,zPo P t=some s→(P.info? t).map (·.size)=some s:=fun s h=>h
 cases hu:P.underlying t with
 | none=>simp [zBm,zFb,hu]at hsh
 | some d=>
  cases hz:zPo P t with
  | none=>simp [zBm,hz]at hsh
  | some s=>
   by_cases hd:d.isRow=true
   ·have ha:zFb P t=some true:=by cases d <;> simp_all [zFb,TypeDesc.isRow]
    simp only [zBm,ha,hz,Option.some.injEq]at hsh
    subst hsh
    intro hle
    have hlen:((vs.drop c).take s).length=s:=by simp; omega
    exact run_loadAt_mid w b (x+c) t _ d (zSs hr c s) hu hd (by rw [hlen]; exact hi s hz)
   ·have ha:zFb P t=some false:=by cases d <;> simp_all [zFb,TypeDesc.isRow]
    have h1:sz=none:=by
     simp only [zBm,ha,hz]at hsh
     split at hsh
     ·simp_all
     ·simpa using hsh.symm
     ·cases hsh
    subst h1
    intro v hv
    have hd:d.isRow=false:=by simpa using hd
    have hagg:(isAgg t).run P w= .ok false w:=by
     unfold isAgg
     rw [Sem.run_bind,run_underlying hu w]
     cases d <;> simp_all [TypeDesc.isRow]
    have hc:=hr c v hv
    simp [Instr.loadAt,Instr.sureAddr,loadVar,hagg,hc]
end Go.Ab
namespace Go.Ab
open Go
variable [Vals]
variable {ρ:Gh}{w:World}{P:Program}{G:Gl}{X:Exts}{A:Adv}
structure Pins where
 J:Gh→World→Prop
 mono:∀ {ρ ρ' :Gh} {w w' :World},Kp ρ w ρ' w' →J ρ w→J ρ' w'
def Pins.none:Pins:=⟨fun _ _=>True,fun _ _=>trivial⟩
def PinOk (k l:Nat)(r:Go.Loop)(e:Env)(ρ:Gh)(w:World):Prop:=ρ.kd k= .dead∧ρ.lp k=(l,r)∧∀t d,e.get t=some d→∃v,r.tmps[t]? =some v∧Rep ρ w d v
theorem PinOk.mono {k l:Nat}{r:Go.Loop}{e:Env} {ρ ρ' :Gh} {w w' :World}(h:Kp ρ w ρ' w')(p:PinOk k l r e ρ w):PinOk k l r e ρ' w' :=by
 obtain⟨k1,k2,k3⟩:=p
 refine⟨(h.dead _ k1).1,(h.dead _ k1).2.trans k2,fun t d hd=> ?_⟩
 obtain⟨v,h1,h2⟩:=k3 t d hd
 exact⟨v,h1,h2.mono h⟩
def Pins.loop (J:Pins)(k l:Nat)(r:Go.Loop)(e:Env):Pins:=⟨fun ρ w=>PinOk k l r e ρ w∧J.J ρ w,fun h p=>⟨p.1.mono h,J.mono h p.2⟩⟩
def GlOk (pn:Pins)(G:Gl)(ρ:Gh)(w:World):Prop:=(∀g d,G g=some d→Rep ρ w (.vptr d 0) (.pointer (some ⟨g,0,none⟩)))∧pn.J ρ w
variable {pn:Pins}
theorem GlOk.mono {ρ' :Gh} {w' :World}(h:Kp ρ w ρ' w')(g:GlOk pn G ρ w):GlOk pn G ρ' w' :=⟨fun x d hx=>(g.1 x d hx).mono h,pn.mono h g.2⟩
mutual
theorem zCg:∀(v:Value) (d:D),ofV v=some d→Rep ρ w d v
 | .bool b,d,h=>by simp only [ofV,Option.some.injEq]at h; subst h; simp [Rep]
 | .int k n,d,h=>by simp only [ofV,Option.some.injEq]at h; subst h; simp [Rep]
 | .string s,d,h=>by simp only [ofV,Option.some.injEq]at h; subst h; simp [Rep]
 | .pointer none,d,h=>by simp only [ofV,Option.some.injEq]at h; subst h; simp [Rep]
 | .pointer (some _),d,h=>by simp [ofV]at h
 | .slice none 0 0,d,h=>by simp only [ofV,Option.some.injEq]at h; subst h; simp [Rep]
 | .slice (some _) _ _,d,h=>by simp [ofV]at h
 | .slice none (_+1) _,d,h=>by simp [ofV]at h
 | .slice none 0 (_+1),d,h=>by simp [ofV]at h
 | .map none,d,h=>by simp only [ofV,Option.some.injEq]at h; subst h; simp [Rep]
 | .map (some _),d,h=>by simp [ofV]at h
 | .func f a b,d,h=>by
  simp only [ofV]at h
  split at h
  ·rename_i x y hx hy
   simp only [Option.some.injEq]at h; subst h
   simp only [Rep]
   exact⟨a,b,rfl,zGy a.toList x hx,zGy b.toList y hy⟩
  ·cases h
 | .nilFunc,d,h=>by simp only [ofV,Option.some.injEq]at h; subst h; simp [Rep]
 | .nilIface,d,h=>by simp only [ofV,Option.some.injEq]at h; subst h; simp [Rep]
 | .iface t v,d,h=>by
  simp only [ofV]at h
  split at h
  ·rename_i x hx
   simp only [Option.some.injEq]at h; subst h
   simp only [Rep]
   exact⟨v,rfl,zCg v x hx⟩
  ·cases h
 | .agg cs,d,h=>by
  simp only [ofV]at h
  split at h
  ·rename_i l hl
   split at h
   ·rename_i hs
    simp only [Option.some.injEq]at h; subst h
    simp only [Rep]
    exact⟨cs,rfl,zGy cs.toList l hl,hs⟩
   ·cases h
  ·cases h
 | .tuple cs,d,h=>by
  simp only [ofV]at h
  split at h
  ·rename_i l hl
   simp only [Option.some.injEq]at h; subst h
   simp only [Rep]
   exact⟨cs,rfl,zGy cs.toList l hl⟩
  ·cases h
 | .float _ _,d,h=>by simp [ofV]at h
 | .complex _ _ _,d,h=>by simp [ofV]at h
 | .chan _,d,h=>by simp [ofV]at h
theorem zGy:∀(vs:List Value) (l:List D),ofVs vs=some l→RepL ρ w l vs
 | [],l,h=>by simp only [ofVs,Option.some.injEq]at h; subst h; simp [RepL]
 | v::r,l,h=>by
  simp only [ofVs]at h
  split at h
  ·rename_i d t hd ht
   simp only [Option.some.injEq]at h; subst h
   simp only [RepL]
   exact⟨v,r,rfl,zCg v d hd,zGy r t ht⟩
  ·cases h
end
variable {lo:Nat}{env:Env}{a:Act}
theorem zNr {t:Nat}{v:Value}(h:a.tmps[t]? =some v):a.eval (.tmp t)=v:=by
 simp [Act.eval,h]
theorem opR {x' :Operand}{x:Opd}{d:D}(hx:opd G x' =some x)(he:EnR ρ w lo env a.tmps)(hg:GlOk pn G ρ w)(h:x.ev env=some d):Rep ρ w d (a.eval x'):=by
 cases x' with
 | tmp t=>
  simp only [opd,Option.some.injEq]at hx; subst hx
  simp only [Opd.ev]at h
  split at h
  ·cases h
  ·cases h
  ·rename_i r h1 h2
   have hs:=he.slot t d h
   cases d with
   | lv _=>exact absurd h (h1 _)
   | lptr _ _=>exact absurd h (h2 _ _)
   | _=>
    simp only [SlR]at hs
    obtain⟨v,hv,hr⟩:=hs
    rw [zNr hv]; exact hr
 | const v=>
  simp only [opd,Option.map_eq_some_iff]at hx
  obtain⟨d',h1,rfl⟩:=hx
  simp only [Opd.ev,Option.some.injEq]at h; subst h
  exact zCg v _ h1
 | global g=>
  simp only [opd,Option.map_eq_some_iff]at hx
  obtain⟨d',h1,rfl⟩:=hx
  simp only [Opd.ev,Option.some.injEq]at h; subst h
  exact hg.1 g d' h1
 | func f=>
  simp only [opd,Option.some.injEq]at hx; subst hx
  simp only [Opd.ev,Option.some.injEq]at h; subst h
  simp only [Rep,Act.eval]
  exact⟨#[], #[],rfl,by simp [RepL],by simp [RepL]⟩
def zBc (ρ:Gh)(w:World)(env:Env)(tmps:Array Value)(d:D)(v:Value):Prop:=
 match d with
 | .lptr a c=>∀x,env.get a=some (.lv x)→∃b,tmps[a]? =some (.pointer (some ⟨b,0,none⟩))∧v= .pointer (some ⟨b,c,none⟩)
 | .lv _=>False
 | d=>Rep ρ w d v
theorem zBc.of_rep {tmps:Array Value}{d:D}{v:Value}(h:Rep ρ w d v):zBc ρ w env tmps d v:=by
 cases d <;> first | exact h | (simp only [Rep]at h)
theorem zCw {x' :Operand}{x:Opd}{d:D}(hx:opd G x' =some x)(he:EnR ρ w lo env a.tmps)(hg:GlOk pn G ρ w)(h:x.evp env=some d):zBc ρ w env a.tmps d (a.eval x'):=by
 by_cases h' :x.ev env=some d
 ·exact .of_rep (opR hx he hg h')
 ·cases x' with
  | tmp t=>
   simp only [opd,Option.some.injEq]at hx; subst hx
   simp only [Opd.evp]at h
   cases hd:env.get t with
   | none=>simp [hd]at h
   | some e=>
    have hs:=he.slot t e hd
    cases e <;> simp only [hd,Option.some.injEq]at h <;> subst h <;> (try (simp [Opd.ev,hd]at h'))
    case lv y=>
     simp only [SlR]at hs
     obtain⟨b,v,el,h1,_⟩:=hs
     simp only [zBc]
     exact fun _ _=>⟨b,h1,zNr h1⟩
    case lptr u c=>
     simp only [SlR]at hs
     simp only [zBc]
     intro y hy
     obtain⟨b,h1,h2⟩:=hs y hy
     exact⟨b,h1,zNr h2⟩
  | const v=>
   simp only [opd,Option.map_eq_some_iff]at hx
   obtain⟨d',h1,rfl⟩:=hx
   exact absurd h (by simpa [Opd.ev,Opd.evp] using h')
  | global g=>
   simp only [opd,Option.map_eq_some_iff]at hx
   obtain⟨d',h1,rfl⟩:=hx
   exact absurd h (by simpa [Opd.ev,Opd.evp] using h')
  | func f=>
   simp only [opd,Option.some.injEq]at hx; subst hx
   exact absurd h (by simpa [Opd.ev,Opd.evp] using h')
theorem mapM_cons {α β:Type}(f:α→Option β)(x:α)(l:List α)(r:List β):(x::l).mapM f=some r→∃y t,f x=some y∧l.mapM f=some t∧r=y::t:=by
 intro h
 simp only [List.mapM_cons,Option.bind_eq_bind,Option.bind_eq_some_iff,Option.pure_def,Option.some.injEq]at h
 obtain⟨y,h1,t,h2,h3⟩:=h
 exact⟨y,t,h1,h2,h3.symm⟩
theorem mapM_nil {α β:Type}(f:α→Option β)(r:List β):([]:List α).mapM f=some r→r=[]:=by
 intro h; simpa using h.symm
theorem zVt (he:EnR ρ w lo env a.tmps)(hg:GlOk pn G ρ w):∀(l:List Operand) (xs:List Opd) (ds:List D),l.mapM (opd G)=some xs→evs env xs=some ds→RepL ρ w ds (l.map a.eval)
 | [],xs,ds,h,h' =>by
  have:=mapM_nil _ _ h; subst this
  simp only [evs,Option.some.injEq]at h'; subst h'
  simp [RepL]
 | x::l,xs,ds,h,h' =>by
  obtain⟨y,t,h1,h2,rfl⟩:=mapM_cons _ _ _ _ h
  simp only [evs]at h'
  split at h'
  ·rename_i d hd
   split at h'
   ·rename_i r hr
    simp only [Option.some.injEq]at h'; subst h'
    simp only [List.map_cons,RepL]
    exact⟨_,_,rfl,opR h1 he hg hd,zVt he hg l t r h2 hr⟩
   ·cases h'
  ·cases h'
theorem zRj (he:EnR ρ w lo env a.tmps)(hg:GlOk pn G ρ w){l:Array Operand}{xs:List Opd}{ds:List D}(h:opds G l=some xs) (h' :evs env xs=some ds):RepL ρ w ds (l.map a.eval).toList:=by
 have:=zVt he hg l.toList xs ds h h'
 simpa using this
end Go.Ab
