/- Part. -/
import Derived.Test.YthaiegafejbmoaaGreatDoorG06
set_option linter.unusedSectionVars false
set_option linter.unusedSimpArgs false
set_option linter.unusedVariables false
namespace Go.Ab
open Go
variable [eh]
variable {ρ ρ' :Gh} {w w' :World}{P:Program}{pn:gY}{G:Gl}{X:ig}{A:mT} {s s' :St}{env:Env}{a:Act}{lo:Nat}{d:D}{C:au}{al:Option Nat}
theorem eP.val {v:Value}{tmps:Array Value}(hK:Kp ρ w ρ' w')(hS:bK ρ' s' w')(hR:aR ρ' w' d v):eP P ρ w env tmps d s' (.ok (.value v) w'):=⟨ρ',hK,hS,.zC hR⟩
def Gh.grow (ρ:Gh)(b ex:Nat):Gh:= { ρ with ext:=fun x=>if x=b then ex else ρ.ext x}
theorem Gh.JT (ρ:Gh)(b:Nat):ρ.grow b (ρ.ext b)=ρ:=by
 unfold Gh.grow;have:(fun x=>if x=b then ρ.ext b else ρ.ext x)=ρ.ext:=by funext x; split <;> simp_all
 rw [this]
theorem QT (hs:bK ρ s w){o b:Nat}{x:Obj}(iB:s.set o x=some s')(hb:ρ.own b= .obj o)(eW:o < s.n)(hh:∀b',b' ≠b->w'.heap[b']? =w.heap[b']?)(fQ:w'.heap.size=w.heap.size)
  (ho:w'.os=w.os)(ht:w'.tape=w.tape)(hu:w'.output=w.output){ex:Nat}(hex:ρ.ext b<=ex)(hx:Kp ρ w (ρ.grow b ex) w' ->oC (ρ.grow b ex) w' o x):
  Kp ρ w (ρ.grow b ex) w' /\bK (ρ.grow b ex) s' w' :=by
 have hK:Kp ρ w (ρ.grow b ex) w' :=by
  refine⟨ho,ht,hu,by omega,fun b' _ hn=>⟨hh b' (fun e=>hn o (e ▸ hb)),rfl⟩,fun _ h=>⟨h,rfl⟩,fun o' z h=> .inr ⟨h,fun b' iS =>⟨iS,rfl, ?_,rfl⟩⟩⟩;simp only [Gh.grow]; split
  ·rename_i e; rw [e]; exact hex
  ·exact aq _
 have:=St.qf iB; subst this;refine⟨hK,hs.QM hK o x (fun _ _ _ _=>kN) (fun _ _=>rfl) (fun b' o' dn _ iS => ?_) (hx hK) (fun b' h=>hs.size b' (by omega)) eW (aq _) (St.eS s o x)⟩;have tJ :b' ≠b:=fun e=>by rw [e,hb]at iS; simp at iS; exact dn iS.symm
 exact⟨hh b' tJ,rfl,by simp [Gh.grow,tJ],rfl⟩
theorem sP (hs:bK ρ s w){o b:Nat}{x:Obj}(iB:s.set o x=some s')(hb:ρ.own b= .obj o)(eW:o < s.n)(hh:∀b',b' ≠b->w'.heap[b']? =w.heap[b']?)(fQ:w'.heap.size=w.heap.size)
  (ho:w'.os=w.os)(ht:w'.tape=w.tape)(hu:w'.output=w.output)(hx:Kp ρ w ρ w' ->oC ρ w' o x):Kp ρ w ρ w' /\bK ρ s' w' :=by
 have:=QT (ex:=ρ.ext b) hs iB hb eW hh fQ ho ht hu (aq _);rw [Gh.JT]at this;exact this hx
theorem wY {b b' :Nat}{ob:Go.Obj}(h:b' ≠b):({ w with heap:=w.heap.setIfInBounds b ob}:World).heap[b']? =w.heap[b']? :=by
 show (w.heap.setIfInBounds b ob)[b']? =_;rw [dE,aI (fun e=>h e.symm)]
theorem wX {b:Nat}{ob:Go.Obj}(h:b < w.heap.size):({ w with heap:=w.heap.setIfInBounds b ob}:World).heap[b]? =some ob:=by
 show (w.heap.setIfInBounds b ob)[b]? =_;rw [dE,bQ rfl,bQ h]
theorem xL {b:Nat}{ob:Go.Obj}(h:w.heap[b]? =some ob):b < w.heap.size:=by
 rcases aP b w.heap.size with hb | hb
 ·exact hb
 ·simp [cq hb]at h
section
variable (he:dW ρ w lo env a.tmps)(hg:gn pn G ρ w)(hs:bK ρ s w)
include he hg hs
theorem KF {t q e:TypeId}{et:ET}{z:D}{ok:Bool} {m' k' :Operand}{m k:bO}(hm:ew G m' =some m)(hk:ew G k' =some k)(hu:P.underlying t=some (.map q e))(het:sR P 8 q=some et)(hz:jA P e=some z)
  (h:cg C env s al (.lookup et z ok m k)=some (d,s')){o:Oper}(ho:o.op= .lookup t m' k' ok):eP P ρ w env a.tmps d s' ((execOp a.eval o).run P w):=by
 simp only [cg]at h;split at h
 ·rename_i mm kk Sy Am;split at h
  ·cases h
  ·rename_i kM;have hv:=bc hm he hg Sy;have yU:=bc hk he hg Am;have FN:∀em,(Instr.checkKey em 10000 q (a.eval k')).run P w= .ok () w:=fun em=>pe em 8 q et het 10000 (by decide) kk _ kM yU;obtain⟨zv,z1,z2,z3⟩:=ki (w:=w) hz;have Aq:=jY (ρ:=ρ) (w:=w) zv z z2
   have key:∀es (ces:Array MapEntry) r,fv ρ w es ces.toList->Ab.findKey et kk es 0=some r->
     ((a.eval m' = .map none/\ces= #[])\/∃b c,a.eval m' = .map (some b)/\w.heap[b]? =some (.map ces c))->
     eP P ρ w env a.tmps (match r with | some (_,v)=>EC ok v true | none=>EC ok z false) s ((execOp a.eval o).run P w):=by
    intro es ces r hM hf hc;obtain⟨r',g1,g2⟩:=kT (P:=P) het yU hM hf;have fin:∀u,(Instr.lookup t (a.eval m') (a.eval k') ok).run P w= .ok u w->(execOp a.eval o).run P w= .ok (.value u) w:=by
     intro u O0;simp only [execOp,ho]; rw [Sem.run_bind,O0]; rfl
    have vm:(Instr.lookup t (a.eval m') (a.eval k') ok).run P w= .ok (match r' with | some (_,v)=>(if ok then .tuple #[v,.bool true] else v) | none=>(if ok then .tuple #[zv,.bool false] else zv)) w:=by
     unfold Instr.lookup;rw [Sem.run_bind,run_underlying hu];rcases hc with ⟨hc,rfl⟩ | ⟨b,c,hc,hb⟩
     ·simp only [hc];have g1:(Instr.findKey q (a.eval k') []).run P w= .ok r' w:=g1;cases r' <;> cases ok <;> simp [FN,g1,z1]
     ·simp only [hc];cases r' <;> cases ok <;> simp [FN,g1,z1,getObj,Sem.run,hb]
    cases r with
    | none=>
     simp only [Found]at g2; subst g2;simp only at vm;rw [fin _ vm];cases ok
     ·exact .rep hs Aq
     ·refine .rep hs ?_;simp [EC,aR,bu,Aq]
    | some p=>
     obtain⟨i,dv⟩:=p;obtain⟨v,rfl,g3⟩:=g2;simp only at vm;rw [fin _ vm];cases ok
     ·exact .rep hs g3
     ·refine .rep hs ?_;simp [EC,aR,bu,g3]
   cases mm <;> simp only at h <;> (try (cases h; done))
   case qD=>
    simp only [aa,ab]at h;obtain⟨rfl,rfl⟩:=h;simp only [aR]at hv;exact key [] #[] none (by simp [fv]) (by simp [Ab.findKey]) (.inl ⟨hv,rfl⟩)
   case mp ob=>
    split at h
    ·rename_i es c hx;obtain⟨b,ces,k1,one,hb,hM⟩:=hs.ok _ _ hx;simp only [aR,Gh.at,k1]at hv;obtain⟨b',iS,hv⟩:=hv;obtain rfl:=one.2 _ iS;split at h
     ·rename_i i v hf;simp only [aa,ab]at h;obtain⟨rfl,rfl⟩:=h;exact key es ces (some (i,v)) hM hf (.inr ⟨b',c,hv,hb⟩)
     ·rename_i hf;simp only [aa,ab]at h;obtain⟨rfl,rfl⟩:=h;exact key es ces none hM hf (.inr ⟨b',c,hv,hb⟩)
     ·cases h
    ·cases h
 ·cases h
omit he hg hs in
theorem Sa {z:D}(h:z.flat.all D.sc=true):z.st=true:=by
 cases z <;> simp_all [D.flat,D.st,D.sc]
omit he hg hs in
theorem qG {place:Nat->Option (Nat×Nat)}{F:Nat×Operand->Option (Nat×Nat×bO)}(hF:∀i x p,F (i,x)=some p->place i=some (p.1,p.2.1)/\ew G x=some p.2.2):
  ∀(l:List (Nat×Operand)) (r:List (Nat×Nat×bO)),l.mapM F=some r->uc G place l r
 | [],r,h=>by simp at h; subst h; trivial
 | (i,x)::l,r,h=>by
  simp only [jh,aL,aE,ae]at h;obtain⟨p,h1,q,h2,h3⟩:=h;simp only [aa]at h3; subst h3;obtain⟨g1,g2⟩:=hF i x p h1;exact⟨g1,g2,qG hF l q h2⟩
theorem ED {t:TypeId}{zt:D} {ps' :Array (Nat×Operand)}{ps:List (Nat×Nat×bO)}{place:Nat->Option (Nat×Nat)}(hz:jA P t=some zt)
  (hb:∀zv vs r,(P.info? t).bind (·.zero)=some zv->Instr.fill place zv.cells vs=some r->P.built t vs=some r)(hp:uc G place ps'.toList ps)
  (h:cg C env s al (.build zt.flat ps)=some (d,s')){o:Oper}(ho:o.op= .build t ps'):eP P ρ w env a.tmps d s' ((execOp a.eval o).run P w):=by
 simp only [cg]at h;split at h
 ·rename_i l hl J4;split at h
  ·rename_i cs qW;simp only [aa,ab]at h;obtain⟨rfl,rfl⟩:=h;obtain⟨zv,z1,z2,z3⟩:=ki (w:=w) hz;have Aq:=jY (ρ:=ρ) (w:=w) zv zt z2;obtain⟨vs',g1,g2,g3⟩:=HY he hg _ _ l zt.flat zv.cells cs hp hl (Aq.flat (Sa J4)).1 J4 qW;have hr:(execOp a.eval o).run P w= .ok (.value (.agg vs')) w:=by
    simp only [execOp,ho]
    rw [Sem.run_bind,run_build w t _ vs' (by
     rw [jf];exact hb zv _ vs' z3 g1)]
    rfl
   rw [hr];exact .rep hs (by simp only [aR]; exact ⟨vs',rfl,g2,g3⟩)
  ·cases h
 ·cases h
end
theorem zF {e e' v:D}{u x:Value}{c:Nat}(he:aR ρ w e u)(cG:e.st=true)(hv:aR ρ w v x)(h:e.over c v=some e'):
  ∃u',aR ρ w e' u' /\e'.st=true/\u'.cells.toList=over u.cells.toList c x.cells.toList/\c+x.cells.size<=u.cells.size/\v.st=true:=by
 unfold D.over at h;split at h
 ·cases h
 ·rename_i J6;have hf:=hv.flat J6;have hxs:=hv.size J6;split at h
  ·rename_i cs;split at h
   ·rename_i hle;simp only [aa]at h; subst h;have hle:=az hle;simp only [aR]at he;obtain⟨vs,rfl,h1,h2⟩:=he;have hl:=h1.length;simp only [eO]at hl;refine⟨.agg (over vs.toList c x.cells.toList).toArray, ?_, ?_,by simp [Value.cells],(by show c+x.cells.size<=vs.size; omega),J6⟩
    ·simp only [aR];exact⟨_,rfl,by simpa using h1.over hf.1 (by omega),CH h2 (D.mH J6) (by omega)⟩
    ·simp only [D.st]; exact CH h2 (D.mH J6) (by omega)
   ·cases h
  ·rename_i hna;split at h
   ·rename_i h0 J4;simp only [aa]at h; subst h;obtain rfl:=ay h0;have abo:e.sc=true:=by
     rcases D.Fk cG with ⟨l,rfl,_⟩ | h
     ·exact absurd rfl (hna _)
     ·exact h
    have c1:=(he.sc abo).2;have c2:=(hv.sc J4).2;exact⟨x,hv,D.Vc J4,by rw [c1,c2]; simp [over],by rw [c1,c2]; simp,J6⟩
   ·cases h
theorem iZ {b:Nat}:∀(us:List Value) (c:Nat) (w:World) (cs:Array Value) (e:TypeId) (f:Nat×Nat),w.heap[b]? =some (.cells cs e f)->c+us.length<=cs.size->
  (∃cs' :Array Value,(w.setCells b c us).heap[b]? =some (.cells cs' e f)/\cs'.toList=over cs.toList c us)/\(∀b',b' ≠b->(w.setCells b c us).heap[b']? =w.heap[b']?)/\(w.setCells b c us).heap.size=w.heap.size/\
  (w.setCells b c us).os=w.os/\(w.setCells b c us).tape=w.tape/\(w.setCells b c us).output=w.output
 | [],c,w,cs,e,f,h,_=>⟨⟨cs,h,by rw [mP]⟩,fun _ _=>rfl,rfl,rfl,rfl,rfl⟩
 | u::us,c,w,cs,e,f,h,hle=>by
  simp only [aT]at hle;have eW:=xL h;have h1:(w.setCell ⟨b,c,none⟩ u).heap[b]? =some (.cells (cs.setIfInBounds c u) e f):=by
   simp [World.setCell,lY,h]
  have h2:∀b',b' ≠b->(w.setCell ⟨b,c,none⟩ u).heap[b']? =w.heap[b']? :=by
   intro b' dn;simp [World.setCell,lY];exact fun e=>absurd e.symm dn
  obtain⟨⟨cs',g1,g2⟩,g3,g4,g5,g6,g7⟩:=iZ us (c+1) (w.setCell ⟨b,c,none⟩ u) _ e f h1 (by simp; omega);refine⟨⟨cs',g1, ?_⟩,fun b' dn=>(g3 b' dn).trans (h2 b' dn),g4.trans (by simp [World.setCell]),g5,g6,g7⟩;rw [g2,sK _ _ _ _ (by simp; omega)];simp
theorem qa {α:Type}:∀(l:List α) (n:Nat) (v:List α) (k:Nat),n+v.length<=l.length->(over l n v)[k]? =if n<=k/\k < n+v.length then v[k - n]? else l[k]? :=by
 intro l n v k h;rw [nO _ _ _ (by omega),fS];rcases aP k n with hk | hk
 ·rw [aK (by simp; omega),aI (by omega),da,bQ hk]
 ·rw [aF (by simp; omega)];simp only [dB];rw [show min n l.length=n by omega];rcases aP k (n+v.length) with h2 | h2
  ·rw [aK (by omega),bQ ⟨hk,h2⟩]
  ·rw [aF (by omega),aI (by omega),cS]
   congr 1; omega
theorem gL {sz:Nat}:∀ {l:List D},eC sz l=true↔∀d∈l,d.flat.length=sz/\d.st=true
 | []=>by simp [eC]
 | d::l=>by
  simp only [eC,aB,aN,gL (l:=l)];constructor
  ·rintro⟨⟨h1,h2⟩,h3⟩ x (rfl | hx)
   ·exact⟨ay h1,h2⟩
   ·exact h3 x hx
  ·intro h;refine⟨⟨?_,(h d (.inl rfl)).2⟩,fun x hx=>h x (.inr hx)⟩;rw [(h d (.inl rfl)).1]; exact aA _
theorem Gb {sz:Nat} {l l' :List D}(h:eC sz l=true) (h' :eC sz l' =true){n:Nat}(hn:n<=l.length):eC sz (over l n l')=true:=by
 rw [gL]at *;intro d hd;rw [nO _ _ _ hn,cN,cN]at hd;rcases hd with (hd | hd) | hd
 ·exact h d (fG hd)
 ·exact h' d hd
 ·exact h d (mJ hd)
theorem dX {b j:Nat}{cs:Array Value}{e:TypeId}{f:Nat×Nat}(h:w.heap[b]? =some (.cells cs e f)):w.cell? ⟨b,j,none⟩=cs[j]? :=by
 simp [World.cell?,h]
theorem rr (hs:bK ρ s w){o b z st i e:Nat}{es l:List D}{vs:List Value} {cs cs' :Array Value}{f:Nat×Nat}(lD:s.get o=some (.arr z e es st))(hb:ρ.own b= .obj o)(hex:ρ.ext b=es.length)(hi:ρ.sh b<=i)
  (hl:fT ρ w z l vs)(hle:i+l.length<=es.length)(qW:w.heap[b]? =some (.cells cs e f)) (yQ :w'.heap[b]? =some (.cells cs' e f))(GJ:cs'.toList=over cs.toList ((i - ρ.sh b) * z) vs)
  (hh:∀b',b' ≠b->w'.heap[b']? =w.heap[b']?)(fQ:w'.heap.size=w.heap.size)(ho:w'.os=w.os)(ht:w'.tape=w.tape)(hu:w'.output=w.output)(iB:s.set o (.arr z e (over es i l) es.length)=some s'):
  Kp ρ w ρ w' /\bK ρ s' w' :=by
 obtain⟨z0,k1,kV,⟨cur,c1,c2,c3⟩,xK,fN⟩:=hs.ok _ _ lD;have hB:=xK b hb;have Lp:=hl.length;have pq:=hB.room
 have pI:∀j,j < ρ.cap b * z->j < cs.size:=fun j hj=>by
  have:=(hB.cells j hj).1;rw [dX qW]at this;rcases aP j cs.size with h | h
  ·exact h
  ·simp [cq h]at this
 have Ox:ρ.cap b * z<=cs.size:=by
  rcases eV (ρ.cap b * z) with h | h
  ·omega
  ·have:=pI (ρ.cap b * z - 1) (by omega); omega
 have qY:(i - ρ.sh b) * z+vs.length<=ρ.cap b * z:=by
  rw [Lp,← Nat.add_mul]; exact cX _ (by omega)
 have hlen:(over es i l).length=es.length:=jz _ _ _ hle;have OX:cs'.size=cs.size:=by
  have:=congrArg List.length GJ;rw [jz _ _ _ (by simp; omega)]at this;simpa using this
 have jn:∀j,cs'[j]? =if (i - ρ.sh b) * z<=j/\j < (i - ρ.sh b) * z+vs.length then vs[j - (i - ρ.sh b) * z]? else cs[j]? :=fun j=>by
  have:=qa cs.toList ((i - ρ.sh b) * z) vs j (by simp; omega);rw [← GJ]at this;simpa using this
 refine sP hs iB hb (hs.lt _ _ lD) hh fQ ho ht hu fun hK=>⟨z0,k1,by rw [hlen]; exact aq _,⟨cur,c1,by rw [hlen]; exact c2,fun b' h1 h2=>c3 b' h1 (by rw [← hlen]; exact h2)⟩,fun b' iS => ?_,Gb fN hl.eC (by omega)⟩;by_cases lh:b' =b
 ·subst lh;refine⟨by rw [hlen]; exact hB.ext,hB.sh,hB.room,fun j hj=> ?_,⟨_,_,yQ⟩,fun g i2 d a1 a2 a3=> ?_⟩
  ·have:=pI j hj;refine⟨by rw [dX yQ]; simp [OX,this], ?_⟩;have:=(hB.cells j hj).2;simp only [World.frozen?,qW]at this;simp only [World.frozen?,yQ];exact this
  ·rw [qa _ _ _ _ hle]at a3;split at a3
   ·rename_i acr
    have hr:w'.rangeAt b' ((i - ρ.sh b') * z) vs:=fun j u hj=>by
     have eW:j < vs.length:=(aj.1 hj).1;rw [dX yQ,jn,bQ (by omega)];rwa [Nat.add_sub_cancel_left]
    obtain⟨v,v1,v2,v3,v4⟩:=(hl.mono hK).get hr (i2 - i) d a3;refine⟨v,v1,v2, ?_⟩;rwa [← Nat.add_mul,show i - ρ.sh b' +(i2 - i)=i2 - ρ.sh b' by omega]at v3
   ·rename_i Xq;obtain⟨v,v1,v2,v3⟩:=hB.elems (by omega) i2 d a1 a2 a3;refine⟨v,v1.mono hK,v2,fun j hj=> ?_⟩;have:=v3 j hj;rw [dX qW]at this;rw [dX yQ,jn,aI,this];rcases aP i2 i with eW | vO
    ·have:(i2 - ρ.sh b' +1) * z<=(i - ρ.sh b') * z:=cX _ (by omega);rw [bJ]at this;omega
    ·have:(i - ρ.sh b' +l.length) * z<=(i2 - ρ.sh b') * z:=cX _ (by omega);rw [bJ,← Lp]at this;omega
 ·have Al :=xK b' iS;have e1:=hh b' lh;refine⟨by rw [hlen]; exact Al.ext,Al.sh,Al.room,fun j hj=> ?_,by rw [e1]; exact Al.shape,fun g i2 d a1 a2 a3=> ?_⟩
  ·rw [cell?_of_heap e1,frozen?_of_heap e1]; exact Al.cells j hj
  ·have h1:ρ.ext b' =es.length:=Nat.le_antisymm Al.ext g;exact absurd ((c3 b' iS h1).trans (c3 b hb hex).symm) lh
theorem zW {t:TypeId}{sz b c:Nat}{v:D}{x:Value}(fQ:dC P t=some sz)(hv:aR ρ w v x)(cG:v.st=true)(hl:v.flat.length=sz)(ht:w.there b c sz):
  (Instr.storeAt t (.pointer (some ⟨b,c,none⟩)) x).run P w= .ok () (w.setCells b c x.cells.toList):=by
 have hs:=hv.size cG;have h1:=run_storeCells_cells (P:=P) b c x.cells.toList 0 w (fun j hj=>by simpa using (ht j (by simp at hj; omega)).1) (fun j hj=>by simpa using (ht j (by simp at hj; omega)).2) (hv.flat cG).2;simp only [fu]at h1;have dn: ¬ (x.cells.size≠sz):=by omega
 simp [Instr.storeAt,Instr.sureAddr,storeVar,fD fQ,h1,show x.cells.size=sz by omega]
section
variable (he:dW ρ w lo env a.tmps)(hg:gn pn G ρ w)(hs:bK ρ s w)
include he hg hs
theorem PH {e:TypeId}{v:D}{x:bO}{u:Value}(hx:x.ev env=some v)(hv:aR ρ w v u)(h:cg C env s al (.box e x)=some (d,s')){o:Oper}
  (hr:(execOp a.eval o).run P w= .ok (.value (.pointer (some ⟨w.heap.size,0,none⟩))) (w.alloc (.cells u.cells e))):eP P ρ w env a.tmps d s' ((execOp a.eval o).run P w):=by
 simp only [cg,hx]at h;split at h
 ·rename_i cG;simp only [aB]at cG;split at h
  ·rename_i k s2 hm;simp only [aa,ab]at h;obtain⟨rfl,rfl⟩:=h;have hl:=az cG.2;have fQ:=hv.size cG.1;obtain⟨n1,n2,n3,n4⟩:=zy (w' :=w.alloc (.cells u.cells e)) hs hm 1 0 0 rfl rfl rfl rfl (fun hK oO hh=>⟨w.heap.size,u,by simp [Gh.new],oO,hv.mono hK,hh,by omega,cG.1⟩);rw [hr];exact .val n1 n2 (by simp only [aR,Gh.at,n4]; exact ⟨_,n3,rfl⟩)
  ·cases h
 ·cases h
theorem PN {t:TypeId}{q e:TypeId}(hu:P.underlying t=some (.map q e)) {r' :Option Operand}{r:Option bO}(hr:sT G r' =some r)(h:cg C env s al (.zr r)=some (d,s')){o:Oper}(ho:o.op= .makeMap t r'):
  eP P ρ w env a.tmps d s' ((execOp a.eval o).run P w):=by
 simp only [cg]at h;split at h
 ·rename_i lE;split at h
  ·rename_i k s2 hm;simp only [aa,ab]at h;obtain⟨rfl,rfl⟩:=h;obtain⟨n1,n2,n3,n4⟩:=zy (w' :=w.alloc (.map #[] 0)) hs hm 1 0 0 rfl rfl rfl rfl (fun hK oO hh=>⟨w.heap.size, #[],by simp [Gh.new],oO,hh,by simp [fv]⟩);have fK:(execOp a.eval o).run P w= .ok (.value (.map (some w.heap.size))) (w.alloc (.map #[] 0)):=by
    simp only [execOp,ho];cases r' with
    | none=>simp [Instr.makeMap,newObj,Sem.run]
    | some x' =>
     simp only [sT,aW]at hr;obtain⟨x,hx,rfl⟩:=hr;simp only [wT]at lE;cases SK:x.ev env with
     | none=>simp [SK]at lE
     | some dx=>
      simp only [SK]at lE;have hxr:=bc hx he hg SK;cases dx <;> simp at lE;simp only [aR]at hxr;simp [Instr.makeMap,run_underlying hu,hxr,asInt,asIntOf,newObj];rfl
   rw [fK];exact .val n1 n2 (by simp only [aR,Gh.at,n4]; exact ⟨_,n3,rfl⟩)
  ·cases h
 ·cases h
omit he hg in
theorem BV {sz:Nat}{dp v:D}{pv xv:Value}(Lj:aR ρ w dp pv)(Ig:aR ρ w v xv)(h1:jI s sz dp v=some s'):
  ∃b c,pv= .pointer (some ⟨b,c,none⟩)/\v.st=true/\v.flat.length=sz/\w.there b c sz/\Kp ρ w ρ (w.setCells b c xv.cells.toList)/\bK ρ s' (w.setCells b c xv.cells.toList):=by
 unfold jI at h1;split at h1
 ·cases h1
 ·rename_i hl;have hl:=ay hl;split at h1
  ·rename_i ob c;split at h1
   ·rename_i el e lD;split at h1
    ·rename_i e' GJ;obtain⟨b,u,k1,one,r1,r2,r3,r4⟩:=hs.ok _ _ lD;simp only [aR,Gh.at,k1]at Lj;obtain⟨b',iS,Lj⟩:=Lj;obtain rfl:=one.2 _ iS;obtain⟨u',o1,o2,o3,o4,cG⟩:=zF r1 r4 Ig GJ;have hxs:=Ig.size cG;obtain⟨⟨cs',g1,g2⟩,g3,g4,g5,g6,g7⟩:=iZ xv.cells.toList c w u.cells el (0,0) r2 (by simpa using o4)
     have hth:w.there b' c sz:=(fun j hj=>by
      have:c+j < u.cells.size:=by omega
      simp [World.cell?,World.frozen?,r2,this])
     have qW:cs' =u'.cells:=cZ (by rw [g2,o3])
     obtain⟨n1,n2⟩:=sP (w' :=w.setCells b' c xv.cells.toList) hs h1 one.1 (hs.lt _ _ lD) g3 g4 g5 g6 g7 (fun hK=>by
      refine⟨b',u',k1,one,o1.mono hK,by rw [g1,qW], ?_,o2⟩;have:u'.cells.toList.length=u.cells.toList.length:=by rw [o3,jz]; simpa using o4
      simp at this; omega)
     exact⟨b',c,Lj,cG,hl,hth,n1,n2⟩
    ·cases h1
   ·cases h1
  ·rename_i ob i c e;split at h1
   ·rename_i z ty es st lD;split at h1
    ·rename_i rH;obtain rfl:=ay rH;split at h1
     ·rename_i el Lf;split at h1
      ·rename_i el' GJ;obtain⟨z0,k1,kV,⟨cur,c1,c2,c3⟩,xK,fN⟩:=hs.ok _ _ lD;simp only [aR,Gh.at,k1]at Lj;obtain⟨b,hb,q1,q2,q3,Lj⟩:=Lj;have hB:=xK b hb;have hex:ρ.ext b=es.length:=Nat.le_antisymm hB.ext q3;obtain⟨u,u1,u2,u3⟩:=hB.elems (by omega) i el q1 (by omega) Lf;obtain⟨u',o1,o2,o3,o4,cG⟩:=zF u1 (nR fN Lf).2 Ig GJ;have hxs:=Ig.size cG;obtain⟨cs,f,l9⟩:=hB.shape;have hzb:(i - ρ.sh b+1) * z<=ρ.cap b * z:=cX _ (by have:=hB.room; omega);rw [bJ]at hzb;have hth:∀j,j < sz->(w.cell? ⟨b,(i - ρ.sh b) * z+c+j,none⟩).isSome=true/\w.frozen? ⟨b,(i - ρ.sh b) * z+c+j,none⟩=false:=fun j hj=>hB.cells _ (by omega);have acj:(i - ρ.sh b) * z+z<=cs.size:=by
        have:=(hB.cells ((i - ρ.sh b) * z+z - 1) (by omega)).1;rw [dX l9]at this;rcases aP ((i - ρ.sh b) * z+z - 1) cs.size with h | h
        ·omega
        ·simp [cq h]at this
       obtain⟨⟨cs',g1,g2⟩,g3,g4,g5,g6,g7⟩:=iZ xv.cells.toList ((i - ρ.sh b) * z+c) w cs ty f l9 (by simp; omega);have O0 :u'.cells.size=z:=by
        have:=congrArg List.length o3;rw [jz _ _ _ (by simpa using o4)]at this;simp at this; omega
       have abF:cs'.toList=over cs.toList ((i - ρ.sh b) * z) u'.cells.toList:=by
        rw [g2,o3];refine iQ fun k=> ?_;rw [qa _ _ _ _ (by simp; omega),qa _ _ _ _ (by rw [jz _ _ _ (by simpa using o4)]; simp; omega),jz _ _ _ (by simpa using o4)];simp only [eO];by_cases hk:(i - ρ.sh b) * z<=k/\k < (i - ρ.sh b) * z+u.cells.size
        ·rw [bQ hk,qa _ _ _ _ (by simpa using o4)];simp only [eO];by_cases pQ:(i - ρ.sh b) * z+c<=k/\k < (i - ρ.sh b) * z+c+xv.cells.size
         ·rw [bQ pQ,bQ (by omega)]
          congr 1; omega
         ·rw [aI pQ,aI (by omega)];have:=u3 (k - (i - ρ.sh b) * z) (by omega);rw [dX l9,show (i - ρ.sh b) * z+(k - (i - ρ.sh b) * z)=k by omega]at this;simpa using this
        ·rw [aI hk,aI (by omega)]
       have iB:s.set ob (.arr z ty (over es i [el']) es.length)=some s' :=by
        rw [← h1]; congr 2;have s9:i < es.length:=by omega
        rw [sK _ _ _ _ s9,mP]
       obtain⟨n1,n2⟩:=rr (w' :=w.setCells b ((i - ρ.sh b) * z+c) xv.cells.toList) (vs:=u'.cells.toList) (l:=[el']) hs lD hb hex q1 (fT.single o1 O0 o2) (by simp; omega) l9 g1 abF g3 g4 g5 g6 g7 iB;exact⟨b,_,Lj,cG,hl,hth,n1,n2⟩
      ·cases h1
     ·cases h1
    ·cases h1
   ·cases h1
  ·cases h1
theorem PS {t:TypeId}{sz:Nat} {p' x' :Operand}{p x:bO}(hp:ew G p' =some p)(hx:ew G x' =some x)(fQ:dC P t=some sz)
  (h:cg C env s al (.store sz p x)=some (d,s')){o:Oper}(ho:o.op= .store t p' x'):eP P ρ w env a.tmps d s' ((execOp a.eval o).run P w):=by
 simp only [cg]at h;split at h
 ·rename_i dp v hdp Xc;obtain⟨h1,rfl⟩:=gT h;have Lj:=bc hp he hg hdp;have Ig:=bc hx he hg Xc;have fin:∀w',(Instr.storeAt t (a.eval p') (a.eval x')).run P w= .ok () w' ->(execOp a.eval o).run P w= .ok .skip w' :=by
   intro w' hw;simp only [execOp,ho]; rw [Sem.run_bind,hw]; rfl
  obtain⟨b,c,e1,e2,e3,e4,n1,n2⟩:=BV hs Lj Ig h1;rw [fin _ (by rw [e1]; exact zW (P:=P) fQ Ig e2 e3 e4)];exact⟨ρ,n1,n2,rfl⟩
 ·cases h
end
end Go.Ab
namespace Go.Ab
open Go
variable [eh]
variable {ρ ρ' :Gh} {w w' :World}{P:Program}{pn:gY}{G:Gl}{X:ig}{A:mT} {s s' :St}{env:Env}{a:Act}{lo:Nat}{d:D}{C:au}{al:Option Nat}
theorem fv.modify {f:Nat×D×D->Nat×D×D} {f' :MapEntry->MapEntry}
  (hf:∀(x:Nat×D×D) (e:MapEntry),e.born=x.1->aR ρ w x.2.1 e.key->aR ρ w x.2.2 e.val->(f' e).born=(f x).1/\aR ρ w (f x).2.1 (f' e).key/\aR ρ w (f x).2.2 (f' e).val):
  ∀ {es:List (Nat×D×D)} {ces:List MapEntry} (i:Nat),fv ρ w es ces->fv ρ w (setAt es i f) (ces.modify i f')
 | [],_,i,h=>by simp only [fv]at h; subst h; simp [setAt,fv]
 | (n,k,v)::es,_,i,h=>by
  simp only [fv]at h;obtain⟨e,r,rfl,h1,h2,h3,h4⟩:=h;cases i with
  | zero=>
   obtain⟨g1,g2,g3⟩:=hf (n,k,v) e h1 h2 h3;simp only [setAt,List.modify_zero_cons];rw [show f (n,k,v)=((f (n,k,v)).1,(f (n,k,v)).2.1,(f (n,k,v)).2.2) from rfl];simp only [fv];exact⟨_,_,rfl,g1,g2,g3,h4⟩
  | succ i=>
   simp only [setAt,List.modify_succ_cons,fv];exact⟨e,_,rfl,h1,h2,h3,fv.modify hf i h4⟩
theorem fv.snoc {c:Nat}{k v:D}{e:MapEntry}(h1:e.born=c)(h2:aR ρ w k e.key)(h3:aR ρ w v e.val):∀ {es:List (Nat×D×D)} {ces:List MapEntry},fv ρ w es ces->fv ρ w (es++ [(c,k,v)]) (ces++ [e])
 | [],_,h=>by simp only [fv]at h; subst h; simp only [dF,fv]; exact ⟨e,[],rfl,h1,h2,h3,rfl⟩
 | (n,k',v')::es,_,h=>by
  simp only [fv]at h;obtain⟨e',r,rfl,g1,g2,g3,g4⟩:=h;simp only [gz,fv];exact⟨e',_,rfl,g1,g2,g3,fv.snoc h1 h2 h3 g4⟩
theorem fv.get:∀ {es:List (Nat×D×D)} {ces:List MapEntry} {i:Nat} {x:Nat×D×D},fv ρ w es ces->es[i]? =some x->∃e,ces[i]? =some e/\e.born=x.1/\aR ρ w x.2.1 e.key/\aR ρ w x.2.2 e.val
 | [],_,i,x,h,hi=>by simp at hi
 | (n,k,v)::es,_,i,x,h,hi=>by
  simp only [fv]at h;obtain⟨e,r,rfl,h1,h2,h3,h4⟩:=h;cases i with
  | zero=>simp at hi; subst hi; exact ⟨e,by simp,h1,h2,h3⟩
  | succ i=>simp at hi; simpa using fv.get h4 hi
theorem kg {b c:Nat}{ces:Array MapEntry}(hb:w.heap[b]? =some (.map ces c)):(getObj b).run P w= .ok (.map ces c) w:=by simp [getObj,Sem.run,hb]
theorem kh {b c:Nat}{ces:Array MapEntry}(ob:Go.Obj)(hb:w.heap[b]? =some (.map ces c)):(setObj b ob).run P w= .ok () { w with heap:=w.heap.setIfInBounds b ob}:=by simp [setObj,Sem.run,hb]
theorem zX {k k' :D} {u u' :Value}(h:Fc k k' =true)(h1:aR ρ w k u)(h2:aR ρ w k' u'):(Instr.keyThatStays u u').run P w= .ok u' w:=by
 have:Instr.sameBits 10000 u u' =true:=by
  unfold Fc at h;split at h
  ·simp only [aR]at h1 h2; subst h1 h2; simpa [Instr.sameBits] using h
  ·simp only [aR]at h1 h2; subst h1 h2; simpa [Instr.sameBits] using h
  ·simp only [aR]at h1 h2; subst h1 h2;simp only [gA]at h;subst h;simp only [Instr.sameBits];rw [beq_toListBytes]; simp
  ·cases h
 simp [Instr.keyThatStays,this]
theorem wV {b:Int}:∀ {es:List (Nat×D×D)} {ces:List MapEntry} {k i:Nat},fv ρ w es ces->rC b es k=some i->∃m,i=k+m/\ces.findIdx? (fun e=>(e.born:Int)==b)=some m
 | [],_,k,i,h,hf=>by simp [rC]at hf
 | (n,q,v)::es,_,k,i,h,hf=>by
  simp only [fv]at h;obtain⟨e,r,rfl,h1,h2,h3,h4⟩:=h;simp only [rC]at hf;split at hf
  ·rename_i hn;simp only [aa]at hf;refine⟨0,by omega, ?_⟩;rw [List.findIdx?_cons,h1]; simp [hn]
  ·rename_i hn;obtain⟨m,g1,g2⟩:=wV h4 hf;refine⟨m+1,by omega, ?_⟩;rw [List.findIdx?_cons,h1,g2]; simp [hn]
section
variable (he:dW ρ w lo env a.tmps)(hg:gn pn G ρ w)(hs:bK ρ s w)
include he hg hs
omit he hg in
theorem lu {o b c c' :Nat} {es es' :List (Nat×D×D)} {ces ces' :Array MapEntry}(lD:s.get o=some (.map es c))(k1:ρ.kd o= .live 1)(one:ρ.one o b)(hb:w.heap[b]? =some (.map ces c))(hM:fv ρ w es' ces'.toList)
  (iB:s.set o (.map es' c')=some s'):Kp ρ w ρ { w with heap:=w.heap.setIfInBounds b (.map ces' c')}/\bK ρ s' { w with heap:=w.heap.setIfInBounds b (.map ces' c')}:=
 sP hs iB one.1 (hs.lt _ _ lD) (fun _ h=>wY h) (by simp) rfl rfl rfl fun hK=>⟨b,ces',k1,one,wX (xL hb),hM.mono hK⟩
theorem Iu {t q e:TypeId}{et:ET} {m' k' v' :Operand}{m k v:bO}(hm:ew G m' =some m)(hk:ew G k' =some k)(hv:ew G v' =some v)(hu:P.underlying t=some (.map q e))(het:sR P 8 q=some et)
  (h:cg C env s al (.AF et m k v)=some (d,s')){o:Oper}(ho:o.op= .mapUpdate t m' k' v' \/o.op= .insert t m' k' v'):eP P ρ w env a.tmps d s' ((execOp a.eval o).run P w):=by
 have fin:∀w',(Instr.mapUpdate t (a.eval m') (a.eval k') (a.eval v')).run P w= .ok () w' ->(execOp a.eval o).run P w= .ok .skip w' :=by
  intro w' hw;rcases ho with ho | ho <;> · simp only [execOp,ho]; rw [Sem.run_bind,hw]; rfl
 simp only [cg]at h;split at h
 ·rename_i ob dk dv Xb Xa Xc;split at h
  ·cases h
  ·rename_i kM;split at h
   ·rename_i es c lD;have xN:=bc hm he hg Xb;have yU:=bc hk he hg Xa;have hvv:=bc hv he hg Xc;have FN:∀em,(Instr.checkKey em 10000 q (a.eval k')).run P w= .ok () w:=fun em=>pe em 8 q et het 10000 (by decide) dk _ kM yU;obtain⟨b,ces,k1,one,hb,hM⟩:=hs.ok _ _ lD;simp only [aR,Gh.at,k1]at xN;obtain⟨b',iS,xN⟩:=xN;obtain rfl:=one.2 _ iS;split at h
    ·rename_i i v0 hf;split at h
     ·rename_i n0 k0 v1 Le;split at h
      ·rename_i hsk;obtain⟨h1,rfl⟩:=gT h;obtain⟨r',g1,g2⟩:=kT (P:=P) het yU hM hf;obtain⟨u0,rfl,g3⟩:=g2;obtain⟨ent,e1,e2,e3,e4⟩:=hM.get Le;have e1' :ces[i]? =some ent:=by simpa using e1
       have yT:=zX (P:=P) hsk e3 yU
       obtain⟨n1,n2⟩:=lu (ces' :=ces.modify i fun e=> { e with key:=a.eval k',val:=a.eval v' }) hs lD k1 one hb (by
        rw [nv];exact hM.modify (f:=fun x=>(x.1,dk,dv)) (f' :=fun e=> { e with key:=a.eval k',val:=a.eval v' }) (fun x e q1 q2 q3=>⟨q1,yU,hvv⟩) i) h1
       have hr:(Instr.mapUpdate t (a.eval m') (a.eval k') (a.eval v')).run P w= .ok () { w with heap:=w.heap.setIfInBounds b' (.map (ces.modify i fun e=> { e with key:=a.eval k',val:=a.eval v' }) c)}:=by
        unfold Instr.mapUpdate;rw [Sem.run_bind,run_underlying hu];simp [xN,kg hb,FN,g1,e1',yT,kh _ hb]
       rw [fin _ hr];exact⟨ρ,n1,n2,rfl⟩
      ·cases h
     ·cases h
    ·rename_i hf;obtain⟨h1,rfl⟩:=gT h;obtain⟨r',g1,g2⟩:=kT (P:=P) het yU hM hf;simp only [Found]at g2; subst g2
     obtain⟨n1,n2⟩:=lu (ces' :=ces.push { key:=a.eval k',val:=a.eval v',born:=c}) hs lD k1 one hb (by
      rw [Array.toList_push];exact fv.snoc (e:= { key:=a.eval k',val:=a.eval v',born:=c}) rfl yU hvv hM) h1
     have hr:(Instr.mapUpdate t (a.eval m') (a.eval k') (a.eval v')).run P w= .ok () { w with heap:=w.heap.setIfInBounds b' (.map (ces.push { key:=a.eval k',val:=a.eval v',born:=c}) (c+1))}:=by
      unfold Instr.mapUpdate;rw [Sem.run_bind,run_underlying hu];simp [xN,kg hb,FN,g1,kh _ hb]
     rw [fin _ hr];exact⟨ρ,n1,n2,rfl⟩
    ·cases h
   ·cases h
 ·cases h
theorem KG {t q e:TypeId}{et:ET}{z:D} {m' k' :Operand}{m k:bO}(hm:ew G m' =some m)(hk:ew G k' =some k)(hu:P.underlying t=some (.map q e))(het:sR P 8 q=some et)(hz:jA P e=some z)
  (h:cg C env s al (.tS et z m k)=some (d,s')){o:Oper}(ho:o.op= .mapEntry t m' k'):eP P ρ w env a.tmps d s' ((execOp a.eval o).run P w):=by
 have fin:∀u w',(Instr.mapEntry t (a.eval m') (a.eval k')).run P w= .ok u w' ->(execOp a.eval o).run P w= .ok (.value u) w' :=by
  intro u w' hw;simp only [execOp,ho]; rw [Sem.run_bind,hw]; rfl
 simp only [cg]at h;split at h
 ·rename_i ob dk Xb Xa;split at h
  ·cases h
  ·rename_i kM;split at h
   ·rename_i es c lD;have xN:=bc hm he hg Xb;have yU:=bc hk he hg Xa;have FN:∀em,(Instr.checkKey em 10000 q (a.eval k')).run P w= .ok () w:=fun em=>pe em 8 q et het 10000 (by decide) dk _ kM yU;obtain⟨b,ces,k1,one,hb,hM⟩:=hs.ok _ _ lD;simp only [aR,Gh.at,k1]at xN;obtain⟨b',iS,xN⟩:=xN;obtain rfl:=one.2 _ iS;split at h
    ·rename_i i v0 hf;split at h
     ·rename_i n0 k0 v1 Le;split at h
      ·rename_i hsk;obtain⟨h1,rfl⟩:=gT h;obtain⟨r',g1,g2⟩:=kT (P:=P) het yU hM hf;obtain⟨u0,rfl,g3⟩:=g2;obtain⟨ent,e1,e2,e3,e4⟩:=hM.get Le;have e1' :ces[i]? =some ent:=by simpa using e1
       have yT:=zX (P:=P) hsk e3 yU
       obtain⟨n1,n2⟩:=lu (ces' :=ces.modify i fun e=> { e with key:=a.eval k' }) hs lD k1 one hb (by
        rw [nv];exact hM.modify (f:=fun x=>(x.1,dk,x.2.2)) (f' :=fun e=> { e with key:=a.eval k' }) (fun x e q1 q2 q3=>⟨q1,yU,q3⟩) i) h1
       have hr:(Instr.mapEntry t (a.eval m') (a.eval k')).run P w= .ok (.tuple #[u0,goInt n0]) { w with heap:=w.heap.setIfInBounds b' (.map (ces.modify i fun e=> { e with key:=a.eval k' }) c)}:=by
        unfold Instr.mapEntry;rw [Sem.run_bind,run_underlying hu];simp [xN,kg hb,FN,g1,e1',yT,kh _ hb,e2]
       rw [fin _ _ hr];refine .val n1 n2 ?_;simp [aR,bu,Gy,goInt,g3.mono n1]
      ·cases h
     ·cases h
    ·rename_i hf;obtain⟨h1,rfl⟩:=gT h;obtain⟨r',g1,g2⟩:=kT (P:=P) het yU hM hf;simp only [Found]at g2; subst g2;obtain⟨zv,z1,z2,z3⟩:=ki (w:=w) hz;have Aq:=jY (ρ:=ρ) (w:=w) zv z z2
     obtain⟨n1,n2⟩:=lu (ces' :=ces.push { key:=a.eval k',val:=zv,born:=c}) hs lD k1 one hb (by
      rw [Array.toList_push];exact fv.snoc (e:= { key:=a.eval k',val:=zv,born:=c}) rfl yU Aq hM) h1
     have hr:(Instr.mapEntry t (a.eval m') (a.eval k')).run P w= .ok (.tuple #[zv,goInt c]) { w with heap:=w.heap.setIfInBounds b' (.map (ces.push { key:=a.eval k',val:=zv,born:=c}) (c+1))}:=by
      unfold Instr.mapEntry;rw [Sem.run_bind,run_underlying hu];simp [xN,kg hb,FN,g1,z1,kh _ hb]
     rw [fin _ _ hr];refine .val n1 n2 ?_;simp [aR,bu,Gy,goInt,Aq.mono n1]
    ·cases h
   ·cases h
 ·cases h
theorem G2 {t:TypeId} {m' k' v' :Operand}{m k v:bO}(hm:ew G m' =some m)(hk:ew G k' =some k)(hv:ew G v' =some v)
  (h:cg C env s al (.pt m k v)=some (d,s')){o:Oper}(ho:o.op= .entryStore t m' k' v'):eP P ρ w env a.tmps d s' ((execOp a.eval o).run P w):=by
 simp only [cg]at h;split at h
 ·rename_i ob kk n dv Xb Xa Xc;split at h
  ·rename_i es c lD;split at h
   ·rename_i i hfb;obtain⟨h1,rfl⟩:=gT h;have xN:=bc hm he hg Xb;have yU:=bc hk he hg Xa;have hvv:=bc hv he hg Xc;obtain⟨b,ces,k1,one,hb,hM⟩:=hs.ok _ _ lD;simp only [aR,Gh.at,k1]at xN yU;obtain⟨b',iS,xN⟩:=xN;obtain rfl:=one.2 _ iS;obtain⟨j,hj,hfi⟩:=wV hM hfb;have abp :ces.findIdx? (fun e=>(e.born:Int)==n)=some i:=by
     have:ces.toList.toArray.findIdx? (fun e=>(e.born:Int)==n)=ces.toList.findIdx? (fun e=>(e.born:Int)==n):=List.findIdx?_toArray _ _;simp only [Array.toArray_toList]at this;rw [this,hfi]; simp; omega
    obtain⟨n1,n2⟩:=lu (ces' :=ces.modify i fun e=> { e with val:=a.eval v' }) hs lD k1 one hb (by
     rw [nv];exact hM.modify (f:=fun x=>(x.1,x.2.1,dv)) (f' :=fun e=> { e with val:=a.eval v' }) (fun x e q1 q2 q3=>⟨q1,q2,hvv⟩) i) h1
    have hr:(execOp a.eval o).run P w= .ok .skip { w with heap:=w.heap.setIfInBounds b' (.map (ces.modify i fun e=> { e with val:=a.eval v' }) c)}:=by
     simp only [execOp,ho];simp [Instr.entryStore,xN,yU,kg hb,asInt,asIntOf,abp,kh _ hb]
    rw [hr];exact⟨ρ,n1,n2,rfl⟩
   ·cases h
  ·cases h
 ·cases h
end
end Go.Ab
