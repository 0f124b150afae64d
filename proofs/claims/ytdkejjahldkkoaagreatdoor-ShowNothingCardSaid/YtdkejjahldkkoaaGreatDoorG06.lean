/- Part. -/
import Derived.Test.YtdkejjahldkkoaaGreatDoorG05
set_option linter.unusedSectionVars false
set_option linter.unusedSimpArgs false
set_option linter.unusedVariables false
namespace Go.Ab
open Go
variable [eW]
variable {ρ ρ' :Gh} {w w' :World}{P:Program}{pn:iO}{G:Gl}{X:iJ}{A:nJ} {s s' :St}{env:Env}{a:Act}{lo:Nat}{d:D}{C:au}{al:Option Nat}
theorem pN.kd {o:Nat}{x:Obj}(h:pN ρ w o x):ρ.kd o≠ .fresh:=by
 cases x with
 | var ty d=>obtain ⟨_,_,h1,_⟩:=h; rw [h1]; simp
 | arr sz ty es st=>obtain ⟨_,h1,_⟩:=h; rw [h1]; simp
 | map es c=>obtain ⟨_,_,h1,_⟩:=h; rw [h1]; simp
 | lz l p=>obtain ⟨_,h1,_⟩:=h; rw [h1]; simp
 | loop k st=>obtain ⟨h1,_⟩:=h; rw [h1]; simp
 | dead=>rw [show ρ.kd o= .dead from h]; simp
theorem pN.bR {o:Nat}{x:Obj}(hK:Kr ρ w ρ' w')(lE:∀b,ρ'.own b= .obj o↔ρ.own b= .obj o)(gW:ρ'.kd o=ρ.kd o)
  (hb:∀b,ρ.own b= .obj o->w'.heap[b]? =w.heap[b]? /\ρ'.sh b=ρ.sh b/\ρ'.ext b=ρ.ext b/\ρ'.cap b=ρ.cap b)(h:pN ρ w o x):pN ρ' w' o x:=by
 have one:∀b,ρ.one o b->ρ'.one o b:=fun b h=>⟨(lE b).2 h.1,fun b' h' =>h.2 b' ((lE b').1 h')⟩;cases x with
 | var ty d=>
  obtain⟨b,v,h1,h2,h3,h4,h5⟩:=h;exact⟨b,v,gW.trans h1,one b h2,aS.gn hK _ _ h3,(hb b h2.1).1.trans h4,h5⟩
 | arr sz ty es st=>
  obtain⟨h0,h1,h2,⟨cur,c1,c2,c3⟩,h4,h5⟩:=h;refine⟨h0,gW.trans h1,h2,⟨cur,(lE _).2 c1,(hb _ c1).2.2.1.trans c2,fun b p q=>c3 b ((lE b).1 p) (by rw [← (hb _ ((lE b).1 p)).2.2.1]; exact q)⟩,fun b p=> ?_,h5⟩;have p' :=(lE b).1 p;obtain⟨e1,e2,e3,e4⟩:=hb b p';have q:=h4 b p';refine⟨by rw [e3]; exact q.ext,by rw [e2,e3]; exact q.sh,by rw [e2,e3,e4]; exact q.room,fun j hj=> ?_,by rw [e1]; exact q.shape,fun g i d a1 a2 a3=> ?_⟩
  ·rw [cell?_of_heap e1,frozen?_of_heap e1]; exact q.cells j (by rw [← e4]; exact hj)
  ·rw [e3]at g a2; rw [e2]at a1 ⊢;obtain⟨v,v1,v2,v3⟩:=q.elems g i d a1 a2 a3;exact⟨v,aS.gn hK _ _ v1,v2,v3.of_heap e1⟩
 | map es c=>
  obtain⟨b,ces,h1,h2,h3,h4⟩:=h;exact⟨b,ces,gW.trans h1,one b h2,(hb b h2.1).1.trans h3,fO.gn hK _ _ h4⟩
 | lz l p=>
  obtain⟨b,h1,h2,h3⟩:=h;exact⟨b,gW.trans h1,one b h2,(hb b h2.1).1.trans h3⟩
 | loop k st=>
  obtain⟨h1,h2,h3,h4⟩:=h;obtain⟨e1,e2⟩:=hK.dead k h2;exact⟨gW.trans h1,e1,by rw [e2]; exact one _ h3,by rw [e2]; exact (hb _ h3.1).1.trans h4⟩
 | dead=>exact gW.trans h
theorem bZ.PC (hs:bZ ρ s w)(hK:Kp ρ w ρ' w')(k:Nat)(x:Obj)
  (lE:∀b o,o≠k->ρ.kd o≠ .dead->(ρ'.own b= .obj o↔ρ.own b= .obj o))(gW:∀o,o≠k->ρ'.kd o=ρ.kd o)
  (hb:∀b o,o≠k->ρ.kd o≠ .dead->ρ.own b= .obj o->w'.heap[b]? =w.heap[b]? /\ρ'.sh b=ρ.sh b/\ρ'.ext b=ρ.ext b/\ρ'.cap b=ρ.cap b)
  (hx:pN ρ' w' k x)(fR:∀b,w'.heap.size<=b->ρ'.own b= .zC)
  (hn:k < s'.n)(PA:s.n<=s'.n)(kM:∀o,s'.get o=if o=k then some x else s.get o):bZ ρ' s' w' :=by
 refine⟨fun o y hy=> ?_,fun o y hy=> ?_,fun o hy=> ?_,fun b o Q2=> ?_,fR⟩
 ·rw [kM]at hy;split at hy
  ·rename_i h; rw [h]; exact hn
  ·exact eX (hs.lt o y hy) PA
 ·rw [kM]at hy;split at hy
  ·rename_i h; simp only [aa]at hy; subst hy; rw [h]; exact hx
  ·rename_i h;have h0:=hs.ok o y hy;by_cases hd:ρ.kd o= .dead
   ·have A1 :ρ'.kd o= .dead:=(gW o h).trans hd;cases y with
    | dead=>exact A1
    | var ty d=>obtain ⟨_,_,h1,_⟩:=h0; rw [h1]at hd; cases hd
    | arr sz ty es st=>obtain ⟨_,h1,_⟩:=h0; rw [h1]at hd; cases hd
    | map es c=>obtain ⟨_,_,h1,_⟩:=h0; rw [h1]at hd; cases hd
    | lz l p=>obtain ⟨_,h1,_⟩:=h0; rw [h1]at hd; cases hd
    | loop k st=>obtain ⟨h1,_⟩:=h0; rw [h1]at hd; cases hd
   ·exact h0.bR hK.r (fun b=>lE b o h hd) (gW o h) (fun b=>hb b o h hd)
 ·rw [kM]at hy;split at hy
  ·cases hy
  ·rename_i h; rw [gW o h]; exact hs.no o hy
 ·by_cases h:o=k
  ·rw [h]; exact hx.kd
  ·rw [gW o h];by_cases hd:ρ.kd o= .dead
   ·rw [hd]; simp
   ·exact hs.live b o ((lE b o h hd).1 Q2)
theorem bZ.bR (hs:bZ ρ s w)(hK:Kr ρ w ρ' w')(lE:∀b o,ρ'.own b= .obj o↔ρ.own b= .obj o)(gW:ρ'.kd=ρ.kd)
  (hb:∀b o,ρ.own b= .obj o->w'.heap[b]? =w.heap[b]? /\ρ'.sh b=ρ.sh b/\ρ'.ext b=ρ.ext b/\ρ'.cap b=ρ.cap b)
  (fR:∀b,w'.heap.size<=b->ρ'.own b= .zC):bZ ρ' s w' :=
 ⟨hs.lt,fun o y hy=>(hs.ok o y hy).bR hK (fun b=>lE b o) (by rw [gW]) (fun b=>hb b o),fun o ho=>by rw [gW]; exact hs.no o ho,fun b o h=>by rw [gW]; exact hs.live b o ((lE b o).1 h),fR⟩
theorem St.fu (s:St)(k:Nat)(x:Obj)(o:Nat):(s.bD k x).get o=if o=k then some x else s.get o:=by
 simp only [St.get,St.bD,T.pI]
theorem St.vT (s:St)(x:Obj)(o:Nat):(s.bc x).get o=if o=s.n then some x else s.get o:=by
 simp only [St.get,St.bc,T.pI]
theorem St.qi {o:Nat}{x:Obj}(h:s.set o x=some s'):s' =s.bD o x:=by
 unfold St.set at h;split at h
 ·cases h
 ·split at h
  ·cases h
  ·simpa using h.symm
theorem HK (hs:bZ ρ s w){k:Nat}{x:Obj}(h:s.mk' al x=some (k,s')):s.get k=none/\k < s'.n/\s.n<=s'.n/\(∀o,s'.get o=if o=k then some x else s.get o):=by
 unfold St.mk' at h;split at h
 ·cases h
 ·split at h
  ·simp only [aa,ab]at h;obtain⟨rfl,rfl⟩:=h;refine⟨?_,by simp [St.bc],by simp [St.bc],St.vT s x⟩;cases hg:s.get s.n with
   | none=>rfl
   | some y=>exact absurd (hs.lt _ _ hg) (gR _)
  ·split at h
   ·rename_i hg;split at h
    ·rename_i dQ;simp only [aa,ab]at h;obtain⟨rfl,rfl⟩:=h;exact⟨hg,ax dQ,an _,St.fu s _ x⟩
    ·cases h
   ·cases h
def Gh.new (ρ:Gh)(b k sz ex cp:Nat):Gh:=
 {own:=fun x=>if x=b then .obj k else ρ.own x
  sh:=fun x=>if x=b then 0 else ρ.sh x
  ext:=fun x=>if x=b then ex else ρ.ext x
  cap:=fun x=>if x=b then cp else ρ.cap x
  kd:=fun o=>if o=k then .live sz else ρ.kd o
  lp:=ρ.lp}
theorem iz {ob:Go.Obj}(hh:w'.heap=w.heap.push ob){b:Nat}(hb:b < w.heap.size):w'.heap[b]? =w.heap[b]? :=by
 rw [hh,js]; simp; omega
theorem lY {ob:Go.Obj}(hh:w'.heap=w.heap.push ob):w'.heap[w.heap.size]? =some ob:=by
 rw [hh]; simp
theorem bZ.jN (hs:bZ ρ s w){b o:Nat}(h:ρ.own b= .obj o):b < w.heap.size:=by
 rcases aG b w.heap.size with hb | hb
 ·exact hb
 ·rw [hs.size b hb]at h; cases h
theorem XE (hs:bZ ρ s w){k:Nat}(hk:s.get k=none)(sz ex cp:Nat){ob:Go.Obj}(hh:w'.heap=w.heap.push ob)(ho:w'.os=w.os)(ht:w'.tape=w.tape)(hu:w'.output=w.output):
  Kp ρ w (ρ.new w.heap.size k sz ex cp) w' :=by
 have hf:=hs.no k hk;refine⟨ho,ht,hu,by rw [hh]; simp,fun b hb _=>⟨iz hh hb, ?_⟩,fun o h=> ?_,fun o z h=> .inr ⟨?_,fun b hb=> ?_⟩⟩
 ·simp only [Gh.new]; rw [aJ (by omega)]
 ·simp only [Gh.new]; split
  ·rename_i e; rw [e,hf]at h; cases h
  ·exact⟨h,trivial⟩
 ·simp only [Gh.new]; split
  ·rename_i e; rw [e,hf]at h; cases h
  ·exact h
 ·have:=hs.jN hb;simp only [Gh.new,aJ (show ¬ b=w.heap.size by omega)];exact⟨hb,trivial,an _,trivial⟩
theorem P7 (hs:bZ ρ s w){k:Nat}(hk:s.get k=none)(sz ex cp:Nat):(ρ.new w.heap.size k sz ex cp).one k w.heap.size:=by
 refine⟨by simp [Gh.new],fun b hb=> ?_⟩;simp only [Gh.new]at hb;split at hb
 ·assumption
 ·exact absurd (hs.no k hk) (hs.live _ _ hb)
theorem yu (hs:bZ ρ s w){k:Nat}{x:Obj}(hm:s.mk' al x=some (k,s'))(sz ex cp:Nat){ob:Go.Obj}(hh:w'.heap=w.heap.push ob)(ho:w'.os=w.os)(ht:w'.tape=w.tape)(hu:w'.output=w.output)
  (hx:Kp ρ w (ρ.new w.heap.size k sz ex cp) w' ->(ρ.new w.heap.size k sz ex cp).one k w.heap.size->w'.heap[w.heap.size]? =some ob->pN (ρ.new w.heap.size k sz ex cp) w' k x):
  Kp ρ w (ρ.new w.heap.size k sz ex cp) w' /\bZ (ρ.new w.heap.size k sz ex cp) s' w' /\(ρ.new w.heap.size k sz ex cp).own w.heap.size= .obj k/\(ρ.new w.heap.size k sz ex cp).kd k= .live sz:=by
 obtain⟨h1,h2,h3,h4⟩:=HK hs hm;have hK:=XE (w' :=w') hs h1 sz ex cp hh ho ht hu;have nM:=P7 hs h1 sz ex cp;refine⟨hK,hs.PC hK k x (fun b o cC _=> ?_) (fun o cC=> ?_) (fun b o cC _ hb=> ?_) (hx hK nM (lY hh)) (fun b hb=> ?_) h2 h3 h4,nM.1,by simp [Gh.new]⟩
 ·simp only [Gh.new]; split
  ·rename_i e;subst e;rw [hs.size _ (an _)];simp; exact fun e=>cC e.symm
  ·rfl
 ·simp only [Gh.new]; rw [aJ cC]
 ·have:=hs.jN hb;simp only [Gh.new,aJ (show ¬ b=w.heap.size by omega)];exact⟨iz hh this,trivial,trivial,trivial⟩
 ·rw [hh]at hb; simp at hb;simp only [Gh.new,aJ (show ¬ b=w.heap.size by omega)];exact hs.size b (by omega)
def fY (ρ:Gh)(w:World)(sz:Nat):List D->List Value->Prop
 | [],vs=>vs=[]
 | d::l,vs=>∃v r,vs=v.cells.toList++r/\aS ρ w d v/\v.cells.size=sz/\d.st=true/\fY ρ w sz l r
theorem fY.mono (hK:Kp ρ w ρ' w'){sz:Nat}:∀ {l:List D} {vs:List Value},fY ρ w sz l vs->fY ρ' w' sz l vs
 | [],_,h=>h
 | d::l,_,h=>by
  obtain⟨v,r,h1,h2,h3,h4,h5⟩:=h;exact⟨v,r,h1,h2.mono hK,h3,h4,fY.mono hK h5⟩
theorem fY.length {sz:Nat}:∀ {l:List D} {vs:List Value},fY ρ w sz l vs->vs.length=l.length * sz
 | [],_,h=>by simp only [fY]at h; subst h; simp
 | d::l,_,h=>by
  obtain⟨v,r,rfl,h2,h3,h4,h5⟩:=h;simp [fY.length h5,h3,bT]; omega
theorem fY.append {sz:Nat}:∀ {l l' :List D} {vs vs' :List Value},fY ρ w sz l vs->fY ρ w sz l' vs' ->fY ρ w sz (l++l') (vs++vs')
 | [],_,_,_,h,h' =>by simp only [fY]at h; subst h; exact h'
 | d::l,_,_,_,h,h' =>by
  obtain⟨v,r,rfl,h2,h3,h4,h5⟩:=h;exact⟨v,_,by simp,h2,h3,h4,fY.append h5 h'⟩
theorem fY.one {sz:Nat}{l:List D}{vs:List Value}:∀(_:fY ρ w sz l vs),∀u∈vs,u.oneCell' =true:=by
 induction l generalizing vs with
 | nil=>intro h u hu; simp only [fY]at h; subst h; cases hu
 | cons d l ih=>
  rintro⟨v,r,rfl,h2,h3,h4,h5⟩ u hu;rcases bK.1 hu with hu | hu
  ·exact (h2.flat h4).2 u hu
  ·exact ih h5 u hu
theorem fY.single {d:D}{v:Value}{sz:Nat}(h:aS ρ w d v)(hz:v.cells.size=sz)(hs:d.st=true):fY ρ w sz [d] v.cells.toList:=⟨v,[],by simp,h,hz,hs,rfl⟩
theorem fY.eG {sz:Nat}:∀ {l:List D} {vs:List Value},fY ρ w sz l vs->eG sz l=true
 | [],_,_=>rfl
 | d::l,_,h=>by
  obtain⟨v,r,rfl,h2,h3,h4,h5⟩:=h;have:=h2.size h4;simp [Ab.eG,h4,fY.eG h5,← this,h3]
theorem fX.row {sz b:Nat}:∀ {l:List D} {x:Nat},fX ρ w sz b x l->∃vs,fY ρ w sz l vs/\w.rangeAt b x vs
 | [],x,_=>⟨[],rfl,fun j v h=>by simp at h⟩
 | d::l,x,h=>by
  simp only [fX]at h;obtain⟨⟨v,h1,h2,h3,h4,h5⟩,h6⟩:=h;obtain⟨r,g1,g2⟩:=fX.row h6;refine⟨v.cells.toList++r,⟨v,r,rfl,h1,h2,h5,g1⟩,fun j u hj=> ?_⟩;rcases aG j v.cells.size with dQ | qc
  ·rw [aO (by simpa using dQ)]at hj;exact mE h4 j u hj
  ·rw [aT (by simpa using qc)]at hj;have:=g2 _ u hj;simp only [fa]at this;rwa [show x+sz+(j - v.cells.size)=x+j by omega]at this
theorem fY.get {sz b:Nat}:∀ {l:List D} {x:Nat} {vs:List Value},fY ρ w sz l vs->w'.rangeAt b x vs->∀(i:Nat) (d:D),l[i]? =some d->∃v,aS ρ w d v/\v.cells.size=sz/\cl w' b (x+i * sz) v/\d.st=true
 | [],_,_,_,_,i,d,hi=>by simp at hi
 | e::l,x,_,h,hr,i,d,hi=>by
  obtain⟨v,r,rfl,h2,h3,h4,h5⟩:=h;cases i with
  | zero=>
   simp at hi; subst hi;refine⟨v,h2,h3, ?_,h4⟩;refine vY fun j u hj=> ?_;have dQ:j < v.cells.toList.length:=(af.1 hj).1;simpa using hr j u (by rw [aO dQ]; exact hj)
  | succ i=>
   simp at hi
   have D9 :w'.rangeAt b (x+sz) r:=fun j u hj=>by
    have:=hr (v.cells.size+j) u (by rw [aT (by simp)]; simpa using hj);rwa [show x+sz+j=x+(v.cells.size+j) by omega]
   obtain⟨u,q1,q2,q3,q4⟩:=fY.get h5 D9 i d hi;exact⟨u,q1,q2,by rwa [show x+(i+1) * sz=x+sz+i * sz by rw [bT]; omega],q4⟩
theorem sG {α:Type}:∀(l:List α) (n:Nat) (c:α) (r:List α),n < l.length->over l n (c::r)=over (l.set n c) (n+1) r
 | [],n,_,_,h=>by simp at h
 | x::l,0,c,r,_=>by cases l <;> simp [over]
 | x::l,n+1,c,r,h=>by simp only [over,List.set_cons_succ]; rw [sG l n c r (by simpa using h)]
theorem nf {α:Type}:∀(l:List α) (n:Nat),over l n []=l
 | [],0=>rfl
 | [],n+1=>rfl
 | x::l,0=>by simp [over]
 | x::l,n+1=>by simp only [over]; rw [nf l n]
theorem jG {α:Type}:∀(l:List α) (n:Nat) (v:List α),n+v.length<=l.length->(over l n v).length=l.length
 | [],0,v,h=>by simp at h; subst h; simp [over]
 | [],n+1,v,_=>by simp [over]
 | x::l,0,v,h=>by simp [over]at *; omega
 | x::l,n+1,v,h=>by simp only [over,aU]at *; rw [jG l n v (by omega)]
theorem ou {α:Type}:∀(l:List α) (n:Nat) (v:List α),n<=l.length->over l n v=l.take n++v++l.drop (n+v.length)
 | l,0,v,_=>by cases l <;> simp [over]
 | [],n+1,v,h=>by simp at h
 | x::l,n+1,v,h=>by
  simp only [over]; rw [ou l n v (by simpa using h)];simp [show n+1+v.length=(n+v.length)+1 by omega]
theorem br.over {cs ds:List D}{vs us:List Value}(h:br ρ w cs vs) (h' :br ρ w ds us){n:Nat}(hn:n<=cs.length):br ρ w (over cs n ds) (over vs n us):=by
 rw [ou _ _ _ hn,ou _ _ _ (by rw [← h.length]; exact hn),h'.length];exact ((h.take n).append h').append (h.drop _)
theorem BF {cs ds:List D}(h:cs.all D.sc=true) (h' :ds.all D.sc=true){n:Nat}(hn:n<=cs.length):(over cs n ds).all D.sc=true:=by
 rw [ou _ _ _ hn];simp only [List.all_append,aA];exact⟨⟨dh.2 fun x hx=>dh.1 h x (fV hx),h'⟩,dh.2 fun x hx=>dh.1 h x (nE hx)⟩
theorem vC (off:Nat):∀(us:List Value) (k:Nat) (cells:Array Value),off+k+us.length<=cells.size->
  (List.foldl (fun (cs:Array Value) (x:Value×Nat)=>cs.setIfInBounds (off+x.2) x.1) cells (us.zipIdx k)).toList=over cells.toList (off+k) us
 | [],k,cells,_=>by simp [nf]
 | u::us,k,cells,h=>by
  simp only [aU]at h;simp only [List.zipIdx_cons,nQ];rw [vC off us (k+1) _ (by simp; omega),sG _ _ _ _ (by simp; omega)];simp [iF]
def uC (G:Gl)(place:Nat->Option (Nat×Nat)):List (Nat×Operand)->List (Nat×Nat×bP)->Prop
 | [],[]=>True
 | (i,x)::r,(o,z,y)::q=>place i=some (o,z)/\eK G x=some y/\uC G place r q
 | _,_=>False
theorem IG (he:eu ρ w lo env a.tmps)(hg:gF pn G ρ w){place:Nat->Option (Nat×Nat)}:∀(ps' :List (Nat×Operand)) (ps:List (Nat×Nat×bP)) (l:List (Nat×Nat×D)) (cs:List D) (vs:Array Value) (cs' :List D),
  uC G place ps' ps->pJ env ps=some l->br ρ w cs vs.toList->cs.all D.sc=true->Da cs l=some cs' ->
  ∃vs',Instr.fill place vs (ps'.map fun p=>(p.1,a.eval p.2))=some vs' /\br ρ w cs' vs'.toList/\cs'.all D.sc=true
 | [],[],l,cs,vs,cs',_,h1,h2,h3,h4=>by
  simp only [pJ,aa]at h1; subst h1;simp only [Da,aa]at h4; subst h4;exact⟨vs,by simp [Instr.fill],h2,h3⟩
 | [],_::_,_,_,_,_,h,_,_,_,_=>h.elim
 | _::_,[],_,_,_,_,h,_,_,_,_=>h.elim
 | (i,x)::r,(o,z,y)::q,l,cs,vs,cs',⟨p1,p2,p3⟩,h1,h2,h3,h4=>by
  simp only [pJ]at h1;split at h1
  ·rename_i d hd;split at h1
   ·rename_i l' Fs;simp only [aa]at h1; subst h1;simp only [Da]at h4;split at h4
    ·rename_i e1 e2;split at h4
     ·rename_i e3;have hv:=aZ p2 he hg hd;have hz:=aF e1;have hle:=ax e3;have fR:=hv.size e2;have hlen:=h2.length;simp only [fa]at hlen;have hf:=hv.flat e2;have R3:=vC o (a.eval x).cells.toList 0 vs (by simp; omega);simp only [fP]at R3;have hc: ¬ ((a.eval x).cells.size≠z\/o+(a.eval x).cells.size > vs.size):=by omega
      obtain⟨vs',g1,g2,g3⟩:=IG he hg r q l' (over cs o d.flat) (List.foldl (fun (cs:Array Value) (x:Value×Nat)=>cs.setIfInBounds (o+x.2) x.1) vs ((a.eval x).cells.toList.zipIdx 0)) cs' p3 Fs
       (by rw [R3]; exact h2.over hf.1 (by omega)) (BF h3 (D.mX e2) (by omega)) h4
      refine⟨vs', ?_,g2,g3⟩;simp only [bG,Instr.fill,p1];rw [aJ (by simpa using hc)];rw [← g1]
      congr 1
      rw [← Array.foldl_toList,Array.toList_zipIdx]
     ·cases h4
    ·cases h4
   ·cases h1
  ·cases h1
end Go.Ab
namespace Go.Ab
open Go
variable [eW]
variable {ρ ρ' :Gh} {w w' :World}{P:Program}{pn:iO}{G:Gl}{X:iJ}{A:nJ} {s s' :St}{env:Env}{a:Act}{lo:Nat}{d:D}{C:au}{al:Option Nat}
theorem fb.val {v:Value}{tmps:Array Value}(hK:Kp ρ w ρ' w')(hS:bZ ρ' s' w')(hR:aS ρ' w' d v):fb P ρ w env tmps d s' (.ok (.value v) w'):=⟨ρ',hK,hS,.yR hR⟩
def Gh.grow (ρ:Gh)(b ex:Nat):Gh:= { ρ with ext:=fun x=>if x=b then ex else ρ.ext x}
theorem Gh.KS (ρ:Gh)(b:Nat):ρ.grow b (ρ.ext b)=ρ:=by
 unfold Gh.grow;have:(fun x=>if x=b then ρ.ext b else ρ.ext x)=ρ.ext:=by funext x; split <;> simp_all
 rw [this]
theorem Oz (hs:bZ ρ s w){o b:Nat}{x:Obj}(gL:s.set o x=some s')(hb:ρ.own b= .obj o)(dQ:o < s.n)(hh:∀b',b' ≠b->w'.heap[b']? =w.heap[b']?)(fR:w'.heap.size=w.heap.size)
  (ho:w'.os=w.os)(ht:w'.tape=w.tape)(hu:w'.output=w.output){ex:Nat}(hex:ρ.ext b<=ex)(hx:Kp ρ w (ρ.grow b ex) w' ->pN (ρ.grow b ex) w' o x):
  Kp ρ w (ρ.grow b ex) w' /\bZ (ρ.grow b ex) s' w' :=by
 have hK:Kp ρ w (ρ.grow b ex) w' :=by
  refine⟨ho,ht,hu,by omega,fun b' _ hn=>⟨hh b' (fun e=>hn o (e ▸ hb)),rfl⟩,fun _ h=>⟨h,rfl⟩,fun o' z h=> .inr ⟨h,fun b' jm =>⟨jm,rfl, ?_,rfl⟩⟩⟩;simp only [Gh.grow]; split
  ·rename_i e; rw [e]; exact hex
  ·exact an _
 have:=St.qi gL; subst this;refine⟨hK,hs.PC hK o x (fun _ _ _ _=>mZ) (fun _ _=>rfl) (fun b' o' cC _ jm => ?_) (hx hK) (fun b' h=>hs.size b' (by omega)) dQ (an _) (St.fu s o x)⟩;have tJ :b' ≠b:=fun e=>by rw [e,hb]at jm; simp at jm; exact cC jm.symm
 exact⟨hh b' tJ,rfl,by simp [Gh.grow,tJ],rfl⟩
theorem sw (hs:bZ ρ s w){o b:Nat}{x:Obj}(gL:s.set o x=some s')(hb:ρ.own b= .obj o)(dQ:o < s.n)(hh:∀b',b' ≠b->w'.heap[b']? =w.heap[b']?)(fR:w'.heap.size=w.heap.size)
  (ho:w'.os=w.os)(ht:w'.tape=w.tape)(hu:w'.output=w.output)(hx:Kp ρ w ρ w' ->pN ρ w' o x):Kp ρ w ρ w' /\bZ ρ s' w' :=by
 have:=Oz (ex:=ρ.ext b) hs gL hb dQ hh fR ho ht hu (an _);rw [Gh.KS]at this;exact this hx
theorem wP {b b' :Nat}{ob:Go.Obj}(h:b' ≠b):({ w with heap:=w.heap.setIfInBounds b ob}:World).heap[b']? =w.heap[b']? :=by
 show (w.heap.setIfInBounds b ob)[b']? =_;rw [dR,aJ (fun e=>h e.symm)]
theorem w9 {b:Nat}{ob:Go.Obj}(h:b < w.heap.size):({ w with heap:=w.heap.setIfInBounds b ob}:World).heap[b]? =some ob:=by
 show (w.heap.setIfInBounds b ob)[b]? =_;rw [dR,bJ rfl,bJ h]
theorem xm {b:Nat}{ob:Go.Obj}(h:w.heap[b]? =some ob):b < w.heap.size:=by
 rcases aG b w.heap.size with hb | hb
 ·exact hb
 ·simp [cw hb]at h
section
variable (he:eu ρ w lo env a.tmps)(hg:gF pn G ρ w)(hs:bZ ρ s w)
include he hg hs
theorem Jn {t q e:TypeId}{et:ET}{z:D}{ok:Bool} {m' k' :Operand}{m k:bP}(hm:eK G m' =some m)(hk:eK G k' =some k)(hu:P.underlying t=some (.map q e))(het:sP P 8 q=some et)(hz:jI P e=some z)
  (h:cB C env s al (.lookup et z ok m k)=some (d,s')){o:Oper}(ho:o.op= .lookup t m' k' ok):fb P ρ w env a.tmps d s' ((execOp a.eval o).run P w):=by
 simp only [cB]at h;split at h
 ·rename_i mm kk hm1 vm;split at h
  ·cases h
  ·rename_i gW;have hv:=aZ hm he hg hm1;have ya:=aZ hk he hg vm;have Fx:∀em,(Instr.checkKey em 10000 q (a.eval k')).run P w= .ok () w:=fun em=>pM em 8 q et het 10000 (by decide) kk _ gW ya;obtain⟨zv,z1,z2,z3⟩:=kz (w:=w) hz;have zH:=kh (ρ:=ρ) (w:=w) zv z z2
   have key:∀es (ces:Array MapEntry) r,fO ρ w es ces.toList->Ab.findKey et kk es 0=some r->
     ((a.eval m' = .map none/\ces= #[])\/∃b c,a.eval m' = .map (some b)/\w.heap[b]? =some (.map ces c))->
     fb P ρ w env a.tmps (match r with | some (_,v)=>Fl ok v true | none=>Fl ok z false) s ((execOp a.eval o).run P w):=by
    intro es ces r hM hf hc;obtain⟨r',g1,g2⟩:=lL (P:=P) het ya hM hf;have fin:∀u,(Instr.lookup t (a.eval m') (a.eval k') ok).run P w= .ok u w->(execOp a.eval o).run P w= .ok (.value u) w:=by
     intro u tz;simp only [execOp,ho]; rw [Sem.run_bind,tz]; rfl
    have vj:(Instr.lookup t (a.eval m') (a.eval k') ok).run P w= .ok (match r' with | some (_,v)=>(if ok then .tuple #[v,.bool true] else v) | none=>(if ok then .tuple #[zv,.bool false] else zv)) w:=by
     unfold Instr.lookup;rw [Sem.run_bind,run_underlying hu];rcases hc with ⟨hc,rfl⟩ | ⟨b,c,hc,hb⟩
     ·simp only [hc];have g1:(Instr.findKey q (a.eval k') []).run P w= .ok r' w:=g1;cases r' <;> cases ok <;> simp [Fx,g1,z1]
     ·simp only [hc];cases r' <;> cases ok <;> simp [Fx,g1,z1,getObj,Sem.run,hb]
    cases r with
    | none=>
     simp only [Found]at g2; subst g2;simp only at vj;rw [fin _ vj];cases ok
     ·exact .rep hs zH
     ·refine .rep hs ?_;simp [Fl,aS,br,zH]
    | some p=>
     obtain⟨i,dv⟩:=p;obtain⟨v,rfl,g3⟩:=g2;simp only at vj;rw [fin _ vj];cases ok
     ·exact .rep hs g3
     ·refine .rep hs ?_;simp [Fl,aS,br,g3]
   cases mm <;> simp only at h <;> (try (cases h; done))
   case qz=>
    simp only [aa,ab]at h;obtain⟨rfl,rfl⟩:=h;simp only [aS]at hv;exact key [] #[] none (by simp [fO]) (by simp [Ab.findKey]) (.inl ⟨hv,rfl⟩)
   case mp ob=>
    split at h
    ·rename_i es c hx;obtain⟨b,ces,k1,one,hb,hM⟩:=hs.ok _ _ hx;simp only [aS,Gh.at,k1]at hv;obtain⟨b',jm,hv⟩:=hv;obtain rfl:=one.2 _ jm;split at h
     ·rename_i i v hf;simp only [aa,ab]at h;obtain⟨rfl,rfl⟩:=h;exact key es ces (some (i,v)) hM hf (.inr ⟨b',c,hv,hb⟩)
     ·rename_i hf;simp only [aa,ab]at h;obtain⟨rfl,rfl⟩:=h;exact key es ces none hM hf (.inr ⟨b',c,hv,hb⟩)
     ·cases h
    ·cases h
 ·cases h
omit he hg hs in
theorem Qn {z:D}(h:z.flat.all D.sc=true):z.st=true:=by
 cases z <;> simp_all [D.flat,D.st,D.sc]
omit he hg hs in
theorem qM {place:Nat->Option (Nat×Nat)}{F:Nat×Operand->Option (Nat×Nat×bP)}(hF:∀i x p,F (i,x)=some p->place i=some (p.1,p.2.1)/\eK G x=some p.2.2):
  ∀(l:List (Nat×Operand)) (r:List (Nat×Nat×bP)),l.mapM F=some r->uC G place l r
 | [],r,h=>by simp at h; subst h; trivial
 | (i,x)::l,r,h=>by
  simp only [jC,aP,aD,aj]at h;obtain⟨p,h1,q,h2,h3⟩:=h;simp only [aa]at h3; subst h3;obtain⟨g1,g2⟩:=hF i x p h1;exact⟨g1,g2,qM hF l q h2⟩
theorem DG {t:TypeId}{zt:D} {ps' :Array (Nat×Operand)}{ps:List (Nat×Nat×bP)}{place:Nat->Option (Nat×Nat)}(hz:jI P t=some zt)
  (hb:∀zv vs r,(P.info? t).bind (·.zero)=some zv->Instr.fill place zv.cells vs=some r->P.built t vs=some r)(hp:uC G place ps'.toList ps)
  (h:cB C env s al (.build zt.flat ps)=some (d,s')){o:Oper}(ho:o.op= .build t ps'):fb P ρ w env a.tmps d s' ((execOp a.eval o).run P w):=by
 simp only [cB]at h;split at h
 ·rename_i l hl HY;split at h
  ·rename_i cs qN;simp only [aa,ab]at h;obtain⟨rfl,rfl⟩:=h;obtain⟨zv,z1,z2,z3⟩:=kz (w:=w) hz;have zH:=kh (ρ:=ρ) (w:=w) zv zt z2;obtain⟨vs',g1,g2,g3⟩:=IG he hg _ _ l zt.flat zv.cells cs hp hl (zH.flat (Qn HY)).1 HY qN;have hr:(execOp a.eval o).run P w= .ok (.value (.agg vs')) w:=by
    simp only [execOp,ho]
    rw [Sem.run_bind,run_build w t _ vs' (by
     rw [jD];exact hb zv _ vs' z3 g1)]
    rfl
   rw [hr];exact .rep hs (by simp only [aS]; exact ⟨vs',rfl,g2,g3⟩)
  ·cases h
 ·cases h
end
theorem x9 {e e' v:D}{u x:Value}{c:Nat}(he:aS ρ w e u)(dT:e.st=true)(hv:aS ρ w v x)(h:e.over c v=some e'):
  ∃u',aS ρ w e' u' /\e'.st=true/\u'.cells.toList=over u.cells.toList c x.cells.toList/\c+x.cells.size<=u.cells.size/\v.st=true:=by
 unfold D.over at h;split at h
 ·cases h
 ·rename_i Kk;have hf:=hv.flat Kk;have hxs:=hv.size Kk;split at h
  ·rename_i cs;split at h
   ·rename_i hle;simp only [aa]at h; subst h;have hle:=ax hle;simp only [aS]at he;obtain⟨vs,rfl,h1,h2⟩:=he;have hl:=h1.length;simp only [fa]at hl;refine⟨.agg (over vs.toList c x.cells.toList).toArray, ?_, ?_,by simp [Value.cells],(by show c+x.cells.size<=vs.size; omega),Kk⟩
    ·simp only [aS];exact⟨_,rfl,by simpa using h1.over hf.1 (by omega),BF h2 (D.mX Kk) (by omega)⟩
    ·simp only [D.st]; exact BF h2 (D.mX Kk) (by omega)
   ·cases h
  ·rename_i hna;split at h
   ·rename_i h0 HY;simp only [aa]at h; subst h;obtain rfl:=aF h0;have acn:e.sc=true:=by
     rcases D.Dk dT with ⟨l,rfl,_⟩ | h
     ·exact absurd rfl (hna _)
     ·exact h
    have c1:=(he.sc acn).2;have c2:=(hv.sc HY).2;exact⟨x,hv,D.L8 HY,by rw [c1,c2]; simp [over],by rw [c1,c2]; simp,Kk⟩
   ·cases h
theorem jn {b:Nat}:∀(us:List Value) (c:Nat) (w:World) (cs:Array Value) (e:TypeId) (f:Nat×Nat),w.heap[b]? =some (.cells cs e f)->c+us.length<=cs.size->
  (∃cs' :Array Value,(w.setCells b c us).heap[b]? =some (.cells cs' e f)/\cs'.toList=over cs.toList c us)/\(∀b',b' ≠b->(w.setCells b c us).heap[b']? =w.heap[b']?)/\(w.setCells b c us).heap.size=w.heap.size/\
  (w.setCells b c us).os=w.os/\(w.setCells b c us).tape=w.tape/\(w.setCells b c us).output=w.output
 | [],c,w,cs,e,f,h,_=>⟨⟨cs,h,by rw [nf]⟩,fun _ _=>rfl,rfl,rfl,rfl,rfl⟩
 | u::us,c,w,cs,e,f,h,hle=>by
  simp only [aU]at hle;have dQ:=xm h;have h1:(w.setCell ⟨b,c,none⟩ u).heap[b]? =some (.cells (cs.setIfInBounds c u) e f):=by
   simp [World.setCell,mB,h]
  have h2:∀b',b' ≠b->(w.setCell ⟨b,c,none⟩ u).heap[b']? =w.heap[b']? :=by
   intro b' cC;simp [World.setCell,mB];exact fun e=>absurd e.symm cC
  obtain⟨⟨cs',g1,g2⟩,g3,g4,g5,g6,g7⟩:=jn us (c+1) (w.setCell ⟨b,c,none⟩ u) _ e f h1 (by simp; omega);refine⟨⟨cs',g1, ?_⟩,fun b' cC=>(g3 b' cC).trans (h2 b' cC),g4.trans (by simp [World.setCell]),g5,g6,g7⟩;rw [g2,sG _ _ _ _ (by simp; omega)];simp
theorem qs {α:Type}:∀(l:List α) (n:Nat) (v:List α) (k:Nat),n+v.length<=l.length->(over l n v)[k]? =if n<=k/\k < n+v.length then v[k - n]? else l[k]? :=by
 intro l n v k h;rw [ou _ _ _ (by omega),ia];rcases aG k n with hk | hk
 ·rw [aO (by simp; omega),aJ (by omega),de,bJ hk]
 ·rw [aT (by simp; omega)];simp only [cR];rw [show min n l.length=n by omega];rcases aG k (n+v.length) with h2 | h2
  ·rw [aO (by omega),bJ ⟨hk,h2⟩]
  ·rw [aT (by omega),aJ (by omega),cW]
   congr 1; omega
theorem iK {sz:Nat}:∀ {l:List D},eG sz l=true↔∀d∈l,d.flat.length=sz/\d.st=true
 | []=>by simp [eG]
 | d::l=>by
  simp only [eG,aA,bS,iK (l:=l)];constructor
  ·rintro⟨⟨h1,h2⟩,h3⟩ x (rfl | hx)
   ·exact⟨aF h1,h2⟩
   ·exact h3 x hx
  ·intro h;refine⟨⟨?_,(h d (.inl rfl)).2⟩,fun x hx=>h x (.inr hx)⟩;rw [(h d (.inl rfl)).1]; exact az _
theorem F5 {sz:Nat} {l l' :List D}(h:eG sz l=true) (h' :eG sz l' =true){n:Nat}(hn:n<=l.length):eG sz (over l n l')=true:=by
 rw [iK]at *;intro d hd;rw [ou _ _ _ hn,bK,bK]at hd;rcases hd with (hd | hd) | hd
 ·exact h d (fV hd)
 ·exact h' d hd
 ·exact h d (nE hd)
theorem ew {b j:Nat}{cs:Array Value}{e:TypeId}{f:Nat×Nat}(h:w.heap[b]? =some (.cells cs e f)):w.cell? ⟨b,j,none⟩=cs[j]? :=by
 simp [World.cell?,h]
theorem rZ (hs:bZ ρ s w){o b z st i e:Nat}{es l:List D}{vs:List Value} {cs cs' :Array Value}{f:Nat×Nat}(lF:s.get o=some (.arr z e es st))(hb:ρ.own b= .obj o)(hex:ρ.ext b=es.length)(hi:ρ.sh b<=i)
  (hl:fY ρ w z l vs)(hle:i+l.length<=es.length)(qN:w.heap[b]? =some (.cells cs e f)) (ye :w'.heap[b]? =some (.cells cs' e f))(GW:cs'.toList=over cs.toList ((i - ρ.sh b) * z) vs)
  (hh:∀b',b' ≠b->w'.heap[b']? =w.heap[b']?)(fR:w'.heap.size=w.heap.size)(ho:w'.os=w.os)(ht:w'.tape=w.tape)(hu:w'.output=w.output)(gL:s.set o (.arr z e (over es i l) es.length)=some s'):
  Kp ρ w ρ w' /\bZ ρ s' w' :=by
 obtain⟨z0,k1,zV,⟨cur,c1,c2,c3⟩,xh,dK⟩:=hs.ok _ _ lF;have hB:=xh b hb;have J8:=hl.length;have pO:=hB.room
 have p9:∀j,j < ρ.cap b * z->j < cs.size:=fun j hj=>by
  have:=(hB.cells j hj).1;rw [ew qN]at this;rcases aG j cs.size with h | h
  ·exact h
  ·simp [cw h]at this
 have MP:ρ.cap b * z<=cs.size:=by
  rcases ec (ρ.cap b * z) with h | h
  ·omega
  ·have:=p9 (ρ.cap b * z - 1) (by omega); omega
 have mr:(i - ρ.sh b) * z+vs.length<=ρ.cap b * z:=by
  rw [J8,← Nat.add_mul]; exact dw _ (by omega)
 have hlen:(over es i l).length=es.length:=jG _ _ _ hle;have OG:cs'.size=cs.size:=by
  have:=congrArg List.length GW;rw [jG _ _ _ (by simp; omega)]at this;simpa using this
 have kM:∀j,cs'[j]? =if (i - ρ.sh b) * z<=j/\j < (i - ρ.sh b) * z+vs.length then vs[j - (i - ρ.sh b) * z]? else cs[j]? :=fun j=>by
  have:=qs cs.toList ((i - ρ.sh b) * z) vs j (by simp; omega);rw [← GW]at this;simpa using this
 refine sw hs gL hb (hs.lt _ _ lF) hh fR ho ht hu fun hK=>⟨z0,k1,by rw [hlen]; exact an _,⟨cur,c1,by rw [hlen]; exact c2,fun b' h1 h2=>c3 b' h1 (by rw [← hlen]; exact h2)⟩,fun b' jm => ?_,F5 dK hl.eG (by omega)⟩;by_cases lS:b' =b
 ·subst lS;refine⟨by rw [hlen]; exact hB.ext,hB.sh,hB.room,fun j hj=> ?_,⟨_,_,ye⟩,fun g i2 d a1 a2 a3=> ?_⟩
  ·have:=p9 j hj;refine⟨by rw [ew ye]; simp [OG,this], ?_⟩;have:=(hB.cells j hj).2;simp only [World.frozen?,qN]at this;simp only [World.frozen?,ye];exact this
  ·rw [qs _ _ _ _ hle]at a3;split at a3
   ·rename_i acG
    have hr:w'.rangeAt b' ((i - ρ.sh b') * z) vs:=fun j u hj=>by
     have dQ:j < vs.length:=(af.1 hj).1;rw [ew ye,kM,bJ (by omega)];rwa [Nat.add_sub_cancel_left]
    obtain⟨v,v1,v2,v3,v4⟩:=(hl.mono hK).get hr (i2 - i) d a3;refine⟨v,v1,v2, ?_⟩;rwa [← Nat.add_mul,show i - ρ.sh b' +(i2 - i)=i2 - ρ.sh b' by omega]at v3
   ·rename_i WS;obtain⟨v,v1,v2,v3⟩:=hB.elems (by omega) i2 d a1 a2 a3;refine⟨v,v1.mono hK,v2,fun j hj=> ?_⟩;have:=v3 j hj;rw [ew qN]at this;rw [ew ye,kM,aJ,this];rcases aG i2 i with dQ | qc
    ·have:(i2 - ρ.sh b' +1) * z<=(i - ρ.sh b') * z:=dw _ (by omega);rw [bT]at this;omega
    ·have:(i - ρ.sh b' +l.length) * z<=(i2 - ρ.sh b') * z:=dw _ (by omega);rw [bT,← J8]at this;omega
 ·have zK :=xh b' jm;have e1:=hh b' lS;refine⟨by rw [hlen]; exact zK.ext,zK.sh,zK.room,fun j hj=> ?_,by rw [e1]; exact zK.shape,fun g i2 d a1 a2 a3=> ?_⟩
  ·rw [cell?_of_heap e1,frozen?_of_heap e1]; exact zK.cells j hj
  ·have h1:ρ.ext b' =es.length:=Nat.le_antisymm zK.ext g;exact absurd ((c3 b' jm h1).trans (c3 b hb hex).symm) lS
theorem yG {t:TypeId}{sz b c:Nat}{v:D}{x:Value}(fR:dM P t=some sz)(hv:aS ρ w v x)(dT:v.st=true)(hl:v.flat.length=sz)(ht:w.there b c sz):
  (Instr.storeAt t (.pointer (some ⟨b,c,none⟩)) x).run P w= .ok () (w.setCells b c x.cells.toList):=by
 have hs:=hv.size dT;have h1:=run_storeCells_cells (P:=P) b c x.cells.toList 0 w (fun j hj=>by simpa using (ht j (by simp at hj; omega)).1) (fun j hj=>by simpa using (ht j (by simp at hj; omega)).2) (hv.flat dT).2;simp only [fP]at h1;have cC: ¬ (x.cells.size≠sz):=by omega
 simp [Instr.storeAt,Instr.sureAddr,storeVar,fU fR,h1,show x.cells.size=sz by omega]
section
variable (he:eu ρ w lo env a.tmps)(hg:gF pn G ρ w)(hs:bZ ρ s w)
include he hg hs
theorem LR {e:TypeId}{v:D}{x:bP}{u:Value}(hx:x.ev env=some v)(hv:aS ρ w v u)(h:cB C env s al (.box e x)=some (d,s')){o:Oper}
  (hr:(execOp a.eval o).run P w= .ok (.value (.pointer (some ⟨w.heap.size,0,none⟩))) (w.alloc (.cells u.cells e))):fb P ρ w env a.tmps d s' ((execOp a.eval o).run P w):=by
 simp only [cB,hx]at h;split at h
 ·rename_i dT;simp only [aA]at dT;split at h
  ·rename_i k s2 hm;simp only [aa,ab]at h;obtain⟨rfl,rfl⟩:=h;have hl:=ax dT.2;have fR:=hv.size dT.1;obtain⟨n1,n2,n3,n4⟩:=yu (w' :=w.alloc (.cells u.cells e)) hs hm 1 0 0 rfl rfl rfl rfl (fun hK nM hh=>⟨w.heap.size,u,by simp [Gh.new],nM,hv.mono hK,hh,by omega,dT.1⟩);rw [hr];exact .val n1 n2 (by simp only [aS,Gh.at,n4]; exact ⟨_,n3,rfl⟩)
  ·cases h
 ·cases h
theorem Nt {t:TypeId}{q e:TypeId}(hu:P.underlying t=some (.map q e)) {r' :Option Operand}{r:Option bP}(hr:sQ G r' =some r)(h:cB C env s al (.zy r)=some (d,s')){o:Oper}(ho:o.op= .makeMap t r'):
  fb P ρ w env a.tmps d s' ((execOp a.eval o).run P w):=by
 simp only [cB]at h;split at h
 ·rename_i fK;split at h
  ·rename_i k s2 hm;simp only [aa,ab]at h;obtain⟨rfl,rfl⟩:=h;obtain⟨n1,n2,n3,n4⟩:=yu (w' :=w.alloc (.map #[] 0)) hs hm 1 0 0 rfl rfl rfl rfl (fun hK nM hh=>⟨w.heap.size, #[],by simp [Gh.new],nM,hh,by simp [fO]⟩);have fW:(execOp a.eval o).run P w= .ok (.value (.map (some w.heap.size))) (w.alloc (.map #[] 0)):=by
    simp only [execOp,ho];cases r' with
    | none=>simp [Instr.makeMap,newObj,Sem.run]
    | some x' =>
     simp only [sQ,aY]at hr;obtain⟨x,hx,rfl⟩:=hr;simp only [uz]at fK;cases Qg:x.ev env with
     | none=>simp [Qg]at fK
     | some dx=>
      simp only [Qg]at fK;have hxr:=aZ hx he hg Qg;cases dx <;> simp at fK;simp only [aS]at hxr;simp [Instr.makeMap,run_underlying hu,hxr,asInt,asIntOf,newObj];rfl
   rw [fW];exact .val n1 n2 (by simp only [aS,Gh.at,n4]; exact ⟨_,n3,rfl⟩)
  ·cases h
 ·cases h
omit he hg in
theorem A6 {sz:Nat}{dp v:D}{pv xv:Value}(Lc:aS ρ w dp pv)(HN:aS ρ w v xv)(h1:jM s sz dp v=some s'):
  ∃b c,pv= .pointer (some ⟨b,c,none⟩)/\v.st=true/\v.flat.length=sz/\w.there b c sz/\Kp ρ w ρ (w.setCells b c xv.cells.toList)/\bZ ρ s' (w.setCells b c xv.cells.toList):=by
 unfold jM at h1;split at h1
 ·cases h1
 ·rename_i hl;have hl:=aF hl;split at h1
  ·rename_i ob c;split at h1
   ·rename_i el e lF;split at h1
    ·rename_i e' GW;obtain⟨b,u,k1,one,r1,r2,r3,r4⟩:=hs.ok _ _ lF;simp only [aS,Gh.at,k1]at Lc;obtain⟨b',jm,Lc⟩:=Lc;obtain rfl:=one.2 _ jm;obtain⟨u',o1,o2,o3,o4,dT⟩:=x9 r1 r4 HN GW;have hxs:=HN.size dT;obtain⟨⟨cs',g1,g2⟩,g3,g4,g5,g6,g7⟩:=jn xv.cells.toList c w u.cells el (0,0) r2 (by simpa using o4)
     have Z2:w.there b' c sz:=(fun j hj=>by
      have:c+j < u.cells.size:=by omega
      simp [World.cell?,World.frozen?,r2,this])
     have qN:cs' =u'.cells:=dG (by rw [g2,o3])
     obtain⟨n1,n2⟩:=sw (w' :=w.setCells b' c xv.cells.toList) hs h1 one.1 (hs.lt _ _ lF) g3 g4 g5 g6 g7 (fun hK=>by
      refine⟨b',u',k1,one,o1.mono hK,by rw [g1,qN], ?_,o2⟩;have:u'.cells.toList.length=u.cells.toList.length:=by rw [o3,jG]; simpa using o4
      simp at this; omega)
     exact⟨b',c,Lc,dT,hl,Z2,n1,n2⟩
    ·cases h1
   ·cases h1
  ·rename_i ob i c e;split at h1
   ·rename_i z ty es st lF;split at h1
    ·rename_i iX;obtain rfl:=aF iX;split at h1
     ·rename_i el Lp;split at h1
      ·rename_i el' GW;obtain⟨z0,k1,zV,⟨cur,c1,c2,c3⟩,xh,dK⟩:=hs.ok _ _ lF;simp only [aS,Gh.at,k1]at Lc;obtain⟨b,hb,q1,q2,q3,Lc⟩:=Lc;have hB:=xh b hb;have hex:ρ.ext b=es.length:=Nat.le_antisymm hB.ext q3;obtain⟨u,u1,u2,u3⟩:=hB.elems (by omega) i el q1 (by omega) Lp;obtain⟨u',o1,o2,o3,o4,dT⟩:=x9 u1 (oF dK Lp).2 HN GW;have hxs:=HN.size dT;obtain⟨cs,f,lC⟩:=hB.shape;have hzb:(i - ρ.sh b+1) * z<=ρ.cap b * z:=dw _ (by have:=hB.room; omega);rw [bT]at hzb;have Z2:∀j,j < sz->(w.cell? ⟨b,(i - ρ.sh b) * z+c+j,none⟩).isSome=true/\w.frozen? ⟨b,(i - ρ.sh b) * z+c+j,none⟩=false:=fun j hj=>hB.cells _ (by omega);have acz:(i - ρ.sh b) * z+z<=cs.size:=by
        have:=(hB.cells ((i - ρ.sh b) * z+z - 1) (by omega)).1;rw [ew lC]at this;rcases aG ((i - ρ.sh b) * z+z - 1) cs.size with h | h
        ·omega
        ·simp [cw h]at this
       obtain⟨⟨cs',g1,g2⟩,g3,g4,g5,g6,g7⟩:=jn xv.cells.toList ((i - ρ.sh b) * z+c) w cs ty f lC (by simp; omega);have tz :u'.cells.size=z:=by
        have:=congrArg List.length o3;rw [jG _ _ _ (by simpa using o4)]at this;simp at this; omega
       have abB:cs'.toList=over cs.toList ((i - ρ.sh b) * z) u'.cells.toList:=by
        rw [g2,o3];refine ki fun k=> ?_;rw [qs _ _ _ _ (by simp; omega),qs _ _ _ _ (by rw [jG _ _ _ (by simpa using o4)]; simp; omega),jG _ _ _ (by simpa using o4)];simp only [fa];by_cases hk:(i - ρ.sh b) * z<=k/\k < (i - ρ.sh b) * z+u.cells.size
        ·rw [bJ hk,qs _ _ _ _ (by simpa using o4)];simp only [fa];by_cases zL:(i - ρ.sh b) * z+c<=k/\k < (i - ρ.sh b) * z+c+xv.cells.size
         ·rw [bJ zL,bJ (by omega)]
          congr 1; omega
         ·rw [aJ zL,aJ (by omega)];have:=u3 (k - (i - ρ.sh b) * z) (by omega);rw [ew lC,show (i - ρ.sh b) * z+(k - (i - ρ.sh b) * z)=k by omega]at this;simpa using this
        ·rw [aJ hk,aJ (by omega)]
       have gL:s.set ob (.arr z ty (over es i [el']) es.length)=some s' :=by
        rw [← h1]; congr 2;have jg:i < es.length:=by omega
        rw [sG _ _ _ _ jg,nf]
       obtain⟨n1,n2⟩:=rZ (w' :=w.setCells b ((i - ρ.sh b) * z+c) xv.cells.toList) (vs:=u'.cells.toList) (l:=[el']) hs lF hb hex q1 (fY.single o1 tz o2) (by simp; omega) lC g1 abB g3 g4 g5 g6 g7 gL;exact⟨b,_,Lc,dT,hl,Z2,n1,n2⟩
      ·cases h1
     ·cases h1
    ·cases h1
   ·cases h1
  ·cases h1
theorem MH {t:TypeId}{sz:Nat} {p' x' :Operand}{p x:bP}(hp:eK G p' =some p)(hx:eK G x' =some x)(fR:dM P t=some sz)
  (h:cB C env s al (.store sz p x)=some (d,s')){o:Oper}(ho:o.op= .store t p' x'):fb P ρ w env a.tmps d s' ((execOp a.eval o).run P w):=by
 simp only [cB]at h;split at h
 ·rename_i dp v hdp VI;obtain⟨h1,rfl⟩:=iq h;have Lc:=aZ hp he hg hdp;have HN:=aZ hx he hg VI;have fin:∀w',(Instr.storeAt t (a.eval p') (a.eval x')).run P w= .ok () w' ->(execOp a.eval o).run P w= .ok .skip w' :=by
   intro w' hw;simp only [execOp,ho]; rw [Sem.run_bind,hw]; rfl
  obtain⟨b,c,e1,e2,e3,e4,n1,n2⟩:=A6 hs Lc HN h1;rw [fin _ (by rw [e1]; exact yG (P:=P) fR HN e2 e3 e4)];exact⟨ρ,n1,n2,rfl⟩
 ·cases h
end
end Go.Ab
