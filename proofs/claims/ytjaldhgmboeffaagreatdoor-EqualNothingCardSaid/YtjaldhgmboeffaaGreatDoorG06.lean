/- Part. -/
import Derived.Test.YtjaldhgmboeffaaGreatDoorG05
set_option linter.unusedSectionVars false
namespace Go.Ab
open Go
variable [eV]
variable {ρ ρ' :Gh} {w w' :World}{P:Program}{pn:jn}{G:Gl}{X:iw}{A:nA} {s s' :St}{env:Env}{a:Act}{lo:Nat}{d:D}{C:ay}{al:Option Nat}
theorem pP.kd {o:Nat}{x:Obj}(h:pP ρ w o x):ρ.kd o≠ .fresh:=by
 cases x with
 | var ty d=>obtain ⟨_,_,h1,_⟩:=h; rw [h1]; simp
 | arr sz ty es st=>obtain ⟨_,h1,_⟩:=h; rw [h1]; simp
 | map es c=>obtain ⟨_,_,h1,_⟩:=h; rw [h1]; simp
 | lF l p=>obtain ⟨_,h1,_⟩:=h; rw [h1]; simp
 | loop k st=>obtain ⟨h1,_⟩:=h; rw [h1]; simp
 | dead=>rw [show ρ.kd o= .dead from h]; simp
theorem pP.bV {o:Nat}{x:Obj}(hK:Kr ρ w ρ' w')(lC:∀b,ρ'.own b= .obj o↔ρ.own b= .obj o)(gV:ρ'.kd o=ρ.kd o)
  (hb:∀b,ρ.own b= .obj o->w'.heap[b]? =w.heap[b]? /\ρ'.sh b=ρ.sh b/\ρ'.ext b=ρ.ext b/\ρ'.cap b=ρ.cap b)(h:pP ρ w o x):pP ρ' w' o x:=by
 have one:∀b,ρ.one o b->ρ'.one o b:=fun b h=>⟨(lC b).2 h.1,fun b' h' =>h.2 b' ((lC b').1 h')⟩;cases x with
 | var ty d=>
  obtain⟨b,v,h1,h2,h3,h4,h5⟩:=h;exact⟨b,v,gV.trans h1,one b h2,aU.gn hK _ _ h3,(hb b h2.1).1.trans h4,h5⟩
 | arr sz ty es st=>
  obtain⟨h0,h1,h2,⟨cur,c1,c2,c3⟩,h4,h5⟩:=h;refine⟨h0,gV.trans h1,h2,⟨cur,(lC _).2 c1,(hb _ c1).2.2.1.trans c2,fun b p q=>c3 b ((lC b).1 p) (by rw [← (hb _ ((lC b).1 p)).2.2.1]; exact q)⟩,fun b p=> ?_,h5⟩;have p' :=(lC b).1 p;obtain⟨e1,e2,e3,e4⟩:=hb b p';have q:=h4 b p';refine⟨by rw [e3]; exact q.ext,by rw [e2,e3]; exact q.sh,by rw [e2,e3,e4]; exact q.room,fun j hj=> ?_,by rw [e1]; exact q.shape,fun g i d a1 a2 a3=> ?_⟩
  ·rw [cell?_of_heap e1,frozen?_of_heap e1]; exact q.cells j (by rw [← e4]; exact hj)
  ·rw [e3]at g a2; rw [e2]at a1 ⊢;obtain⟨v,v1,v2,v3⟩:=q.elems g i d a1 a2 a3;exact⟨v,aU.gn hK _ _ v1,v2,v3.of_heap e1⟩
 | map es c=>
  obtain⟨b,ces,h1,h2,h3,h4⟩:=h;exact⟨b,ces,gV.trans h1,one b h2,(hb b h2.1).1.trans h3,fO.gn hK _ _ h4⟩
 | lF l p=>
  obtain⟨b,h1,h2,h3⟩:=h;exact⟨b,gV.trans h1,one b h2,(hb b h2.1).1.trans h3⟩
 | loop k st=>
  obtain⟨h1,h2,h3,h4⟩:=h;obtain⟨e1,e2⟩:=hK.dead k h2;exact⟨gV.trans h1,e1,by rw [e2]; exact one _ h3,by rw [e2]; exact (hb _ h3.1).1.trans h4⟩
 | dead=>exact gV.trans h
theorem ck.Pt (hs:ck ρ s w)(hK:Kp ρ w ρ' w')(k:Nat)(x:Obj)
  (lC:∀b o,o≠k->ρ.kd o≠ .dead->(ρ'.own b= .obj o↔ρ.own b= .obj o))(gV:∀o,o≠k->ρ'.kd o=ρ.kd o)
  (hb:∀b o,o≠k->ρ.kd o≠ .dead->ρ.own b= .obj o->w'.heap[b]? =w.heap[b]? /\ρ'.sh b=ρ.sh b/\ρ'.ext b=ρ.ext b/\ρ'.cap b=ρ.cap b)
  (hx:pP ρ' w' k x)(fS:∀b,w'.heap.size<=b->ρ'.own b= .zO)
  (hn:k < s'.n)(PJ:s.n<=s'.n)(kQ:∀o,s'.get o=if o=k then some x else s.get o):ck ρ' s' w' :=by
 refine⟨fun o y hy=> ?_,fun o y hy=> ?_,fun o hy=> ?_,fun b o Q0=> ?_,fS⟩
 ·rw [kQ]at hy;split at hy
  ·rename_i h; rw [h]; exact hn
  ·exact eK (hs.lt o y hy) PJ
 ·rw [kQ]at hy;split at hy
  ·rename_i h; simp only [aa]at hy; subst hy; rw [h]; exact hx
  ·rename_i h;have h0:=hs.ok o y hy;by_cases hd:ρ.kd o= .dead
   ·have Ae :ρ'.kd o= .dead:=(gV o h).trans hd;cases y with
    | dead=>exact Ae
    | var ty d=>obtain ⟨_,_,h1,_⟩:=h0; rw [h1]at hd; cases hd
    | arr sz ty es st=>obtain ⟨_,h1,_⟩:=h0; rw [h1]at hd; cases hd
    | map es c=>obtain ⟨_,_,h1,_⟩:=h0; rw [h1]at hd; cases hd
    | lF l p=>obtain ⟨_,h1,_⟩:=h0; rw [h1]at hd; cases hd
    | loop k st=>obtain ⟨h1,_⟩:=h0; rw [h1]at hd; cases hd
   ·exact h0.bV hK.r (fun b=>lC b o h hd) (gV o h) (fun b=>hb b o h hd)
 ·rw [kQ]at hy;split at hy
  ·cases hy
  ·rename_i h; rw [gV o h]; exact hs.no o hy
 ·by_cases h:o=k
  ·rw [h]; exact hx.kd
  ·rw [gV o h];by_cases hd:ρ.kd o= .dead
   ·rw [hd]; simp
   ·exact hs.live b o ((lC b o h hd).1 Q0)
theorem ck.bV (hs:ck ρ s w)(hK:Kr ρ w ρ' w')(lC:∀b o,ρ'.own b= .obj o↔ρ.own b= .obj o)(gV:ρ'.kd=ρ.kd)
  (hb:∀b o,ρ.own b= .obj o->w'.heap[b]? =w.heap[b]? /\ρ'.sh b=ρ.sh b/\ρ'.ext b=ρ.ext b/\ρ'.cap b=ρ.cap b)
  (fS:∀b,w'.heap.size<=b->ρ'.own b= .zO):ck ρ' s w' :=
 ⟨hs.lt,fun o y hy=>(hs.ok o y hy).bV hK (fun b=>lC b o) (by rw [gV]) (fun b=>hb b o),fun o ho=>by rw [gV]; exact hs.no o ho,fun b o h=>by rw [gV]; exact hs.live b o ((lC b o).1 h),fS⟩
theorem St.fv (s:St)(k:Nat)(x:Obj)(o:Nat):(s.bF k x).get o=if o=k then some x else s.get o:=by
 simp only [St.get,St.bF,T.pN]
theorem St.vu (s:St)(x:Obj)(o:Nat):(s.bz x).get o=if o=s.n then some x else s.get o:=by
 simp only [St.get,St.bz,T.pN]
theorem St.qf {o:Nat}{x:Obj}(h:s.set o x=some s'):s' =s.bF o x:=by
 unfold St.set at h;split at h
 ·cases h
 ·split at h
  ·cases h
  ·simpa using h.symm
theorem Hx (hs:ck ρ s w){k:Nat}{x:Obj}(h:s.mk' al x=some (k,s')):s.get k=none/\k < s'.n/\s.n<=s'.n/\(∀o,s'.get o=if o=k then some x else s.get o):=by
 unfold St.mk' at h;split at h
 ·cases h
 ·split at h
  ·simp only [aa,ae]at h;obtain⟨rfl,rfl⟩:=h;refine⟨?_,by simp [St.bz],by simp [St.bz],St.vu s x⟩;cases hg:s.get s.n with
   | none=>rfl
   | some y=>exact absurd (hs.lt _ _ hg) (gR _)
  ·split at h
   ·rename_i hg;split at h
    ·rename_i dM;simp only [aa,ae]at h;obtain⟨rfl,rfl⟩:=h;exact⟨hg,az dM,aq _,St.fv s _ x⟩
    ·cases h
   ·cases h
def Gh.new (ρ:Gh)(b k sz ex cp:Nat):Gh:=
 {own:=fun x=>if x=b then .obj k else ρ.own x
  sh:=fun x=>if x=b then 0 else ρ.sh x
  ext:=fun x=>if x=b then ex else ρ.ext x
  cap:=fun x=>if x=b then cp else ρ.cap x
  kd:=fun o=>if o=k then .live sz else ρ.kd o
  lp:=ρ.lp}
theorem iA {ob:Go.Obj}(hh:w'.heap=w.heap.push ob){b:Nat}(hb:b < w.heap.size):w'.heap[b]? =w.heap[b]? :=by
 rw [hh,js]; simp; omega
theorem mg {ob:Go.Obj}(hh:w'.heap=w.heap.push ob):w'.heap[w.heap.size]? =some ob:=by
 rw [hh]; simp
theorem ck.jJ (hs:ck ρ s w){b o:Nat}(h:ρ.own b= .obj o):b < w.heap.size:=by
 rcases aH b w.heap.size with hb | hb
 ·exact hb
 ·rw [hs.size b hb]at h; cases h
theorem WR (hs:ck ρ s w){k:Nat}(hk:s.get k=none)(sz ex cp:Nat){ob:Go.Obj}(hh:w'.heap=w.heap.push ob)(ho:w'.os=w.os)(ht:w'.tape=w.tape)(hu:w'.output=w.output):
  Kp ρ w (ρ.new w.heap.size k sz ex cp) w' :=by
 have hf:=hs.no k hk;refine⟨ho,ht,hu,by rw [hh]; simp,fun b hb _=>⟨iA hh hb, ?_⟩,fun o h=> ?_,fun o z h=> .inr ⟨?_,fun b hb=> ?_⟩⟩
 ·simp only [Gh.new]; rw [aK (by omega)]
 ·simp only [Gh.new]; split
  ·rename_i e; rw [e,hf]at h; cases h
  ·exact⟨h,trivial⟩
 ·simp only [Gh.new]; split
  ·rename_i e; rw [e,hf]at h; cases h
  ·exact h
 ·have:=hs.jJ hb;simp only [Gh.new,aK (show ¬ b=w.heap.size by omega)];exact⟨hb,trivial,aq _,trivial⟩
theorem Rw (hs:ck ρ s w){k:Nat}(hk:s.get k=none)(sz ex cp:Nat):(ρ.new w.heap.size k sz ex cp).one k w.heap.size:=by
 refine⟨by simp [Gh.new],fun b hb=> ?_⟩;simp only [Gh.new]at hb;split at hb
 ·assumption
 ·exact absurd (hs.no k hk) (hs.live _ _ hb)
theorem xO (hs:ck ρ s w){k:Nat}{x:Obj}(hm:s.mk' al x=some (k,s'))(sz ex cp:Nat){ob:Go.Obj}(hh:w'.heap=w.heap.push ob)(ho:w'.os=w.os)(ht:w'.tape=w.tape)(hu:w'.output=w.output)
  (hx:Kp ρ w (ρ.new w.heap.size k sz ex cp) w' ->(ρ.new w.heap.size k sz ex cp).one k w.heap.size->w'.heap[w.heap.size]? =some ob->pP (ρ.new w.heap.size k sz ex cp) w' k x):
  Kp ρ w (ρ.new w.heap.size k sz ex cp) w' /\ck (ρ.new w.heap.size k sz ex cp) s' w' /\(ρ.new w.heap.size k sz ex cp).own w.heap.size= .obj k/\(ρ.new w.heap.size k sz ex cp).kd k= .live sz:=by
 obtain⟨h1,h2,h3,h4⟩:=Hx hs hm;have hK:=WR (w' :=w') hs h1 sz ex cp hh ho ht hu;have nL:=Rw hs h1 sz ex cp;refine⟨hK,hs.Pt hK k x (fun b o cE _=> ?_) (fun o cE=> ?_) (fun b o cE _ hb=> ?_) (hx hK nL (mg hh)) (fun b hb=> ?_) h2 h3 h4,nL.1,by simp [Gh.new]⟩
 ·simp only [Gh.new]; split
  ·rename_i e;subst e;rw [hs.size _ (aq _)];simp; exact fun e=>cE e.symm
  ·rfl
 ·simp only [Gh.new]; rw [aK cE]
 ·have:=hs.jJ hb;simp only [Gh.new,aK (show ¬ b=w.heap.size by omega)];exact⟨iA hh this,trivial,trivial,trivial⟩
 ·rw [hh]at hb; simp at hb;simp only [Gh.new,aK (show ¬ b=w.heap.size by omega)];exact hs.size b (by omega)
def gu (ρ:Gh)(w:World)(sz:Nat):List D->List Value->Prop
 | [],vs=>vs=[]
 | d::l,vs=>∃v r,vs=v.cells.toList++r/\aU ρ w d v/\v.cells.size=sz/\d.st=true/\gu ρ w sz l r
theorem gu.mono (hK:Kp ρ w ρ' w'){sz:Nat}:∀ {l:List D} {vs:List Value},gu ρ w sz l vs->gu ρ' w' sz l vs
 | [],_,h=>h
 | d::l,_,h=>by
  obtain⟨v,r,h1,h2,h3,h4,h5⟩:=h;exact⟨v,r,h1,h2.mono hK,h3,h4,gu.mono hK h5⟩
theorem gu.length {sz:Nat}:∀ {l:List D} {vs:List Value},gu ρ w sz l vs->vs.length=l.length * sz
 | [],_,h=>by simp only [gu]at h; subst h; simp
 | d::l,_,h=>by
  obtain⟨v,r,rfl,h2,h3,h4,h5⟩:=h;simp [gu.length h5,h3,bS]; omega
theorem gu.append {sz:Nat}:∀ {l l' :List D} {vs vs' :List Value},gu ρ w sz l vs->gu ρ w sz l' vs' ->gu ρ w sz (l++l') (vs++vs')
 | [],_,_,_,h,h' =>by simp only [gu]at h; subst h; exact h'
 | d::l,_,_,_,h,h' =>by
  obtain⟨v,r,rfl,h2,h3,h4,h5⟩:=h;exact⟨v,_,by simp,h2,h3,h4,gu.append h5 h'⟩
theorem gu.one {sz:Nat}{l:List D}{vs:List Value}:∀(_:gu ρ w sz l vs),∀u∈vs,u.oneCell' =true:=by
 induction l generalizing vs with
 | nil=>intro h u hu; simp only [gu]at h; subst h; cases hu
 | cons d l ih=>
  rintro⟨v,r,rfl,h2,h3,h4,h5⟩ u hu;rcases bK.1 hu with hu | hu
  ·exact (h2.flat h4).2 u hu
  ·exact ih h5 u hu
theorem gu.single {d:D}{v:Value}{sz:Nat}(h:aU ρ w d v)(hz:v.cells.size=sz)(hs:d.st=true):gu ρ w sz [d] v.cells.toList:=⟨v,[],by simp,h,hz,hs,rfl⟩
theorem gu.eI {sz:Nat}:∀ {l:List D} {vs:List Value},gu ρ w sz l vs->eI sz l=true
 | [],_,_=>rfl
 | d::l,_,h=>by
  obtain⟨v,r,rfl,h2,h3,h4,h5⟩:=h;have:=h2.size h4;simp [Ab.eI,h4,gu.eI h5,← this,h3]
theorem gy.row {sz b:Nat}:∀ {l:List D} {x:Nat},gy ρ w sz b x l->∃vs,gu ρ w sz l vs/\w.rangeAt b x vs
 | [],x,_=>⟨[],rfl,fun j v h=>by simp at h⟩
 | d::l,x,h=>by
  simp only [gy]at h;obtain⟨⟨v,h1,h2,h3,h4,h5⟩,h6⟩:=h;obtain⟨r,g1,g2⟩:=gy.row h6;refine⟨v.cells.toList++r,⟨v,r,rfl,h1,h2,h5,g1⟩,fun j u hj=> ?_⟩;rcases aH j v.cells.size with dM | pW
  ·rw [aP (by simpa using dM)]at hj;exact mJ h4 j u hj
  ·rw [aT (by simpa using pW)]at hj;have:=g2 _ u hj;simp only [fb]at this;rwa [show x+sz+(j - v.cells.size)=x+j by omega]at this
theorem gu.get {sz b:Nat}:∀ {l:List D} {x:Nat} {vs:List Value},gu ρ w sz l vs->w'.rangeAt b x vs->∀(i:Nat) (d:D),l[i]? =some d->∃v,aU ρ w d v/\v.cells.size=sz/\cr w' b (x+i * sz) v/\d.st=true
 | [],_,_,_,_,i,d,hi=>by simp at hi
 | e::l,x,_,h,hr,i,d,hi=>by
  obtain⟨v,r,rfl,h2,h3,h4,h5⟩:=h;cases i with
  | zero=>
   simp at hi; subst hi;refine⟨v,h2,h3, ?_,h4⟩;refine vn fun j u hj=> ?_;have dM:j < v.cells.toList.length:=(aj.1 hj).1;simpa using hr j u (by rw [aP dM]; exact hj)
  | succ i=>
   simp at hi
   have Gm :w'.rangeAt b (x+sz) r:=fun j u hj=>by
    have:=hr (v.cells.size+j) u (by rw [aT (by simp)]; simpa using hj);rwa [show x+sz+j=x+(v.cells.size+j) by omega]
   obtain⟨u,q1,q2,q3,q4⟩:=gu.get h5 Gm i d hi;exact⟨u,q1,q2,by rwa [show x+(i+1) * sz=x+sz+i * sz by rw [bS]; omega],q4⟩
theorem r9 {α:Type}:∀(l:List α) (n:Nat) (c:α) (r:List α),n < l.length->over l n (c::r)=over (l.set n c) (n+1) r
 | [],n,_,_,h=>by simp at h
 | x::l,0,c,r,_=>by cases l <;> simp [over]
 | x::l,n+1,c,r,h=>by simp only [over,List.set_cons_succ]; rw [r9 l n c r (by simpa using h)]
theorem nk {α:Type}:∀(l:List α) (n:Nat),over l n []=l
 | [],0=>rfl
 | [],n+1=>rfl
 | x::l,0=>by simp [over]
 | x::l,n+1=>by simp only [over]; rw [nk l n]
theorem jE {α:Type}:∀(l:List α) (n:Nat) (v:List α),n+v.length<=l.length->(over l n v).length=l.length
 | [],0,v,h=>by simp at h; subst h; simp [over]
 | [],n+1,v,_=>by simp [over]
 | x::l,0,v,h=>by simp [over]at *; omega
 | x::l,n+1,v,h=>by simp only [over,aV]at *; rw [jE l n v (by omega)]
theorem oo {α:Type}:∀(l:List α) (n:Nat) (v:List α),n<=l.length->over l n v=l.take n++v++l.drop (n+v.length)
 | l,0,v,_=>by cases l <;> simp [over]
 | [],n+1,v,h=>by simp at h
 | x::l,n+1,v,h=>by
  simp only [over]; rw [oo l n v (by simpa using h)];simp [show n+1+v.length=(n+v.length)+1 by omega]
theorem bw.over {cs ds:List D}{vs us:List Value}(h:bw ρ w cs vs) (h' :bw ρ w ds us){n:Nat}(hn:n<=cs.length):bw ρ w (over cs n ds) (over vs n us):=by
 rw [oo _ _ _ hn,oo _ _ _ (by rw [← h.length]; exact hn),h'.length];exact ((h.take n).append h').append (h.drop _)
theorem B3 {cs ds:List D}(h:cs.all D.sc=true) (h' :ds.all D.sc=true){n:Nat}(hn:n<=cs.length):(over cs n ds).all D.sc=true:=by
 rw [oo _ _ _ hn];simp only [List.all_append,aB];exact⟨⟨dg.2 fun x hx=>dg.1 h x (fW hx),h'⟩,dg.2 fun x hx=>dg.1 h x (nG hx)⟩
theorem vG (off:Nat):∀(us:List Value) (k:Nat) (cells:Array Value),off+k+us.length<=cells.size->
  (List.foldl (fun (cs:Array Value) (x:Value×Nat)=>cs.setIfInBounds (off+x.2) x.1) cells (us.zipIdx k)).toList=over cells.toList (off+k) us
 | [],k,cells,_=>by simp [nk]
 | u::us,k,cells,h=>by
  simp only [aV]at h;simp only [List.zipIdx_cons,nS];rw [vG off us (k+1) _ (by simp; omega),r9 _ _ _ _ (by simp; omega)];simp [iE]
def uU (G:Gl)(place:Nat->Option (Nat×Nat)):List (Nat×Operand)->List (Nat×Nat×bP)->Prop
 | [],[]=>True
 | (i,x)::r,(o,z,y)::q=>place i=some (o,z)/\eO G x=some y/\uU G place r q
 | _,_=>False
theorem HO (he:ew ρ w lo env a.tmps)(hg:gN pn G ρ w){place:Nat->Option (Nat×Nat)}:∀(ps' :List (Nat×Operand)) (ps:List (Nat×Nat×bP)) (l:List (Nat×Nat×D)) (cs:List D) (vs:Array Value) (cs' :List D),
  uU G place ps' ps->pD env ps=some l->bw ρ w cs vs.toList->cs.all D.sc=true->DW cs l=some cs' ->
  ∃vs',Instr.fill place vs (ps'.map fun p=>(p.1,a.eval p.2))=some vs' /\bw ρ w cs' vs'.toList/\cs'.all D.sc=true
 | [],[],l,cs,vs,cs',_,h1,h2,h3,h4=>by
  simp only [pD,aa]at h1; subst h1;simp only [DW,aa]at h4; subst h4;exact⟨vs,by simp [Instr.fill],h2,h3⟩
 | [],_::_,_,_,_,_,h,_,_,_,_=>h.elim
 | _::_,[],_,_,_,_,h,_,_,_,_=>h.elim
 | (i,x)::r,(o,z,y)::q,l,cs,vs,cs',⟨p1,p2,p3⟩,h1,h2,h3,h4=>by
  simp only [pD]at h1;split at h1
  ·rename_i d hd;split at h1
   ·rename_i l' Ff;simp only [aa]at h1; subst h1;simp only [DW]at h4;split at h4
    ·rename_i e1 e2;split at h4
     ·rename_i e3;have hv:=ba p2 he hg hd;have hz:=aD e1;have hle:=az e3;have fS:=hv.size e2;have hlen:=h2.length;simp only [fb]at hlen;have hf:=hv.flat e2;have RD:=vG o (a.eval x).cells.toList 0 vs (by simp; omega);simp only [fP]at RD;have hc: ¬ ((a.eval x).cells.size≠z\/o+(a.eval x).cells.size > vs.size):=by omega
      obtain⟨vs',g1,g2,g3⟩:=HO he hg r q l' (over cs o d.flat) (List.foldl (fun (cs:Array Value) (x:Value×Nat)=>cs.setIfInBounds (o+x.2) x.1) vs ((a.eval x).cells.toList.zipIdx 0)) cs' p3 Ff
       (by rw [RD]; exact h2.over hf.1 (by omega)) (B3 h3 (D.na e2) (by omega)) h4
      refine⟨vs', ?_,g2,g3⟩;simp only [bG,Instr.fill,p1];rw [aK (by simpa using hc)];rw [← g1]
      congr 1
      rw [← Array.foldl_toList,Array.toList_zipIdx]
     ·cases h4
    ·cases h4
   ·cases h1
  ·cases h1
end Go.Ab
namespace Go.Ab
open Go
variable [eV]
variable {ρ ρ' :Gh} {w w' :World}{P:Program}{pn:jn}{G:Gl}{X:iw}{A:nA} {s s' :St}{env:Env}{a:Act}{lo:Nat}{d:D}{C:ay}{al:Option Nat}
theorem fc.val {v:Value}{tmps:Array Value}(hK:Kp ρ w ρ' w')(hS:ck ρ' s' w')(hR:aU ρ' w' d v):fc P ρ w env tmps d s' (.ok (.value v) w'):=⟨ρ',hK,hS,.yW hR⟩
def Gh.grow (ρ:Gh)(b ex:Nat):Gh:= { ρ with ext:=fun x=>if x=b then ex else ρ.ext x}
theorem Gh.JC (ρ:Gh)(b:Nat):ρ.grow b (ρ.ext b)=ρ:=by
 unfold Gh.grow;have:(fun x=>if x=b then ρ.ext b else ρ.ext x)=ρ.ext:=by funext x; split <;> simp_all
 rw [this]
theorem OV (hs:ck ρ s w){o b:Nat}{x:Obj}(gO:s.set o x=some s')(hb:ρ.own b= .obj o)(dM:o < s.n)(hh:∀b',b' ≠b->w'.heap[b']? =w.heap[b']?)(fS:w'.heap.size=w.heap.size)
  (ho:w'.os=w.os)(ht:w'.tape=w.tape)(hu:w'.output=w.output){ex:Nat}(hex:ρ.ext b<=ex)(hx:Kp ρ w (ρ.grow b ex) w' ->pP (ρ.grow b ex) w' o x):
  Kp ρ w (ρ.grow b ex) w' /\ck (ρ.grow b ex) s' w' :=by
 have hK:Kp ρ w (ρ.grow b ex) w' :=by
  refine⟨ho,ht,hu,by omega,fun b' _ hn=>⟨hh b' (fun e=>hn o (e ▸ hb)),rfl⟩,fun _ h=>⟨h,rfl⟩,fun o' z h=> .inr ⟨h,fun b' jl =>⟨jl,rfl, ?_,rfl⟩⟩⟩;simp only [Gh.grow]; split
  ·rename_i e; rw [e]; exact hex
  ·exact aq _
 have:=St.qf gO; subst this;refine⟨hK,hs.Pt hK o x (fun _ _ _ _=>nh) (fun _ _=>rfl) (fun b' o' cE _ jl => ?_) (hx hK) (fun b' h=>hs.size b' (by omega)) dM (aq _) (St.fv s o x)⟩;have tz :b' ≠b:=fun e=>by rw [e,hb]at jl; simp at jl; exact cE jl.symm
 exact⟨hh b' tz,rfl,by simp [Gh.grow,tz],rfl⟩
theorem su (hs:ck ρ s w){o b:Nat}{x:Obj}(gO:s.set o x=some s')(hb:ρ.own b= .obj o)(dM:o < s.n)(hh:∀b',b' ≠b->w'.heap[b']? =w.heap[b']?)(fS:w'.heap.size=w.heap.size)
  (ho:w'.os=w.os)(ht:w'.tape=w.tape)(hu:w'.output=w.output)(hx:Kp ρ w ρ w' ->pP ρ w' o x):Kp ρ w ρ w' /\ck ρ s' w' :=by
 have:=OV (ex:=ρ.ext b) hs gO hb dM hh fS ho ht hu (aq _);rw [Gh.JC]at this;exact this hx
theorem wq {b b' :Nat}{ob:Go.Obj}(h:b' ≠b):({ w with heap:=w.heap.setIfInBounds b ob}:World).heap[b']? =w.heap[b']? :=by
 show (w.heap.setIfInBounds b ob)[b']? =_;rw [dS,aK (fun e=>h e.symm)]
theorem wQ {b:Nat}{ob:Go.Obj}(h:b < w.heap.size):({ w with heap:=w.heap.setIfInBounds b ob}:World).heap[b]? =some ob:=by
 show (w.heap.setIfInBounds b ob)[b]? =_;rw [dS,bT rfl,bT h]
theorem xj {b:Nat}{ob:Go.Obj}(h:w.heap[b]? =some ob):b < w.heap.size:=by
 rcases aH b w.heap.size with hb | hb
 ·exact hb
 ·simp [cL hb]at h
section
variable (he:ew ρ w lo env a.tmps)(hg:gN pn G ρ w)(hs:ck ρ s w)
include he hg hs
theorem IX {t q e:TypeId}{et:ET}{z:D}{ok:Bool} {m' k' :Operand}{m k:bP}(hm:eO G m' =some m)(hk:eO G k' =some k)(hu:P.underlying t=some (.map q e))(het:sK P 8 q=some et)(hz:jH P e=some z)
  (h:cC C env s al (.lookup et z ok m k)=some (d,s')){o:Oper}(ho:o.op= .lookup t m' k' ok):fc P ρ w env a.tmps d s' ((execOp a.eval o).run P w):=by
 simp only [cC]at h;split at h
 ·rename_i mm kk hm1 CC;split at h
  ·cases h
  ·rename_i gV;have hv:=ba hm he hg hm1;have xR:=ba hk he hg CC;have Fg:∀em,(Instr.checkKey em 10000 q (a.eval k')).run P w= .ok () w:=fun em=>pF em 8 q et het 10000 (by decide) kk _ gV xR;obtain⟨zv,z1,z2,z3⟩:=kF (w:=w) hz;have zo:=kq (ρ:=ρ) (w:=w) zv z z2
   have key:∀es (ces:Array MapEntry) r,fO ρ w es ces.toList->Ab.findKey et kk es 0=some r->
     ((a.eval m' = .map none/\ces= #[])\/∃b c,a.eval m' = .map (some b)/\w.heap[b]? =some (.map ces c))->
     fc P ρ w env a.tmps (match r with | some (_,v)=>Fa ok v true | none=>Fa ok z false) s ((execOp a.eval o).run P w):=by
    intro es ces r hM hf hc;obtain⟨r',g1,g2⟩:=lN (P:=P) het xR hM hf;have fin:∀u,(Instr.lookup t (a.eval m') (a.eval k') ok).run P w= .ok u w->(execOp a.eval o).run P w= .ok (.value u) w:=by
     intro u tL;simp only [execOp,ho]; rw [Sem.run_bind,tL]; rfl
    have u6:(Instr.lookup t (a.eval m') (a.eval k') ok).run P w= .ok (match r' with | some (_,v)=>(if ok then .tuple #[v,.bool true] else v) | none=>(if ok then .tuple #[zv,.bool false] else zv)) w:=by
     unfold Instr.lookup;rw [Sem.run_bind,run_underlying hu];rcases hc with ⟨hc,rfl⟩ | ⟨b,c,hc,hb⟩
     ·simp only [hc];have g1:(Instr.findKey q (a.eval k') []).run P w= .ok r' w:=g1;cases r' <;> cases ok <;> simp [Fg,g1,z1]
     ·simp only [hc];cases r' <;> cases ok <;> simp [Fg,g1,z1,getObj,Sem.run,hb]
    cases r with
    | none=>
     simp only [Found]at g2; subst g2;simp only at u6;rw [fin _ u6];cases ok
     ·exact .rep hs zo
     ·refine .rep hs ?_;simp [Fa,aU,bw,zo]
    | some p=>
     obtain⟨i,dv⟩:=p;obtain⟨v,rfl,g3⟩:=g2;simp only at u6;rw [fin _ u6];cases ok
     ·exact .rep hs g3
     ·refine .rep hs ?_;simp [Fa,aU,bw,g3]
   cases mm <;> simp only at h <;> (try (cases h; done))
   case qz=>
    simp only [aa,ae]at h;obtain⟨rfl,rfl⟩:=h;simp only [aU]at hv;exact key [] #[] none (by simp [fO]) (by simp [Ab.findKey]) (.inl ⟨hv,rfl⟩)
   case mp ob=>
    split at h
    ·rename_i es c hx;obtain⟨b,ces,k1,one,hb,hM⟩:=hs.ok _ _ hx;simp only [aU,Gh.at,k1]at hv;obtain⟨b',jl,hv⟩:=hv;obtain rfl:=one.2 _ jl;split at h
     ·rename_i i v hf;simp only [aa,ae]at h;obtain⟨rfl,rfl⟩:=h;exact key es ces (some (i,v)) hM hf (.inr ⟨b',c,hv,hb⟩)
     ·rename_i hf;simp only [aa,ae]at h;obtain⟨rfl,rfl⟩:=h;exact key es ces none hM hf (.inr ⟨b',c,hv,hb⟩)
     ·cases h
    ·cases h
 ·cases h
omit he hg hs in
theorem RL {z:D}(h:z.flat.all D.sc=true):z.st=true:=by
 cases z <;> simp_all [D.flat,D.st,D.sc]
omit he hg hs in
theorem qJ {place:Nat->Option (Nat×Nat)}{F:Nat×Operand->Option (Nat×Nat×bP)}(hF:∀i x p,F (i,x)=some p->place i=some (p.1,p.2.1)/\eO G x=some p.2.2):
  ∀(l:List (Nat×Operand)) (r:List (Nat×Nat×bP)),l.mapM F=some r->uU G place l r
 | [],r,h=>by simp at h; subst h; trivial
 | (i,x)::l,r,h=>by
  simp only [jB,aQ,aE,an]at h;obtain⟨p,h1,q,h2,h3⟩:=h;simp only [aa]at h3; subst h3;obtain⟨g1,g2⟩:=hF i x p h1;exact⟨g1,g2,qJ hF l q h2⟩
theorem Ew {t:TypeId}{zt:D} {ps' :Array (Nat×Operand)}{ps:List (Nat×Nat×bP)}{place:Nat->Option (Nat×Nat)}(hz:jH P t=some zt)
  (hb:∀zv vs r,(P.info? t).bind (·.zero)=some zv->Instr.fill place zv.cells vs=some r->P.built t vs=some r)(hp:uU G place ps'.toList ps)
  (h:cC C env s al (.build zt.flat ps)=some (d,s')){o:Oper}(ho:o.op= .build t ps'):fc P ρ w env a.tmps d s' ((execOp a.eval o).run P w):=by
 simp only [cC]at h;split at h
 ·rename_i l hl H4;split at h
  ·rename_i cs qG;simp only [aa,ae]at h;obtain⟨rfl,rfl⟩:=h;obtain⟨zv,z1,z2,z3⟩:=kF (w:=w) hz;have zo:=kq (ρ:=ρ) (w:=w) zv zt z2;obtain⟨vs',g1,g2,g3⟩:=HO he hg _ _ l zt.flat zv.cells cs hp hl (zo.flat (RL H4)).1 H4 qG;have hr:(execOp a.eval o).run P w= .ok (.value (.agg vs')) w:=by
    simp only [execOp,ho]
    rw [Sem.run_bind,run_build w t _ vs' (by
     rw [jC];exact hb zv _ vs' z3 g1)]
    rfl
   rw [hr];exact .rep hs (by simp only [aU]; exact ⟨vs',rfl,g2,g3⟩)
  ·cases h
 ·cases h
end
theorem xM {e e' v:D}{u x:Value}{c:Nat}(he:aU ρ w e u)(dN:e.st=true)(hv:aU ρ w v x)(h:e.over c v=some e'):
  ∃u',aU ρ w e' u' /\e'.st=true/\u'.cells.toList=over u.cells.toList c x.cells.toList/\c+x.cells.size<=u.cells.size/\v.st=true:=by
 unfold D.over at h;split at h
 ·cases h
 ·rename_i JO;have hf:=hv.flat JO;have hxs:=hv.size JO;split at h
  ·rename_i cs;split at h
   ·rename_i hle;simp only [aa]at h; subst h;have hle:=az hle;simp only [aU]at he;obtain⟨vs,rfl,h1,h2⟩:=he;have hl:=h1.length;simp only [fb]at hl;refine⟨.agg (over vs.toList c x.cells.toList).toArray, ?_, ?_,by simp [Value.cells],(by show c+x.cells.size<=vs.size; omega),JO⟩
    ·simp only [aU];exact⟨_,rfl,by simpa using h1.over hf.1 (by omega),B3 h2 (D.na JO) (by omega)⟩
    ·simp only [D.st]; exact B3 h2 (D.na JO) (by omega)
   ·cases h
  ·rename_i Zm;split at h
   ·rename_i h0 H4;simp only [aa]at h; subst h;obtain rfl:=aD h0;have abd:e.sc=true:=by
     rcases D.Ek dN with ⟨l,rfl,_⟩ | h
     ·exact absurd rfl (Zm _)
     ·exact h
    have c1:=(he.sc abd).2;have c2:=(hv.sc H4).2;exact⟨x,hv,D.Na H4,by rw [c1,c2]; simp [over],by rw [c1,c2]; simp,JO⟩
   ·cases h
theorem jm {b:Nat}:∀(us:List Value) (c:Nat) (w:World) (cs:Array Value) (e:TypeId) (f:Nat×Nat),w.heap[b]? =some (.cells cs e f)->c+us.length<=cs.size->
  (∃cs' :Array Value,(w.setCells b c us).heap[b]? =some (.cells cs' e f)/\cs'.toList=over cs.toList c us)/\(∀b',b' ≠b->(w.setCells b c us).heap[b']? =w.heap[b']?)/\(w.setCells b c us).heap.size=w.heap.size/\
  (w.setCells b c us).os=w.os/\(w.setCells b c us).tape=w.tape/\(w.setCells b c us).output=w.output
 | [],c,w,cs,e,f,h,_=>⟨⟨cs,h,by rw [nk]⟩,fun _ _=>rfl,rfl,rfl,rfl,rfl⟩
 | u::us,c,w,cs,e,f,h,hle=>by
  simp only [aV]at hle;have dM:=xj h;have h1:(w.setCell ⟨b,c,none⟩ u).heap[b]? =some (.cells (cs.setIfInBounds c u) e f):=by
   simp [World.setCell,mF,h]
  have h2:∀b',b' ≠b->(w.setCell ⟨b,c,none⟩ u).heap[b']? =w.heap[b']? :=by
   intro b' cE;simp [World.setCell,mF];exact fun e=>absurd e.symm cE
  obtain⟨⟨cs',g1,g2⟩,g3,g4,g5,g6,g7⟩:=jm us (c+1) (w.setCell ⟨b,c,none⟩ u) _ e f h1 (by simp; omega);refine⟨⟨cs',g1, ?_⟩,fun b' cE=>(g3 b' cE).trans (h2 b' cE),g4.trans (by simp [World.setCell]),g5,g6,g7⟩;rw [g2,r9 _ _ _ _ (by simp; omega)];simp
theorem qe {α:Type}:∀(l:List α) (n:Nat) (v:List α) (k:Nat),n+v.length<=l.length->(over l n v)[k]? =if n<=k/\k < n+v.length then v[k - n]? else l[k]? :=by
 intro l n v k h;rw [oo _ _ _ (by omega),hZ];rcases aH k n with hk | hk
 ·rw [aP (by simp; omega),aK (by omega),de,bT hk]
 ·rw [aT (by simp; omega)];simp only [cM];rw [show min n l.length=n by omega];rcases aH k (n+v.length) with h2 | h2
  ·rw [aP (by omega),bT ⟨hk,h2⟩]
  ·rw [aT (by omega),aK (by omega),cX]
   congr 1; omega
theorem iF {sz:Nat}:∀ {l:List D},eI sz l=true↔∀d∈l,d.flat.length=sz/\d.st=true
 | []=>by simp [eI]
 | d::l=>by
  simp only [eI,aB,bR,iF (l:=l)];constructor
  ·rintro⟨⟨h1,h2⟩,h3⟩ x (rfl | hx)
   ·exact⟨aD h1,h2⟩
   ·exact h3 x hx
  ·intro h;refine⟨⟨?_,(h d (.inl rfl)).2⟩,fun x hx=>h x (.inr hx)⟩;rw [(h d (.inl rfl)).1]; exact aA _
theorem Gz {sz:Nat} {l l' :List D}(h:eI sz l=true) (h' :eI sz l' =true){n:Nat}(hn:n<=l.length):eI sz (over l n l')=true:=by
 rw [iF]at *;intro d hd;rw [oo _ _ _ hn,bK,bK]at hd;rcases hd with (hd | hd) | hd
 ·exact h d (fW hd)
 ·exact h' d hd
 ·exact h d (nG hd)
theorem ey {b j:Nat}{cs:Array Value}{e:TypeId}{f:Nat×Nat}(h:w.heap[b]? =some (.cells cs e f)):w.cell? ⟨b,j,none⟩=cs[j]? :=by
 simp [World.cell?,h]
theorem rZ (hs:ck ρ s w){o b z st i e:Nat}{es l:List D}{vs:List Value} {cs cs' :Array Value}{f:Nat×Nat}(lG:s.get o=some (.arr z e es st))(hb:ρ.own b= .obj o)(hex:ρ.ext b=es.length)(hi:ρ.sh b<=i)
  (hl:gu ρ w z l vs)(hle:i+l.length<=es.length)(qG:w.heap[b]? =some (.cells cs e f)) (yk :w'.heap[b]? =some (.cells cs' e f))(Gv:cs'.toList=over cs.toList ((i - ρ.sh b) * z) vs)
  (hh:∀b',b' ≠b->w'.heap[b']? =w.heap[b']?)(fS:w'.heap.size=w.heap.size)(ho:w'.os=w.os)(ht:w'.tape=w.tape)(hu:w'.output=w.output)(gO:s.set o (.arr z e (over es i l) es.length)=some s'):
  Kp ρ w ρ w' /\ck ρ s' w' :=by
 obtain⟨z0,k1,zw,⟨cur,c1,c2,c3⟩,wU,dQ⟩:=hs.ok _ _ lG;have hB:=wU b hb;have IV:=hl.length;have pG:=hB.room
 have pR:∀j,j < ρ.cap b * z->j < cs.size:=fun j hj=>by
  have:=(hB.cells j hj).1;rw [ey qG]at this;rcases aH j cs.size with h | h
  ·exact h
  ·simp [cL h]at this
 have MB:ρ.cap b * z<=cs.size:=by
  rcases ec (ρ.cap b * z) with h | h
  ·omega
  ·have:=pR (ρ.cap b * z - 1) (by omega); omega
 have mD:(i - ρ.sh b) * z+vs.length<=ρ.cap b * z:=by
  rw [IV,← Nat.add_mul]; exact dn _ (by omega)
 have hlen:(over es i l).length=es.length:=jE _ _ _ hle;have LO:cs'.size=cs.size:=by
  have:=congrArg List.length Gv;rw [jE _ _ _ (by simp; omega)]at this;simpa using this
 have kQ:∀j,cs'[j]? =if (i - ρ.sh b) * z<=j/\j < (i - ρ.sh b) * z+vs.length then vs[j - (i - ρ.sh b) * z]? else cs[j]? :=fun j=>by
  have:=qe cs.toList ((i - ρ.sh b) * z) vs j (by simp; omega);rw [← Gv]at this;simpa using this
 refine su hs gO hb (hs.lt _ _ lG) hh fS ho ht hu fun hK=>⟨z0,k1,by rw [hlen]; exact aq _,⟨cur,c1,by rw [hlen]; exact c2,fun b' h1 h2=>c3 b' h1 (by rw [← hlen]; exact h2)⟩,fun b' jl => ?_,Gz dQ hl.eI (by omega)⟩;by_cases lT:b' =b
 ·subst lT;refine⟨by rw [hlen]; exact hB.ext,hB.sh,hB.room,fun j hj=> ?_,⟨_,_,yk⟩,fun g i2 d a1 a2 a3=> ?_⟩
  ·have:=pR j hj;refine⟨by rw [ey yk]; simp [LO,this], ?_⟩;have:=(hB.cells j hj).2;simp only [World.frozen?,qG]at this;simp only [World.frozen?,yk];exact this
  ·rw [qe _ _ _ _ hle]at a3;split at a3
   ·rename_i acw
    have hr:w'.rangeAt b' ((i - ρ.sh b') * z) vs:=fun j u hj=>by
     have dM:j < vs.length:=(aj.1 hj).1;rw [ey yk,kQ,bT (by omega)];rwa [Nat.add_sub_cancel_left]
    obtain⟨v,v1,v2,v3,v4⟩:=(hl.mono hK).get hr (i2 - i) d a3;refine⟨v,v1,v2, ?_⟩;rwa [← Nat.add_mul,show i - ρ.sh b' +(i2 - i)=i2 - ρ.sh b' by omega]at v3
   ·rename_i Xh;obtain⟨v,v1,v2,v3⟩:=hB.elems (by omega) i2 d a1 a2 a3;refine⟨v,v1.mono hK,v2,fun j hj=> ?_⟩;have:=v3 j hj;rw [ey qG]at this;rw [ey yk,kQ,aK,this];rcases aH i2 i with dM | pW
    ·have:(i2 - ρ.sh b' +1) * z<=(i - ρ.sh b') * z:=dn _ (by omega);rw [bS]at this;omega
    ·have:(i - ρ.sh b' +l.length) * z<=(i2 - ρ.sh b') * z:=dn _ (by omega);rw [bS,← IV]at this;omega
 ·have zm :=wU b' jl;have e1:=hh b' lT;refine⟨by rw [hlen]; exact zm.ext,zm.sh,zm.room,fun j hj=> ?_,by rw [e1]; exact zm.shape,fun g i2 d a1 a2 a3=> ?_⟩
  ·rw [cell?_of_heap e1,frozen?_of_heap e1]; exact zm.cells j hj
  ·have h1:ρ.ext b' =es.length:=Nat.le_antisymm zm.ext g;exact absurd ((c3 b' jl h1).trans (c3 b hb hex).symm) lT
theorem xN {t:TypeId}{sz b c:Nat}{v:D}{x:Value}(fS:dO P t=some sz)(hv:aU ρ w v x)(dN:v.st=true)(hl:v.flat.length=sz)(ht:w.there b c sz):
  (Instr.storeAt t (.pointer (some ⟨b,c,none⟩)) x).run P w= .ok () (w.setCells b c x.cells.toList):=by
 have hs:=hv.size dN;have h1:=run_storeCells_cells (P:=P) b c x.cells.toList 0 w (fun j hj=>by simpa using (ht j (by simp at hj; omega)).1) (fun j hj=>by simpa using (ht j (by simp at hj; omega)).2) (hv.flat dN).2;simp only [fP]at h1;have cE: ¬ (x.cells.size≠sz):=by omega
 simp [Instr.storeAt,Instr.sureAddr,storeVar,fT fS,h1,show x.cells.size=sz by omega]
section
variable (he:ew ρ w lo env a.tmps)(hg:gN pn G ρ w)(hs:ck ρ s w)
include he hg hs
theorem O5 {e:TypeId}{v:D}{x:bP}{u:Value}(hx:x.ev env=some v)(hv:aU ρ w v u)(h:cC C env s al (.box e x)=some (d,s')){o:Oper}
  (hr:(execOp a.eval o).run P w= .ok (.value (.pointer (some ⟨w.heap.size,0,none⟩))) (w.alloc (.cells u.cells e))):fc P ρ w env a.tmps d s' ((execOp a.eval o).run P w):=by
 simp only [cC,hx]at h;split at h
 ·rename_i dN;simp only [aB]at dN;split at h
  ·rename_i k s2 hm;simp only [aa,ae]at h;obtain⟨rfl,rfl⟩:=h;have hl:=az dN.2;have fS:=hv.size dN.1;obtain⟨n1,n2,n3,n4⟩:=xO (w' :=w.alloc (.cells u.cells e)) hs hm 1 0 0 rfl rfl rfl rfl (fun hK nL hh=>⟨w.heap.size,u,by simp [Gh.new],nL,hv.mono hK,hh,by omega,dN.1⟩);rw [hr];exact .val n1 n2 (by simp only [aU,Gh.at,n4]; exact ⟨_,n3,rfl⟩)
  ·cases h
 ·cases h
theorem Nd {t:TypeId}{q e:TypeId}(hu:P.underlying t=some (.map q e)) {r' :Option Operand}{r:Option bP}(hr:sL G r' =some r)(h:cC C env s al (.yw r)=some (d,s')){o:Oper}(ho:o.op= .makeMap t r'):
  fc P ρ w env a.tmps d s' ((execOp a.eval o).run P w):=by
 simp only [cC]at h;split at h
 ·rename_i fK;split at h
  ·rename_i k s2 hm;simp only [aa,ae]at h;obtain⟨rfl,rfl⟩:=h;obtain⟨n1,n2,n3,n4⟩:=xO (w' :=w.alloc (.map #[] 0)) hs hm 1 0 0 rfl rfl rfl rfl (fun hK nL hh=>⟨w.heap.size, #[],by simp [Gh.new],nL,hh,by simp [fO]⟩);have fY:(execOp a.eval o).run P w= .ok (.value (.map (some w.heap.size))) (w.alloc (.map #[] 0)):=by
    simp only [execOp,ho];cases r' with
    | none=>simp [Instr.makeMap,newObj,Sem.run]
    | some x' =>
     simp only [sL,bj]at hr;obtain⟨x,hx,rfl⟩:=hr;simp only [sJ]at fK;cases Q8:x.ev env with
     | none=>simp [Q8]at fK
     | some dx=>
      simp only [Q8]at fK;have hxr:=ba hx he hg Q8;cases dx <;> simp at fK;simp only [aU]at hxr;simp [Instr.makeMap,run_underlying hu,hxr,asInt,asIntOf,newObj];rfl
   rw [fY];exact .val n1 n2 (by simp only [aU,Gh.at,n4]; exact ⟨_,n3,rfl⟩)
  ·cases h
 ·cases h
omit he hg in
theorem An {sz:Nat}{dp v:D}{pv xv:Value}(Li:aU ρ w dp pv)(Iz:aU ρ w v xv)(h1:jN s sz dp v=some s'):
  ∃b c,pv= .pointer (some ⟨b,c,none⟩)/\v.st=true/\v.flat.length=sz/\w.there b c sz/\Kp ρ w ρ (w.setCells b c xv.cells.toList)/\ck ρ s' (w.setCells b c xv.cells.toList):=by
 unfold jN at h1;split at h1
 ·cases h1
 ·rename_i hl;have hl:=aD hl;split at h1
  ·rename_i ob c;split at h1
   ·rename_i el e lG;split at h1
    ·rename_i e' Gv;obtain⟨b,u,k1,one,r1,r2,r3,r4⟩:=hs.ok _ _ lG;simp only [aU,Gh.at,k1]at Li;obtain⟨b',jl,Li⟩:=Li;obtain rfl:=one.2 _ jl;obtain⟨u',o1,o2,o3,o4,dN⟩:=xM r1 r4 Iz Gv;have hxs:=Iz.size dN;obtain⟨⟨cs',g1,g2⟩,g3,g4,g5,g6,g7⟩:=jm xv.cells.toList c w u.cells el (0,0) r2 (by simpa using o4)
     have ZR:w.there b' c sz:=(fun j hj=>by
      have:c+j < u.cells.size:=by omega
      simp [World.cell?,World.frozen?,r2,this])
     have qG:cs' =u'.cells:=dH (by rw [g2,o3])
     obtain⟨n1,n2⟩:=su (w' :=w.setCells b' c xv.cells.toList) hs h1 one.1 (hs.lt _ _ lG) g3 g4 g5 g6 g7 (fun hK=>by
      refine⟨b',u',k1,one,o1.mono hK,by rw [g1,qG], ?_,o2⟩;have:u'.cells.toList.length=u.cells.toList.length:=by rw [o3,jE]; simpa using o4
      simp at this; omega)
     exact⟨b',c,Li,dN,hl,ZR,n1,n2⟩
    ·cases h1
   ·cases h1
  ·rename_i ob i c e;split at h1
   ·rename_i z ty es st lG;split at h1
    ·rename_i iW;obtain rfl:=aD iW;split at h1
     ·rename_i el Lf;split at h1
      ·rename_i el' Gv;obtain⟨z0,k1,zw,⟨cur,c1,c2,c3⟩,wU,dQ⟩:=hs.ok _ _ lG;simp only [aU,Gh.at,k1]at Li;obtain⟨b,hb,q1,q2,q3,Li⟩:=Li;have hB:=wU b hb;have hex:ρ.ext b=es.length:=Nat.le_antisymm hB.ext q3;obtain⟨u,u1,u2,u3⟩:=hB.elems (by omega) i el q1 (by omega) Lf;obtain⟨u',o1,o2,o3,o4,dN⟩:=xM u1 (oH dQ Lf).2 Iz Gv;have hxs:=Iz.size dN;obtain⟨cs,f,lD⟩:=hB.shape;have hzb:(i - ρ.sh b+1) * z<=ρ.cap b * z:=dn _ (by have:=hB.room; omega);rw [bS]at hzb;have ZR:∀j,j < sz->(w.cell? ⟨b,(i - ρ.sh b) * z+c+j,none⟩).isSome=true/\w.frozen? ⟨b,(i - ρ.sh b) * z+c+j,none⟩=false:=fun j hj=>hB.cells _ (by omega);have ach:(i - ρ.sh b) * z+z<=cs.size:=by
        have:=(hB.cells ((i - ρ.sh b) * z+z - 1) (by omega)).1;rw [ey lD]at this;rcases aH ((i - ρ.sh b) * z+z - 1) cs.size with h | h
        ·omega
        ·simp [cL h]at this
       obtain⟨⟨cs',g1,g2⟩,g3,g4,g5,g6,g7⟩:=jm xv.cells.toList ((i - ρ.sh b) * z+c) w cs ty f lD (by simp; omega);have tL :u'.cells.size=z:=by
        have:=congrArg List.length o3;rw [jE _ _ _ (by simpa using o4)]at this;simp at this; omega
       have abD:cs'.toList=over cs.toList ((i - ρ.sh b) * z) u'.cells.toList:=by
        rw [g2,o3];refine kr fun k=> ?_;rw [qe _ _ _ _ (by simp; omega),qe _ _ _ _ (by rw [jE _ _ _ (by simpa using o4)]; simp; omega),jE _ _ _ (by simpa using o4)];simp only [fb];by_cases hk:(i - ρ.sh b) * z<=k/\k < (i - ρ.sh b) * z+u.cells.size
        ·rw [bT hk,qe _ _ _ _ (by simpa using o4)];simp only [fb];by_cases ym:(i - ρ.sh b) * z+c<=k/\k < (i - ρ.sh b) * z+c+xv.cells.size
         ·rw [bT ym,bT (by omega)]
          congr 1; omega
         ·rw [aK ym,aK (by omega)];have:=u3 (k - (i - ρ.sh b) * z) (by omega);rw [ey lD,show (i - ρ.sh b) * z+(k - (i - ρ.sh b) * z)=k by omega]at this;simpa using this
        ·rw [aK hk,aK (by omega)]
       have gO:s.set ob (.arr z ty (over es i [el']) es.length)=some s' :=by
        rw [← h1]; congr 2;have ja:i < es.length:=by omega
        rw [r9 _ _ _ _ ja,nk]
       obtain⟨n1,n2⟩:=rZ (w' :=w.setCells b ((i - ρ.sh b) * z+c) xv.cells.toList) (vs:=u'.cells.toList) (l:=[el']) hs lG hb hex q1 (gu.single o1 tL o2) (by simp; omega) lD g1 abD g3 g4 g5 g6 g7 gO;exact⟨b,_,Li,dN,hl,ZR,n1,n2⟩
      ·cases h1
     ·cases h1
    ·cases h1
   ·cases h1
  ·cases h1
theorem Mu {t:TypeId}{sz:Nat} {p' x' :Operand}{p x:bP}(hp:eO G p' =some p)(hx:eO G x' =some x)(fS:dO P t=some sz)
  (h:cC C env s al (.store sz p x)=some (d,s')){o:Oper}(ho:o.op= .store t p' x'):fc P ρ w env a.tmps d s' ((execOp a.eval o).run P w):=by
 simp only [cC]at h;split at h
 ·rename_i dp v hdp Xf;obtain⟨h1,rfl⟩:=il h;have Li:=ba hp he hg hdp;have Iz:=ba hx he hg Xf;have fin:∀w',(Instr.storeAt t (a.eval p') (a.eval x')).run P w= .ok () w' ->(execOp a.eval o).run P w= .ok .skip w' :=by
   intro w' hw;simp only [execOp,ho]; rw [Sem.run_bind,hw]; rfl
  obtain⟨b,c,e1,e2,e3,e4,n1,n2⟩:=An hs Li Iz h1;rw [fin _ (by rw [e1]; exact xN (P:=P) fS Iz e2 e3 e4)];exact⟨ρ,n1,n2,rfl⟩
 ·cases h
end
end Go.Ab
