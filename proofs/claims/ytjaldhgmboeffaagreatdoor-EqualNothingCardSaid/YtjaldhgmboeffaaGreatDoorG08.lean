/- Part. -/
import Derived.Test.YtjaldhgmboeffaaGreatDoorG07
import Derived.Deep.Upon
set_option linter.unusedSimpArgs false
set_option linter.unusedVariables false
set_option linter.unusedSectionVars false
namespace Go.Ab
open Go
variable [eV]
variable {ρ ρ' :Gh} {w w' :World}{P:Program}{pn:jn}{G:Gl}{X:iw}{A:nA} {s s' :St}{env:Env}{a:Act}{lo:Nat}{d:D}{C:ay}{al:Option Nat}
def Gh.put (ρ:Gh)(b k z sh ex cp:Nat):Gh:=
 {own:=fun x=>if x=b then .obj k else ρ.own x
  sh:=fun x=>if x=b then sh else ρ.sh x
  ext:=fun x=>if x=b then ex else ρ.ext x
  cap:=fun x=>if x=b then cp else ρ.cap x
  kd:=fun o=>if o=k then .live z else ρ.kd o
  lp:=ρ.lp}
theorem yj (hs:ck ρ s w){b k z sh ex cp:Nat}{x:Obj}(GM:∀o',ρ.own b= .obj o' ->o' =k\/ρ.kd o' = .dead)(LJ:w.heap.size<=b\/∃o',ρ.own b= .obj o')
  (gV:ρ.kd k= .fresh\/(ρ.kd k= .live z/\(ρ.own b= .obj k->sh=ρ.sh b/\ρ.ext b<=ex/\cp=ρ.cap b)))
  (hh:∀b',b' ≠b->b' < w.heap.size->w'.heap[b']? =w.heap[b']?)(fS:w.heap.size<=w'.heap.size) (abS :∀b',w'.heap.size<=b' ->b' ≠b)
  (ho:w'.os=w.os)(ht:w'.tape=w.tape)(hu:w'.output=w.output)(hx:Kp ρ w (ρ.put b k z sh ex cp) w' ->pP (ρ.put b k z sh ex cp) w' k x)
  (hn:k < s'.n)(PJ:s.n<=s'.n)(kQ:∀o,s'.get o=if o=k then some x else s.get o):
  Kp ρ w (ρ.put b k z sh ex cp) w' /\ck (ρ.put b k z sh ex cp) s' w' :=by
 have UN:ρ.kd k≠ .dead:=by rcases gV with h | ⟨h,_⟩ <;> rw [h] <;> simp
 have hK:Kp ρ w (ρ.put b k z sh ex cp) w' :=by
  refine⟨ho,ht,hu,fS,fun b' jl Fs=> ?_,fun o h=> ?_,fun o y h=> .inr ⟨?_,fun b' jl => ?_⟩⟩
  ·have cE:b' ≠b:=by
    rintro rfl;rcases LJ with h | ⟨o',h⟩
    ·omega
    ·exact Fs _ h
   exact⟨hh b' cE jl,by simp [Gh.put,cE]⟩
  ·simp only [Gh.put]; rw [aK (by rintro rfl; exact UN h)]; exact ⟨h,trivial⟩
  ·simp only [Gh.put]; split
   ·rename_i e; subst e;rcases gV with h' | ⟨h',_⟩
    ·rw [h']at h; cases h
    ·rw [h']at h; simpa using h
   ·exact h
  ·by_cases cE:b' =b
   ·subst cE;rcases GM o jl with rfl | hd
    ·rcases gV with h' | ⟨h',h2⟩
     ·rw [h']at h; cases h
     ·obtain⟨e1,e2,e3⟩:=h2 jl;simp only [Gh.put,eu];exact⟨trivial,e1,e2,e3⟩
    ·rw [hd]at h; cases h
   ·simp only [Gh.put,aK cE]; exact ⟨jl,trivial,aq _,trivial⟩
 refine⟨hK,hs.Pt hK k x (fun b' o cE tc=> ?_) (fun o cE=>by simp [Gh.put,cE]) (fun b' o cE tc jl => ?_) (hx hK) (fun b' jl => ?_) hn PJ kQ⟩
 ·simp only [Gh.put]; split
  ·rename_i e; subst e;constructor
   ·intro h; simp at h; exact absurd h.symm cE
   ·intro h;rcases GM o h with h1 | h1
    ·exact absurd h1 cE
    ·exact absurd h1 tc
  ·rfl
 ·have tz :b' ≠b:=by
   rintro rfl;rcases GM o jl with h1 | h1
   ·exact cE h1
   ·exact tc h1
  simp only [Gh.put,aK tz];exact⟨hh b' tz (hs.jJ jl),trivial,trivial,trivial⟩
 ·simp only [Gh.put,aK (abS b' jl)]; exact hs.size b' (by omega)
theorem uz {z st st' n b e:Nat}{es l:List D}{vs:List Value} {cs cs' :Array Value}{f:Nat×Nat}(z0:0 < z)(hB:sC ρ w z e es st b)(dN:st<=ρ.ext b)(h1:ρ.sh b<=n)(h2:n<=ρ.ext b)
  (hl:gu ρ w z l vs)(room:n - ρ.sh b+l.length<=ρ.cap b)(qG:w.heap[b]? =some (.cells cs e f)) (yk :w'.heap[b]? =some (.cells cs' e f))(Gv:cs'.toList=over cs.toList ((n - ρ.sh b) * z) vs)
  (hK:Kp ρ w ρ' w')(gX:ρ'.sh b=ρ.sh b)(pR:ρ'.cap b=ρ.cap b)(Du:ρ'.ext b=n+l.length):sC ρ' w' z e (es.take n++l) st' b:=by
 have IV:=hl.length;have cE:=hB.ext;have yr:(es.take n).length=n:=by simp; omega
 have MB:ρ.cap b * z<=cs.size:=by
  rcases ec (ρ.cap b * z) with h | h
  ·omega
  ·have:=(hB.cells (ρ.cap b * z - 1) (by omega)).1;rw [ey qG]at this;rcases aH (ρ.cap b * z - 1) cs.size with h' | h'
   ·omega
   ·simp [cL h']at this
 have mD:(n - ρ.sh b) * z+vs.length<=ρ.cap b * z:=by
  rw [IV,← Nat.add_mul]; exact dn _ room
 have LO:cs'.size=cs.size:=by
  have:=congrArg List.length Gv;rw [jE _ _ _ (by simp; omega)]at this;simpa using this
 have kQ:∀j,cs'[j]? =if (n - ρ.sh b) * z<=j/\j < (n - ρ.sh b) * z+vs.length then vs[j - (n - ρ.sh b) * z]? else cs[j]? :=fun j=>by
  have:=qe cs.toList ((n - ρ.sh b) * z) vs j (by simp; omega);rw [← Gv]at this;simpa using this
 refine⟨by rw [Du]; simp; omega,by rw [gX,Du]; omega,by rw [gX,Du,pR]; omega,fun j hj=> ?_,⟨_,_,yk⟩,fun _ i d a1 a2 a3=> ?_⟩
 ·rw [pR]at hj;have dM:j < cs.size:=by omega
  refine⟨by rw [ey yk]; simp [LO,dM], ?_⟩;have:=(hB.cells j hj).2;simp only [World.frozen?,qG]at this;simp only [World.frozen?,yk];exact this
 ·rw [gX]at a1 ⊢;rcases aH i n with hi | hi
  ·rw [aP (by omega),de,bT hi]at a3;obtain⟨v,v1,v2,v3⟩:=hB.elems dN i d a1 (by omega) a3;refine⟨v,v1.mono hK,v2,fun j hj=> ?_⟩;have:=v3 j hj;rw [ey qG]at this;rw [ey yk,kQ,aK,this];have:(i - ρ.sh b+1) * z<=(n - ρ.sh b) * z:=dn _ (by omega);rw [bS]at this;omega
  ·rw [aT (by omega),yr]at a3
   have hr:w'.rangeAt b ((n - ρ.sh b) * z) vs:=fun j u hj=>by
    have dM:j < vs.length:=(aj.1 hj).1;rw [ey yk,kQ,bT (by omega)];rwa [Nat.add_sub_cancel_left]
   obtain⟨v,v1,v2,v3,v4⟩:=(hl.mono hK).get hr (i - n) d a3;refine⟨v,v1,v2, ?_⟩;rwa [← Nat.add_mul,show n - ρ.sh b+(i - n)=i - ρ.sh b by omega]at v3
theorem Bf {z st' off len b cp:Nat}{es l:List D}{vs rest:List Value}{cs:Array Value}{e:TypeId}(hlen:off+len<=es.length)
  (hl:gu ρ' w' z ((es.drop off).take len++l) vs)(room:len+l.length<=cp)(fS:cs.size=cp * z)(qG:w'.heap[b]? =some (.cells cs e (0,0)))(hv:cs.toList=vs++rest)
  (gX:ρ'.sh b=off)(pR:ρ'.cap b=cp)(Du:ρ'.ext b=off+len+l.length):sC ρ' w' z e (es.take (off+len)++l) st' b:=by
 have yr:(es.take (off+len)).length=off+len:=by simp; omega
 refine⟨by rw [Du]; simp; omega,by rw [gX,Du]; omega,by rw [gX,Du,pR]; omega,fun j hj=> ?_,⟨_,_,qG⟩,fun _ i d a1 a2 a3=> ?_⟩
 ·rw [pR,← fS]at hj;exact⟨by rw [ey qG]; simp [hj],by simp [World.frozen?,qG]⟩
 ·rw [gX]at a1 ⊢;have:((es.drop off).take len++l)[i - off]? =some d:=by
   rw [← a3];rcases aH i (off+len) with hi | hi
   ·rw [aP (by simp; omega),aP (by omega),de,de,bT (by omega),bT hi,cX]
    congr 1; omega
   ·rw [aT (by simp; omega),aT (by omega)]
    congr 1; simp; omega
  obtain⟨v,v1,v2,v3,v4⟩:=hl.get (l7 qG hv) (i - off) d this;exact⟨v,v1,v2,by simpa using v3⟩
theorem fits {n b k:Nat}(h:k < n)(hn:n<=aL)(hb:b<=4096):Builtin.nextslicecap n k * b<=281474976710656:=by
 refine growslice_fits h (cU (Nat.mul_le_mul hn hb) ?_);decide
theorem FI (hs:ck ρ s w){t tx ty e:TypeId}{i:TypeInfo}{zv:Value}{m:Nat}{dx:D}{v y:Value}{l:List D}{vs:List Value}(ht:P.underlying t=some (.slice e))(hi:P.info? e=some i)(hz:i.zero=some zv)(Py:i.size=m+1)
  (zo:zv.cells.size=m+1)(hib:i.bytes<=4096)(hx:aU ρ w dx v)(hl:gu ρ w (m+1) l vs)(Kk:Src P i.size tx y l.length vs w)(h:fH s al (m+1) e dx l=some (d,s')):
  ∃u w' ρ',(Builtin.append_ #[t,tx] ty #[v,y]).run P w= .ok u w' /\Kp ρ w ρ' w' /\ck ρ' s' w' /\aU ρ' w' d u:=by
 have IV:=hl.length;unfold fH at h;split at h
 ·
  have kz:vs=[]:=hl;subst kz;have fin:∀base sLen sCap,v= .slice base sLen sCap->sLen<=sCap->dx=d->s=s' ->∃u w' ρ',(Builtin.append_ #[t,tx] ty #[v,y]).run P w= .ok u w' /\Kp ρ w ρ' w' /\ck ρ' s' w' /\aU ρ' w' d u:=by
   rintro base sLen sCap rfl hle rfl rfl;exact⟨_,w,ρ,run_append_nothing (P:=P) w t tx ty e i ht hi base sLen sCap hle y Kk,Kp.refl _ _,hs,hx⟩
  split at h
  ·simp only [aa,ae]at h;have yQ :=hx;simp only [aU]at yQ;rcases yQ with ⟨_,rfl,rfl⟩ | ⟨_,ad,c,rfl,hle,_⟩
   ·exact fin _ _ _ rfl (aq _) h.1 h.2
   ·exact fin _ _ _ rfl hle h.1 h.2
  ·split at h
   ·rename_i lG;simp only [aa,ae]at h;obtain⟨_,k1,_⟩:=hs.ok _ _ lG;have yQ :=hx;simp only [aU,Gh.at,k1]at yQ;obtain⟨b,hb,q1,q2,q3,xx,cap,rfl,q5,_⟩:=yQ;exact fin _ _ _ rfl (by omega) h.1 h.2
   ·cases h
  ·cases h
 ·rename_i zF;have Fo:0 < l.length:=by
   cases l with
   | nil=>exact absurd rfl zF
   | cons _ _=>simp
  split at h
  ·
   split at h
   ·rename_i lZ;have lZ:=az lZ;split at h
    ·rename_i k s2 hm;simp only [aa,ae]at h;obtain⟨rfl,rfl⟩:=h;simp only [aU]at hx;rcases hx with ⟨_,_,rfl⟩ | ⟨hf,_⟩
     ·have fY:=run_append_grow_src (P:=P) w t tx ty e i zv ht hi hz none 0 0 [] (run_firstCells_none _ _ _ _ _) y l.length vs Kk (by omega) (by have:l.length<=2147483648:=lZ; omega) (fits (by omega) (by omega) hib);have pR:=grownCap_ge w (0+l.length) 0 e;simp only [aN,cB]at fY pR
      obtain⟨ρ',n1,n2,n3⟩:=Ce (al:=al) (w' :=w.drew.alloc (.cells (vs.toArray++Builtin.zeroCells zv.cells (grownCap w l.length 0 e - l.length)) e)) (rest:=(Builtin.zeroCells zv.cells (grownCap w l.length 0 e - l.length)).toList)
       hs (kS m) hm hl (by simp) (cp:=grownCap w l.length 0 e) (by
        rw [mj,size_zeroCells,zo]; simp only [ku,IV];rw [← Nat.add_mul]; congr 1; omega) pR rfl rfl rfl rfl
      exact⟨_,_,ρ',fY,n1,n2,n3⟩
     ·cases hf
    ·cases h
   ·cases h
  ·
   rename_i ob off len cp0;split at h
   ·rename_i z ty0 es st lG;split at h
    ·rename_i c1 c2 c3 c4;simp only [aB]at c1;obtain⟨c1,ct⟩:=c1;obtain rfl:=aD c1;obtain rfl:=(aD ct).symm;have c2:=az c2;have c3:=az c3;have c4:=az c4;obtain⟨z0,k1,zw,⟨cur,u1,u2,u3⟩,wU,dQ⟩:=hs.ok _ _ lG;have yQ :=hx;simp only [aU,Gh.at,k1]at yQ;obtain⟨b,hb,q1,q2,q3,xx,cap,rfl,q5,q6,q7⟩:=yQ;have hB:=wU b hb;have hBe:=hB.ext;have acA:=hs.jJ hb;have hold:∃olds,gu ρ w (m+1) ((es.drop off).take len) olds/\w.rangeAt b xx olds:=by
      by_cases zF:len=0
      ·exact⟨[],by subst zF; simp [gu],fun j u hj=>by simp at hj⟩
      ·have PH:xx=(off - ρ.sh b) * (m+1):=by rcases q6 with q6 | q6 <;> omega
       refine gy.row (gy.of (kS m) _ _ fun j el hj=> ?_);rw [de]at hj;split at hj
       ·rw [cX]at hj;obtain⟨u,r1,r2,r3⟩:=hB.elems (by omega) (off+j) el (by omega) (by omega) hj;refine⟨u,r1,r2, ?_,(oH dQ hj).2⟩;rwa [show off+j - ρ.sh b=(off - ρ.sh b)+j by omega,bS,← PH]at r3
       ·cases hj
     obtain⟨olds,Xg,ho2⟩:=hold;have hol:=Xg.length;have zT:((es.drop off).take len).length=len:=by simp; omega
     rw [zT]at hol
     have Tv: ¬ (len+l.length<=cap)->(Builtin.append_ #[t,tx] ty #[.slice (some ⟨b,xx,none⟩) len cap,y]).run P w=
       .ok (.slice (some ⟨w.heap.size,0,none⟩) (len+l.length) (grownCap w (len+l.length) cap e)) (w.drew.alloc (.cells ((olds++vs).toArray++Builtin.zeroCells zv.cells (grownCap w (len+l.length) cap e - (len+l.length))) e)):=fun hr=>
      run_append_grow_src (P:=P) w t tx ty e i zv ht hi hz (some ⟨b,xx,none⟩) len cap olds (run_firstCells_some w.drew i.size len ⟨b,xx,none⟩ len cap olds (by rw [hol,Py]) (fun j u hj=>by rw [Addr.add_mid]; simpa using ho2 j u hj)) y l.length vs Kk (by omega)
       (by have:len+l.length<=2147483648:=c4; omega) (fits (by omega) c4 hib)
     have O7:len+l.length<=cap->(Builtin.append_ #[t,tx] ty #[.slice (some ⟨b,xx,none⟩) len cap,y]).run P w= .ok (.slice (some ⟨b,xx,none⟩) (len+l.length) cap) (w.setCells b (xx+len * (m+1)) vs):=fun hr=>by
      have PH:xx=(off - ρ.sh b) * (m+1):=by rcases q6 with q6 | q6 <;> omega
      have hbd:∀j,j < vs.length->xx+len * (m+1)+j < ρ.cap b * (m+1):=fun j hj=>by
       have:((off - ρ.sh b)+len+l.length) * (m+1)<=ρ.cap b * (m+1):=dn _ (by omega);rw [bS,bS]at this;omega
      have:=run_append_room_src (P:=P) w t tx ty e i ht hi b xx len cap y l.length vs Kk hr (fun j hj=>by rw [Py]; exact (hB.cells _ (hbd j hj)).1) (fun j hj=>by rw [Py]; exact (hB.cells _ (hbd j hj)).2);rw [Py]at this;exact this
     have pR:=grownCap_ge w (len+l.length) cap e;split at h
     ·
      rename_i iW;have iW:=aD iW;split at h
      ·rename_i s2 gO;simp only [aa,ae]at h;obtain⟨rfl,rfl⟩:=h;have Lj:=St.qf gO;have hex:ρ.ext b=es.length:=by omega
       have GM:∀b' o',ρ.own b' = .obj o' ->b' =b->o' =ob:=by rintro b' o' h1 rfl; rw [hb]at h1; simpa using h1.symm
       have D4 :eI (m+1) (es++l)=true:=by
        rw [iF]at *;intro q hq;rcases bK.1 hq with hq | hq
        ·exact dQ q hq
        ·exact iF.1 hl.eI q hq
       by_cases hr:len+l.length<=cap
       ·
        have PH:xx=(off - ρ.sh b) * (m+1):=by rcases q6 with q6 | q6 <;> omega
        obtain⟨cs,f,lD⟩:=hB.shape;have Sj:xx+len * (m+1)+vs.length<=cs.size:=by
         have h1:((off - ρ.sh b)+len+l.length) * (m+1)<=ρ.cap b * (m+1):=dn _ (by omega);rw [bS,bS]at h1;have h2:0 < l.length * (m+1):=Nat.mul_pos Fo (kS m);have:=(hB.cells (ρ.cap b * (m+1) - 1) (by omega)).1;rw [ey lD]at this;rcases aH (ρ.cap b * (m+1) - 1) cs.size with h' | h'
         ·omega
         ·simp [cL h']at this
        obtain⟨⟨cs',g1,g2⟩,g3,g4,g5,g6,g7⟩:=jm vs (xx+len * (m+1)) w cs e f lD Sj;have KU:xx+len * (m+1)=(es.length - ρ.sh b) * (m+1):=by
         rw [PH,← Nat.add_mul]; congr 1; omega
        obtain⟨n1,n2⟩:=yj (w' :=w.setCells b (xx+len * (m+1)) vs) (b:=b) (k:=ob) (z:=m+1) (sh:=ρ.sh b) (ex:=es.length+l.length) (cp:=ρ.cap b) (x:= .arr (m+1) e (es++l) st) (s' :=s2) hs
         (fun o' h' => .inl (GM b o' h' rfl)) (.inr ⟨ob,hb⟩) (.inr ⟨k1,fun _=>⟨rfl,by omega,rfl⟩⟩) (fun b' cE _=>g3 b' cE) (by omega) (fun b' jl =>by omega) g5 g6 g7 (fun hK=>by
          refine⟨z0,by simp [Gh.put],by simp; omega,⟨b,by simp [Gh.put],by simp [Gh.put],fun b' h1 h2=> ?_⟩,fun b' h1=> ?_,D4⟩
          ·by_cases lT:b' =b
           ·exact lT
           ·simp only [Gh.put,aK lT]at h1 h2;have:=(wU b' h1).ext;simp at h2; omega
          ·by_cases lT:b' =b
           ·subst lT;have:=uz (st' :=st) (n:=es.length) z0 hB (by omega) (by omega) (by omega) hl (by omega) lD g1 (by rw [g2,KU]) hK (by simp [Gh.put]) (by simp [Gh.put]) (by simp [Gh.put]);rwa [eE]at this
           ·simp only [Gh.put,aK lT]at h1;have zm :=wU b' h1;have e1:=g3 b' lT;refine⟨by simp only [Gh.put,aK lT]; have:=zm.ext; simp; omega,by simp only [Gh.put,aK lT]; exact zm.sh,by simp only [Gh.put,aK lT]; exact zm.room,fun j hj=> ?_,by rw [e1]; exact zm.shape,fun a0 i2 dd a1 a2 a3=> ?_⟩
            ·simp only [Gh.put,aK lT]at hj;rw [cell?_of_heap e1,frozen?_of_heap e1]; exact zm.cells j hj
            ·simp only [Gh.put,aK lT]at a0 a1 a2 ⊢;have:=zm.ext;rw [aP (by omega)]at a3;obtain⟨vv,v1,v2,v3⟩:=zm.elems a0 i2 dd a1 a2 a3;exact⟨vv,v1.mono hK,v2,v3.of_heap e1⟩)
         (by rw [Lj]; exact hs.lt _ _ lG) (by rw [Lj]; exact aq _) (by rw [Lj]; exact St.fv s ob _)
        refine⟨_,_,_,O7 hr,n1,n2, ?_⟩;simp only [aU,Gh.at,Gh.put,eu];exact⟨b,by simp,by simp; omega,by simp; omega,aq _,xx,cap,rfl,by omega,by simp; exact q6,by simp; exact q7⟩
       ·
        obtain⟨n1,n2⟩:=yj (w' :=w.drew.alloc (.cells ((olds++vs).toArray++Builtin.zeroCells zv.cells (grownCap w (len+l.length) cap e - (len+l.length))) e)) (b:=w.heap.size) (k:=ob) (z:=m+1) (sh:=off) (ex:=es.length+l.length) (cp:=grownCap w (len+l.length) cap e) (x:= .arr (m+1) e (es++l) st) (s' :=s2) hs
         (fun o' h' =>by rw [hs.size _ (aq _)]at h'; cases h') (.inl (aq _)) (.inr ⟨k1,fun h' =>by rw [hs.size _ (aq _)]at h'; cases h'⟩) (fun b' cE dM=>iA (w:=w) rfl dM) (by show w.heap.size<=(w.heap.push _).size; simp) (fun b' jl =>by have jl :(w.heap.push _).size<=b' :=jl; simp at jl; omega) rfl rfl rfl (fun hK=>by
          refine⟨z0,by simp [Gh.put],by simp; omega,⟨w.heap.size,by simp [Gh.put],by simp [Gh.put],fun b' h1 h2=> ?_⟩,fun b' h1=> ?_,D4⟩
          ·by_cases lT:b' =w.heap.size
           ·exact lT
           ·simp only [Gh.put,aK lT]at h1 h2;have:=(wU b' h1).ext;simp at h2; omega
          ·by_cases lT:b' =w.heap.size
           ·subst lT
            have:=Bf (st' :=st) (z:=m+1) (off:=off) (len:=len) (es:=es) (l:=l) (b:=w.heap.size) (cp:=grownCap w (len+l.length) cap e) (rest:=(Builtin.zeroCells zv.cells (grownCap w (len+l.length) cap e - (len+l.length))).toList) c2 ((Xg.append hl).mono hK) pR (by
             rw [mj,size_zeroCells,zo]; simp only [ku,aG,IV,hol];rw [← Nat.add_mul,← Nat.add_mul]; congr 1; omega) (mg (w:=w) rfl) (by simp) (by simp [Gh.put]) (by simp [Gh.put]) (by simp [Gh.put]; omega)
            rwa [iW,eE]at this
           ·simp only [Gh.put,aK lT]at h1;have zm :=wU b' h1;have e1:=iA (w:=w) (w' :=w.drew.alloc (.cells ((olds++vs).toArray++Builtin.zeroCells zv.cells (grownCap w (len+l.length) cap e - (len+l.length))) e)) rfl (hs.jJ h1);refine⟨by simp only [Gh.put,aK lT]; have:=zm.ext; simp; omega,by simp only [Gh.put,aK lT]; exact zm.sh,by simp only [Gh.put,aK lT]; exact zm.room,fun j hj=> ?_,by rw [e1]; exact zm.shape,fun a0 i2 dd a1 a2 a3=> ?_⟩
            ·simp only [Gh.put,aK lT]at hj;rw [cell?_of_heap e1,frozen?_of_heap e1]; exact zm.cells j hj
            ·simp only [Gh.put,aK lT]at a0 a1 a2 ⊢;have:=zm.ext;rw [aP (by omega)]at a3;obtain⟨vv,v1,v2,v3⟩:=zm.elems a0 i2 dd a1 a2 a3;exact⟨vv,v1.mono hK,v2,v3.of_heap e1⟩)
         (by rw [Lj]; exact hs.lt _ _ lG) (by rw [Lj]; exact aq _) (by rw [Lj]; exact St.fv s ob _)
        refine⟨_,_,_,Tv hr,n1,n2, ?_⟩;simp only [aU,Gh.at,Gh.put,eu];exact⟨w.heap.size,by simp,by simp,by simp; omega,aq _,0,_,rfl,pR,.inr (by simp),by simp⟩
      ·cases h
     ·
      split at h
      ·rename_i s1 gO;split at h
       ·rename_i k s2 hm;simp only [aa,ae]at h;obtain⟨rfl,rfl⟩:=h;have Lj:=St.qf gO;have GM:∀o',ρ.own b= .obj o' ->o' =ob:=fun o' h1=>by rw [hb]at h1; simpa using h1.symm
        have X9:Kp ρ w { ρ with kd:=fun o=>if o=ob then .dead else ρ.kd o} w:=by
         refine⟨rfl,rfl,rfl,aq _,fun _ _ _=>⟨rfl,rfl⟩,fun o h' => ?_,fun o z' h' => ?_⟩
         ·simp only; split
          ·exact⟨rfl,trivial⟩
          ·exact⟨h',trivial⟩
         ·simp only; split
          ·exact .inl rfl
          ·exact .inr ⟨h',fun _ jl =>⟨jl,trivial,aq _,trivial⟩⟩
        have Yn:ck { ρ with kd:=fun o=>if o=ob then .dead else ρ.kd o} s1 w:=by
         refine hs.Pt X9 ob .dead (fun _ _ _ _=>nh) (fun o cE=>by simp [cE]) (fun _ _ _ _ _=>⟨rfl,rfl,rfl,rfl⟩) (by simp [pP]) hs.size ?_ ?_ ?_
         ·rw [Lj]; exact hs.lt _ _ lG
         ·rw [Lj]; exact aq _
         ·rw [Lj]; exact St.fv s ob _
        obtain⟨NP,CC,ym,ZV⟩:=Hx Yn hm;have Ig:=Yn.no k NP;have D4 :eI (m+1) (es.take (off+len)++l)=true:=by
         rw [iF];intro q hq;rcases bK.1 hq with hq | hq
         ·exact iF.1 dQ q (fW hq)
         ·exact iF.1 hl.eI q hq
        have aci :(es.take (off+len)++l).length=off+len+l.length:=by simp; omega
        have hlk:=hl.mono X9;have fK:=Xg.mono X9;generalize hρ1:({ ρ with kd:=fun o=>if o=ob then Kd.dead else ρ.kd o}:Gh)=ρ1 at *;have nL:∀b',ρ1.own b' ≠ .obj k:=fun b' h' =>Yn.live b' k h' Ig;by_cases hr:len+l.length<=cap
        ·have PH:xx=(off - ρ.sh b) * (m+1):=by rcases q6 with q6 | q6 <;> omega
         obtain⟨cs,f,lD⟩:=hB.shape;have Sj:xx+len * (m+1)+vs.length<=cs.size:=by
          have h1:((off - ρ.sh b)+len+l.length) * (m+1)<=ρ.cap b * (m+1):=dn _ (by omega);rw [bS,bS]at h1;have h2:0 < l.length * (m+1):=Nat.mul_pos Fo (kS m);have:=(hB.cells (ρ.cap b * (m+1) - 1) (by omega)).1;rw [ey lD]at this;rcases aH (ρ.cap b * (m+1) - 1) cs.size with h' | h'
          ·omega
          ·simp [cL h']at this
         obtain⟨⟨cs',g1,g2⟩,g3,g4,g5,g6,g7⟩:=jm vs (xx+len * (m+1)) w cs e f lD Sj;have KU:xx+len * (m+1)=(off+len - ρ.sh b) * (m+1):=by
          rw [PH,← Nat.add_mul]; congr 1; omega
         obtain⟨n1,n2⟩:=yj (w' :=w.setCells b (xx+len * (m+1)) vs) (b:=b) (k:=k) (z:=m+1) (sh:=ρ.sh b) (ex:=off+len+l.length) (cp:=ρ.cap b) (x:= .arr (m+1) e (es.take (off+len)++l) 0) (s' :=s2) Yn
          (fun o' h' => .inr (by subst hρ1; simp [GM o' h'])) (.inr ⟨ob,by subst hρ1; exact hb⟩) (.inl Ig) (fun b' cE _=>g3 b' cE) (by omega) (fun b' jl =>by omega) g5 g6 g7 (fun hK=>by
           refine⟨z0,by simp [Gh.put],by omega,⟨b,by simp [Gh.put],by simp only [Gh.put,eu]; omega,fun b' h1 _=> ?_⟩,fun b' h1=> ?_,D4⟩
           ·by_cases lT:b' =b
            ·exact lT
            ·simp only [Gh.put,aK lT]at h1; exact absurd h1 (nL b')
           ·by_cases lT:b' =b
            ·subst lT;have hK2:Kp ρ w (ρ1.put b' k (m+1) (ρ.sh b') (off+len+l.length) (ρ.cap b')) (w.setCells b' (xx+len * (m+1)) vs):=X9.trans hK;exact uz (st' :=0) (n:=off+len) z0 hB (by omega) (by omega) (by omega) hl (by omega) lD g1 (by rw [g2,KU]) hK2 (by simp [Gh.put]) (by simp [Gh.put]) (by simp [Gh.put])
            ·simp only [Gh.put,aK lT]at h1; exact absurd h1 (nL b'))
          CC ym ZV
         refine⟨_,_,_,O7 hr,X9.trans n1,n2, ?_⟩;simp only [aU,Gh.at,Gh.put,eu];exact⟨b,by simp,by simp; omega,by simp; omega,aq _,xx,cap,rfl,by omega,by simp; exact q6,by simp; exact q7⟩
        ·obtain⟨n1,n2⟩:=yj (w' :=w.drew.alloc (.cells ((olds++vs).toArray++Builtin.zeroCells zv.cells (grownCap w (len+l.length) cap e - (len+l.length))) e)) (b:=w.heap.size) (k:=k) (z:=m+1) (sh:=off) (ex:=off+len+l.length) (cp:=grownCap w (len+l.length) cap e) (x:= .arr (m+1) e (es.take (off+len)++l) 0) (s' :=s2) Yn
          (fun o' h' =>by rw [Yn.size _ (aq _)]at h'; cases h') (.inl (aq _)) (.inl Ig) (fun b' cE dM=>iA (w:=w) rfl dM) (by show w.heap.size<=(w.heap.push _).size; simp) (fun b' jl =>by have jl :(w.heap.push _).size<=b' :=jl; simp at jl; omega) rfl rfl rfl (fun hK=>by
           refine⟨z0,by simp [Gh.put],by omega,⟨w.heap.size,by simp [Gh.put],by simp only [Gh.put,eu]; omega,fun b' h1 _=> ?_⟩,fun b' h1=> ?_,D4⟩
           ·by_cases lT:b' =w.heap.size
            ·exact lT
            ·simp only [Gh.put,aK lT]at h1; exact absurd h1 (nL b')
           ·by_cases lT:b' =w.heap.size
            ·subst lT
             exact Bf (st' :=0) (z:=m+1) (off:=off) (len:=len) (es:=es) (l:=l) (b:=w.heap.size) (cp:=grownCap w (len+l.length) cap e) (rest:=(Builtin.zeroCells zv.cells (grownCap w (len+l.length) cap e - (len+l.length))).toList) c2 ((fK.append hlk).mono hK) pR (by
              rw [mj,size_zeroCells,zo]; simp only [ku,aG,IV,hol];rw [← Nat.add_mul,← Nat.add_mul]; congr 1; omega) (mg (w:=w) rfl) (by simp) (by simp [Gh.put]) (by simp [Gh.put]) (by simp [Gh.put])
            ·simp only [Gh.put,aK lT]at h1; exact absurd h1 (nL b'))
          CC ym ZV
         refine⟨_,_,_,Tv hr,X9.trans n1,n2, ?_⟩;simp only [aU,Gh.at,Gh.put,eu];exact⟨w.heap.size,by simp,by simp,by simp; omega,aq _,0,_,rfl,pR,.inr (by simp),by simp⟩
       ·cases h
      ·cases h
    ·cases h
   ·cases h
  ·cases h
theorem o7:∀(l:List UInt8),gu ρ w 1 (l.map fun b=> .int .u8 b.toNat) (l.map fun b=>Value.int .u8 b.toNat)
 | []=>rfl
 | b::l=>⟨.int .u8 b.toNat,_,by simp [Value.cells],by simp [aU],rfl,rfl,o7 l⟩
section
variable (he:ew ρ w lo env a.tmps)(hg:gN pn G ρ w)(hs:ck ρ s w)
include he hg hs
theorem IZ {t u e:TypeId}{i:TypeInfo}{m:Nat}{z:D} {x' y' :Operand}{x y:bP}(hx:eO G x' =some x)(hy:eO G y' =some y)(hu:P.underlying t=some (.slice e))(hk:(∃e',P.underlying u=some (.slice e'))\/P.underlying u=some .string)
  (hi:P.info? e=some i)(fS:dO P e=some (m+1))(hz:jH P e=some z)(dQ:eI (m+1) [z]=true)(h:cC C env s al (.append (m+1) i.bytes e x y)=some (d,s')){o:Oper}
  (ho:o.op= .call { callee:= .builtin .append,args:= #[x',y'],argTypes:= #[t,u]}):fc P ρ w env a.tmps d s' ((execOp a.eval o).run P w):=by
 obtain⟨zv,z1,z2,z3⟩:=kF (w:=w) hz;have zo:=kq (ρ:=ρ) (w:=w) zv z z2;have Ic:zv.cells.size=m+1:=by
  have:=iF.1 dQ z (by simp);rw [zo.size this.2]; exact this.1
 have Py:i.size=m+1:=by simpa [dO,hi] using fS
 have hiz:i.zero=some zv:=by simpa [hi] using z3
 have fin:∀dx l vs,aU ρ w dx (a.eval x')->gu ρ w (m+1) l vs->Src P i.size u (a.eval y') l.length vs w->i.bytes<=4096->fH s al (m+1) e dx l=some (d,s')->fc P ρ w env a.tmps d s' ((execOp a.eval o).run P w):=by
  intro dx l vs Cu hl Kk hib aa1;obtain⟨r,w',ρ',g1,g2,g3,g4⟩:=FI (P:=P) hs hu hi hiz Py Ic hib Cu hl Kk aa1 (ty:=o.type);rw [iD ho];simp only [builtin,fu,bG,ef];rw [Sem.run_bind,g1];exact .val g2 g3 g4
 simp only [cC]at h;split at h
 ·rename_i dx l Cu WK;split at h
  ·rename_i h1 h2;have hm:m+1=1:=aD h1;have JD :=ba hy he hg WK;simp only [aU]at JD;refine fin dx _ (l.map fun b=>Value.int .u8 b.toNat) (ba hx he hg Cu) (by rw [hm]; exact o7 l) ?_ (az h2) h;have hl:(ByteArray.mk ⟨l⟩).size=l.length:=by simp [ByteArray.size_mk']
   have hbc:byteCells ⟨⟨l⟩⟩=l.map fun b=>Value.int .u8 b.toNat:=by simp [byteCells]
   have h1:=firstCells_string (P:=P) ⟨⟨l⟩⟩ w;have h2:=firstCells_string (P:=P) ⟨⟨l⟩⟩ w.drew;rw [hl,hbc]at h1 h2;rw [JD,Py,hm];exact⟨hk,fun w' =>by simp [Builtin.lenOf,hl],by simpa using h1,by simpa using h2,by simp,(o7 (ρ:=ρ) (w:=w) l).one⟩
  ·cases h
 ·rename_i dx dy Pw Cu WK;split at h
  ·rename_i z' l hit;split at h
   ·rename_i h1 h2;split at h
    ·rename_i h3;have hyv:=ba hy he hg WK;rcases tY hs hit hyv with ⟨rfl,p,c,hv⟩ | ⟨b,q,c,hv,hE⟩
     ·refine fin dx [] [] (ba hx he hg Cu) rfl ?_ (az h2) h;rw [hv];cases p with
      | none=>exact ⟨hk,fun _=>rfl,run_firstCells_none w _ 0 0 c,run_firstCells_none w.drew _ 0 0 c,by simp,fun _ h=>by cases h⟩
      | some p=>exact ⟨hk,fun _=>rfl,run_firstCells_some w _ 0 p 0 c [] (by simp) (by simp),run_firstCells_some w.drew _ 0 p 0 c [] (by simp) (by simp),by simp,fun _ h=>by cases h⟩
     ·by_cases zF:l=[]
      ·subst zF;refine fin dx [] [] (ba hx he hg Cu) rfl ?_ (az h2) h;rw [hv];exact⟨hk,fun _=>rfl,run_firstCells_some w _ 0 _ 0 c [] (by simp) (by simp),run_firstCells_some w.drew _ 0 _ 0 c [] (by simp) (by simp),by simp,fun _ h=>by cases h⟩
      ·have hzz:z' =m+1:=by
        simp only [eD]at h1;rcases h1 with h1 | h1
        ·exact aD h1
        ·cases l <;> simp_all
       subst hzz;obtain⟨vs,g1,g2⟩:=hE.row;refine fin dx _ vs (ba hx he hg Cu) g1 ?_ (az h2) h;have hl:=g1.length;have Fc:∀j u,vs[j]? =some u->w.cell? ((⟨b,q,none⟩:Addr).add j)=some u:=fun j u hj=>by rw [Addr.add_mid]; exact g2 j u hj
       rw [hv,Py];exact⟨hk,fun _=>rfl,run_firstCells_some w _ _ _ _ c vs hl Fc,run_firstCells_some w.drew _ _ _ _ c vs hl (by simpa using Fc),hl,g1.one⟩
    ·cases h
   ·cases h
  ·cases h
 ·cases h
end
end Go.Ab
