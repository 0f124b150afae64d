/- Part. -/
import Derived.Test.YthaiegafejbmoaaGreatDoorG08
import Derived.Deep.Upon
set_option linter.unusedSectionVars false
set_option linter.unusedSimpArgs false
set_option linter.unusedVariables false
namespace Go.Ab
open Go
variable [eh]
variable {ρ ρ' :Gh} {w w' :World}{P:Program}{pn:gY}{G:Gl}{X:ig}{A:mT} {s s' :St}{env:Env}{a:Act}{lo:Nat}{d:D}{C:au}{al:Option Nat}
def Gh.put (ρ:Gh)(b k z sh ex cp:Nat):Gh:=
 {own:=fun x=>if x=b then .obj k else ρ.own x
  sh:=fun x=>if x=b then sh else ρ.sh x
  ext:=fun x=>if x=b then ex else ρ.ext x
  cap:=fun x=>if x=b then cp else ρ.cap x
  kd:=fun o=>if o=k then .live z else ρ.kd o
  lp:=ρ.lp}
theorem zJ (hs:bK ρ s w){b k z sh ex cp:Nat}{x:Obj}(Ef:∀o',ρ.own b= .obj o' ->o' =k\/ρ.kd o' = .dead)(GC:w.heap.size<=b\/∃o',ρ.own b= .obj o')
  (kM:ρ.kd k= .fresh\/(ρ.kd k= .live z/\(ρ.own b= .obj k->sh=ρ.sh b/\ρ.ext b<=ex/\cp=ρ.cap b)))
  (hh:∀b',b' ≠b->b' < w.heap.size->w'.heap[b']? =w.heap[b']?)(fQ:w.heap.size<=w'.heap.size) (abR :∀b',w'.heap.size<=b' ->b' ≠b)
  (ho:w'.os=w.os)(ht:w'.tape=w.tape)(hu:w'.output=w.output)(hx:Kp ρ w (ρ.put b k z sh ex cp) w' ->oC (ρ.put b k z sh ex cp) w' k x)
  (hn:k < s'.n)(UO:s.n<=s'.n)(jn:∀o,s'.get o=if o=k then some x else s.get o):
  Kp ρ w (ρ.put b k z sh ex cp) w' /\bK (ρ.put b k z sh ex cp) s' w' :=by
 have J1:ρ.kd k≠ .dead:=by rcases kM with h | ⟨h,_⟩ <;> rw [h] <;> simp
 have hK:Kp ρ w (ρ.put b k z sh ex cp) w' :=by
  refine⟨ho,ht,hu,fQ,fun b' iS FQ=> ?_,fun o h=> ?_,fun o y h=> .inr ⟨?_,fun b' iS => ?_⟩⟩
  ·have dn:b' ≠b:=by
    rintro rfl;rcases GC with h | ⟨o',h⟩
    ·omega
    ·exact FQ _ h
   exact⟨hh b' dn iS,by simp [Gh.put,dn]⟩
  ·simp only [Gh.put]; rw [aI (by rintro rfl; exact J1 h)]; exact ⟨h,trivial⟩
  ·simp only [Gh.put]; split
   ·rename_i e; subst e;rcases kM with h' | ⟨h',_⟩
    ·rw [h']at h; cases h
    ·rw [h']at h; simpa using h
   ·exact h
  ·by_cases dn:b' =b
   ·subst dn;rcases Ef o iS with rfl | hd
    ·rcases kM with h' | ⟨h',h2⟩
     ·rw [h']at h; cases h
     ·obtain⟨e1,e2,e3⟩:=h2 iS;simp only [Gh.put,ei];exact⟨trivial,e1,e2,e3⟩
    ·rw [hd]at h; cases h
   ·simp only [Gh.put,aI dn]; exact ⟨iS,trivial,aq _,trivial⟩
 refine⟨hK,hs.QM hK k x (fun b' o dn sE=> ?_) (fun o dn=>by simp [Gh.put,dn]) (fun b' o dn sE iS => ?_) (hx hK) (fun b' iS => ?_) hn UO jn⟩
 ·simp only [Gh.put]; split
  ·rename_i e; subst e;constructor
   ·intro h; simp at h; exact absurd h.symm dn
   ·intro h;rcases Ef o h with h1 | h1
    ·exact absurd h1 dn
    ·exact absurd h1 sE
  ·rfl
 ·have tJ :b' ≠b:=by
   rintro rfl;rcases Ef o iS with h1 | h1
   ·exact dn h1
   ·exact sE h1
  simp only [Gh.put,aI tJ];exact⟨hh b' tJ (hs.jG iS),trivial,trivial,trivial⟩
 ·simp only [Gh.put,aI (abR b' iS)]; exact hs.size b' (by omega)
theorem uj {z st st' n b e:Nat}{es l:List D}{vs:List Value} {cs cs' :Array Value}{f:Nat×Nat}(z0:0 < z)(hB:sg ρ w z e es st b)(cG:st<=ρ.ext b)(h1:ρ.sh b<=n)(h2:n<=ρ.ext b)
  (hl:fT ρ w z l vs)(room:n - ρ.sh b+l.length<=ρ.cap b)(qW:w.heap[b]? =some (.cells cs e f)) (yQ :w'.heap[b]? =some (.cells cs' e f))(GJ:cs'.toList=over cs.toList ((n - ρ.sh b) * z) vs)
  (hK:Kp ρ w ρ' w')(iC:ρ'.sh b=ρ.sh b)(pI:ρ'.cap b=ρ.cap b)(Cn:ρ'.ext b=n+l.length):sg ρ' w' z e (es.take n++l) st' b:=by
 have Lp:=hl.length;have dn:=hB.ext;have xO:(es.take n).length=n:=by simp; omega
 have Ox:ρ.cap b * z<=cs.size:=by
  rcases eV (ρ.cap b * z) with h | h
  ·omega
  ·have:=(hB.cells (ρ.cap b * z - 1) (by omega)).1;rw [dX qW]at this;rcases aP (ρ.cap b * z - 1) cs.size with h' | h'
   ·omega
   ·simp [cq h']at this
 have qY:(n - ρ.sh b) * z+vs.length<=ρ.cap b * z:=by
  rw [Lp,← Nat.add_mul]; exact cX _ room
 have OX:cs'.size=cs.size:=by
  have:=congrArg List.length GJ;rw [jz _ _ _ (by simp; omega)]at this;simpa using this
 have jn:∀j,cs'[j]? =if (n - ρ.sh b) * z<=j/\j < (n - ρ.sh b) * z+vs.length then vs[j - (n - ρ.sh b) * z]? else cs[j]? :=fun j=>by
  have:=qa cs.toList ((n - ρ.sh b) * z) vs j (by simp; omega);rw [← GJ]at this;simpa using this
 refine⟨by rw [Cn]; simp; omega,by rw [iC,Cn]; omega,by rw [iC,Cn,pI]; omega,fun j hj=> ?_,⟨_,_,yQ⟩,fun _ i d a1 a2 a3=> ?_⟩
 ·rw [pI]at hj;have eW:j < cs.size:=by omega
  refine⟨by rw [dX yQ]; simp [OX,eW], ?_⟩;have:=(hB.cells j hj).2;simp only [World.frozen?,qW]at this;simp only [World.frozen?,yQ];exact this
 ·rw [iC]at a1 ⊢;rcases aP i n with hi | hi
  ·rw [aK (by omega),da,bQ hi]at a3;obtain⟨v,v1,v2,v3⟩:=hB.elems cG i d a1 (by omega) a3;refine⟨v,v1.mono hK,v2,fun j hj=> ?_⟩;have:=v3 j hj;rw [dX qW]at this;rw [dX yQ,jn,aI,this];have:(i - ρ.sh b+1) * z<=(n - ρ.sh b) * z:=cX _ (by omega);rw [bJ]at this;omega
  ·rw [aF (by omega),xO]at a3
   have hr:w'.rangeAt b ((n - ρ.sh b) * z) vs:=fun j u hj=>by
    have eW:j < vs.length:=(aj.1 hj).1;rw [dX yQ,jn,bQ (by omega)];rwa [Nat.add_sub_cancel_left]
   obtain⟨v,v1,v2,v3,v4⟩:=(hl.mono hK).get hr (i - n) d a3;refine⟨v,v1,v2, ?_⟩;rwa [← Nat.add_mul,show n - ρ.sh b+(i - n)=i - ρ.sh b by omega]at v3
theorem AW {z st' off len b cp:Nat}{es l:List D}{vs rest:List Value}{cs:Array Value}{e:TypeId}(hlen:off+len<=es.length)
  (hl:fT ρ' w' z ((es.drop off).take len++l) vs)(room:len+l.length<=cp)(fQ:cs.size=cp * z)(qW:w'.heap[b]? =some (.cells cs e (0,0)))(hv:cs.toList=vs++rest)
  (iC:ρ'.sh b=off)(pI:ρ'.cap b=cp)(Cn:ρ'.ext b=off+len+l.length):sg ρ' w' z e (es.take (off+len)++l) st' b:=by
 have xO:(es.take (off+len)).length=off+len:=by simp; omega
 refine⟨by rw [Cn]; simp; omega,by rw [iC,Cn]; omega,by rw [iC,Cn,pI]; omega,fun j hj=> ?_,⟨_,_,qW⟩,fun _ i d a1 a2 a3=> ?_⟩
 ·rw [pI,← fQ]at hj;exact⟨by rw [dX qW]; simp [hj],by simp [World.frozen?,qW]⟩
 ·rw [iC]at a1 ⊢;have:((es.drop off).take len++l)[i - off]? =some d:=by
   rw [← a3];rcases aP i (off+len) with hi | hi
   ·rw [aK (by simp; omega),aK (by omega),da,da,bQ (by omega),bQ hi,cS]
    congr 1; omega
   ·rw [aF (by simp; omega),aF (by omega)]
    congr 1; simp; omega
  obtain⟨v,v1,v2,v3,v4⟩:=hl.get (lS qW hv) (i - off) d this;exact⟨v,v1,v2,by simpa using v3⟩
theorem fits {n b k:Nat}(h:k < n)(hn:n<=aM)(hb:b<=4096):Builtin.nextslicecap n k * b<=281474976710656:=by
 refine growslice_fits h (bW (Nat.mul_le_mul hn hb) ?_);decide
theorem Ge (hs:bK ρ s w){t tx ty e:TypeId}{i:TypeInfo}{zv:Value}{m:Nat}{dx:D}{v y:Value}{l:List D}{vs:List Value}(ht:P.underlying t=some (.slice e))(hi:P.info? e=some i)(hz:i.zero=some zv)(Q7:i.size=m+1)
  (Aq:zv.cells.size=m+1)(hib:i.bytes<=4096)(hx:aR ρ w dx v)(hl:fT ρ w (m+1) l vs)(J5:Src P i.size tx y l.length vs w)(h:ff s al (m+1) e dx l=some (d,s')):
  ∃u w' ρ',(Builtin.append_ #[t,tx] ty #[v,y]).run P w= .ok u w' /\Kp ρ w ρ' w' /\bK ρ' s' w' /\aR ρ' w' d u:=by
 have Lp:=hl.length;unfold ff at h;split at h
 ·
  have kB:vs=[]:=hl;subst kB;have fin:∀base sLen sCap,v= .slice base sLen sCap->sLen<=sCap->dx=d->s=s' ->∃u w' ρ',(Builtin.append_ #[t,tx] ty #[v,y]).run P w= .ok u w' /\Kp ρ w ρ' w' /\bK ρ' s' w' /\aR ρ' w' d u:=by
   rintro base sLen sCap rfl hle rfl rfl;exact⟨_,w,ρ,run_append_nothing (P:=P) w t tx ty e i ht hi base sLen sCap hle y J5,Kp.refl _ _,hs,hx⟩
  split at h
  ·simp only [aa,ab]at h;have Bj :=hx;simp only [aR]at Bj;rcases Bj with ⟨_,rfl,rfl⟩ | ⟨_,ad,c,rfl,hle,_⟩
   ·exact fin _ _ _ rfl (aq _) h.1 h.2
   ·exact fin _ _ _ rfl hle h.1 h.2
  ·split at h
   ·rename_i lD;simp only [aa,ab]at h;obtain⟨_,k1,_⟩:=hs.ok _ _ lD;have Bj :=hx;simp only [aR,Gh.at,k1]at Bj;obtain⟨b,hb,q1,q2,q3,xx,cap,rfl,q5,_⟩:=Bj;exact fin _ _ _ rfl (by omega) h.1 h.2
   ·cases h
  ·cases h
 ·rename_i AA;have Bi:0 < l.length:=by
   cases l with
   | nil=>exact absurd rfl AA
   | cons _ _=>simp
  split at h
  ·
   split at h
   ·rename_i pW;have pW:=az pW;split at h
    ·rename_i k s2 hm;simp only [aa,ab]at h;obtain⟨rfl,rfl⟩:=h;simp only [aR]at hx;rcases hx with ⟨_,_,rfl⟩ | ⟨hf,_⟩
     ·have fK:=run_append_grow_src (P:=P) w t tx ty e i zv ht hi hz none 0 0 [] (run_firstCells_none _ _ _ _ _) y l.length vs J5 (by omega) (by have:l.length<=2147483648:=pW; omega) (fits (by omega) (by omega) hib);have pI:=grownCap_ge w (0+l.length) 0 e;simp only [aU,dF]at fK pI
      obtain⟨ρ',n1,n2,n3⟩:=CC (al:=al) (w' :=w.drew.alloc (.cells (vs.toArray++Builtin.zeroCells zv.cells (grownCap w l.length 0 e - l.length)) e)) (rest:=(Builtin.zeroCells zv.cells (grownCap w l.length 0 e - l.length)).toList)
       hs (ku m) hm hl (by simp) (cp:=grownCap w l.length 0 e) (by
        rw [jU,size_zeroCells,Aq]; simp only [jV,Lp];rw [← Nat.add_mul]; congr 1; omega) pI rfl rfl rfl rfl
      exact⟨_,_,ρ',fK,n1,n2,n3⟩
     ·cases hf
    ·cases h
   ·cases h
  ·
   rename_i ob off len cp0;split at h
   ·rename_i z ty0 es st lD;split at h
    ·rename_i c1 c2 c3 c4;simp only [aB]at c1;obtain⟨c1,ct⟩:=c1;obtain rfl:=ay c1;obtain rfl:=(ay ct).symm;have c2:=az c2;have c3:=az c3;have c4:=az c4;obtain⟨z0,k1,kV,⟨cur,u1,u2,u3⟩,xK,fN⟩:=hs.ok _ _ lD;have Bj :=hx;simp only [aR,Gh.at,k1]at Bj;obtain⟨b,hb,q1,q2,q3,xx,cap,rfl,q5,q6,q7⟩:=Bj;have hB:=xK b hb;have hBe:=hB.ext;have aco:=hs.jG hb;have hold:∃olds,fT ρ w (m+1) ((es.drop off).take len) olds/\w.rangeAt b xx olds:=by
      by_cases AA:len=0
      ·exact⟨[],by subst AA; simp [fT],fun j u hj=>by simp at hj⟩
      ·have Rm:xx=(off - ρ.sh b) * (m+1):=by rcases q6 with q6 | q6 <;> omega
       refine fJ.row (fJ.of (ku m) _ _ fun j el hj=> ?_);rw [da]at hj;split at hj
       ·rw [cS]at hj;obtain⟨u,r1,r2,r3⟩:=hB.elems (by omega) (off+j) el (by omega) (by omega) hj;refine⟨u,r1,r2, ?_,(nR fN hj).2⟩;rwa [show off+j - ρ.sh b=(off - ρ.sh b)+j by omega,bJ,← Rm]at r3
       ·cases hj
     obtain⟨olds,OP,ho2⟩:=hold;have hol:=OP.length;have Rj:((es.drop off).take len).length=len:=by simp; omega
     rw [Rj]at hol
     have UI: ¬ (len+l.length<=cap)->(Builtin.append_ #[t,tx] ty #[.slice (some ⟨b,xx,none⟩) len cap,y]).run P w=
       .ok (.slice (some ⟨w.heap.size,0,none⟩) (len+l.length) (grownCap w (len+l.length) cap e)) (w.drew.alloc (.cells ((olds++vs).toArray++Builtin.zeroCells zv.cells (grownCap w (len+l.length) cap e - (len+l.length))) e)):=fun hr=>
      run_append_grow_src (P:=P) w t tx ty e i zv ht hi hz (some ⟨b,xx,none⟩) len cap olds (run_firstCells_some w.drew i.size len ⟨b,xx,none⟩ len cap olds (by rw [hol,Q7]) (fun j u hj=>by rw [Addr.add_mid]; simpa using ho2 j u hj)) y l.length vs J5 (by omega)
       (by have:len+l.length<=2147483648:=c4; omega) (fits (by omega) c4 hib)
     have OT:len+l.length<=cap->(Builtin.append_ #[t,tx] ty #[.slice (some ⟨b,xx,none⟩) len cap,y]).run P w= .ok (.slice (some ⟨b,xx,none⟩) (len+l.length) cap) (w.setCells b (xx+len * (m+1)) vs):=fun hr=>by
      have Rm:xx=(off - ρ.sh b) * (m+1):=by rcases q6 with q6 | q6 <;> omega
      have hbd:∀j,j < vs.length->xx+len * (m+1)+j < ρ.cap b * (m+1):=fun j hj=>by
       have:((off - ρ.sh b)+len+l.length) * (m+1)<=ρ.cap b * (m+1):=cX _ (by omega);rw [bJ,bJ]at this;omega
      have:=run_append_room_src (P:=P) w t tx ty e i ht hi b xx len cap y l.length vs J5 hr (fun j hj=>by rw [Q7]; exact (hB.cells _ (hbd j hj)).1) (fun j hj=>by rw [Q7]; exact (hB.cells _ (hbd j hj)).2);rw [Q7]at this;exact this
     have pI:=grownCap_ge w (len+l.length) cap e;split at h
     ·
      rename_i rH;have rH:=ay rH;split at h
      ·rename_i s2 iB;simp only [aa,ab]at h;obtain⟨rfl,rfl⟩:=h;have Lm:=St.qf iB;have hex:ρ.ext b=es.length:=by omega
       have Ef:∀b' o',ρ.own b' = .obj o' ->b' =b->o' =ob:=by rintro b' o' h1 rfl; rw [hb]at h1; simpa using h1.symm
       have D9 :eC (m+1) (es++l)=true:=by
        rw [gL]at *;intro q hq;rcases cN.1 hq with hq | hq
        ·exact fN q hq
        ·exact gL.1 hl.eC q hq
       by_cases hr:len+l.length<=cap
       ·
        have Rm:xx=(off - ρ.sh b) * (m+1):=by rcases q6 with q6 | q6 <;> omega
        obtain⟨cs,f,l9⟩:=hB.shape;have Sq:xx+len * (m+1)+vs.length<=cs.size:=by
         have h1:((off - ρ.sh b)+len+l.length) * (m+1)<=ρ.cap b * (m+1):=cX _ (by omega);rw [bJ,bJ]at h1;have h2:0 < l.length * (m+1):=Nat.mul_pos Bi (ku m);have:=(hB.cells (ρ.cap b * (m+1) - 1) (by omega)).1;rw [dX l9]at this;rcases aP (ρ.cap b * (m+1) - 1) cs.size with h' | h'
         ·omega
         ·simp [cq h']at this
        obtain⟨⟨cs',g1,g2⟩,g3,g4,g5,g6,g7⟩:=iZ vs (xx+len * (m+1)) w cs e f l9 Sq;have SC:xx+len * (m+1)=(es.length - ρ.sh b) * (m+1):=by
         rw [Rm,← Nat.add_mul]; congr 1; omega
        obtain⟨n1,n2⟩:=zJ (w' :=w.setCells b (xx+len * (m+1)) vs) (b:=b) (k:=ob) (z:=m+1) (sh:=ρ.sh b) (ex:=es.length+l.length) (cp:=ρ.cap b) (x:= .arr (m+1) e (es++l) st) (s' :=s2) hs
         (fun o' h' => .inl (Ef b o' h' rfl)) (.inr ⟨ob,hb⟩) (.inr ⟨k1,fun _=>⟨rfl,by omega,rfl⟩⟩) (fun b' dn _=>g3 b' dn) (by omega) (fun b' iS =>by omega) g5 g6 g7 (fun hK=>by
          refine⟨z0,by simp [Gh.put],by simp; omega,⟨b,by simp [Gh.put],by simp [Gh.put],fun b' h1 h2=> ?_⟩,fun b' h1=> ?_,D9⟩
          ·by_cases lh:b' =b
           ·exact lh
           ·simp only [Gh.put,aI lh]at h1 h2;have:=(xK b' h1).ext;simp at h2; omega
          ·by_cases lh:b' =b
           ·subst lh;have:=uj (st' :=st) (n:=es.length) z0 hB (by omega) (by omega) (by omega) hl (by omega) l9 g1 (by rw [g2,SC]) hK (by simp [Gh.put]) (by simp [Gh.put]) (by simp [Gh.put]);rwa [fb]at this
           ·simp only [Gh.put,aI lh]at h1;have Al :=xK b' h1;have e1:=g3 b' lh;refine⟨by simp only [Gh.put,aI lh]; have:=Al.ext; simp; omega,by simp only [Gh.put,aI lh]; exact Al.sh,by simp only [Gh.put,aI lh]; exact Al.room,fun j hj=> ?_,by rw [e1]; exact Al.shape,fun a0 i2 dd a1 a2 a3=> ?_⟩
            ·simp only [Gh.put,aI lh]at hj;rw [cell?_of_heap e1,frozen?_of_heap e1]; exact Al.cells j hj
            ·simp only [Gh.put,aI lh]at a0 a1 a2 ⊢;have:=Al.ext;rw [aK (by omega)]at a3;obtain⟨vv,v1,v2,v3⟩:=Al.elems a0 i2 dd a1 a2 a3;exact⟨vv,v1.mono hK,v2,v3.of_heap e1⟩)
         (by rw [Lm]; exact hs.lt _ _ lD) (by rw [Lm]; exact aq _) (by rw [Lm]; exact St.eS s ob _)
        refine⟨_,_,_,OT hr,n1,n2, ?_⟩;simp only [aR,Gh.at,Gh.put,ei];exact⟨b,by simp,by simp; omega,by simp; omega,aq _,xx,cap,rfl,by omega,by simp; exact q6,by simp; exact q7⟩
       ·
        obtain⟨n1,n2⟩:=zJ (w' :=w.drew.alloc (.cells ((olds++vs).toArray++Builtin.zeroCells zv.cells (grownCap w (len+l.length) cap e - (len+l.length))) e)) (b:=w.heap.size) (k:=ob) (z:=m+1) (sh:=off) (ex:=es.length+l.length) (cp:=grownCap w (len+l.length) cap e) (x:= .arr (m+1) e (es++l) st) (s' :=s2) hs
         (fun o' h' =>by rw [hs.size _ (aq _)]at h'; cases h') (.inl (aq _)) (.inr ⟨k1,fun h' =>by rw [hs.size _ (aq _)]at h'; cases h'⟩) (fun b' dn eW=>hZ (w:=w) rfl eW) (by show w.heap.size<=(w.heap.push _).size; simp) (fun b' iS =>by have iS :(w.heap.push _).size<=b' :=iS; simp at iS; omega) rfl rfl rfl (fun hK=>by
          refine⟨z0,by simp [Gh.put],by simp; omega,⟨w.heap.size,by simp [Gh.put],by simp [Gh.put],fun b' h1 h2=> ?_⟩,fun b' h1=> ?_,D9⟩
          ·by_cases lh:b' =w.heap.size
           ·exact lh
           ·simp only [Gh.put,aI lh]at h1 h2;have:=(xK b' h1).ext;simp at h2; omega
          ·by_cases lh:b' =w.heap.size
           ·subst lh
            have:=AW (st' :=st) (z:=m+1) (off:=off) (len:=len) (es:=es) (l:=l) (b:=w.heap.size) (cp:=grownCap w (len+l.length) cap e) (rest:=(Builtin.zeroCells zv.cells (grownCap w (len+l.length) cap e - (len+l.length))).toList) c2 ((OP.append hl).mono hK) pI (by
             rw [jU,size_zeroCells,Aq]; simp only [jV,an,Lp,hol];rw [← Nat.add_mul,← Nat.add_mul]; congr 1; omega) (lN (w:=w) rfl) (by simp) (by simp [Gh.put]) (by simp [Gh.put]) (by simp [Gh.put]; omega)
            rwa [rH,fb]at this
           ·simp only [Gh.put,aI lh]at h1;have Al :=xK b' h1;have e1:=hZ (w:=w) (w' :=w.drew.alloc (.cells ((olds++vs).toArray++Builtin.zeroCells zv.cells (grownCap w (len+l.length) cap e - (len+l.length))) e)) rfl (hs.jG h1);refine⟨by simp only [Gh.put,aI lh]; have:=Al.ext; simp; omega,by simp only [Gh.put,aI lh]; exact Al.sh,by simp only [Gh.put,aI lh]; exact Al.room,fun j hj=> ?_,by rw [e1]; exact Al.shape,fun a0 i2 dd a1 a2 a3=> ?_⟩
            ·simp only [Gh.put,aI lh]at hj;rw [cell?_of_heap e1,frozen?_of_heap e1]; exact Al.cells j hj
            ·simp only [Gh.put,aI lh]at a0 a1 a2 ⊢;have:=Al.ext;rw [aK (by omega)]at a3;obtain⟨vv,v1,v2,v3⟩:=Al.elems a0 i2 dd a1 a2 a3;exact⟨vv,v1.mono hK,v2,v3.of_heap e1⟩)
         (by rw [Lm]; exact hs.lt _ _ lD) (by rw [Lm]; exact aq _) (by rw [Lm]; exact St.eS s ob _)
        refine⟨_,_,_,UI hr,n1,n2, ?_⟩;simp only [aR,Gh.at,Gh.put,ei];exact⟨w.heap.size,by simp,by simp,by simp; omega,aq _,0,_,rfl,pI,.inr (by simp),by simp⟩
      ·cases h
     ·
      split at h
      ·rename_i s1 iB;split at h
       ·rename_i k s2 hm;simp only [aa,ab]at h;obtain⟨rfl,rfl⟩:=h;have Lm:=St.qf iB;have Ef:∀o',ρ.own b= .obj o' ->o' =ob:=fun o' h1=>by rw [hb]at h1; simpa using h1.symm
        have Yu:Kp ρ w { ρ with kd:=fun o=>if o=ob then .dead else ρ.kd o} w:=by
         refine⟨rfl,rfl,rfl,aq _,fun _ _ _=>⟨rfl,rfl⟩,fun o h' => ?_,fun o z' h' => ?_⟩
         ·simp only; split
          ·exact⟨rfl,trivial⟩
          ·exact⟨h',trivial⟩
         ·simp only; split
          ·exact .inl rfl
          ·exact .inr ⟨h',fun _ iS =>⟨iS,trivial,aq _,trivial⟩⟩
        have Yw:bK { ρ with kd:=fun o=>if o=ob then .dead else ρ.kd o} s1 w:=by
         refine hs.QM Yu ob .dead (fun _ _ _ _=>kN) (fun o dn=>by simp [dn]) (fun _ _ _ _ _=>⟨rfl,rfl,rfl,rfl⟩) (by simp [oC]) hs.size ?_ ?_ ?_
         ·rw [Lm]; exact hs.lt _ _ lD
         ·rw [Lm]; exact aq _
         ·rw [Lm]; exact St.eS s ob _
        obtain⟨FP,Am,pQ,hk3⟩:=Ir Yw hm;have H6:=Yw.no k FP;have D9 :eC (m+1) (es.take (off+len)++l)=true:=by
         rw [gL];intro q hq;rcases cN.1 hq with hq | hq
         ·exact gL.1 fN q (fG hq)
         ·exact gL.1 hl.eC q hq
        have ack :(es.take (off+len)++l).length=off+len+l.length:=by simp; omega
        have Xm:=hl.mono Yu;have lE:=OP.mono Yu;generalize hρ1:({ ρ with kd:=fun o=>if o=ob then Kd.dead else ρ.kd o}:Gh)=ρ1 at *;have oO:∀b',ρ1.own b' ≠ .obj k:=fun b' h' =>Yw.live b' k h' H6;by_cases hr:len+l.length<=cap
        ·have Rm:xx=(off - ρ.sh b) * (m+1):=by rcases q6 with q6 | q6 <;> omega
         obtain⟨cs,f,l9⟩:=hB.shape;have Sq:xx+len * (m+1)+vs.length<=cs.size:=by
          have h1:((off - ρ.sh b)+len+l.length) * (m+1)<=ρ.cap b * (m+1):=cX _ (by omega);rw [bJ,bJ]at h1;have h2:0 < l.length * (m+1):=Nat.mul_pos Bi (ku m);have:=(hB.cells (ρ.cap b * (m+1) - 1) (by omega)).1;rw [dX l9]at this;rcases aP (ρ.cap b * (m+1) - 1) cs.size with h' | h'
          ·omega
          ·simp [cq h']at this
         obtain⟨⟨cs',g1,g2⟩,g3,g4,g5,g6,g7⟩:=iZ vs (xx+len * (m+1)) w cs e f l9 Sq;have SC:xx+len * (m+1)=(off+len - ρ.sh b) * (m+1):=by
          rw [Rm,← Nat.add_mul]; congr 1; omega
         obtain⟨n1,n2⟩:=zJ (w' :=w.setCells b (xx+len * (m+1)) vs) (b:=b) (k:=k) (z:=m+1) (sh:=ρ.sh b) (ex:=off+len+l.length) (cp:=ρ.cap b) (x:= .arr (m+1) e (es.take (off+len)++l) 0) (s' :=s2) Yw
          (fun o' h' => .inr (by subst hρ1; simp [Ef o' h'])) (.inr ⟨ob,by subst hρ1; exact hb⟩) (.inl H6) (fun b' dn _=>g3 b' dn) (by omega) (fun b' iS =>by omega) g5 g6 g7 (fun hK=>by
           refine⟨z0,by simp [Gh.put],by omega,⟨b,by simp [Gh.put],by simp only [Gh.put,ei]; omega,fun b' h1 _=> ?_⟩,fun b' h1=> ?_,D9⟩
           ·by_cases lh:b' =b
            ·exact lh
            ·simp only [Gh.put,aI lh]at h1; exact absurd h1 (oO b')
           ·by_cases lh:b' =b
            ·subst lh;have hK2:Kp ρ w (ρ1.put b' k (m+1) (ρ.sh b') (off+len+l.length) (ρ.cap b')) (w.setCells b' (xx+len * (m+1)) vs):=Yu.trans hK;exact uj (st' :=0) (n:=off+len) z0 hB (by omega) (by omega) (by omega) hl (by omega) l9 g1 (by rw [g2,SC]) hK2 (by simp [Gh.put]) (by simp [Gh.put]) (by simp [Gh.put])
            ·simp only [Gh.put,aI lh]at h1; exact absurd h1 (oO b'))
          Am pQ hk3
         refine⟨_,_,_,OT hr,Yu.trans n1,n2, ?_⟩;simp only [aR,Gh.at,Gh.put,ei];exact⟨b,by simp,by simp; omega,by simp; omega,aq _,xx,cap,rfl,by omega,by simp; exact q6,by simp; exact q7⟩
        ·obtain⟨n1,n2⟩:=zJ (w' :=w.drew.alloc (.cells ((olds++vs).toArray++Builtin.zeroCells zv.cells (grownCap w (len+l.length) cap e - (len+l.length))) e)) (b:=w.heap.size) (k:=k) (z:=m+1) (sh:=off) (ex:=off+len+l.length) (cp:=grownCap w (len+l.length) cap e) (x:= .arr (m+1) e (es.take (off+len)++l) 0) (s' :=s2) Yw
          (fun o' h' =>by rw [Yw.size _ (aq _)]at h'; cases h') (.inl (aq _)) (.inl H6) (fun b' dn eW=>hZ (w:=w) rfl eW) (by show w.heap.size<=(w.heap.push _).size; simp) (fun b' iS =>by have iS :(w.heap.push _).size<=b' :=iS; simp at iS; omega) rfl rfl rfl (fun hK=>by
           refine⟨z0,by simp [Gh.put],by omega,⟨w.heap.size,by simp [Gh.put],by simp only [Gh.put,ei]; omega,fun b' h1 _=> ?_⟩,fun b' h1=> ?_,D9⟩
           ·by_cases lh:b' =w.heap.size
            ·exact lh
            ·simp only [Gh.put,aI lh]at h1; exact absurd h1 (oO b')
           ·by_cases lh:b' =w.heap.size
            ·subst lh
             exact AW (st' :=0) (z:=m+1) (off:=off) (len:=len) (es:=es) (l:=l) (b:=w.heap.size) (cp:=grownCap w (len+l.length) cap e) (rest:=(Builtin.zeroCells zv.cells (grownCap w (len+l.length) cap e - (len+l.length))).toList) c2 ((lE.append Xm).mono hK) pI (by
              rw [jU,size_zeroCells,Aq]; simp only [jV,an,Lp,hol];rw [← Nat.add_mul,← Nat.add_mul]; congr 1; omega) (lN (w:=w) rfl) (by simp) (by simp [Gh.put]) (by simp [Gh.put]) (by simp [Gh.put])
            ·simp only [Gh.put,aI lh]at h1; exact absurd h1 (oO b'))
          Am pQ hk3
         refine⟨_,_,_,UI hr,Yu.trans n1,n2, ?_⟩;simp only [aR,Gh.at,Gh.put,ei];exact⟨w.heap.size,by simp,by simp,by simp; omega,aq _,0,_,rfl,pI,.inr (by simp),by simp⟩
       ·cases h
      ·cases h
    ·cases h
   ·cases h
  ·cases h
theorem oD:∀(l:List UInt8),fT ρ w 1 (l.map fun b=> .int .u8 b.toNat) (l.map fun b=>Value.int .u8 b.toNat)
 | []=>rfl
 | b::l=>⟨.int .u8 b.toNat,_,by simp [Value.cells],by simp [aR],rfl,rfl,oD l⟩
section
variable (he:dW ρ w lo env a.tmps)(hg:gn pn G ρ w)(hs:bK ρ s w)
include he hg hs
theorem Ky {t u e:TypeId}{i:TypeInfo}{m:Nat}{z:D} {x' y' :Operand}{x y:bO}(hx:ew G x' =some x)(hy:ew G y' =some y)(hu:P.underlying t=some (.slice e))(hk:(∃e',P.underlying u=some (.slice e'))\/P.underlying u=some .string)
  (hi:P.info? e=some i)(fQ:dC P e=some (m+1))(hz:jA P e=some z)(fN:eC (m+1) [z]=true)(h:cg C env s al (.append (m+1) i.bytes e x y)=some (d,s')){o:Oper}
  (ho:o.op= .call { callee:= .builtin .append,args:= #[x',y'],argTypes:= #[t,u]}):eP P ρ w env a.tmps d s' ((execOp a.eval o).run P w):=by
 obtain⟨zv,z1,z2,z3⟩:=ki (w:=w) hz;have Aq:=jY (ρ:=ρ) (w:=w) zv z z2;have Ii:zv.cells.size=m+1:=by
  have:=gL.1 fN z (by simp);rw [Aq.size this.2]; exact this.1
 have Q7:i.size=m+1:=by simpa [dC,hi] using fQ
 have hiz:i.zero=some zv:=by simpa [hi] using z3
 have fin:∀dx l vs,aR ρ w dx (a.eval x')->fT ρ w (m+1) l vs->Src P i.size u (a.eval y') l.length vs w->i.bytes<=4096->ff s al (m+1) e dx l=some (d,s')->eP P ρ w env a.tmps d s' ((execOp a.eval o).run P w):=by
  intro dx l vs C7 hl J5 hib abh;obtain⟨r,w',ρ',g1,g2,g3,g4⟩:=Ge (P:=P) hs hu hi hiz Q7 Ii hib C7 hl J5 abh (ty:=o.type);rw [ic ho];simp only [builtin,eY,bT,eH];rw [Sem.run_bind,g1];exact .val g2 g3 g4
 simp only [cg]at h;split at h
 ·rename_i dx l C7 Xd;split at h
  ·rename_i h1 h2;have hm:m+1=1:=ay h1;have Rn :=bc hy he hg Xd;simp only [aR]at Rn;refine fin dx _ (l.map fun b=>Value.int .u8 b.toNat) (bc hx he hg C7) (by rw [hm]; exact oD l) ?_ (az h2) h;have hl:(ByteArray.mk ⟨l⟩).size=l.length:=by simp [ByteArray.size_mk']
   have hbc:byteCells ⟨⟨l⟩⟩=l.map fun b=>Value.int .u8 b.toNat:=by simp [byteCells]
   have h1:=firstCells_string (P:=P) ⟨⟨l⟩⟩ w;have h2:=firstCells_string (P:=P) ⟨⟨l⟩⟩ w.drew;rw [hl,hbc]at h1 h2;rw [Rn,Q7,hm];exact⟨hk,fun w' =>by simp [Builtin.lenOf,hl],by simpa using h1,by simpa using h2,by simp,(oD (ρ:=ρ) (w:=w) l).one⟩
  ·cases h
 ·rename_i dx dy Rb C7 Xd;split at h
  ·rename_i z' l hit;split at h
   ·rename_i h1 h2;split at h
    ·rename_i h3;have hyv:=bc hy he hg Xd;rcases uF hs hit hyv with ⟨rfl,p,c,hv⟩ | ⟨b,q,c,hv,hE⟩
     ·refine fin dx [] [] (bc hx he hg C7) rfl ?_ (az h2) h;rw [hv];cases p with
      | none=>exact ⟨hk,fun _=>rfl,run_firstCells_none w _ 0 0 c,run_firstCells_none w.drew _ 0 0 c,by simp,fun _ h=>by cases h⟩
      | some p=>exact ⟨hk,fun _=>rfl,run_firstCells_some w _ 0 p 0 c [] (by simp) (by simp),run_firstCells_some w.drew _ 0 p 0 c [] (by simp) (by simp),by simp,fun _ h=>by cases h⟩
     ·by_cases AA:l=[]
      ·subst AA;refine fin dx [] [] (bc hx he hg C7) rfl ?_ (az h2) h;rw [hv];exact⟨hk,fun _=>rfl,run_firstCells_some w _ 0 _ 0 c [] (by simp) (by simp),run_firstCells_some w.drew _ 0 _ 0 c [] (by simp) (by simp),by simp,fun _ h=>by cases h⟩
      ·have hzz:z' =m+1:=by
        simp only [ey]at h1;rcases h1 with h1 | h1
        ·exact ay h1
        ·cases l <;> simp_all
       subst hzz;obtain⟨vs,g1,g2⟩:=hE.row;refine fin dx _ vs (bc hx he hg C7) g1 ?_ (az h2) h;have hl:=g1.length;have C8:∀j u,vs[j]? =some u->w.cell? ((⟨b,q,none⟩:Addr).add j)=some u:=fun j u hj=>by rw [Addr.add_mid]; exact g2 j u hj
       rw [hv,Q7];exact⟨hk,fun _=>rfl,run_firstCells_some w _ _ _ _ c vs hl C8,run_firstCells_some w.drew _ _ _ _ c vs hl (by simpa using C8),hl,g1.one⟩
    ·cases h
   ·cases h
  ·cases h
 ·cases h
end
end Go.Ab
