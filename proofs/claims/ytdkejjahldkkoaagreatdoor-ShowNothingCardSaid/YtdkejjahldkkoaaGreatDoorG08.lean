/- Part. -/
import Derived.Test.YtdkejjahldkkoaaGreatDoorG07
import Derived.Deep.Upon
set_option linter.unusedSectionVars false
set_option linter.unusedSimpArgs false
set_option linter.unusedVariables false
namespace Go.Ab
open Go
variable [eW]
variable {ρ ρ' :Gh} {w w' :World}{P:Program}{pn:iO}{G:Gl}{X:iJ}{A:nJ} {s s' :St}{env:Env}{a:Act}{lo:Nat}{d:D}{C:au}{al:Option Nat}
def Gh.put (ρ:Gh)(b k z sh ex cp:Nat):Gh:=
 {own:=fun x=>if x=b then .obj k else ρ.own x
  sh:=fun x=>if x=b then sh else ρ.sh x
  ext:=fun x=>if x=b then ex else ρ.ext x
  cap:=fun x=>if x=b then cp else ρ.cap x
  kd:=fun o=>if o=k then .live z else ρ.kd o
  lp:=ρ.lp}
theorem yA (hs:bZ ρ s w){b k z sh ex cp:Nat}{x:Obj}(Hm:∀o',ρ.own b= .obj o' ->o' =k\/ρ.kd o' = .dead)(LQ:w.heap.size<=b\/∃o',ρ.own b= .obj o')
  (gW:ρ.kd k= .fresh\/(ρ.kd k= .live z/\(ρ.own b= .obj k->sh=ρ.sh b/\ρ.ext b<=ex/\cp=ρ.cap b)))
  (hh:∀b',b' ≠b->b' < w.heap.size->w'.heap[b']? =w.heap[b']?)(fR:w.heap.size<=w'.heap.size) (ace :∀b',w'.heap.size<=b' ->b' ≠b)
  (ho:w'.os=w.os)(ht:w'.tape=w.tape)(hu:w'.output=w.output)(hx:Kp ρ w (ρ.put b k z sh ex cp) w' ->pN (ρ.put b k z sh ex cp) w' k x)
  (hn:k < s'.n)(PA:s.n<=s'.n)(kM:∀o,s'.get o=if o=k then some x else s.get o):
  Kp ρ w (ρ.put b k z sh ex cp) w' /\bZ (ρ.put b k z sh ex cp) s' w' :=by
 have Tf:ρ.kd k≠ .dead:=by rcases gW with h | ⟨h,_⟩ <;> rw [h] <;> simp
 have hK:Kp ρ w (ρ.put b k z sh ex cp) w' :=by
  refine⟨ho,ht,hu,fR,fun b' jm Ft=> ?_,fun o h=> ?_,fun o y h=> .inr ⟨?_,fun b' jm => ?_⟩⟩
  ·have cC:b' ≠b:=by
    rintro rfl;rcases LQ with h | ⟨o',h⟩
    ·omega
    ·exact Ft _ h
   exact⟨hh b' cC jm,by simp [Gh.put,cC]⟩
  ·simp only [Gh.put]; rw [aJ (by rintro rfl; exact Tf h)]; exact ⟨h,trivial⟩
  ·simp only [Gh.put]; split
   ·rename_i e; subst e;rcases gW with h' | ⟨h',_⟩
    ·rw [h']at h; cases h
    ·rw [h']at h; simpa using h
   ·exact h
  ·by_cases cC:b' =b
   ·subst cC;rcases Hm o jm with rfl | hd
    ·rcases gW with h' | ⟨h',h2⟩
     ·rw [h']at h; cases h
     ·obtain⟨e1,e2,e3⟩:=h2 jm;simp only [Gh.put,ep];exact⟨trivial,e1,e2,e3⟩
    ·rw [hd]at h; cases h
   ·simp only [Gh.put,aJ cC]; exact ⟨jm,trivial,an _,trivial⟩
 refine⟨hK,hs.PC hK k x (fun b' o cC tK=> ?_) (fun o cC=>by simp [Gh.put,cC]) (fun b' o cC tK jm => ?_) (hx hK) (fun b' jm => ?_) hn PA kM⟩
 ·simp only [Gh.put]; split
  ·rename_i e; subst e;constructor
   ·intro h; simp at h; exact absurd h.symm cC
   ·intro h;rcases Hm o h with h1 | h1
    ·exact absurd h1 cC
    ·exact absurd h1 tK
  ·rfl
 ·have tJ :b' ≠b:=by
   rintro rfl;rcases Hm o jm with h1 | h1
   ·exact cC h1
   ·exact tK h1
  simp only [Gh.put,aJ tJ];exact⟨hh b' tJ (hs.jN jm),trivial,trivial,trivial⟩
 ·simp only [Gh.put,aJ (ace b' jm)]; exact hs.size b' (by omega)
theorem uS {z st st' n b e:Nat}{es l:List D}{vs:List Value} {cs cs' :Array Value}{f:Nat×Nat}(z0:0 < z)(hB:su ρ w z e es st b)(dT:st<=ρ.ext b)(h1:ρ.sh b<=n)(h2:n<=ρ.ext b)
  (hl:fY ρ w z l vs)(room:n - ρ.sh b+l.length<=ρ.cap b)(qN:w.heap[b]? =some (.cells cs e f)) (ye :w'.heap[b]? =some (.cells cs' e f))(GW:cs'.toList=over cs.toList ((n - ρ.sh b) * z) vs)
  (hK:Kp ρ w ρ' w')(gZ:ρ'.sh b=ρ.sh b)(p9:ρ'.cap b=ρ.cap b)(DB:ρ'.ext b=n+l.length):su ρ' w' z e (es.take n++l) st' b:=by
 have J8:=hl.length;have cC:=hB.ext;have zu:(es.take n).length=n:=by simp; omega
 have MP:ρ.cap b * z<=cs.size:=by
  rcases ec (ρ.cap b * z) with h | h
  ·omega
  ·have:=(hB.cells (ρ.cap b * z - 1) (by omega)).1;rw [ew qN]at this;rcases aG (ρ.cap b * z - 1) cs.size with h' | h'
   ·omega
   ·simp [cw h']at this
 have mr:(n - ρ.sh b) * z+vs.length<=ρ.cap b * z:=by
  rw [J8,← Nat.add_mul]; exact dw _ room
 have OG:cs'.size=cs.size:=by
  have:=congrArg List.length GW;rw [jG _ _ _ (by simp; omega)]at this;simpa using this
 have kM:∀j,cs'[j]? =if (n - ρ.sh b) * z<=j/\j < (n - ρ.sh b) * z+vs.length then vs[j - (n - ρ.sh b) * z]? else cs[j]? :=fun j=>by
  have:=qs cs.toList ((n - ρ.sh b) * z) vs j (by simp; omega);rw [← GW]at this;simpa using this
 refine⟨by rw [DB]; simp; omega,by rw [gZ,DB]; omega,by rw [gZ,DB,p9]; omega,fun j hj=> ?_,⟨_,_,ye⟩,fun _ i d a1 a2 a3=> ?_⟩
 ·rw [p9]at hj;have dQ:j < cs.size:=by omega
  refine⟨by rw [ew ye]; simp [OG,dQ], ?_⟩;have:=(hB.cells j hj).2;simp only [World.frozen?,qN]at this;simp only [World.frozen?,ye];exact this
 ·rw [gZ]at a1 ⊢;rcases aG i n with hi | hi
  ·rw [aO (by omega),de,bJ hi]at a3;obtain⟨v,v1,v2,v3⟩:=hB.elems dT i d a1 (by omega) a3;refine⟨v,v1.mono hK,v2,fun j hj=> ?_⟩;have:=v3 j hj;rw [ew qN]at this;rw [ew ye,kM,aJ,this];have:(i - ρ.sh b+1) * z<=(n - ρ.sh b) * z:=dw _ (by omega);rw [bT]at this;omega
  ·rw [aT (by omega),zu]at a3
   have hr:w'.rangeAt b ((n - ρ.sh b) * z) vs:=fun j u hj=>by
    have dQ:j < vs.length:=(af.1 hj).1;rw [ew ye,kM,bJ (by omega)];rwa [Nat.add_sub_cancel_left]
   obtain⟨v,v1,v2,v3,v4⟩:=(hl.mono hK).get hr (i - n) d a3;refine⟨v,v1,v2, ?_⟩;rwa [← Nat.add_mul,show n - ρ.sh b+(i - n)=i - ρ.sh b by omega]at v3
theorem AY {z st' off len b cp:Nat}{es l:List D}{vs rest:List Value}{cs:Array Value}{e:TypeId}(hlen:off+len<=es.length)
  (hl:fY ρ' w' z ((es.drop off).take len++l) vs)(room:len+l.length<=cp)(fR:cs.size=cp * z)(qN:w'.heap[b]? =some (.cells cs e (0,0)))(hv:cs.toList=vs++rest)
  (gZ:ρ'.sh b=off)(p9:ρ'.cap b=cp)(DB:ρ'.ext b=off+len+l.length):su ρ' w' z e (es.take (off+len)++l) st' b:=by
 have zu:(es.take (off+len)).length=off+len:=by simp; omega
 refine⟨by rw [DB]; simp; omega,by rw [gZ,DB]; omega,by rw [gZ,DB,p9]; omega,fun j hj=> ?_,⟨_,_,qN⟩,fun _ i d a1 a2 a3=> ?_⟩
 ·rw [p9,← fR]at hj;exact⟨by rw [ew qN]; simp [hj],by simp [World.frozen?,qN]⟩
 ·rw [gZ]at a1 ⊢;have:((es.drop off).take len++l)[i - off]? =some d:=by
   rw [← a3];rcases aG i (off+len) with hi | hi
   ·rw [aO (by simp; omega),aO (by omega),de,de,bJ (by omega),bJ hi,cW]
    congr 1; omega
   ·rw [aT (by simp; omega),aT (by omega)]
    congr 1; simp; omega
  obtain⟨v,v1,v2,v3,v4⟩:=hl.get (l9 qN hv) (i - off) d this;exact⟨v,v1,v2,by simpa using v3⟩
theorem fits {n b k:Nat}(h:k < n)(hn:n<=aL)(hb:b<=4096):Builtin.nextslicecap n k * b<=281474976710656:=by
 refine growslice_fits h (cU (Nat.mul_le_mul hn hb) ?_);decide
theorem GP (hs:bZ ρ s w){t tx ty e:TypeId}{i:TypeInfo}{zv:Value}{m:Nat}{dx:D}{v y:Value}{l:List D}{vs:List Value}(ht:P.underlying t=some (.slice e))(hi:P.info? e=some i)(hz:i.zero=some zv)(PN:i.size=m+1)
  (zH:zv.cells.size=m+1)(hib:i.bytes<=4096)(hx:aS ρ w dx v)(hl:fY ρ w (m+1) l vs)(J4:Src P i.size tx y l.length vs w)(h:fF s al (m+1) e dx l=some (d,s')):
  ∃u w' ρ',(Builtin.append_ #[t,tx] ty #[v,y]).run P w= .ok u w' /\Kp ρ w ρ' w' /\bZ ρ' s' w' /\aS ρ' w' d u:=by
 have J8:=hl.length;unfold fF at h;split at h
 ·
  have kq:vs=[]:=hl;subst kq;have fin:∀base sLen sCap,v= .slice base sLen sCap->sLen<=sCap->dx=d->s=s' ->∃u w' ρ',(Builtin.append_ #[t,tx] ty #[v,y]).run P w= .ok u w' /\Kp ρ w ρ' w' /\bZ ρ' s' w' /\aS ρ' w' d u:=by
   rintro base sLen sCap rfl hle rfl rfl;exact⟨_,w,ρ,run_append_nothing (P:=P) w t tx ty e i ht hi base sLen sCap hle y J4,Kp.refl _ _,hs,hx⟩
  split at h
  ·simp only [aa,ab]at h;have yb :=hx;simp only [aS]at yb;rcases yb with ⟨_,rfl,rfl⟩ | ⟨_,ad,c,rfl,hle,_⟩
   ·exact fin _ _ _ rfl (an _) h.1 h.2
   ·exact fin _ _ _ rfl hle h.1 h.2
  ·split at h
   ·rename_i lF;simp only [aa,ab]at h;obtain⟨_,k1,_⟩:=hs.ok _ _ lF;have yb :=hx;simp only [aS,Gh.at,k1]at yb;obtain⟨b,hb,q1,q2,q3,xx,cap,rfl,q5,_⟩:=yb;exact fin _ _ _ rfl (by omega) h.1 h.2
   ·cases h
  ·cases h
 ·rename_i Al;have FE:0 < l.length:=by
   cases l with
   | nil=>exact absurd rfl Al
   | cons _ _=>simp
  split at h
  ·
   split at h
   ·rename_i lW;have lW:=ax lW;split at h
    ·rename_i k s2 hm;simp only [aa,ab]at h;obtain⟨rfl,rfl⟩:=h;simp only [aS]at hx;rcases hx with ⟨_,_,rfl⟩ | ⟨hf,_⟩
     ·have fW:=run_append_grow_src (P:=P) w t tx ty e i zv ht hi hz none 0 0 [] (run_firstCells_none _ _ _ _ _) y l.length vs J4 (by omega) (by have:l.length<=2147483648:=lW; omega) (fits (by omega) (by omega) hib);have p9:=grownCap_ge w (0+l.length) 0 e;simp only [aM,cA]at fW p9
      obtain⟨ρ',n1,n2,n3⟩:=BI (al:=al) (w' :=w.drew.alloc (.cells (vs.toArray++Builtin.zeroCells zv.cells (grownCap w l.length 0 e - l.length)) e)) (rest:=(Builtin.zeroCells zv.cells (grownCap w l.length 0 e - l.length)).toList)
       hs (kP m) hm hl (by simp) (cp:=grownCap w l.length 0 e) (by
        rw [kj,size_zeroCells,zH]; simp only [km,J8];rw [← Nat.add_mul]; congr 1; omega) p9 rfl rfl rfl rfl
      exact⟨_,_,ρ',fW,n1,n2,n3⟩
     ·cases hf
    ·cases h
   ·cases h
  ·
   rename_i ob off len cp0;split at h
   ·rename_i z ty0 es st lF;split at h
    ·rename_i c1 c2 c3 c4;simp only [aA]at c1;obtain⟨c1,ct⟩:=c1;obtain rfl:=aF c1;obtain rfl:=(aF ct).symm;have c2:=ax c2;have c3:=ax c3;have c4:=ax c4;obtain⟨z0,k1,zV,⟨cur,u1,u2,u3⟩,xh,dK⟩:=hs.ok _ _ lF;have yb :=hx;simp only [aS,Gh.at,k1]at yb;obtain⟨b,hb,q1,q2,q3,xx,cap,rfl,q5,q6,q7⟩:=yb;have hB:=xh b hb;have hBe:=hB.ext;have acJ:=hs.jN hb;have hold:∃olds,fY ρ w (m+1) ((es.drop off).take len) olds/\w.rangeAt b xx olds:=by
      by_cases Al:len=0
      ·exact⟨[],by subst Al; simp [fY],fun j u hj=>by simp at hj⟩
      ·have PE:xx=(off - ρ.sh b) * (m+1):=by rcases q6 with q6 | q6 <;> omega
       refine fX.row (fX.of (kP m) _ _ fun j el hj=> ?_);rw [de]at hj;split at hj
       ·rw [cW]at hj;obtain⟨u,r1,r2,r3⟩:=hB.elems (by omega) (off+j) el (by omega) (by omega) hj;refine⟨u,r1,r2, ?_,(oF dK hj).2⟩;rwa [show off+j - ρ.sh b=(off - ρ.sh b)+j by omega,bT,← PE]at r3
       ·cases hj
     obtain⟨olds,VF,ho2⟩:=hold;have hol:=VF.length;have zP:((es.drop off).take len).length=len:=by simp; omega
     rw [zP]at hol
     have Uq: ¬ (len+l.length<=cap)->(Builtin.append_ #[t,tx] ty #[.slice (some ⟨b,xx,none⟩) len cap,y]).run P w=
       .ok (.slice (some ⟨w.heap.size,0,none⟩) (len+l.length) (grownCap w (len+l.length) cap e)) (w.drew.alloc (.cells ((olds++vs).toArray++Builtin.zeroCells zv.cells (grownCap w (len+l.length) cap e - (len+l.length))) e)):=fun hr=>
      run_append_grow_src (P:=P) w t tx ty e i zv ht hi hz (some ⟨b,xx,none⟩) len cap olds (run_firstCells_some w.drew i.size len ⟨b,xx,none⟩ len cap olds (by rw [hol,PN]) (fun j u hj=>by rw [Addr.add_mid]; simpa using ho2 j u hj)) y l.length vs J4 (by omega)
       (by have:len+l.length<=2147483648:=c4; omega) (fits (by omega) c4 hib)
     have NN:len+l.length<=cap->(Builtin.append_ #[t,tx] ty #[.slice (some ⟨b,xx,none⟩) len cap,y]).run P w= .ok (.slice (some ⟨b,xx,none⟩) (len+l.length) cap) (w.setCells b (xx+len * (m+1)) vs):=fun hr=>by
      have PE:xx=(off - ρ.sh b) * (m+1):=by rcases q6 with q6 | q6 <;> omega
      have hbd:∀j,j < vs.length->xx+len * (m+1)+j < ρ.cap b * (m+1):=fun j hj=>by
       have:((off - ρ.sh b)+len+l.length) * (m+1)<=ρ.cap b * (m+1):=dw _ (by omega);rw [bT,bT]at this;omega
      have:=run_append_room_src (P:=P) w t tx ty e i ht hi b xx len cap y l.length vs J4 hr (fun j hj=>by rw [PN]; exact (hB.cells _ (hbd j hj)).1) (fun j hj=>by rw [PN]; exact (hB.cells _ (hbd j hj)).2);rw [PN]at this;exact this
     have p9:=grownCap_ge w (len+l.length) cap e;split at h
     ·
      rename_i iX;have iX:=aF iX;split at h
      ·rename_i s2 gL;simp only [aa,ab]at h;obtain⟨rfl,rfl⟩:=h;have Li:=St.qi gL;have hex:ρ.ext b=es.length:=by omega
       have Hm:∀b' o',ρ.own b' = .obj o' ->b' =b->o' =ob:=by rintro b' o' h1 rfl; rw [hb]at h1; simpa using h1.symm
       have EC :eG (m+1) (es++l)=true:=by
        rw [iK]at *;intro q hq;rcases bK.1 hq with hq | hq
        ·exact dK q hq
        ·exact iK.1 hl.eG q hq
       by_cases hr:len+l.length<=cap
       ·
        have PE:xx=(off - ρ.sh b) * (m+1):=by rcases q6 with q6 | q6 <;> omega
        obtain⟨cs,f,lC⟩:=hB.shape;have RB:xx+len * (m+1)+vs.length<=cs.size:=by
         have h1:((off - ρ.sh b)+len+l.length) * (m+1)<=ρ.cap b * (m+1):=dw _ (by omega);rw [bT,bT]at h1;have h2:0 < l.length * (m+1):=Nat.mul_pos FE (kP m);have:=(hB.cells (ρ.cap b * (m+1) - 1) (by omega)).1;rw [ew lC]at this;rcases aG (ρ.cap b * (m+1) - 1) cs.size with h' | h'
         ·omega
         ·simp [cw h']at this
        obtain⟨⟨cs',g1,g2⟩,g3,g4,g5,g6,g7⟩:=jn vs (xx+len * (m+1)) w cs e f lC RB;have KH:xx+len * (m+1)=(es.length - ρ.sh b) * (m+1):=by
         rw [PE,← Nat.add_mul]; congr 1; omega
        obtain⟨n1,n2⟩:=yA (w' :=w.setCells b (xx+len * (m+1)) vs) (b:=b) (k:=ob) (z:=m+1) (sh:=ρ.sh b) (ex:=es.length+l.length) (cp:=ρ.cap b) (x:= .arr (m+1) e (es++l) st) (s' :=s2) hs
         (fun o' h' => .inl (Hm b o' h' rfl)) (.inr ⟨ob,hb⟩) (.inr ⟨k1,fun _=>⟨rfl,by omega,rfl⟩⟩) (fun b' cC _=>g3 b' cC) (by omega) (fun b' jm =>by omega) g5 g6 g7 (fun hK=>by
          refine⟨z0,by simp [Gh.put],by simp; omega,⟨b,by simp [Gh.put],by simp [Gh.put],fun b' h1 h2=> ?_⟩,fun b' h1=> ?_,EC⟩
          ·by_cases lS:b' =b
           ·exact lS
           ·simp only [Gh.put,aJ lS]at h1 h2;have:=(xh b' h1).ext;simp at h2; omega
          ·by_cases lS:b' =b
           ·subst lS;have:=uS (st' :=st) (n:=es.length) z0 hB (by omega) (by omega) (by omega) hl (by omega) lC g1 (by rw [g2,KH]) hK (by simp [Gh.put]) (by simp [Gh.put]) (by simp [Gh.put]);rwa [eD]at this
           ·simp only [Gh.put,aJ lS]at h1;have zK :=xh b' h1;have e1:=g3 b' lS;refine⟨by simp only [Gh.put,aJ lS]; have:=zK.ext; simp; omega,by simp only [Gh.put,aJ lS]; exact zK.sh,by simp only [Gh.put,aJ lS]; exact zK.room,fun j hj=> ?_,by rw [e1]; exact zK.shape,fun a0 i2 dd a1 a2 a3=> ?_⟩
            ·simp only [Gh.put,aJ lS]at hj;rw [cell?_of_heap e1,frozen?_of_heap e1]; exact zK.cells j hj
            ·simp only [Gh.put,aJ lS]at a0 a1 a2 ⊢;have:=zK.ext;rw [aO (by omega)]at a3;obtain⟨vv,v1,v2,v3⟩:=zK.elems a0 i2 dd a1 a2 a3;exact⟨vv,v1.mono hK,v2,v3.of_heap e1⟩)
         (by rw [Li]; exact hs.lt _ _ lF) (by rw [Li]; exact an _) (by rw [Li]; exact St.fu s ob _)
        refine⟨_,_,_,NN hr,n1,n2, ?_⟩;simp only [aS,Gh.at,Gh.put,ep];exact⟨b,by simp,by simp; omega,by simp; omega,an _,xx,cap,rfl,by omega,by simp; exact q6,by simp; exact q7⟩
       ·
        obtain⟨n1,n2⟩:=yA (w' :=w.drew.alloc (.cells ((olds++vs).toArray++Builtin.zeroCells zv.cells (grownCap w (len+l.length) cap e - (len+l.length))) e)) (b:=w.heap.size) (k:=ob) (z:=m+1) (sh:=off) (ex:=es.length+l.length) (cp:=grownCap w (len+l.length) cap e) (x:= .arr (m+1) e (es++l) st) (s' :=s2) hs
         (fun o' h' =>by rw [hs.size _ (an _)]at h'; cases h') (.inl (an _)) (.inr ⟨k1,fun h' =>by rw [hs.size _ (an _)]at h'; cases h'⟩) (fun b' cC dQ=>iz (w:=w) rfl dQ) (by show w.heap.size<=(w.heap.push _).size; simp) (fun b' jm =>by have jm :(w.heap.push _).size<=b' :=jm; simp at jm; omega) rfl rfl rfl (fun hK=>by
          refine⟨z0,by simp [Gh.put],by simp; omega,⟨w.heap.size,by simp [Gh.put],by simp [Gh.put],fun b' h1 h2=> ?_⟩,fun b' h1=> ?_,EC⟩
          ·by_cases lS:b' =w.heap.size
           ·exact lS
           ·simp only [Gh.put,aJ lS]at h1 h2;have:=(xh b' h1).ext;simp at h2; omega
          ·by_cases lS:b' =w.heap.size
           ·subst lS
            have:=AY (st' :=st) (z:=m+1) (off:=off) (len:=len) (es:=es) (l:=l) (b:=w.heap.size) (cp:=grownCap w (len+l.length) cap e) (rest:=(Builtin.zeroCells zv.cells (grownCap w (len+l.length) cap e - (len+l.length))).toList) c2 ((VF.append hl).mono hK) p9 (by
             rw [kj,size_zeroCells,zH]; simp only [km,aB,J8,hol];rw [← Nat.add_mul,← Nat.add_mul]; congr 1; omega) (lY (w:=w) rfl) (by simp) (by simp [Gh.put]) (by simp [Gh.put]) (by simp [Gh.put]; omega)
            rwa [iX,eD]at this
           ·simp only [Gh.put,aJ lS]at h1;have zK :=xh b' h1;have e1:=iz (w:=w) (w' :=w.drew.alloc (.cells ((olds++vs).toArray++Builtin.zeroCells zv.cells (grownCap w (len+l.length) cap e - (len+l.length))) e)) rfl (hs.jN h1);refine⟨by simp only [Gh.put,aJ lS]; have:=zK.ext; simp; omega,by simp only [Gh.put,aJ lS]; exact zK.sh,by simp only [Gh.put,aJ lS]; exact zK.room,fun j hj=> ?_,by rw [e1]; exact zK.shape,fun a0 i2 dd a1 a2 a3=> ?_⟩
            ·simp only [Gh.put,aJ lS]at hj;rw [cell?_of_heap e1,frozen?_of_heap e1]; exact zK.cells j hj
            ·simp only [Gh.put,aJ lS]at a0 a1 a2 ⊢;have:=zK.ext;rw [aO (by omega)]at a3;obtain⟨vv,v1,v2,v3⟩:=zK.elems a0 i2 dd a1 a2 a3;exact⟨vv,v1.mono hK,v2,v3.of_heap e1⟩)
         (by rw [Li]; exact hs.lt _ _ lF) (by rw [Li]; exact an _) (by rw [Li]; exact St.fu s ob _)
        refine⟨_,_,_,Uq hr,n1,n2, ?_⟩;simp only [aS,Gh.at,Gh.put,ep];exact⟨w.heap.size,by simp,by simp,by simp; omega,an _,0,_,rfl,p9,.inr (by simp),by simp⟩
      ·cases h
     ·
      split at h
      ·rename_i s1 gL;split at h
       ·rename_i k s2 hm;simp only [aa,ab]at h;obtain⟨rfl,rfl⟩:=h;have Li:=St.qi gL;have Hm:∀o',ρ.own b= .obj o' ->o' =ob:=fun o' h1=>by rw [hb]at h1; simpa using h1.symm
        have X1:Kp ρ w { ρ with kd:=fun o=>if o=ob then .dead else ρ.kd o} w:=by
         refine⟨rfl,rfl,rfl,an _,fun _ _ _=>⟨rfl,rfl⟩,fun o h' => ?_,fun o z' h' => ?_⟩
         ·simp only; split
          ·exact⟨rfl,trivial⟩
          ·exact⟨h',trivial⟩
         ·simp only; split
          ·exact .inl rfl
          ·exact .inr ⟨h',fun _ jm =>⟨jm,trivial,an _,trivial⟩⟩
        have XR:bZ { ρ with kd:=fun o=>if o=ob then .dead else ρ.kd o} s1 w:=by
         refine hs.PC X1 ob .dead (fun _ _ _ _=>mZ) (fun o cC=>by simp [cC]) (fun _ _ _ _ _=>⟨rfl,rfl,rfl,rfl⟩) (by simp [pN]) hs.size ?_ ?_ ?_
         ·rw [Li]; exact hs.lt _ _ lF
         ·rw [Li]; exact an _
         ·rw [Li]; exact St.fu s ob _
        obtain⟨Nb,vm,zL,ZE⟩:=HK XR hm;have Iz:=XR.no k Nb;have EC :eG (m+1) (es.take (off+len)++l)=true:=by
         rw [iK];intro q hq;rcases bK.1 hq with hq | hq
         ·exact iK.1 dK q (fV hq)
         ·exact iK.1 hl.eG q hq
        have acA :(es.take (off+len)++l).length=off+len+l.length:=by simp; omega
        have hlk:=hl.mono X1;have fK:=VF.mono X1;generalize hρ1:({ ρ with kd:=fun o=>if o=ob then Kd.dead else ρ.kd o}:Gh)=ρ1 at *;have nM:∀b',ρ1.own b' ≠ .obj k:=fun b' h' =>XR.live b' k h' Iz;by_cases hr:len+l.length<=cap
        ·have PE:xx=(off - ρ.sh b) * (m+1):=by rcases q6 with q6 | q6 <;> omega
         obtain⟨cs,f,lC⟩:=hB.shape;have RB:xx+len * (m+1)+vs.length<=cs.size:=by
          have h1:((off - ρ.sh b)+len+l.length) * (m+1)<=ρ.cap b * (m+1):=dw _ (by omega);rw [bT,bT]at h1;have h2:0 < l.length * (m+1):=Nat.mul_pos FE (kP m);have:=(hB.cells (ρ.cap b * (m+1) - 1) (by omega)).1;rw [ew lC]at this;rcases aG (ρ.cap b * (m+1) - 1) cs.size with h' | h'
          ·omega
          ·simp [cw h']at this
         obtain⟨⟨cs',g1,g2⟩,g3,g4,g5,g6,g7⟩:=jn vs (xx+len * (m+1)) w cs e f lC RB;have KH:xx+len * (m+1)=(off+len - ρ.sh b) * (m+1):=by
          rw [PE,← Nat.add_mul]; congr 1; omega
         obtain⟨n1,n2⟩:=yA (w' :=w.setCells b (xx+len * (m+1)) vs) (b:=b) (k:=k) (z:=m+1) (sh:=ρ.sh b) (ex:=off+len+l.length) (cp:=ρ.cap b) (x:= .arr (m+1) e (es.take (off+len)++l) 0) (s' :=s2) XR
          (fun o' h' => .inr (by subst hρ1; simp [Hm o' h'])) (.inr ⟨ob,by subst hρ1; exact hb⟩) (.inl Iz) (fun b' cC _=>g3 b' cC) (by omega) (fun b' jm =>by omega) g5 g6 g7 (fun hK=>by
           refine⟨z0,by simp [Gh.put],by omega,⟨b,by simp [Gh.put],by simp only [Gh.put,ep]; omega,fun b' h1 _=> ?_⟩,fun b' h1=> ?_,EC⟩
           ·by_cases lS:b' =b
            ·exact lS
            ·simp only [Gh.put,aJ lS]at h1; exact absurd h1 (nM b')
           ·by_cases lS:b' =b
            ·subst lS;have hK2:Kp ρ w (ρ1.put b' k (m+1) (ρ.sh b') (off+len+l.length) (ρ.cap b')) (w.setCells b' (xx+len * (m+1)) vs):=X1.trans hK;exact uS (st' :=0) (n:=off+len) z0 hB (by omega) (by omega) (by omega) hl (by omega) lC g1 (by rw [g2,KH]) hK2 (by simp [Gh.put]) (by simp [Gh.put]) (by simp [Gh.put])
            ·simp only [Gh.put,aJ lS]at h1; exact absurd h1 (nM b'))
          vm zL ZE
         refine⟨_,_,_,NN hr,X1.trans n1,n2, ?_⟩;simp only [aS,Gh.at,Gh.put,ep];exact⟨b,by simp,by simp; omega,by simp; omega,an _,xx,cap,rfl,by omega,by simp; exact q6,by simp; exact q7⟩
        ·obtain⟨n1,n2⟩:=yA (w' :=w.drew.alloc (.cells ((olds++vs).toArray++Builtin.zeroCells zv.cells (grownCap w (len+l.length) cap e - (len+l.length))) e)) (b:=w.heap.size) (k:=k) (z:=m+1) (sh:=off) (ex:=off+len+l.length) (cp:=grownCap w (len+l.length) cap e) (x:= .arr (m+1) e (es.take (off+len)++l) 0) (s' :=s2) XR
          (fun o' h' =>by rw [XR.size _ (an _)]at h'; cases h') (.inl (an _)) (.inl Iz) (fun b' cC dQ=>iz (w:=w) rfl dQ) (by show w.heap.size<=(w.heap.push _).size; simp) (fun b' jm =>by have jm :(w.heap.push _).size<=b' :=jm; simp at jm; omega) rfl rfl rfl (fun hK=>by
           refine⟨z0,by simp [Gh.put],by omega,⟨w.heap.size,by simp [Gh.put],by simp only [Gh.put,ep]; omega,fun b' h1 _=> ?_⟩,fun b' h1=> ?_,EC⟩
           ·by_cases lS:b' =w.heap.size
            ·exact lS
            ·simp only [Gh.put,aJ lS]at h1; exact absurd h1 (nM b')
           ·by_cases lS:b' =w.heap.size
            ·subst lS
             exact AY (st' :=0) (z:=m+1) (off:=off) (len:=len) (es:=es) (l:=l) (b:=w.heap.size) (cp:=grownCap w (len+l.length) cap e) (rest:=(Builtin.zeroCells zv.cells (grownCap w (len+l.length) cap e - (len+l.length))).toList) c2 ((fK.append hlk).mono hK) p9 (by
              rw [kj,size_zeroCells,zH]; simp only [km,aB,J8,hol];rw [← Nat.add_mul,← Nat.add_mul]; congr 1; omega) (lY (w:=w) rfl) (by simp) (by simp [Gh.put]) (by simp [Gh.put]) (by simp [Gh.put])
            ·simp only [Gh.put,aJ lS]at h1; exact absurd h1 (nM b'))
          vm zL ZE
         refine⟨_,_,_,Uq hr,X1.trans n1,n2, ?_⟩;simp only [aS,Gh.at,Gh.put,ep];exact⟨w.heap.size,by simp,by simp,by simp; omega,an _,0,_,rfl,p9,.inr (by simp),by simp⟩
       ·cases h
      ·cases h
    ·cases h
   ·cases h
  ·cases h
theorem oQ:∀(l:List UInt8),fY ρ w 1 (l.map fun b=> .int .u8 b.toNat) (l.map fun b=>Value.int .u8 b.toNat)
 | []=>rfl
 | b::l=>⟨.int .u8 b.toNat,_,by simp [Value.cells],by simp [aS],rfl,rfl,oQ l⟩
section
variable (he:eu ρ w lo env a.tmps)(hg:gF pn G ρ w)(hs:bZ ρ s w)
include he hg hs
theorem JM {t u e:TypeId}{i:TypeInfo}{m:Nat}{z:D} {x' y' :Operand}{x y:bP}(hx:eK G x' =some x)(hy:eK G y' =some y)(hu:P.underlying t=some (.slice e))(hk:(∃e',P.underlying u=some (.slice e'))\/P.underlying u=some .string)
  (hi:P.info? e=some i)(fR:dM P e=some (m+1))(hz:jI P e=some z)(dK:eG (m+1) [z]=true)(h:cB C env s al (.append (m+1) i.bytes e x y)=some (d,s')){o:Oper}
  (ho:o.op= .call { callee:= .builtin .append,args:= #[x',y'],argTypes:= #[t,u]}):fb P ρ w env a.tmps d s' ((execOp a.eval o).run P w):=by
 obtain⟨zv,z1,z2,z3⟩:=kz (w:=w) hz;have zH:=kh (ρ:=ρ) (w:=w) zv z z2;have Ix:zv.cells.size=m+1:=by
  have:=iK.1 dK z (by simp);rw [zH.size this.2]; exact this.1
 have PN:i.size=m+1:=by simpa [dM,hi] using fR
 have hiz:i.zero=some zv:=by simpa [hi] using z3
 have fin:∀dx l vs,aS ρ w dx (a.eval x')->fY ρ w (m+1) l vs->Src P i.size u (a.eval y') l.length vs w->i.bytes<=4096->fF s al (m+1) e dx l=some (d,s')->fb P ρ w env a.tmps d s' ((execOp a.eval o).run P w):=by
  intro dx l vs CO hl J4 hib abG;obtain⟨r,w',ρ',g1,g2,g3,g4⟩:=GP (P:=P) hs hu hi hiz PN Ix hib CO hl J4 abG (ty:=o.type);rw [iE ho];simp only [builtin,ft,bG,ed];rw [Sem.run_bind,g1];exact .val g2 g3 g4
 simp only [cB]at h;split at h
 ·rename_i dx l CO Wj;split at h
  ·rename_i h1 h2;have hm:m+1=1:=aF h1;have JS :=aZ hy he hg Wj;simp only [aS]at JS;refine fin dx _ (l.map fun b=>Value.int .u8 b.toNat) (aZ hx he hg CO) (by rw [hm]; exact oQ l) ?_ (ax h2) h;have hl:(ByteArray.mk ⟨l⟩).size=l.length:=by simp [ByteArray.size_mk']
   have hbc:byteCells ⟨⟨l⟩⟩=l.map fun b=>Value.int .u8 b.toNat:=by simp [byteCells]
   have h1:=firstCells_string (P:=P) ⟨⟨l⟩⟩ w;have h2:=firstCells_string (P:=P) ⟨⟨l⟩⟩ w.drew;rw [hl,hbc]at h1 h2;rw [JS,PN,hm];exact⟨hk,fun w' =>by simp [Builtin.lenOf,hl],by simpa using h1,by simpa using h2,by simp,(oQ (ρ:=ρ) (w:=w) l).one⟩
  ·cases h
 ·rename_i dx dy PS CO Wj;split at h
  ·rename_i z' l hit;split at h
   ·rename_i h1 h2;split at h
    ·rename_i h3;have hyv:=aZ hy he hg Wj;rcases uk hs hit hyv with ⟨rfl,p,c,hv⟩ | ⟨b,q,c,hv,hE⟩
     ·refine fin dx [] [] (aZ hx he hg CO) rfl ?_ (ax h2) h;rw [hv];cases p with
      | none=>exact ⟨hk,fun _=>rfl,run_firstCells_none w _ 0 0 c,run_firstCells_none w.drew _ 0 0 c,by simp,fun _ h=>by cases h⟩
      | some p=>exact ⟨hk,fun _=>rfl,run_firstCells_some w _ 0 p 0 c [] (by simp) (by simp),run_firstCells_some w.drew _ 0 p 0 c [] (by simp) (by simp),by simp,fun _ h=>by cases h⟩
     ·by_cases Al:l=[]
      ·subst Al;refine fin dx [] [] (aZ hx he hg CO) rfl ?_ (ax h2) h;rw [hv];exact⟨hk,fun _=>rfl,run_firstCells_some w _ 0 _ 0 c [] (by simp) (by simp),run_firstCells_some w.drew _ 0 _ 0 c [] (by simp) (by simp),by simp,fun _ h=>by cases h⟩
      ·have hzz:z' =m+1:=by
        simp only [eC]at h1;rcases h1 with h1 | h1
        ·exact aF h1
        ·cases l <;> simp_all
       subst hzz;obtain⟨vs,g1,g2⟩:=hE.row;refine fin dx _ vs (aZ hx he hg CO) g1 ?_ (ax h2) h;have hl:=g1.length;have FF:∀j u,vs[j]? =some u->w.cell? ((⟨b,q,none⟩:Addr).add j)=some u:=fun j u hj=>by rw [Addr.add_mid]; exact g2 j u hj
       rw [hv,PN];exact⟨hk,fun _=>rfl,run_firstCells_some w _ _ _ _ c vs hl FF,run_firstCells_some w.drew _ _ _ _ c vs hl (by simpa using FF),hl,g1.one⟩
    ·cases h
   ·cases h
  ·cases h
 ·cases h
end
end Go.Ab
namespace Go.Ab
open Go
variable [eW]
variable {ρ ρ' :Gh} {w w' :World}{P:Program}{pn:iO}{G:Gl}{X:iJ}{A:nJ} {s s' :St}{env:Env}{a:Act}{lo:Nat}{d:D}{C:au}{al:Option Nat}
def GS (e:Array Value->Sem Value):Ext->Prop
 | .nop=>e=(fun _=>do mark .disable; pure Extern.Race.none_)\/e=(fun _=>do mark .enable; pure Extern.Race.none_)
 | .race=>e=Extern.Race.marked .acquire\/e=Extern.Race.marked .releaseMerge
 | .Zv=>e=Extern.AbiNoEscape.same
 | .UD k=>e=Extern.Atomic.loadT (.int k)
 | .Px=>e=Extern.Atomic.storeT
 | .YJ k=>e=Extern.Atomic.casT (.int k)
 | .aai k=>e=Extern.Atomic.update (Op.intArith .add) k true
structure my (P:Program)(f:FuncId)(k:Ext):Prop where
 ok : ∃ fn e, P.funcs[f]? = some fn ∧ fn.body = none ∧ (fn.name == "runtime.NumGoroutine") = false ∧ Extern.findNext fn = none ∧ Extern.find fn = some e ∧ GS e k
theorem my.run {f:FuncId}{k:Ext}(h:my P f k):∃e,GS e k/\∀(args:Array Value) w,(callFunc f args).run P w=((do pure (.value (← e args))):Sem Next).run P w:=by
 obtain⟨fn,e,h1,h2,h3,h4,h5,h6⟩:=h.ok;refine⟨e,h6,fun args w=> ?_⟩;have h3 : fn.name ≠ "runtime.NumGoroutine" := by simpa using h3
 simp [callFunc,h1,h2,h3,h4,h5]
theorem Ls (t:Extern.Atomic.T)(x:Value):Extern.Atomic.loadT t #[x]=(do Extern.Atomic.read t (← asAddr x)):=rfl
theorem JE (x v:Value):Extern.Atomic.storeT #[x,v]=(do store (← asAddr x) v .atomic; pure Extern.Atomic.none_):=rfl
theorem HW (k:IntKind)(x:Value)(j1 j2:IntKind)(n1 n2:Int):Extern.Atomic.casT (.int k) #[x,.int j1 n1,.int j2 n2]=(do
  let a ← asAddr x
  if ← Extern.Atomic.touchesFrozen a then unsupported (.unsafePointer "a write to bytes that a string shares")
  let eq ← match Extern.Atomic.T.int k,← Extern.Atomic.read (.int k) a,Value.int j1 n1 with
   | _,.int _ x,.int _ y=>pure (x==y)
   | .ptr,.pointer x,.pointer y=>samePointer x y
   | .int _,.pointer (some _),.int _ 0 | .int _,.int _ 0,.pointer (some _)=>pure false
   | .int _,.pointer (some _),_ | .int _,_,.pointer (some _)=>unsupported .addressObserved
   | _, _, _ => stuck "atomic.CompareAndSwap: old is no T"
  if eq then store a (.int j2 n2) .atomic
  pure (.bool eq)):=rfl
theorem JW (op:IntKind->Int->Int->Sem Value)(k:IntKind)(x y:Value):Extern.Atomic.update op k true #[x,y]=(do
  let a ← asAddr x
  let old ← Extern.Atomic.read (.int k) a
  let new ← op k (← asInt old) (← asInt y)
  store a new .atomic
  pure new):=rfl
structure Sb (s s1:St):Prop where
 n:s1.n=s.n
 lk:s1.lk=s.lk
 ro:s.ro=true
 Tk:s1.ro=true
 get:∀o x,s.get o=some x->s1.get o=some x
def zJ (C:au):Prop:=∀f l s d s' s1,Sb s s1->C f l s=some (d,s')->s' =s/\C f l s1=some (d,s1)
structure c9 (pn:iO)(P:Program)(G:Gl)(C:au):Prop where
 enter:∀f l s r,C f l s=some r->(f≠0\/yS l=false)->∀(args:Array Value) w,(callFunc f args).run P w= .ok (.enter f args) w
 calls:∀f l s d s' ρ w vs,C f l s=some (d,s')->bZ ρ s w->gF pn G ρ w->br ρ w l vs->Calls P f vs.toArray w (jA ρ w s' d)
 ro:∀f l s d s',s.ro=true->C f l s=some (d,s')->s' =s
 vw:∀y l s d s' ρ w u vs,C 0 (.lv y::l) s=some (d,s')->bZ ρ s w->gF pn G ρ w->aS ρ w y u->br ρ w l vs->∃b,u= .func (.yield b) #[] #[]/\YieldAt Fence.wide 0 P b vs.toArray w (jA ρ w s' d)
 PG:zJ C
theorem br.yS {l:List D}{vs:List Value}(h:br ρ w l vs):yS l=false:=by
 cases l with
 | nil=>rfl
 | cons x r=>
  simp only [br]at h;obtain⟨v,_,_,hv,_⟩:=h;cases x <;> first | rfl | simp [aS]at hv
section
variable (he:eu ρ w lo env a.tmps)(hg:gF pn G ρ w)(hs:bZ ρ s w)
include he hg hs
omit hs in
theorem oh:∀(l' :List Operand) (l:List bP) (ds:List D),l'.mapM (eK G)=some l->sK env l=some ds->br ρ w ds (l'.map a.eval)
 | [],l,ds,h,h' =>by
  simp at h; subst h;simp only [sK,aa]at h'; subst h';simp [br]
 | x::l',l,ds,h,h' =>by
  simp only [jC,aP,aD,aj]at h;obtain⟨y,h1,q,h2,h3⟩:=h;simp only [aa]at h3; subst h3;simp only [sK]at h';split at h'
  ·rename_i d hd;split at h'
   ·rename_i t ht;simp only [aa]at h'; subst h';simp only [bG,br];exact⟨_,_,rfl,aZ h1 he hg hd,oh l' q t h2 ht⟩
   ·cases h'
  ·cases h'
theorem Qo (hC:c9 pn P G C){f:FuncId} {args' :Array Operand}{args:List bP}(ha:rV G args' =some args)(h:cB C env s al (.call false f args)=some (d,s')){o:Oper}{tys:Array TypeId}
  (ho:o.op= .call { callee:= .value (.func f),args:=args',argTypes:=tys}):fb P ρ w env a.tmps d s' ((execOp a.eval o).run P w):=by
 simp only [cB]at h;split at h
 ·rename_i l hl;have hr:=oh he hg _ _ l ha hl;have fW:(execOp a.eval o).run P w= .ok (.enter f (args'.map a.eval)) w:=by
   simp only [execOp,ho,resolve,Act.eval,Deferred.ofValue];have:=hC.enter _ _ _ _ h (.inr hr.yS) (args'.map a.eval) w;simpa [invoke] using this
  rw [fW];refine⟨rfl, ?_⟩;have:=hC.calls _ _ _ _ _ ρ w _ h hs hg hr;simpa [← Array.toList_map] using this
 ·cases h
theorem L7 (hC:c9 pn P G C) {f' :Operand}{f:bP} {args' :Array Operand}{args:List bP}(hf:eK G f' =some f)(ha:rV G args' =some args)(h:cB C env s al (.pe f args)=some (d,s')){o:Oper}{tys:Array TypeId}
  (ho:o.op= .call { callee:= .value f',args:=args',argTypes:=tys}):fb P ρ w env a.tmps d s' ((execOp a.eval o).run P w):=by
 simp only [cB]at h;split at h
 ·rename_i g x y l ZZ hl;have hr:=oh he hg _ _ l ha hl;have hv:=aZ hf he hg ZZ;simp only [aS]at hv;obtain⟨va,vc,hv,hx,hy⟩:=hv;have fW:(execOp a.eval o).run P w= .ok (.enter g (va++args'.map a.eval++vc)) w:=by
   simp only [execOp,ho,resolve,hv,Deferred.ofValue];have:=hC.enter _ _ _ _ h (.inr ((hx.append hr).append hy).yS) (va++args'.map a.eval++vc) w;simpa [invoke] using this
  rw [fW];refine⟨rfl, ?_⟩;have:=hC.calls _ _ _ _ _ ρ w _ h hs hg ((hx.append hr).append hy);have e:(va.toList++List.map a.eval args'.toList++vc.toList).toArray=va++args'.map a.eval++vc:=by
   apply dG; simp
  rwa [e]at this
 ·rename_i o1 l ZZ hl;have hr:=oh he hg _ _ l ha hl;have hv:=aZ hf he hg ZZ;obtain⟨b,hb,fn,tmps,assign,body,fW,VR⟩:=hC.vw _ _ _ _ _ ρ w _ _ h hs hg hv hr;have YU :(execOp a.eval o).run P w= .ok (.round b fn tmps assign body) w:=by
   simp only [execOp,ho,resolve,hb,Deferred.ofValue];simpa [invoke,← Array.toList_map] using fW
  rw [YU];exact⟨rfl,VR⟩
 ·cases h
omit he hg in
theorem P5 {k:Ext}{l:List D}{vs:List Value}{e:Array Value->Sem Value}(he:GS e k)(hl:br ρ w l vs)(h:Db s k l=some (d,s')):
  ∃u w',(e vs.toArray).run P w= .ok u w' /\Kp ρ w ρ w' /\bZ ρ s' w' /\aS ρ w' d u:=by
 have one:∀(b c:Nat) (x:Value),w.setCells b c [x]=w.setCell ⟨b,c,none⟩ x:=fun _ _ _=>rfl;have rd:∀(o c:Nat) (p:Value) (j:IntKind) (n:Int),aS ρ w (.ptr o c) p->iR s none (.ptr o c)=some (.int j n)->∃b,p= .pointer (some ⟨b,c,none⟩)/\w.cell? ⟨b,c,none⟩=some (.int j n)/\w.frozen? ⟨b,c,none⟩=false/\∃cs e,w.heap[b]? =some (.cells cs e (0,0)):=by
  intro o c p j n hp Lf;simp only [iR]at Lf;split at Lf
  ·rename_i ty v lF;obtain⟨b,u,k1,one',r1,r2,r3,r4⟩:=hs.ok _ _ lF;simp only [aS,Gh.at,k1]at hp;obtain⟨b',jm,hp⟩:=hp;obtain rfl:=one'.2 _ jm;have g1:=rI (r1.flat r4).1 (D.mX r4) Lf;obtain⟨x,g2,g3,_⟩:=g1;simp only [aS]at g3; subst g3;refine⟨b',hp, ?_,by simp [World.frozen?,r2],_,_,r2⟩;rw [ew r2]; simpa using g2
  ·cases Lf
 have wr:∀(o c:Nat) (p:Value) (j:IntKind) (n:Int) (s' :St),aS ρ w (.ptr o c) p->jM s 1 (.ptr o c) (.int j n)=some s' ->∃b,p= .pointer (some ⟨b,c,none⟩)/\(∀m,(store ⟨b,c,none⟩ (.int j n) m).run P w= .ok () (w.setCell ⟨b,c,none⟩ (.int j n)))/\
   Kp ρ w ρ (w.setCell ⟨b,c,none⟩ (.int j n))/\bZ ρ s' (w.setCell ⟨b,c,none⟩ (.int j n)):=by
  intro o c p j n s' hp dT;have hc:∃b c',p= .pointer (some ⟨b,c',none⟩)/\c' =c:=by
   have:=hp;simp only [aS]at this;unfold jM at dT;simp only [D.flat]at dT;split at dT
   ·cases dT
   ·split at dT
    ·rename_i ty v lF;obtain⟨b,u,k1,one',_⟩:=hs.ok _ _ lF;simp only [Gh.at,k1]at this;obtain⟨b',_,hp⟩:=this;exact⟨b',c,hp,rfl⟩
    ·cases dT
  obtain⟨b,c',Q7,rfl⟩:=hc;obtain⟨b2,c2,e1,e2,e3,e4,n1,n2⟩:=A6 hs hp (show aS ρ w (.int j n) (.int j n) by simp [aS]) dT;rw [Q7]at e1;simp only [Value.pointer.injEq,aa,Addr.mk.injEq]at e1;obtain⟨rfl,rfl,_⟩:=e1;refine⟨b,Q7,fun m=> ?_,by simpa [Value.cells,one] using n1,by simpa [Value.cells,one] using n2⟩;obtain⟨h1,h2⟩:=e4 0 (by omega);simp only [fP]at h1 h2;obtain⟨q,hq⟩:=jo.1 h1;rw [run_store P w _ _ m rfl,hq,h2];simp
 unfold Db at h;split at h
 ·simp only [aa,ab]at h;obtain⟨rfl,rfl⟩:=h;refine⟨.tuple #[],w, ?_,Kp.refl _ _,hs,by simp [aS,br]⟩;rcases he with rfl | rfl <;> simp [Extern.Race.none_]
 ·simp only [aa,ab]at h;obtain⟨rfl,rfl⟩:=h;simp only [br]at hl;obtain⟨p,_,rfl,hp,rfl⟩:=hl;simp only [aS]at hp;obtain⟨q,rfl⟩:=Gh.jL hp fun _ _ q=>⟨_,q⟩;refine⟨.tuple #[],w, ?_,Kp.refl _ _,hs,by simp [aS,br]⟩;rcases he with rfl | rfl <;> simp [Extern.Race.marked,Extern.Race.at_,Extern.Race.none_]
 ·simp only [aa,ab]at h;obtain⟨rfl,rfl⟩:=h;simp only [br]at hl;obtain⟨p,_,rfl,hp,rfl⟩:=hl;obtain rfl:=he;exact⟨p,w,rfl,Kp.refl _ _,hs,hp⟩
 ·simp only [aa,ab]at h;obtain⟨rfl,rfl⟩:=h;simp only [br]at hl;obtain⟨p,_,rfl,hp,rfl⟩:=hl;obtain rfl:=he;exact⟨p,w,rfl,Kp.refl _ _,hs,hp⟩
 ·rename_i k o c;split at h
  ·rename_i j n Lf;split at h
   ·rename_i hk;have hk:=bA hk; subst hk;simp only [aa,ab]at h;obtain⟨rfl,rfl⟩:=h;simp only [br]at hl;obtain⟨p,_,rfl,hp,rfl⟩:=hl;obtain⟨b,rfl,h1,h2,_⟩:=rd o c p _ n hp Lf;obtain rfl:=he;refine⟨.int k n,w, ?_,Kp.refl _ _,hs,by simp [aS]⟩;simp [Ls,asAddr,Extern.Atomic.read,h1]
   ·cases h
  ·cases h
 ·rename_i o c j n;obtain⟨h1,rfl⟩:=iq h;simp only [br]at hl;obtain⟨p,_,rfl,hp,x,_,rfl,hx,rfl⟩:=hl;simp only [aS]at hx; subst hx;obtain⟨b,rfl,h2,h3,h4⟩:=wr o c p j n s' hp h1;obtain rfl:=he;refine⟨.tuple #[],_, ?_,h3,h4,by simp [aS,br]⟩;simp [JE,asAddr,h2,Extern.Atomic.none_]
 ·rename_i k o c j1 a1 j n;split at h
  ·rename_i j' x Lf;split at h
   ·rename_i hk;simp only [aA,aX]at hk;obtain⟨rfl,rfl⟩:=hk;simp only [br]at hl;obtain⟨p,_,rfl,hp,y1,_,rfl,xc,y2,_,rfl,yo,rfl⟩:=hl;simp only [aS]at xc yo; subst xc yo;obtain⟨b,rfl,h1,h2,cs,e0,h3⟩:=rd o c p _ x hp Lf;obtain rfl:=he;have htf:(Extern.Atomic.touchesFrozen ⟨b,c,none⟩).run P w= .ok false w:=by
     simp [Extern.Atomic.touchesFrozen,viewAt,shape,World.shape?,frozen,h3,h2,Sem.run]
    split at h
    ·rename_i Sv;have Sv:x=a1:=by simpa using Sv
     obtain⟨h4,rfl⟩:=iq h;obtain⟨b2,e2,g2,g3,g4⟩:=wr o c _ _ n s' hp h4;simp only [Value.pointer.injEq,aa,Addr.mk.injEq]at e2;obtain⟨rfl,_⟩:=e2;refine⟨.bool true,_, ?_,g3,g4,by simp [aS]⟩;simp [HW,asAddr,htf,Extern.Atomic.read,h1,Sv,g2]
    ·rename_i Sv;have Sv: ¬ x=a1:=by simpa using Sv
     simp only [aa,ab]at h;obtain⟨rfl,rfl⟩:=h;refine⟨.bool false,w, ?_,Kp.refl _ _,hs,by simp [aS]⟩;simp [HW,asAddr,htf,Extern.Atomic.read,h1,Sv]
   ·cases h
  ·cases h
 ·rename_i k o c j1 n;split at h
  ·rename_i j x Lf;split at h
   ·rename_i hk;have hk:=bA hk; subst hk;obtain⟨h4,rfl⟩:=iq h;simp only [br]at hl;obtain⟨p,_,rfl,hp,y1,_,rfl,xc,rfl⟩:=hl;simp only [aS]at xc; subst xc;obtain⟨b,rfl,h1,h2,_⟩:=rd o c p _ x hp Lf;obtain rfl:=he;obtain⟨b2,e2,g2,g3,g4⟩:=wr o c _ _ _ s' hp h4;simp only [Value.pointer.injEq,aa,Addr.mk.injEq]at e2;obtain⟨rfl,_⟩:=e2;refine⟨.int k (k.wrap (x+n)),_, ?_,g3,g4,by simp [aS]⟩;simp [JW,asAddr,Extern.Atomic.read,h1,asInt,asIntOf,Op.intArith,g2]
   ·cases h
  ·cases h
 ·cases h
theorem WC {f:FuncId}{k:Ext}(hX:my P f k) {args' :Array Operand}{args:List bP}(ha:rV G args' =some args)(h:cB C env s al (.ext k args)=some (d,s')){o:Oper}{tys:Array TypeId}
  (ho:o.op= .call { callee:= .value (.func f),args:=args',argTypes:=tys}):fb P ρ w env a.tmps d s' ((execOp a.eval o).run P w):=by
 simp only [cB]at h;split at h
 ·rename_i l hl;have hr:=oh he hg _ _ l ha hl;obtain⟨e,h1,h2⟩:=hX.run;obtain⟨u,w',g1,g2,g3,g4⟩:=P5 (P:=P) hs h1 hr h;have fW:(execOp a.eval o).run P w= .ok (.value u) w' :=by
   simp only [execOp,ho,resolve,Act.eval,Deferred.ofValue];have h3:=h2 (args'.map a.eval) w;have e:args'.map a.eval=(args'.toList.map a.eval).toArray:=by apply dG; simp
   rw [Sem.run_bind,e,g1]at h3;simp only [Result.andThen_ok,Sem.run_pure]at h3;rw [← e]at h3;simpa [invoke] using h3
  rw [fW];exact .val g2 g3 g4
 ·cases h
end
end Go.Ab
