/- Part. -/
import Derived.Test.YtmcdajnpdekocaaGreatDoorG09
import Derived.Deep.Upon
set_option linter.unusedSectionVars false
set_option linter.unusedSimpArgs false
set_option linter.unusedVariables false
namespace Go.Ab
open Go
variable [Vals]
variable {ρ ρ' :Gh} {w w' :World}{P:Program}{pn:Pins}{G:Gl}{X:Exts}{A:Adv} {s s' :St}{env:Env}{a:Act}{lo:Nat}{d:D}{C:zAa}{al:Option Nat}
def Gh.put (ρ:Gh)(b k z sh ex cp:Nat):Gh:=
 {own:=fun x=>if x=b then .obj k else ρ.own x
  sh:=fun x=>if x=b then sh else ρ.sh x
  ext:=fun x=>if x=b then ex else ρ.ext x
  cap:=fun x=>if x=b then cp else ρ.cap x
  kd:=fun o=>if o=k then .live z else ρ.kd o
  lp:=ρ.lp}
theorem zOk (hs:zPl ρ s w){b k z sh ex cp:Nat}{x:Obj}(hbk:∀o',ρ.own b= .obj o' →o' =k∨ρ.kd o' = .dead)(hbn:w.heap.size≤b∨∃o',ρ.own b= .obj o')
  (hkd:ρ.kd k= .fresh∨(ρ.kd k= .live z∧(ρ.own b= .obj k→sh=ρ.sh b∧ρ.ext b≤ex∧cp=ρ.cap b)))
  (hh:∀b',b' ≠b→b' < w.heap.size→w'.heap[b']? =w.heap[b']?)(hsz:w.heap.size≤w'.heap.size) (hsz' :∀b',w'.heap.size≤b' →b' ≠b)
  (ho:w'.os=w.os)(ht:w'.tape=w.tape)(hu:w'.output=w.output)(hx:Kp ρ w (ρ.put b k z sh ex cp) w' →zQt (ρ.put b k z sh ex cp) w' k x)
  (hn:k < s'.n)(hnn:s.n≤s'.n)(hget:∀o,s'.get o=if o=k then some x else s.get o):
  Kp ρ w (ρ.put b k z sh ex cp) w' ∧zPl (ρ.put b k z sh ex cp) s' w' :=by
 have hkn:ρ.kd k≠ .dead:=by rcases hkd with h | ⟨h,_⟩ <;> rw [h] <;> simp
 have hK:Kp ρ w (ρ.put b k z sh ex cp) w' :=by
  refine⟨ho,ht,hu,hsz,fun b' hb' hno=> ?_,fun o h=> ?_,fun o y h=> .inr ⟨?_,fun b' hb' => ?_⟩⟩
  ·have hne:b' ≠b:=by
    rintro rfl
    rcases hbn with h | ⟨o',h⟩
    ·omega
    ·exact hno _ h
   exact⟨hh b' hne hb',by simp [Gh.put,hne]⟩
  ·simp only [Gh.put]; rw [if_neg (by rintro rfl; exact hkn h)]; exact ⟨h,trivial⟩
  ·simp only [Gh.put]; split
   ·rename_i e; subst e
    rcases hkd with h' | ⟨h',_⟩
    ·rw [h']at h; cases h
    ·rw [h']at h; simpa using h
   ·exact h
  ·by_cases hne:b' =b
   ·subst hne
    rcases hbk o hb' with rfl | hd
    ·rcases hkd with h' | ⟨h',h2⟩
     ·rw [h']at h; cases h
     ·obtain⟨e1,e2,e3⟩:=h2 hb'
      simp only [Gh.put,if_true]
      exact⟨trivial,e1,e2,e3⟩
    ·rw [hd]at h; cases h
   ·simp only [Gh.put,if_neg hne]; exact ⟨hb',trivial,Nat.le_refl _,trivial⟩
 refine⟨hK,hs.upd hK k x (fun b' o hne hnd=> ?_) (fun o hne=>by simp [Gh.put,hne]) (fun b' o hne hnd hb' => ?_) (hx hK) (fun b' hb' => ?_) hn hnn hget⟩
 ·simp only [Gh.put]; split
  ·rename_i e; subst e
   constructor
   ·intro h; simp at h; exact absurd h.symm hne
   ·intro h
    rcases hbk o h with h1 | h1
    ·exact absurd h1 hne
    ·exact absurd h1 hnd
  ·rfl
 ·have hne' :b' ≠b:=by
   rintro rfl
   rcases hbk o hb' with h1 | h1
   ·exact hne h1
   ·exact hnd h1
  simp only [Gh.put,if_neg hne']
  exact⟨hh b' hne' (hs.own_lt hb'),trivial,trivial,trivial⟩
 ·simp only [Gh.put,if_neg (hsz' b' hb')]; exact hs.size b' (by omega)
theorem zIr {z st st' n b e:Nat}{es l:List D}{vs:List Value} {cs cs' :Array Value}{f:Nat×Nat}(z0:0 < z)(hB:zJs ρ w z e es st b)(hst:st≤ρ.ext b)(h1:ρ.sh b≤n)(h2:n≤ρ.ext b)
  (hl:RepC ρ w z l vs)(room:n - ρ.sh b+l.length≤ρ.cap b)(hcs:w.heap[b]? =some (.cells cs e f)) (hcs' :w'.heap[b]? =some (.cells cs' e f))(hov:cs'.toList=over cs.toList ((n - ρ.sh b) * z) vs)
  (hK:Kp ρ w ρ' w')(hsh:ρ'.sh b=ρ.sh b)(hcap:ρ'.cap b=ρ.cap b)(hext:ρ'.ext b=n+l.length):zJs ρ' w' z e (es.take n++l) st' b:=by
 have hvl:=hl.length
 have hne:=hB.ext
 have htl:(es.take n).length=n:=by simp; omega
 have hcapsz:ρ.cap b * z≤cs.size:=by
  rcases Nat.eq_zero_or_pos (ρ.cap b * z) with h | h
  ·omega
  ·have:=(hB.cells (ρ.cap b * z - 1) (by omega)).1
   rw [zAc hcs]at this
   rcases Nat.lt_or_ge (ρ.cap b * z - 1) cs.size with h' | h'
   ·omega
   ·simp [Array.getElem?_eq_none h']at this
 have hin:(n - ρ.sh b) * z+vs.length≤ρ.cap b * z:=by
  rw [hvl,← Nat.add_mul]; exact Nat.mul_le_mul_right _ room
 have hsize:cs'.size=cs.size:=by
  have:=congrArg List.length hov
  rw [zBr _ _ _ (by simp; omega)]at this
  simpa using this
 have hget:∀j,cs'[j]? =if (n - ρ.sh b) * z≤j∧j < (n - ρ.sh b) * z+vs.length then vs[j - (n - ρ.sh b) * z]? else cs[j]? :=fun j=>by
  have:=zFl cs.toList ((n - ρ.sh b) * z) vs j (by simp; omega)
  rw [← hov]at this
  simpa using this
 refine⟨by rw [hext]; simp; omega,by rw [hsh,hext]; omega,by rw [hsh,hext,hcap]; omega,fun j hj=> ?_,⟨_,_,hcs'⟩,fun _ i d a1 a2 a3=> ?_⟩
 ·rw [hcap]at hj
  have hlt:j < cs.size:=by omega
  refine⟨by rw [zAc hcs']; simp [hsize,hlt], ?_⟩
  have:=(hB.cells j hj).2
  simp only [World.frozen?,hcs]at this
  simp only [World.frozen?,hcs']
  exact this
 ·rw [hsh]at a1 ⊢
  rcases Nat.lt_or_ge i n with hi | hi
  ·rw [List.getElem?_append_left (by omega),List.getElem?_take,if_pos hi]at a3
   obtain⟨v,v1,v2,v3⟩:=hB.elems hst i d a1 (by omega) a3
   refine⟨v,v1.mono hK,v2,fun j hj=> ?_⟩
   have:=v3 j hj
   rw [zAc hcs]at this
   rw [zAc hcs',hget,if_neg,this]
   have:(i - ρ.sh b+1) * z≤(n - ρ.sh b) * z:=Nat.mul_le_mul_right _ (by omega)
   rw [Nat.add_mul]at this
   omega
  ·rw [List.getElem?_append_right (by omega),htl]at a3
   have hr:w'.rangeAt b ((n - ρ.sh b) * z) vs:=fun j u hj=>by
    have hlt:j < vs.length:=(List.getElem?_eq_some_iff.1 hj).1
    rw [zAc hcs',hget,if_pos (by omega)]
    rwa [Nat.add_sub_cancel_left]
   obtain⟨v,v1,v2,v3,v4⟩:=(hl.mono hK).get hr (i - n) d a3
   refine⟨v,v1,v2, ?_⟩
   rwa [← Nat.add_mul,show n - ρ.sh b+(i - n)=i - ρ.sh b by omega]at v3
theorem zSj {z st' off len b cp:Nat}{es l:List D}{vs rest:List Value}{cs:Array Value}{e:TypeId}(hlen:off+len≤es.length)
  (hl:RepC ρ' w' z ((es.drop off).take len++l) vs)(room:len+l.length≤cp)(hsz:cs.size=cp * z)(hcs:w'.heap[b]? =some (.cells cs e (0,0)))(hv:cs.toList=vs++rest)
  (hsh:ρ'.sh b=off)(hcap:ρ'.cap b=cp)(hext:ρ'.ext b=off+len+l.length):zJs ρ' w' z e (es.take (off+len)++l) st' b:=by
 have htl:(es.take (off+len)).length=off+len:=by simp; omega
 refine⟨by rw [hext]; simp; omega,by rw [hsh,hext]; omega,by rw [hsh,hext,hcap]; omega,fun j hj=> ?_,⟨_,_,hcs⟩,fun _ i d a1 a2 a3=> ?_⟩
 ·rw [hcap,← hsz]at hj
  exact⟨by rw [zAc hcs]; simp [hj],by simp [World.frozen?,hcs]⟩
 ·rw [hsh]at a1 ⊢
  have:((es.drop off).take len++l)[i - off]? =some d:=by
   rw [← a3]
   rcases Nat.lt_or_ge i (off+len) with hi | hi
   ·rw [List.getElem?_append_left (by simp; omega),List.getElem?_append_left (by omega),List.getElem?_take,List.getElem?_take,if_pos (by omega),if_pos hi,List.getElem?_drop]
    congr 1; omega
   ·rw [List.getElem?_append_right (by simp; omega),List.getElem?_append_right (by omega)]
    congr 1; simp; omega
  obtain⟨v,v1,v2,v3,v4⟩:=hl.get (zCq hcs hv) (i - off) d this
  exact⟨v,v1,v2,by simpa using v3⟩
theorem fits {n b k:Nat}(h:k < n)(hn:n≤mxE)(hb:b≤4096):Builtin.nextslicecap n k * b≤281474976710656:=by
 refine growslice_fits h (Nat.le_trans (Nat.mul_le_mul hn hb) ?_)
 decide
theorem zYw (hs:zPl ρ s w){t tx ty e:TypeId}{i:TypeInfo}{zv:Value}{m:Nat}{dx:D}{v y:Value}{l:List D}{vs:List Value}(ht:P.underlying t=some (.slice e))(hi:P.info? e=some i)(hz:i.zero=some zv)(him:i.size=m+1)
  (hzv:zv.cells.size=m+1)(hib:i.bytes≤4096)(hx:Rep ρ w dx v)(hl:RepC ρ w (m+1) l vs)(hsrc:Src P i.size tx y l.length vs w)(h:zAn s al (m+1) e dx l=some (d,s')):
  ∃u w' ρ',(Builtin.append_ #[t,tx] ty #[v,y]).run P w= .ok u w' ∧Kp ρ w ρ' w' ∧zPl ρ' s' w' ∧Rep ρ' w' d u:=by
 have hvl:=hl.length
 unfold zAn at h
 split at h
 ·
  have hv0:vs=[]:=hl
  subst hv0
  have fin:∀base sLen sCap,v= .slice base sLen sCap→sLen≤sCap→dx=d→s=s' →∃u w' ρ',(Builtin.append_ #[t,tx] ty #[v,y]).run P w= .ok u w' ∧Kp ρ w ρ' w' ∧zPl ρ' s' w' ∧Rep ρ' w' d u:=by
   rintro base sLen sCap rfl hle rfl rfl
   exact⟨_,w,ρ,run_append_nothing (P:=P) w t tx ty e i ht hi base sLen sCap hle y hsrc,Kp.refl _ _,hs,hx⟩
  split at h
  ·simp only [Option.some.injEq,Prod.mk.injEq]at h
   have hx' :=hx
   simp only [Rep]at hx'
   rcases hx' with ⟨_,rfl,rfl⟩ | ⟨_,ad,c,rfl,hle,_⟩
   ·exact fin _ _ _ rfl (Nat.le_refl _) h.1 h.2
   ·exact fin _ _ _ rfl hle h.1 h.2
  ·split at h
   ·rename_i hob
    simp only [Option.some.injEq,Prod.mk.injEq]at h
    obtain⟨_,k1,_⟩:=hs.ok _ _ hob
    have hx' :=hx
    simp only [Rep,Gh.at,k1]at hx'
    obtain⟨b,hb,q1,q2,q3,xx,cap,rfl,q5,_⟩:=hx'
    exact fin _ _ _ rfl (by omega) h.1 h.2
   ·cases h
  ·cases h
 ·rename_i hl0
  have hn0:0 < l.length:=by
   cases l with
   | nil=>exact absurd rfl hl0
   | cons _ _=>simp
  split at h
  ·
   split at h
   ·rename_i hmax
    have hmax:=Nat.le_of_ble_eq_true hmax
    split at h
    ·rename_i k s2 hm
     simp only [Option.some.injEq,Prod.mk.injEq]at h
     obtain⟨rfl,rfl⟩:=h
     simp only [Rep]at hx
     rcases hx with ⟨_,_,rfl⟩ | ⟨hf,_⟩
     ·have hrun:=run_append_grow_src (P:=P) w t tx ty e i zv ht hi hz none 0 0 [] (run_firstCells_none _ _ _ _ _) y l.length vs hsrc (by omega) (by have:l.length≤2147483648:=hmax; omega) (fits (by omega) (by omega) hib)
      have hcap:=grownCap_ge w (0+l.length) 0 e
      simp only [Nat.zero_add,List.nil_append]at hrun hcap
      obtain⟨ρ',n1,n2,n3⟩:=zTg (al:=al) (w' :=w.drew.alloc (.cells (vs.toArray++Builtin.zeroCells zv.cells (grownCap w l.length 0 e - l.length)) e)) (rest:=(Builtin.zeroCells zv.cells (grownCap w l.length 0 e - l.length)).toList)
       hs (Nat.succ_pos m) hm hl (by simp) (cp:=grownCap w l.length 0 e) (by
        rw [Array.size_append,size_zeroCells,hzv]; simp only [List.size_toArray,hvl]
        rw [← Nat.add_mul]; congr 1; omega) hcap rfl rfl rfl rfl
      exact⟨_,_,ρ',hrun,n1,n2,n3⟩
     ·cases hf
    ·cases h
   ·cases h
  ·
   rename_i ob off len cp0
   split at h
   ·rename_i z ty0 es st hob
    split at h
    ·rename_i c1 c2 c3 c4
     simp only [Bool.and_eq_true]at c1
     obtain⟨c1,ct⟩:=c1
     obtain rfl:=Nat.eq_of_beq_eq_true c1
     obtain rfl:=(Nat.eq_of_beq_eq_true ct).symm
     have c2:=Nat.le_of_ble_eq_true c2
     have c3:=Nat.le_of_ble_eq_true c3
     have c4:=Nat.le_of_ble_eq_true c4
     obtain⟨z0,k1,hst1,⟨cur,u1,u2,u3⟩,hbl,hall⟩:=hs.ok _ _ hob
     have hx' :=hx
     simp only [Rep,Gh.at,k1]at hx'
     obtain⟨b,hb,q1,q2,q3,xx,cap,rfl,q5,q6,q7⟩:=hx'
     have hB:=hbl b hb
     have hBe:=hB.ext
     have hblt:=hs.own_lt hb
     have hold:∃olds,RepC ρ w (m+1) ((es.drop off).take len) olds∧w.rangeAt b xx olds:=by
      by_cases hl0:len=0
      ·exact⟨[],by subst hl0; simp [RepC],fun j u hj=>by simp at hj⟩
      ·have hxx:xx=(off - ρ.sh b) * (m+1):=by rcases q6 with q6 | q6 <;> omega
       refine RepE.row (RepE.of (Nat.succ_pos m) _ _ fun j el hj=> ?_)
       rw [List.getElem?_take]at hj
       split at hj
       ·rw [List.getElem?_drop]at hj
        obtain⟨u,r1,r2,r3⟩:=hB.elems (by omega) (off+j) el (by omega) (by omega) hj
        refine⟨u,r1,r2, ?_,(zEf hall hj).2⟩
        rwa [show off+j - ρ.sh b=(off - ρ.sh b)+j by omega,Nat.add_mul,← hxx]at r3
       ·cases hj
     obtain⟨olds,ho1,ho2⟩:=hold
     have hol:=ho1.length
     have htk:((es.drop off).take len).length=len:=by simp; omega
     rw [htk]at hol
     have hgrow: ¬ (len+l.length≤cap)→(Builtin.append_ #[t,tx] ty #[.slice (some ⟨b,xx,none⟩) len cap,y]).run P w=
       .ok (.slice (some ⟨w.heap.size,0,none⟩) (len+l.length) (grownCap w (len+l.length) cap e)) (w.drew.alloc (.cells ((olds++vs).toArray++Builtin.zeroCells zv.cells (grownCap w (len+l.length) cap e - (len+l.length))) e)):=fun hr=>
      run_append_grow_src (P:=P) w t tx ty e i zv ht hi hz (some ⟨b,xx,none⟩) len cap olds (run_firstCells_some w.drew i.size len ⟨b,xx,none⟩ len cap olds (by rw [hol,him]) (fun j u hj=>by rw [Addr.add_mid]; simpa using ho2 j u hj)) y l.length vs hsrc (by omega)
       (by have:len+l.length≤2147483648:=c4; omega) (fits (by omega) c4 hib)
     have hplace:len+l.length≤cap→(Builtin.append_ #[t,tx] ty #[.slice (some ⟨b,xx,none⟩) len cap,y]).run P w= .ok (.slice (some ⟨b,xx,none⟩) (len+l.length) cap) (w.setCells b (xx+len * (m+1)) vs):=fun hr=>by
      have hxx:xx=(off - ρ.sh b) * (m+1):=by rcases q6 with q6 | q6 <;> omega
      have hbd:∀j,j < vs.length→xx+len * (m+1)+j < ρ.cap b * (m+1):=fun j hj=>by
       have:((off - ρ.sh b)+len+l.length) * (m+1)≤ρ.cap b * (m+1):=Nat.mul_le_mul_right _ (by omega)
       rw [Nat.add_mul,Nat.add_mul]at this
       omega
      have:=run_append_room_src (P:=P) w t tx ty e i ht hi b xx len cap y l.length vs hsrc hr (fun j hj=>by rw [him]; exact (hB.cells _ (hbd j hj)).1) (fun j hj=>by rw [him]; exact (hB.cells _ (hbd j hj)).2)
      rw [him]at this
      exact this
     have hcap:=grownCap_ge w (len+l.length) cap e
     split at h
     ·
      rename_i hend
      have hend:=Nat.eq_of_beq_eq_true hend
      split at h
      ·rename_i s2 hset
       simp only [Option.some.injEq,Prod.mk.injEq]at h
       obtain⟨rfl,rfl⟩:=h
       have hse:=St.set_some hset
       have hex:ρ.ext b=es.length:=by omega
       have hbk:∀b' o',ρ.own b' = .obj o' →b' =b→o' =ob:=by rintro b' o' h1 rfl; rw [hb]at h1; simpa using h1.symm
       have hall' :allSz (m+1) (es++l)=true:=by
        rw [zBf]at *
        intro q hq
        rcases List.mem_append.1 hq with hq | hq
        ·exact hall q hq
        ·exact zBf.1 hl.allSz q hq
       by_cases hr:len+l.length≤cap
       ·
        have hxx:xx=(off - ρ.sh b) * (m+1):=by rcases q6 with q6 | q6 <;> omega
        obtain⟨cs,f,hcell⟩:=hB.shape
        have hfit:xx+len * (m+1)+vs.length≤cs.size:=by
         have h1:((off - ρ.sh b)+len+l.length) * (m+1)≤ρ.cap b * (m+1):=Nat.mul_le_mul_right _ (by omega)
         rw [Nat.add_mul,Nat.add_mul]at h1
         have h2:0 < l.length * (m+1):=Nat.mul_pos hn0 (Nat.succ_pos m)
         have:=(hB.cells (ρ.cap b * (m+1) - 1) (by omega)).1
         rw [zAc hcell]at this
         rcases Nat.lt_or_ge (ρ.cap b * (m+1) - 1) cs.size with h' | h'
         ·omega
         ·simp [Array.getElem?_eq_none h']at this
        obtain⟨⟨cs',g1,g2⟩,g3,g4,g5,g6,g7⟩:=zBj vs (xx+len * (m+1)) w cs e f hcell hfit
        have hpos:xx+len * (m+1)=(es.length - ρ.sh b) * (m+1):=by
         rw [hxx,← Nat.add_mul]; congr 1; omega
        obtain⟨n1,n2⟩:=zOk (w' :=w.setCells b (xx+len * (m+1)) vs) (b:=b) (k:=ob) (z:=m+1) (sh:=ρ.sh b) (ex:=es.length+l.length) (cp:=ρ.cap b) (x:= .arr (m+1) e (es++l) st) (s' :=s2) hs
         (fun o' h' => .inl (hbk b o' h' rfl)) (.inr ⟨ob,hb⟩) (.inr ⟨k1,fun _=>⟨rfl,by omega,rfl⟩⟩) (fun b' hne _=>g3 b' hne) (by omega) (fun b' hb' =>by omega) g5 g6 g7 (fun hK=>by
          refine⟨z0,by simp [Gh.put],by simp; omega,⟨b,by simp [Gh.put],by simp [Gh.put],fun b' h1 h2=> ?_⟩,fun b' h1=> ?_,hall'⟩
          ·by_cases hbb:b' =b
           ·exact hbb
           ·simp only [Gh.put,if_neg hbb]at h1 h2
            have:=(hbl b' h1).ext
            simp at h2; omega
          ·by_cases hbb:b' =b
           ·subst hbb
            have:=zIr (st' :=st) (n:=es.length) z0 hB (by omega) (by omega) (by omega) hl (by omega) hcell g1 (by rw [g2,hpos]) hK (by simp [Gh.put]) (by simp [Gh.put]) (by simp [Gh.put])
            rwa [List.take_length]at this
           ·simp only [Gh.put,if_neg hbb]at h1
            have hB' :=hbl b' h1
            have e1:=g3 b' hbb
            refine⟨by simp only [Gh.put,if_neg hbb]; have:=hB'.ext; simp; omega,by simp only [Gh.put,if_neg hbb]; exact hB'.sh,by simp only [Gh.put,if_neg hbb]; exact hB'.room,fun j hj=> ?_,by rw [e1]; exact hB'.shape,fun a0 i2 dd a1 a2 a3=> ?_⟩
            ·simp only [Gh.put,if_neg hbb]at hj
             rw [cell?_of_heap e1,frozen?_of_heap e1]; exact hB'.cells j hj
            ·simp only [Gh.put,if_neg hbb]at a0 a1 a2 ⊢
             have:=hB'.ext
             rw [List.getElem?_append_left (by omega)]at a3
             obtain⟨vv,v1,v2,v3⟩:=hB'.elems a0 i2 dd a1 a2 a3
             exact⟨vv,v1.mono hK,v2,v3.of_heap e1⟩)
         (by rw [hse]; exact hs.lt _ _ hob) (by rw [hse]; exact Nat.le_refl _) (by rw [hse]; exact St.get_set0 s ob _)
        refine⟨_,_,_,hplace hr,n1,n2, ?_⟩
        simp only [Rep,Gh.at,Gh.put,if_true]
        exact⟨b,by simp,by simp; omega,by simp; omega,Nat.le_refl _,xx,cap,rfl,by omega,by simp; exact q6,by simp; exact q7⟩
       ·
        obtain⟨n1,n2⟩:=zOk (w' :=w.drew.alloc (.cells ((olds++vs).toArray++Builtin.zeroCells zv.cells (grownCap w (len+l.length) cap e - (len+l.length))) e)) (b:=w.heap.size) (k:=ob) (z:=m+1) (sh:=off) (ex:=es.length+l.length) (cp:=grownCap w (len+l.length) cap e) (x:= .arr (m+1) e (es++l) st) (s' :=s2) hs
         (fun o' h' =>by rw [hs.size _ (Nat.le_refl _)]at h'; cases h') (.inl (Nat.le_refl _)) (.inr ⟨k1,fun h' =>by rw [hs.size _ (Nat.le_refl _)]at h'; cases h'⟩) (fun b' hne hlt=>zAy (w:=w) rfl hlt) (by show w.heap.size≤(w.heap.push _).size; simp) (fun b' hb' =>by have hb' :(w.heap.push _).size≤b' :=hb'; simp at hb'; omega) rfl rfl rfl (fun hK=>by
          refine⟨z0,by simp [Gh.put],by simp; omega,⟨w.heap.size,by simp [Gh.put],by simp [Gh.put],fun b' h1 h2=> ?_⟩,fun b' h1=> ?_,hall'⟩
          ·by_cases hbb:b' =w.heap.size
           ·exact hbb
           ·simp only [Gh.put,if_neg hbb]at h1 h2
            have:=(hbl b' h1).ext
            simp at h2; omega
          ·by_cases hbb:b' =w.heap.size
           ·subst hbb
            have:=zSj (st' :=st) (z:=m+1) (off:=off) (len:=len) (es:=es) (l:=l) (b:=w.heap.size) (cp:=grownCap w (len+l.length) cap e) (rest:=(Builtin.zeroCells zv.cells (grownCap w (len+l.length) cap e - (len+l.length))).toList) c2 ((ho1.append hl).mono hK) hcap (by
             rw [Array.size_append,size_zeroCells,hzv]; simp only [List.size_toArray,List.length_append,hvl,hol]
             rw [← Nat.add_mul,← Nat.add_mul]; congr 1; omega) (zCu (w:=w) rfl) (by simp) (by simp [Gh.put]) (by simp [Gh.put]) (by simp [Gh.put]; omega)
            rwa [hend,List.take_length]at this
           ·simp only [Gh.put,if_neg hbb]at h1
            have hB' :=hbl b' h1
            have e1:=zAy (w:=w) (w' :=w.drew.alloc (.cells ((olds++vs).toArray++Builtin.zeroCells zv.cells (grownCap w (len+l.length) cap e - (len+l.length))) e)) rfl (hs.own_lt h1)
            refine⟨by simp only [Gh.put,if_neg hbb]; have:=hB'.ext; simp; omega,by simp only [Gh.put,if_neg hbb]; exact hB'.sh,by simp only [Gh.put,if_neg hbb]; exact hB'.room,fun j hj=> ?_,by rw [e1]; exact hB'.shape,fun a0 i2 dd a1 a2 a3=> ?_⟩
            ·simp only [Gh.put,if_neg hbb]at hj
             rw [cell?_of_heap e1,frozen?_of_heap e1]; exact hB'.cells j hj
            ·simp only [Gh.put,if_neg hbb]at a0 a1 a2 ⊢
             have:=hB'.ext
             rw [List.getElem?_append_left (by omega)]at a3
             obtain⟨vv,v1,v2,v3⟩:=hB'.elems a0 i2 dd a1 a2 a3
             exact⟨vv,v1.mono hK,v2,v3.of_heap e1⟩)
         (by rw [hse]; exact hs.lt _ _ hob) (by rw [hse]; exact Nat.le_refl _) (by rw [hse]; exact St.get_set0 s ob _)
        refine⟨_,_,_,hgrow hr,n1,n2, ?_⟩
        simp only [Rep,Gh.at,Gh.put,if_true]
        exact⟨w.heap.size,by simp,by simp,by simp; omega,Nat.le_refl _,0,_,rfl,hcap,.inr (by simp),by simp⟩
      ·cases h
     ·
      split at h
      ·rename_i s1 hset
       split at h
       ·rename_i k s2 hm
        simp only [Option.some.injEq,Prod.mk.injEq]at h
        obtain⟨rfl,rfl⟩:=h
        have hse:=St.set_some hset
        have hbk:∀o',ρ.own b= .obj o' →o' =ob:=fun o' h1=>by rw [hb]at h1; simpa using h1.symm
        have hKd:Kp ρ w { ρ with kd:=fun o=>if o=ob then .dead else ρ.kd o} w:=by
         refine⟨rfl,rfl,rfl,Nat.le_refl _,fun _ _ _=>⟨rfl,rfl⟩,fun o h' => ?_,fun o z' h' => ?_⟩
         ·simp only; split
          ·exact⟨rfl,trivial⟩
          ·exact⟨h',trivial⟩
         ·simp only; split
          ·exact .inl rfl
          ·exact .inr ⟨h',fun _ hb' =>⟨hb',trivial,Nat.le_refl _,trivial⟩⟩
        have hSd:zPl { ρ with kd:=fun o=>if o=ob then .dead else ρ.kd o} s1 w:=by
         refine hs.upd hKd ob .dead (fun _ _ _ _=>Iff.rfl) (fun o hne=>by simp [hne]) (fun _ _ _ _ _=>⟨rfl,rfl,rfl,rfl⟩) (by simp [zQt]) hs.size ?_ ?_ ?_
         ·rw [hse]; exact hs.lt _ _ hob
         ·rw [hse]; exact Nat.le_refl _
         ·rw [hse]; exact St.get_set0 s ob _
        obtain⟨hk0,hk1,hk2,hk3⟩:=yBc hSd hm
        have hfr:=hSd.no k hk0
        have hall' :allSz (m+1) (es.take (off+len)++l)=true:=by
         rw [zBf]
         intro q hq
         rcases List.mem_append.1 hq with hq | hq
         ·exact zBf.1 hall q (List.mem_of_mem_take hq)
         ·exact zBf.1 hl.allSz q hq
        have hlen' :(es.take (off+len)++l).length=off+len+l.length:=by simp; omega
        have hlk:=hl.mono hKd
        have hok:=ho1.mono hKd
        generalize hρ1:({ ρ with kd:=fun o=>if o=ob then Kd.dead else ρ.kd o}:Gh)=ρ1 at *
        have hone:∀b',ρ1.own b' ≠ .obj k:=fun b' h' =>hSd.live b' k h' hfr
        by_cases hr:len+l.length≤cap
        ·have hxx:xx=(off - ρ.sh b) * (m+1):=by rcases q6 with q6 | q6 <;> omega
         obtain⟨cs,f,hcell⟩:=hB.shape
         have hfit:xx+len * (m+1)+vs.length≤cs.size:=by
          have h1:((off - ρ.sh b)+len+l.length) * (m+1)≤ρ.cap b * (m+1):=Nat.mul_le_mul_right _ (by omega)
          rw [Nat.add_mul,Nat.add_mul]at h1
          have h2:0 < l.length * (m+1):=Nat.mul_pos hn0 (Nat.succ_pos m)
          have:=(hB.cells (ρ.cap b * (m+1) - 1) (by omega)).1
          rw [zAc hcell]at this
          rcases Nat.lt_or_ge (ρ.cap b * (m+1) - 1) cs.size with h' | h'
          ·omega
          ·simp [Array.getElem?_eq_none h']at this
         obtain⟨⟨cs',g1,g2⟩,g3,g4,g5,g6,g7⟩:=zBj vs (xx+len * (m+1)) w cs e f hcell hfit
         have hpos:xx+len * (m+1)=(off+len - ρ.sh b) * (m+1):=by
          rw [hxx,← Nat.add_mul]; congr 1; omega
         obtain⟨n1,n2⟩:=zOk (w' :=w.setCells b (xx+len * (m+1)) vs) (b:=b) (k:=k) (z:=m+1) (sh:=ρ.sh b) (ex:=off+len+l.length) (cp:=ρ.cap b) (x:= .arr (m+1) e (es.take (off+len)++l) 0) (s' :=s2) hSd
          (fun o' h' => .inr (by subst hρ1; simp [hbk o' h'])) (.inr ⟨ob,by subst hρ1; exact hb⟩) (.inl hfr) (fun b' hne _=>g3 b' hne) (by omega) (fun b' hb' =>by omega) g5 g6 g7 (fun hK=>by
           refine⟨z0,by simp [Gh.put],by omega,⟨b,by simp [Gh.put],by simp only [Gh.put,if_true]; omega,fun b' h1 _=> ?_⟩,fun b' h1=> ?_,hall'⟩
           ·by_cases hbb:b' =b
            ·exact hbb
            ·simp only [Gh.put,if_neg hbb]at h1; exact absurd h1 (hone b')
           ·by_cases hbb:b' =b
            ·subst hbb
             have hK2:Kp ρ w (ρ1.put b' k (m+1) (ρ.sh b') (off+len+l.length) (ρ.cap b')) (w.setCells b' (xx+len * (m+1)) vs):=hKd.trans hK
             exact zIr (st' :=0) (n:=off+len) z0 hB (by omega) (by omega) (by omega) hl (by omega) hcell g1 (by rw [g2,hpos]) hK2 (by simp [Gh.put]) (by simp [Gh.put]) (by simp [Gh.put])
            ·simp only [Gh.put,if_neg hbb]at h1; exact absurd h1 (hone b'))
          hk1 hk2 hk3
         refine⟨_,_,_,hplace hr,hKd.trans n1,n2, ?_⟩
         simp only [Rep,Gh.at,Gh.put,if_true]
         exact⟨b,by simp,by simp; omega,by simp; omega,Nat.le_refl _,xx,cap,rfl,by omega,by simp; exact q6,by simp; exact q7⟩
        ·obtain⟨n1,n2⟩:=zOk (w' :=w.drew.alloc (.cells ((olds++vs).toArray++Builtin.zeroCells zv.cells (grownCap w (len+l.length) cap e - (len+l.length))) e)) (b:=w.heap.size) (k:=k) (z:=m+1) (sh:=off) (ex:=off+len+l.length) (cp:=grownCap w (len+l.length) cap e) (x:= .arr (m+1) e (es.take (off+len)++l) 0) (s' :=s2) hSd
          (fun o' h' =>by rw [hSd.size _ (Nat.le_refl _)]at h'; cases h') (.inl (Nat.le_refl _)) (.inl hfr) (fun b' hne hlt=>zAy (w:=w) rfl hlt) (by show w.heap.size≤(w.heap.push _).size; simp) (fun b' hb' =>by have hb' :(w.heap.push _).size≤b' :=hb'; simp at hb'; omega) rfl rfl rfl (fun hK=>by
           refine⟨z0,by simp [Gh.put],by omega,⟨w.heap.size,by simp [Gh.put],by simp only [Gh.put,if_true]; omega,fun b' h1 _=> ?_⟩,fun b' h1=> ?_,hall'⟩
           ·by_cases hbb:b' =w.heap.size
            ·exact hbb
            ·simp only [Gh.put,if_neg hbb]at h1; exact absurd h1 (hone b')
           ·by_cases hbb:b' =w.heap.size
            ·subst hbb
             exact zSj (st' :=0) (z:=m+1) (off:=off) (len:=len) (es:=es) (l:=l) (b:=w.heap.size) (cp:=grownCap w (len+l.length) cap e) (rest:=(Builtin.zeroCells zv.cells (grownCap w (len+l.length) cap e - (len+l.length))).toList) c2 ((hok.append hlk).mono hK) hcap (by
              rw [Array.size_append,size_zeroCells,hzv]; simp only [List.size_toArray,List.length_append,hvl,hol]
              rw [← Nat.add_mul,← Nat.add_mul]; congr 1; omega) (zCu (w:=w) rfl) (by simp) (by simp [Gh.put]) (by simp [Gh.put]) (by simp [Gh.put])
            ·simp only [Gh.put,if_neg hbb]at h1; exact absurd h1 (hone b'))
          hk1 hk2 hk3
         refine⟨_,_,_,hgrow hr,hKd.trans n1,n2, ?_⟩
         simp only [Rep,Gh.at,Gh.put,if_true]
         exact⟨w.heap.size,by simp,by simp,by simp; omega,Nat.le_refl _,0,_,rfl,hcap,.inr (by simp),by simp⟩
       ·cases h
      ·cases h
    ·cases h
   ·cases h
  ·cases h
theorem zEj:∀(l:List UInt8),RepC ρ w 1 (l.map fun b=> .int .u8 b.toNat) (l.map fun b=>Value.int .u8 b.toNat)
 | []=>rfl
 | b::l=>⟨.int .u8 b.toNat,_,by simp [Value.cells],by simp [Rep],rfl,rfl,zEj l⟩
section
variable (he:EnR ρ w lo env a.tmps)(hg:GlOk pn G ρ w)(hs:zPl ρ s w)
include he hg hs
theorem yFn {t u e:TypeId}{i:TypeInfo}{m:Nat}{z:D} {x' y' :Operand}{x y:Opd}(hx:opd G x' =some x)(hy:opd G y' =some y)(hu:P.underlying t=some (.slice e))(hk:(∃e',P.underlying u=some (.slice e'))∨P.underlying u=some .string)
  (hi:P.info? e=some i)(hsz:zPo P e=some (m+1))(hz:zPu P e=some z)(hall:allSz (m+1) [z]=true)(h:opF C env s al (.append (m+1) i.bytes e x y)=some (d,s')){o:Oper}
  (ho:o.op= .call { callee:= .builtin .append,args:= #[x',y'],argTypes:= #[t,u]}):OpOk P ρ w env a.tmps d s' ((execOp a.eval o).run P w):=by
 obtain⟨zv,z1,z2,z3⟩:=zCi (w:=w) hz
 have hzv:=zCg (ρ:=ρ) (w:=w) zv z z2
 have hzs:zv.cells.size=m+1:=by
  have:=zBf.1 hall z (by simp)
  rw [hzv.size this.2]; exact this.1
 have him:i.size=m+1:=by simpa [zPo,hi] using hsz
 have hiz:i.zero=some zv:=by simpa [hi] using z3
 have fin:∀dx l vs,Rep ρ w dx (a.eval x')→RepC ρ w (m+1) l vs→Src P i.size u (a.eval y') l.length vs w→i.bytes≤4096→zAn s al (m+1) e dx l=some (d,s')→OpOk P ρ w env a.tmps d s' ((execOp a.eval o).run P w):=by
  intro dx l vs hdx hl hsrc hib happ
  obtain⟨r,w',ρ',g1,g2,g3,g4⟩:=zYw (P:=P) hs hu hi hiz him hzs hib hdx hl hsrc happ (ty:=o.type)
  rw [zAz ho]
  simp only [builtin,List.map_toArray,List.map_cons,List.map_nil]
  rw [Sem.run_bind,g1]
  exact .val g2 g3 g4
 simp only [opF]at h
 split at h
 ·rename_i dx l hdx hdy
  split at h
  ·rename_i h1 h2
   have hm:m+1=1:=Nat.eq_of_beq_eq_true h1
   have hy' :=opR hy he hg hdy
   simp only [Rep]at hy'
   refine fin dx _ (l.map fun b=>Value.int .u8 b.toNat) (opR hx he hg hdx) (by rw [hm]; exact zEj l) ?_ (Nat.le_of_ble_eq_true h2) h
   have hl:(ByteArray.mk ⟨l⟩).size=l.length:=by simp [ByteArray.size_mk']
   have hbc:byteCells ⟨⟨l⟩⟩=l.map fun b=>Value.int .u8 b.toNat:=by simp [byteCells]
   have h1:=firstCells_string (P:=P) ⟨⟨l⟩⟩ w
   have h2:=firstCells_string (P:=P) ⟨⟨l⟩⟩ w.drew
   rw [hl,hbc]at h1 h2
   rw [hy',him,hm]
   exact⟨hk,fun w' =>by simp [Builtin.lenOf,hl],by simpa using h1,by simpa using h2,by simp,(zEj (ρ:=ρ) (w:=w) l).one⟩
  ·cases h
 ·rename_i dx dy hns hdx hdy
  split at h
  ·rename_i z' l hit
   split at h
   ·rename_i h1 h2
    split at h
    ·rename_i h3
     have hyv:=opR hy he hg hdy
     rcases zJc hs hit hyv with ⟨rfl,p,c,hv⟩ | ⟨b,q,c,hv,hE⟩
     ·refine fin dx [] [] (opR hx he hg hdx) rfl ?_ (Nat.le_of_ble_eq_true h2) h
      rw [hv]
      cases p with
      | none=>exact ⟨hk,fun _=>rfl,run_firstCells_none w _ 0 0 c,run_firstCells_none w.drew _ 0 0 c,by simp,fun _ h=>by cases h⟩
      | some p=>exact ⟨hk,fun _=>rfl,run_firstCells_some w _ 0 p 0 c [] (by simp) (by simp),run_firstCells_some w.drew _ 0 p 0 c [] (by simp) (by simp),by simp,fun _ h=>by cases h⟩
     ·by_cases hl0:l=[]
      ·subst hl0
       refine fin dx [] [] (opR hx he hg hdx) rfl ?_ (Nat.le_of_ble_eq_true h2) h
       rw [hv]
       exact⟨hk,fun _=>rfl,run_firstCells_some w _ 0 _ 0 c [] (by simp) (by simp),run_firstCells_some w.drew _ 0 _ 0 c [] (by simp) (by simp),by simp,fun _ h=>by cases h⟩
      ·have hzz:z' =m+1:=by
        simp only [Bool.or_eq_true]at h1
        rcases h1 with h1 | h1
        ·exact Nat.eq_of_beq_eq_true h1
        ·cases l <;> simp_all
       subst hzz
       obtain⟨vs,g1,g2⟩:=hE.row
       refine fin dx _ vs (opR hx he hg hdx) g1 ?_ (Nat.le_of_ble_eq_true h2) h
       have hl:=g1.length
       have hg2:∀j u,vs[j]? =some u→w.cell? ((⟨b,q,none⟩:Addr).add j)=some u:=fun j u hj=>by rw [Addr.add_mid]; exact g2 j u hj
       rw [hv,him]
       exact⟨hk,fun _=>rfl,run_firstCells_some w _ _ _ _ c vs hl hg2,run_firstCells_some w.drew _ _ _ _ c vs hl (by simpa using hg2),hl,g1.one⟩
    ·cases h
   ·cases h
  ·cases h
 ·cases h
end
end Go.Ab
