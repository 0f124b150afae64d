/- Part. -/
import Derived.Test.YtjaldhgmboeffaaGreatDoorG26
set_option linter.unusedSimpArgs false
set_option linter.unusedVariables false
set_option linter.unusedSectionVars false
set_option maxRecDepth 100000
set_option maxHeartbeats 2000000
namespace Go.Proofs.Tab
open Go Go.Ab Go.Ab.Sm
section
variable {T:Nat->Option dU}{H Y:ay}
def iy (d:D):Prop:=∃h:Int,d= .int .i64 h
theorem oC (hV:TV T){s:St}{n:Int}(hs:s.Ok):cu T H 88 [.int .i64 n] s fun d s1=>d= .fn (.func 152) [] [.ptr s.n 0]/\s1.get s.n=some (.var 3 (.int .i64 n))/\aF Nil s s1:=by
 refine ax hV.t88 ?_;try refine go ?_
 exact ai ⟨rfl,St.bu,aF.push (aF.refl hs) _⟩
theorem F5 (hV:TV T){s:St}{o:Nat}{n:Int}(hg:s.get o=some (.var 3 (.int .i64 n))):cu T H 152 [.ptr o 0] s fun d s1=>d= .int .i64 n/\s1=s:=by
 refine ax hV.t152 ?_;try refine go ?_
 exact ai ⟨rfl,rfl⟩
theorem qk (hV:TV T){s:St}{o:Nat}{n w:Int}(hg:s.get o=some (.var 3 (.int .i64 n))):cu T H 87 [.int .u64 w,.fn (.func 152) [] [.ptr o 0]] s fun d s1=>iy d/\s1=s:=by
 have dN:=F5 (H:=H) hV hg;refine ax hV.t87 ?_;try refine go ?_
 refine cV (fun hc=> ?_) (fun hc=> ?_)
 ·try refine go ?_
  refine ak dN ?_;rintro d s1 ⟨rfl,rfl⟩;try refine go ?_
  exact ai ⟨⟨_,rfl⟩,rfl⟩
 ·try refine go ?_
  exact ai ⟨⟨_,rfl⟩,rfl⟩
theorem Ix {s:St}{env:Env}{x i:bP}{l:List UInt8}{j:Nat}{c:UInt8}(hx:x.ev env=some (.str l))(hi:i.ev env=some (.int .i64 (j:Nat)))(hb:l[j]? =some c):cC fF env s none (.I5 x i)=some (.int .u8 (c.toNat:Nat),s):=by
 have e:idx (.int .i64 (j:Nat))=some j:=jz;simp only [cC,hx,hi,e,hb]
theorem Lq (hV:TV T){s:St}{l:List UInt8}(hs:s.Ok)(hl:l.length<=1000000000):cu T H 50 [.str l] s fun d s1=>iy d/\aF Nil s s1:=by
 refine ax hV.t50 ?_;try refine go ?_
 refine cg (fun m env s' =>s' =s/\∃(j:Nat) (w:Int),j<=l.length/\m=l.length - j/\env=[(0,.str l),(3,.int .u64 w),(6,.int .i64 (l.length:Nat)),(7,.int .i64 (j:Nat))]) l.length rfl ⟨rfl,0,_,aS _,rfl,rfl⟩ ?_;rintro m env s' ⟨rfl,j,w,hj,rfl,rfl⟩;rcases aH j l.length with h1 | h1
 ·have hb:l[j]? =some l[j]:=ab h1;try refine go ?_
  refine iV (d:= .int .u8 (l[j].toNat:Nat)) ?_ rfl (Ix rfl rfl hb);try refine go ?_
  exact bf (l.length - (j+1)) (by omega) rfl ⟨rfl,j+1,_,by omega,rfl,rfl⟩
 ·have:j=l.length:=by omega
  subst this;try refine go ?_
  refine ak (oC hV hs) ?_;rintro d s1 ⟨rfl,g1,b1⟩;try refine go ?_
  refine ak (qk hV g1) ?_;rintro d s2 ⟨⟨h,rfl⟩,rfl⟩;try refine go ?_
  exact ai ⟨⟨_,rfl⟩,b1⟩
theorem GW (hV:TV T){s:St}{n:Int}(hs:s.Ok):cu T H 96 [.int .i64 n] s fun d s1=>iy d/\aF Nil s s1:=by
 refine ax hV.t96 ?_
 repeat' first | refine go ?_ | refine eW hV.t158 ?_
 refine ak (oC hV hs) ?_;rintro d s1 ⟨rfl,g1,b1⟩;try refine go ?_
 refine ak (qk hV g1) ?_;rintro d s2 ⟨⟨h,rfl⟩,rfl⟩;try refine go ?_
 exact ai ⟨⟨_,rfl⟩,b1⟩
end
section
variable {T:Nat->Option dU}{H Y:ay}
theorem LZ (hV:TV T){s:St}:cu T H 288 [.int .u64 2305843009213693951] s fun d s1=>d= .int .i64 61/\s1=s:=by
 refine ax hV.t288 ?_;try refine go ?_
 exact ai ⟨rfl,rfl⟩
theorem RY (hV:TV T){s:St}:cu T H 254 [.int .u64 2305843009213693951] s fun d s1=>d= .int .i64 3/\s1=s:=by
 refine ax hV.t254 ?_;try refine go ?_
 refine ak (LZ hV) ?_;rintro d s1 ⟨rfl,rfl⟩;try refine go ?_
 exact ai ⟨rfl,rfl⟩
def Cr (n:Int):Prop:=0<=n/\n < 18446744073709551616
theorem pc (n:Int):Cr (IntKind.wrap .u64 n):=by rw [wrap_u64]; unfold Cr; omega
theorem Cg (n:Int):Cr (Int.fdiv (IntKind.wrap .u64 n) (2 ^ min (Int.toNat 3) (IntKind.bits .u64))):=by
 have e:(2:Int) ^ min (Int.toNat 3) (IntKind.bits .u64)=8:=rfl;obtain⟨h1,h2⟩:=pc n;rw [e,kM _ (by decide)];unfold Cr; omega
theorem xd {u:Int}(hu:Cr u):0<=IntKind.wrap .u64 (u - IntKind.wrap .u64 (IntKind.wrap .u64 (Int.tdiv u 4294967295) * 4294967295))/\IntKind.wrap .u64 (u - IntKind.wrap .u64 (IntKind.wrap .u64 (Int.tdiv u 4294967295) * 4294967295)) < 4294967296:=by
 obtain⟨h1,h2⟩:=hu;rw [fk h1,kP (n:=u / 4294967295) (by omega) (by omega),kP (n:=u / 4294967295 * 4294967295) (by omega) (by omega),kP (by omega) (by omega)];omega
noncomputable def HJ:AC:=match IL.1.body with
 | .seq _ (.seq _ (.seq _ (.seq _ (.seq _ (.seq _ (.seq _ (.seq _ (.seq _ (.seq _ (.seq _ (.seq _ (.seq _ (.seq _ (.seq _ (.seq _ (.seq _ (.seq _ r)))))))))))))))))=>r
 | _=> .skip
theorem yL {s:St}{env:Env}{a2 Qh Wj a15 a17 q rh:Int}{R:D->St->Prop}(zR:0<=rh/\rh < 4294967296)
  (hk:env.bV [2,8,9,10,14,15,16,17,18]=[(2,.int .u64 a2),(8,.int .u64 3),(9,.int .u64 4294967295),(10,.int .u64 Qh),(14,.int .u64 Wj),(15,.int .u64 a15),(16,.int .u64 rh),(17,.int .u64 a17),(18,.int .u64 q)])
  (hR:∀q r:Int,Cr r->R (.gK [.int .u64 q,.int .u64 r]) s):eH T H (match HJ with | .seq (.block _ l) _=>l | _=> .skip) [.block 2,.seq (match HJ with | .seq _ r=>r | _=> .skip)] ⟨env,[]⟩ s (QF IL.1.results R):=by
 show eH T H (.loop _ _) [.block 2,.seq (.seq (.sn _) .ret)] _ s _;refine cg (fun m env s' =>s' =s/\∃q rh:Int,(0<=rh/\rh < 4294967296)/\m=(4294967296 - rh).toNat/\env=[(2,.int .u64 a2),(8,.int .u64 3),(9,.int .u64 4294967295),(10,.int .u64 Qh),(14,.int .u64 Wj),(15,.int .u64 a15),(16,.int .u64 rh),(17,.int .u64 a17),(18,.int .u64 q)]) _ rfl ⟨rfl,q,rh,zR,rfl,hk⟩ ?_;clear hk zR;clear q rh;rintro m env s' ⟨rfl,q,rh,zR,rfl,rfl⟩;have hw:IntKind.wrap .u64 (rh+4294967295)=rh+4294967295:=kP (by omega) (by omega);by_cases hq:q >= 4294967296
 ·have hd:decide (q >= 4294967296)=true:=cO hq;try refine go ?_
  refine cV (fun hc=> ?_) (fun hc=> ?_)
  ·try refine go ?_
   exact ai (hR _ _ (Cg _))
  ·simp only [hw,bQ]at hc;try refine go ?_
   simp only [hw];exact bf (4294967296 - (rh+4294967295)).toNat (by omega) rfl ⟨rfl,_,rh+4294967295,by omega,rfl,rfl⟩
 ·have hd:decide (q >= 4294967296)=false:=bk hq;try refine go ?_
  refine cV (fun hc=> ?_) (fun hc=> ?_)
  ·try refine go ?_
   refine cV (fun hc=> ?_) (fun hc=> ?_)
   ·try refine go ?_
    exact ai (hR _ _ (Cg _))
   ·simp only [hw,bQ]at hc;try refine go ?_
    simp only [hw];exact bf (4294967296 - (rh+4294967295)).toNat (by omega) rfl ⟨rfl,_,rh+4294967295,by omega,rfl,rfl⟩
  ·try refine go ?_
   exact ai (hR _ _ (Cg _))
theorem Mv (hV:TV T){s:St}{hi lo:Int}(h1:0<=hi/\hi < 2305843009213693951)(h2:Cr lo):cu T H 207 [.int .u64 hi,.int .u64 lo,.int .u64 2305843009213693951] s fun d s1=>∃q r,d= .gK [.int .u64 q,.int .u64 r]/\Cr r/\s1=s:=by
 have hlz:=RY (H:=H) hV (s:=s);refine ax hV.t207 ?_;try refine go ?_
 refine cV (fun hc=> ?_) (fun hc=> ?_)
 ·try refine go ?_
  exact ai ⟨_,Int.tmod lo 2305843009213693951,rfl,by rw [bZ h2.1]; have:=h2.2; unfold Cr; omega,rfl⟩
 ·try refine go ?_
  refine ak hlz ?_;rintro d s1 ⟨rfl,rfl⟩;try refine go ?_
  refine cg (fun m env s' =>s' =s1/\∃a2 Qh Wk a13 Wj q rh:Int,Cr Wk/\(0<=rh/\rh < 4294967296)/\m=(4294967296 - rh).toNat/\env=[(2,.int .u64 a2),(8,.int .u64 3),(9,.int .u64 4294967295),(10,.int .u64 Qh),(11,.int .u64 Wk),(13,.int .u64 a13),(14,.int .u64 Wj),(15,.int .u64 q),(16,.int .u64 rh)]) _ rfl ⟨rfl,_,_,_,_,_,_,_,pc _,xd (pc _),rfl,rfl⟩ ?_;rintro m env s' ⟨rfl,a2,Qh,Wk,a13,Wj,q,rh,hu,zR,rfl,rfl⟩;have hw:IntKind.wrap .u64 (rh+4294967295)=rh+4294967295:=kP (by omega) (by omega);by_cases hq:q >= 4294967296
  ·have hd:decide (q >= 4294967296)=true:=cO hq;try refine go ?_
   refine cV (fun hc=> ?_) (fun hc=> ?_)
   ·try refine go ?_
    exact yL (xd (pc _)) rfl fun q r hr=>⟨q,r,rfl,hr,rfl⟩
   ·simp only [hw,bQ]at hc;try refine go ?_
    simp only [hw];exact bf (4294967296 - (rh+4294967295)).toNat (by omega) rfl ⟨rfl,a2,Qh,Wk,a13,Wj,_,rh+4294967295,hu,by omega,rfl,rfl⟩
  ·have hd:decide (q >= 4294967296)=false:=bk hq;try refine go ?_
   refine cV (fun hc=> ?_) (fun hc=> ?_)
   ·try refine go ?_
    refine cV (fun hc=> ?_) (fun hc=> ?_)
    ·try refine go ?_
     exact yL (xd (pc _)) rfl fun q r hr=>⟨q,r,rfl,hr,rfl⟩
    ·simp only [hw,bQ]at hc;try refine go ?_
     simp only [hw];exact bf (4294967296 - (rh+4294967295)).toNat (by omega) rfl ⟨rfl,a2,Qh,Wk,a13,Wj,_,rh+4294967295,hu,by omega,rfl,rfl⟩
   ·try refine go ?_
    exact yL (xd (pc _)) rfl fun q r hr=>⟨q,r,rfl,hr,rfl⟩
theorem Oa (hV:TV T){s:St}{hi lo:Int}(h1:0<=hi)(h2:Cr lo):cu T H 151 [.int .u64 hi,.int .u64 lo,.int .u64 2305843009213693951] s fun d s1=>∃r,d= .int .u64 r/\Cr r/\s1=s:=by
 have hd:=Mv (H:=H) (s:=s) (hi:=Int.tmod hi 2305843009213693951) (lo:=lo) hV (by rw [bZ h1]; omega) h2;refine ax hV.t151 ?_;try refine go ?_
 refine ak hd ?_;rintro d s1 ⟨q,r,rfl,hr,rfl⟩;try refine go ?_
 exact ai ⟨_,rfl,hr,rfl⟩
end
section
variable {T:Nat->Option dU}{H Y:ay}
theorem H7 (hV:TV T){s:St}{k bo o cp:Nat}{V R:List Nat}(I:Nat->St->Prop)(Z:St->Prop)(h0:I 0 s)(hl:V.length<=100000000)
  (hI:∀j s,I j s->s.get bo=some (.var 44 (.sl o 0 V.length cp))/\s.get o=some (.arr 1 194 (dz (V++R)) 0))
  (hY:∀j s n,j < V.length->V[V.length - 1 - j]? =some n->I j s->∃c s',Y 0 (.lv (.yl k)::[.int .i64 ((V.length - 1 - j:Nat):Int),.int .u32 (n:Nat)]) s=some (.bool c,s')/\(c=true->I (j+1) s')/\(c=false->Z s'))
  (hR:∀s,I V.length s->Z s):cu T Y 206 [.yl k,.ptr bo 0] s fun _ s1=>Z s1:=by
 obtain⟨g1,g2⟩:=hI 0 s h0;have pQ:(dz (V++R)).length=V.length+R.length:=by simp [dz]
 have hw:IntKind.wrap .i64 ((V.length:Int) - 1)=(V.length:Int) - 1 - (0:Nat):=by rw [wrap_small (by omega) (by omega)]; omega
 refine ax hV.t206 ?_;try refine go ?_
 rw [hw];refine ee V.length (fun j=> [(0,.yl k),(1,.ptr bo 0),(3,.int .i64 ((V.length:Int) - 1 - (j:Nat)))]) I h0 ?_;intro j s' hj PA;obtain⟨g1,g2⟩:=hI j s' PA;rcases aH j V.length with h1 | h1
 ·have hi:(V.length:Int) - 1 - (j:Nat)=((V.length - 1 - j:Nat):Int):=by omega
  have hv:V[V.length - 1 - j]? =some V[V.length - 1 - j]:=ab (by omega);generalize V[V.length - 1 - j]=n at hv;obtain⟨c,s2,y1,y2,y3⟩:=hY j s' n h1 hv PA;have pW:(dz (V++R))[0+(V.length - 1 - j)]? =some (.int .u32 (n:Nat)):=by
   rw [aN,dz,aC,aP (by omega),hv]; rfl
  have Nw:IntKind.wrap .i64 (((V.length - 1 - j:Nat):Int) - 1)=(V.length:Int) - 1 - ((j+1:Nat):Int):=by rw [wrap_small (by omega) (by omega)]; omega
  rw [hi];try refine go ?_
  refine vN ?_;refine ak (R:=fun d s1=>d= .bool c/\s1=s2) ⟨_,_,Ev.yield y1,rfl,rfl⟩ ?_;rintro d s3 ⟨rfl,rfl⟩;cases c
  ·try refine go ?_
   exact ai (y3 rfl)
  ·try refine go ?_
   rw [Nw];exact dw h1 (y2 rfl)
 ·have Rs:j=V.length:=by omega
  subst Rs;have hd:=cN ((V.length:Int) - 1 - (V.length:Nat) >= 0);try refine go ?_
  exact iu (hR _ PA)
theorem PM (hV:TV T){s:St}{k bo:Nat}{nl:Bool}{V:List Nat}(I:Nat->St->Prop)(Z:St->Prop)(h0:I 0 s)(hl:V.length<=100000000)
  (hI:∀j s,I j s->s.get bo=some (.var 44 (.vs nl 1 (dz V))))
  (hY:∀j s n,j < V.length->V[V.length - 1 - j]? =some n->I j s->∃c s',Y 0 (.lv (.yl k)::[.int .i64 ((V.length - 1 - j:Nat):Int),.int .u32 (n:Nat)]) s=some (.bool c,s')/\(c=true->I (j+1) s')/\(c=false->Z s'))
  (hR:∀s,I V.length s->Z s):cu T Y 206 [.yl k,.ptr bo 0] s fun _ s1=>Z s1:=by
 have g1:=hI 0 s h0;have pQ:(dz V).length=V.length:=by simp [dz]
 have hw:IntKind.wrap .i64 ((V.length:Int) - 1)=(V.length:Int) - 1 - (0:Nat):=by rw [wrap_small (by omega) (by omega)]; omega
 refine ax hV.t206 ?_;try refine go ?_
 rw [pQ,hw];refine ee V.length (fun j=> [(0,.yl k),(1,.ptr bo 0),(3,.int .i64 ((V.length:Int) - 1 - (j:Nat)))]) I h0 ?_;intro j s' hj PA;have g1:=hI j s' PA;rcases aH j V.length with h1 | h1
 ·have hi:(V.length:Int) - 1 - (j:Nat)=((V.length - 1 - j:Nat):Int):=by omega
  have hv:V[V.length - 1 - j]? =some V[V.length - 1 - j]:=ab (by omega);generalize V[V.length - 1 - j]=n at hv;obtain⟨c,s2,y1,y2,y3⟩:=hY j s' n h1 hv PA;have pW:(dz V)[V.length - 1 - j]? =some (.int .u32 (n:Nat)):=by
   rw [dz,aC,hv]; rfl
  have Nw:IntKind.wrap .i64 (((V.length - 1 - j:Nat):Int) - 1)=(V.length:Int) - 1 - ((j+1:Nat):Int):=by rw [wrap_small (by omega) (by omega)]; omega
  rw [hi];try refine go ?_
  refine vN ?_;refine ak (R:=fun d s1=>d= .bool c/\s1=s2) ⟨_,_,Ev.yield y1,rfl,rfl⟩ ?_;rintro d s3 ⟨rfl,rfl⟩;cases c
  ·try refine go ?_
   exact ai (y3 rfl)
  ·try refine go ?_
   rw [Nw];exact dw h1 (y2 rfl)
 ·have Rs:j=V.length:=by omega
  subst Rs;have hd:=cN ((V.length:Int) - 1 - (V.length:Nat) >= 0);try refine go ?_
  exact iu (hR _ PA)
theorem D3 (hV:TV T){s:St}{k bo:Nat}(g1:s.get bo=some (.var 44 (.vs true 0 []))):cu T Y 206 [.yl k,.ptr bo 0] s fun _ s1=>s1=s:=by
 refine ax hV.t206 ?_;try refine go ?_
 refine lU ?_;try refine go ?_
 exact iu rfl
theorem rp (hV:TV T){s:St}{o off n cp:Nat}(hs:s.Ok):cu T H 149 [.sl o off n cp] s fun d s1=>d= .fn (.func 206) [] [.ptr s.n 0]/\s1=s.bz (.var 44 (.sl o off n cp)):=by
 refine ax hV.t149 ?_;try refine go ?_
 exact ai ⟨rfl,rfl⟩
theorem wC (hV:TV T){s:St}{nl:Bool}{z:Nat}{l:List D}(hs:s.Ok):cu T H 149 [.vs nl z l] s fun d s1=>d= .fn (.func 206) [] [.ptr s.n 0]/\s1=s.bz (.var 44 (.vs nl z l)):=by
 refine ax hV.t149 ?_;try refine go ?_
 exact ai ⟨rfl,rfl⟩
end
section
variable {T:Nat->Option dU}{H Y:ay}
noncomputable def BY:AC:=match WW.1.body with
 | .seq _ (.seq _ (.seq _ (.seq (.seq _ (.block _ r)) _)))=>r
 | _=> .skip
noncomputable def Um:AC:=match BY with
 | .iK _ _ _ a _=>a
 | _=> .skip
noncomputable def Vk:AC:=match BY with
 | .iK _ _ _ _ b=>b
 | _=> .skip
theorem FT (hV:TV T){s:St}{y b3 b6:Nat}{i n r:Int}(hY:m9 T H y [19,20] [(3,.ptr b3 0),(6,.ptr b6 0)] Um Vk Y)(hs:s.Ok)(hl:s.get (y+1)=some (.loop y .ready))
  (g3:s.get b3=some (.var 3 (.int .i64 2305843009213693951)))(g6:s.get b6=some (.var 188 (.int .u64 r)))(hr:Cr r):
  ∃s',Y 0 (.lv (.yl y)::[.int .i64 i,.int .u32 n]) s=some (.bool true,s')/\s'.get (y+1)=some (.loop y .ready)/\(∃r',Cr r' /\s'.get b6=some (.var 188 (.int .u64 r')))/\aF (fun j=>j=y+1\/j=b6) s s' :=by
 have ly:=hs.lt hl;have n3:b3≠y+1:=by rintro rfl; rw [hl]at g3; cases g3
 have n6:b6≠y+1:=by rintro rfl; rw [hl]at g6; cases g6
 have n36:b3≠b6:=by rintro rfl; rw [g3]at g6; simp at g6
 have kO:aF (fun j=>j=y+1) s (s.bF (y+1) (.loop y .busy)):=aF.set (aF.refl hs) _ ly (fun _=>rfl);have k3:=kO.get hs g3 n3;have k6:=kO.get hs g6 n6;have mc:=kO.ok;have Yj:y+1 < (s.bF (y+1) (.loop y .busy)).n:=ly;have GY:0<=Int.fdiv r (2 ^ min (Int.toNat 32) (IntKind.bits .u64)):=by
  have e:(2:Int) ^ min (Int.toNat 32) (IntKind.bits .u64)=4294967296:=rfl;have:=hr.1;rw [e,kM _ (by decide)]; omega
 obtain⟨c,s',q1,q2⟩:=rq (e:=[(20,.int .u32 n),(19,.int .i64 i),(3,.ptr b3 0),(6,.ptr b6 0)]) (xs:=[.int .i64 i,.int .u32 n]) hY (fun c s' =>c=true/\s'.get (y+1)=some (.loop y .ready)/\(∃r',Cr r' /\s'.get b6=some (.var 188 (.int .u64 r')))/\aF (fun j=>j=y+1\/j=b6) s s') rfl hl hs (by
  show eH T H (.sn _) [] _ s _;try refine go ?_
  refine qA ⟨rfl,rfl, ?_⟩;generalize uL:s.bF (y+1) (.loop y .busy)=s1 at kO k3 k6 Yj mc ⊢;have sq:s1.get (y+1)=some (.loop y .busy):=by rw [← uL]; exact St.aO
  have l6:=mc.lt k6;show eH T H (.block _ _) [] _ s1 _;try refine go ?_
  refine ak (Oa hV GY (pc _)) ?_;rintro d s2 ⟨r',rfl,Gm,rfl⟩;try refine go ?_
  have jK:aF (fun j=>j=b6) s2 (s2.bF b6 (.var 188 (.int .u64 r'))):=aF.set (aF.refl mc) _ l6 (fun _=>rfl);have zH:=jK.get mc sq (bO n6);have wX:aF (fun j=>j=y+1) (s2.bF b6 (.var 188 (.int .u64 r'))) ((s2.bF b6 (.var 188 (.int .u64 r'))).bF (y+1) (.loop y .ready)):=aF.set (aF.refl jK.ok) _ (jK.ok.lt zH) (fun _=>rfl);refine qA ⟨rfl,zH,jK.ok,rfl,St.aO,⟨r',Gm,wX.get jK.ok St.aO n6⟩, ?_⟩;exact (kO.mono fun j hj=> .inl hj).trans ((jK.mono fun j hj=> .inr hj).trans (wX.mono fun j hj=> .inl hj)))
 obtain⟨rfl,q3⟩:=q2;exact⟨s',q1,q3⟩
theorem uC (hV:TV T){s:St}{b3 b6 bo:Nat}{x:D}{V:List Nat}{r:Int}{E:Env}{k:List iT}{Q:QP}(hs:s.Ok)(hx:Ws s x V)(hl:V.length<=100000000)
  (g3:s.get b3=some (.var 3 (.int .i64 2305843009213693951)))(g6:s.get b6=some (.var 188 (.int .u64 r)))(hr:Cr r)(gb:s.get bo=some (.var 44 x))
  (hg:bP.ev E (.t 18)=some (.fn (.func 206) [] [.ptr bo 0]))(hk:E.bV [3,6,8]=[(3,.ptr b3 0),(6,.ptr b6 0)])
  (hq:∀s1 r',Cr r' ->s1.get b6=some (.var 188 (.int .u64 r'))->aF (fun j=>j=b6) s s1->lg T H .normal k ⟨E,[(.mw,[])]⟩ s1 Q):
  eH T H BY k ⟨E,[]⟩ s Q:=by
 show eH T H (.iK _ _ _ _ _) k ⟨E,[]⟩ s Q;refine tK (gf:=206) (caps:=[.ptr bo 0]) (fun Y hY=> ?_) hg hs.ro (by rw [hk]; rfl);have Y4 :m9 T H s.n [19,20] [(3,.ptr b3 0),(6,.ptr b6 0)] Um Vk Y:=by
  have:=hY;simp only at this;rw [hk]at this;exact this
 clear hY;have ya:aF (fun j=>j=s.n+1\/j=b6) s ((s.bz .dead).bz (.loop s.n .ready)):=aF.push (aF.push (aF.refl hs) _) _;have l3:=hs.lt g3; have l6:=hs.lt g6; have lb:=hs.lt gb;have nb6:bo≠b6:=by rintro rfl; rw [gb]at g6; simp at g6
 have n36:b3≠b6:=by rintro rfl; rw [g3]at g6; simp at g6
 have fin:∀ {s2:St} {r' :Int},aF (fun j=>j=s.n+1\/j=b6) s s2->s2.get (s.n+1)=some (.loop s.n .ready)->Cr r' ->s2.get b6=some (.var 188 (.int .u64 r'))->
   ∃st x s3,s2.get (s.n+1)=some (.loop s.n st)/\BW st=some x/\s2.set (s.n+1) .dead=some s3/\lg T H x k { (⟨E,[]⟩:Fr) with defers:=(.mw,[])::[]} s3 Q:=by
  intro s2 r' jK zH Gm hg6;have wX:aF (fun j=>j=s.n+1) s2 (s2.bF (s.n+1) .dead):=aF.set (aF.refl jK.ok) _ (jK.ok.lt zH) (fun _=>rfl);have Wg:aF (fun j=>j=b6) s (s2.bF (s.n+1) .dead):=(jK.trans (wX.mono fun j hj=> .inl hj)) |> fun q=>⟨q.n,q.ok,fun o ho hw=>q.same o ho (by rintro (rfl | rfl); omega; exact hw rfl)⟩
  exact⟨.ready,.normal,_,zH,rfl,jK.ok.set _ _,hq _ r' Gm (wX.get jK.ok hg6 (by omega)) Wg⟩
 let I:Nat->St->Prop:=fun j s' =>aF (fun j=>j=s.n+1\/j=b6) s s' /\s'.get (s.n+1)=some (.loop s.n .ready)/\∃r',Cr r' /\s'.get b6=some (.var 188 (.int .u64 r'))
 have Q7:I 0 ((s.bz .dead).bz (.loop s.n .ready)):=⟨ya,St.bu,r,hr,(aF.push (aF.push (aF.refl (W:=fun _=>False) hs) _) _).get hs g6 (fun h=>h)⟩;have hY2:∀j s' (n:Nat) (i:Int),I j s' ->∃c s2,Y 0 (.lv (.yl s.n)::[.int .i64 i,.int .u32 (n:Nat)]) s' =some (.bool c,s2)/\(c=true->I (j+1) s2)/\(c=false->False):=by
  rintro j s' n i ⟨q1,q2,r',q3,q4⟩;obtain⟨s2,y1,y2,⟨r2,y3,y4⟩,y5⟩:=FT (H:=H) (i:=i) (n:=(n:Nat)) hV Y4 q1.ok q2 (q1.get hs g3 (by omega)) q4 q3;exact⟨true,s2,y1,fun _=>⟨q1.trans y5,y2,r2,y3,y4⟩,fun h=>by cases h⟩
 have hYZ:∀ {Z:St->Prop} j s' (n:Nat) (i:Int),I j s' ->∃c s2,Y 0 (.lv (.yl s.n)::[.int .i64 i,.int .u32 (n:Nat)]) s' =some (.bool c,s2)/\(c=true->I (j+1) s2)/\(c=false->Z s2):=fun j s' n i h=>by
  obtain⟨c,s2,y1,y2,y3⟩:=hY2 j s' n i h;exact⟨c,s2,y1,y2,fun h=>(y3 h).elim⟩
 rcases hx with ⟨nl,V,qU⟩ | _ | ⟨o,cp,V,R,go,hc⟩
 ·exact PM hV I _ Q7 hl (fun j s' hj=>hj.1.get hs gb (by omega)) (fun j s' n _ _ hj=>hYZ j s' n _ hj) (fun s2 ⟨q1,q2,r',q3,q4⟩=>fin q1 q2 q3 q4)
 ·refine (D3 hV ((aF.push (aF.push (aF.refl (W:=fun _=>False) hs) _) _).get hs gb (fun h=>h))).mono ?_;rintro d s1 rfl;obtain⟨q1,q2,r',q3,q4⟩:=Q7;exact fin q1 q2 q3 q4
 ·have lo:=hs.lt go;have no6:o≠b6:=by rintro rfl; rw [go]at g6; cases g6
  exact H7 hV I _ Q7 hl (fun j s' hj=>⟨hj.1.get hs gb (by omega),hj.1.get hs go (by omega)⟩) (fun j s' n _ _ hj=>hYZ j s' n _ hj) (fun s2 ⟨q1,q2,r',q3,q4⟩=>fin q1 q2 q3 q4)
end
section
variable {T:Nat->Option dU}{H:ay}
theorem Ws.sh {s:St}{x:D}{V:List Nat}(h:Ws s x V):(∃nl z L,x= .vs nl z L)\/∃o l c,x= .sl o 0 l c:=by
 rcases h with ⟨nl,V,hn⟩ | _ | ⟨o,cp,V,R,hg,hc⟩
 ·exact .inl ⟨_,_,_,rfl⟩
 ·exact .inl ⟨_,_,_,rfl⟩
 ·exact .inr ⟨_,_,_,rfl⟩
theorem JG (hT:TW T){s:St}{x:D}{ng:Bool}{V:List Nat}(hs:s.Ok)(hx:Ws s x V)(hV:V.length<=aL):cu T H 201 [.agg [.bool ng,x]] s fun d s1=>qD s1 d (eh ng V)/\aF Nil s s1:=by
 have lZ:aL=2147483648:=rfl;have LA:maxLen=9223372036854775807:=by decide
 have Gj:=pE (H:=H) hT hx (by omega);have hle:=j6 V;have gX:=hx.sh;have key:∀ {x:D},((∃nl z L,x= .vs nl z L)\/∃o l c,x= .sl o 0 l c)->cu T H 150 [x] s (fun d s1=>s1=s/\Ws s d (bU V))->cu T H 201 [.agg [.bool ng,x]] s fun d s1=>qD s1 d (eh ng V)/\aF Nil s s1:=by
  clear Gj gX hx;intro x gX Gj;rcases gX with ⟨nl,z,L,rfl⟩ | ⟨o,l,c,rfl⟩
  all_goals
   refine ax hT.t201 ?_;try refine go ?_
   refine aX Gj ?_;rintro d s1 ⟨rfl,hd⟩;have gX:=hd.sh;have yh:=EZ (H:=H) hT hs hd (by omega);clear Gj;rcases gX with ⟨nl',z',L',rfl⟩ | ⟨o',l',c',rfl⟩
   all_goals
    refine⟨rfl,by rfl, ?_⟩;try refine go ?_
    refine aX yh ?_;rintro d2 s2 ⟨h2,b2⟩;have aa2:=h2.sh;have ok2:=b2.ok;have hwf:=yB (H:=H) (ng:=ng) hT h2 (by omega);rw [Hi]at hwf;clear yh;rcases aa2 with ⟨Cx,z2,L2,rfl⟩ | ⟨o2,l2,c2,rfl⟩
    all_goals
     refine⟨rfl,by rfl, ?_⟩;try refine go ?_
     refine aX hwf ?_;rintro d3 s3 ⟨rfl,y,rfl,h3⟩;have abN:=h3.sh;rcases abN with ⟨nl3,z3,L3,rfl⟩ | ⟨o3,l3,c3,rfl⟩
     all_goals
      refine⟨rfl,by rfl, ?_⟩
      repeat' first | refine go ?_ | refine oy ?_
      exact ai ⟨⟨_,rfl,h3⟩,b2⟩
 exact key gX Gj
theorem AG (hT:TW T){s:St}{d:D}{n:Bool×List Nat}(hs:s.Ok)(hx:qD s d n)(hV:n.2.length<=aL):cu T H 141 [d] s fun d s1=>qD s1 d (eh (!(eh n.1 n.2).1) (eh n.1 n.2).2)/\aF Nil s s1:=by
 have lZ:aL=2147483648:=rfl;have LA:maxLen=9223372036854775807:=by decide
 obtain⟨ng,V⟩:=n;obtain⟨x,rfl,hx⟩:=hx;have hle:=mh ng V;simp only at hx hV ⊢;have Px:=JG (H:=H) (ng:=ng) hT hs hx hV;have gX:=hx.sh;have key:∀ {x:D},((∃nl z L,x= .vs nl z L)\/∃o l c,x= .sl o 0 l c)->cu T H 201 [.agg [.bool ng,x]] s (fun d s1=>qD s1 d (eh ng V)/\aF Nil s s1)->cu T H 141 [.agg [.bool ng,x]] s fun d s1=>qD s1 d (eh (!(eh ng V).1) (eh ng V).2)/\aF Nil s s1:=by
  clear Px gX hx;intro x gX Px;rcases gX with ⟨nl,z,L,rfl⟩ | ⟨o,l,c,rfl⟩
  all_goals
   refine ax hT.t141 ?_;try refine go ?_
   refine ak Px ?_;rintro d s1 ⟨⟨y,rfl,hd⟩,b1⟩;have hwf:=yB (H:=H) (ng:= !(eh ng V).1) hT hd (by omega);rcases hd.sh with ⟨nl',z',L',rfl⟩ | ⟨o',l',c',rfl⟩
   all_goals
    try refine go ?_
    refine ak hwf ?_;rintro d3 s3 ⟨rfl,y,rfl,h3⟩;rcases h3.sh with ⟨nl3,z3,L3,rfl⟩ | ⟨o3,l3,c3,rfl⟩
    all_goals
     try refine go ?_
     exact ai ⟨⟨_,rfl,h3⟩,b1⟩
 exact key gX Px
theorem DI (hT:TW T){s:St}{d:D}{n:Bool×List Nat}(hs:s.Ok)(hx:qD s d n)(hV:n.2.length<=aL):cu T H 78 [d] s fun d s1=>qD s1 d (eh n.1 n.2)/\aF Nil s s1:=by
 have hng:=AG (H:=H) hT hs hx hV;have hle:=mh n.1 n.2;have acy:=mh (!(eh n.1 n.2).1) (eh n.1 n.2).2;obtain⟨x,rfl,hx⟩:=hx;have key:∀ {x:D},((∃nl z L,x= .vs nl z L)\/∃o l c,x= .sl o 0 l c)->cu T H 141 [.agg [.bool n.1,x]] s (fun d s1=>qD s1 d (eh (!(eh n.1 n.2).1) (eh n.1 n.2).2)/\aF Nil s s1)->cu T H 78 [.agg [.bool n.1,x]] s fun d s1=>qD s1 d (eh n.1 n.2)/\aF Nil s s1:=by
  clear hng hx;intro x gX hng;rcases gX with ⟨nl,z,L,rfl⟩ | ⟨o,l,c,rfl⟩
  all_goals
   refine ax hT.t78 ?_;try refine go ?_
   refine ak hng ?_;rintro d s1 ⟨h1,b1⟩;have qV:=AG (H:=H) hT b1.ok h1 (by omega);obtain⟨y,rfl,h1⟩:=h1;rw [GV,KI]at qV;rcases h1.sh with ⟨nl',z',L',rfl⟩ | ⟨o',l',c',rfl⟩
   all_goals
    try refine go ?_
    refine ak qV ?_;rintro d3 s3 ⟨⟨y,rfl,h3⟩,b3⟩;have b4:=b1.trans b3;rcases h3.sh with ⟨nl3,z3,L3,rfl⟩ | ⟨o3,l3,c3,rfl⟩
    all_goals
     try refine go ?_
     exact ai ⟨⟨_,rfl,h3⟩,b4⟩
 exact key hx.sh hng
end
def qj (n:Bool×List Nat):Int:=if bU n.2=[] then 0 else if n.1 then -1 else 1
section
variable {T:Nat->Option dU}{H:ay}
theorem Ws.pS {s:St}{o l c:Nat}{V:List Nat}(h:Ws s (.sl o 0 l c) V):l=V.length:=by cases h; rfl
theorem Ws.qa {s:St}{nl:Bool}{z:Nat}{L:List D}{V:List Nat}(h:Ws s (.vs nl z L) V):L=dz V:=by cases h <;> rfl
theorem IF (hT:TW T)(K9:TV T){s:St}{d:D}{n:Bool×List Nat}(hs:s.Ok)(hx:qD s d n)(hV:n.2.length<=maxLen):cu T H 159 [d] s fun d s1=>s1=s/\d= .int .i64 (qj n):=by
 obtain⟨ng,V⟩:=n;obtain⟨x,rfl,hx⟩:=hx;simp only at hx hV ⊢;have Gj:=pE (H:=H) hT hx hV;unfold qj;simp only;have key:∀ {x:D},((∃nl z L,x= .vs nl z L)\/∃o l c,x= .sl o 0 l c)->cu T H 150 [x] s (fun d s1=>s1=s/\Ws s d (bU V))->cu T H 159 [.agg [.bool ng,x]] s fun d s1=>s1=s/\d= .int .i64 (if bU V=[] then 0 else if ng=true then -1 else 1):=by
  clear Gj hx;intro x gX Gj;rcases gX with ⟨nl,z,L,rfl⟩ | ⟨o,l,c,rfl⟩
  all_goals
   refine ax K9.t159 ?_;try refine go ?_
   refine ak Gj ?_;rintro d s1 ⟨rfl,hd⟩;generalize bU V=W at hd ⊢;have hwl:(dz W).length=W.length:=cQ W;rcases hd.sh with ⟨nl',z',L',rfl⟩ | ⟨o',l',c',rfl⟩
   ·have:=hd.qa;subst this;cases W with
    | nil=>
     try refine go ?_
     exact ai ⟨rfl,rfl⟩
    | cons v W=>
     rw [aV]at hwl;cases ng
     ·try refine go ?_
      exact ai ⟨rfl,rfl⟩
     ·try refine go ?_
      exact ai ⟨rfl,rfl⟩
   ·have:=hd.pS;subst this;cases W with
    | nil=>
     try refine go ?_
     exact ai ⟨rfl,rfl⟩
    | cons v W=>
     have hq:(v::W).length=W.length+1:=rfl;cases ng
     ·try refine go ?_
      exact ai ⟨rfl,rfl⟩
     ·try refine go ?_
      exact ai ⟨rfl,rfl⟩
 exact key hx.sh Gj
end
end Go.Proofs.Tab
