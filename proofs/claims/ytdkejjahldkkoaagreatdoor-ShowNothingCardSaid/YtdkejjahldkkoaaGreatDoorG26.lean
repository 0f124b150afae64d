/- Part. -/
import Derived.Test.YtdkejjahldkkoaaGreatDoorG25
set_option linter.unusedSectionVars false
set_option maxRecDepth 100000
set_option maxHeartbeats 2000000
set_option linter.unusedSimpArgs false
set_option linter.unusedVariables false
namespace Go.Proofs.Tab
open Go Go.Ab Go.Ab.Sm
section
variable {T:Nat->Option dS}{H Y:au}
def DD (w:Int):Int:=if (IntKind.wrap .i64 w== -1)=true then -2 else IntKind.wrap .i64 w
def Uo (w:Int)(c:UInt8):Int:=IntKind.wrap .u64 (IntKind.wrap .u64 (BitVec.ofInt (IntKind.bits .u64) w ^^^ BitVec.ofInt (IntKind.bits .u64) (IntKind.wrap .u64 (c.toNat:Nat))).toNat * 1099511628211)
def DS (l:List UInt8)(j:Nat):Int:=(l.take j).foldl Uo 14695981039346656037
theorem Hp {l:List UInt8}{j:Nat}{c:UInt8}(h:l[j]? =some c):DS l (j+1)=Uo (DS l j) c:=by
 rw [DS,gz,h,List.foldl_append]; rfl
def NF (l:List UInt8):Int:=DD (DS l l.length)
theorem oE (hV:TV T){s:St}{n:Int}(hs:s.Ok):cu T H 207 [.int .i64 n] s fun d s1=>d= .fn (.func 241) [] [.ptr s.n 0]/\s1.get s.n=some (.var 3 (.int .i64 n))/\aC Nil s s1:=by
 refine ay hV.t207 ?_;try refine go ?_
 exact ai ⟨rfl,St.ba,aC.push (aC.refl hs) _⟩
theorem Gv (hV:TV T){s:St}{o:Nat}{n:Int}(hg:s.get o=some (.var 3 (.int .i64 n))):cu T H 241 [.ptr o 0] s fun d s1=>d= .int .i64 n/\s1=s:=by
 refine ay hV.t241 ?_;try refine go ?_
 exact ai ⟨rfl,rfl⟩
theorem qp (hV:TV T){s:St}{o:Nat}{w:Int}(hg:s.get o=some (.var 3 (.int .i64 (-2)))):cu T H 206 [.int .u64 w,.fn (.func 241) [] [.ptr o 0]] s fun d s1=>d= .int .i64 (DD w)/\s1=s:=by
 have dT:=Gv (H:=H) hV hg;refine ay hV.t206 ?_;try refine go ?_
 refine cY (fun hc=> ?_) (fun hc=> ?_)
 ·try refine go ?_
  refine ak dT ?_;rintro d s1 ⟨rfl,rfl⟩;try refine go ?_
  exact ai ⟨by rw [DD,bJ hc],rfl⟩
 ·try refine go ?_
  exact ai ⟨by rw [DD,aJ (by rw [hc]; decide)],rfl⟩
theorem Is {s:St}{env:Env}{x i:bP}{l:List UInt8}{j:Nat}{c:UInt8}(hx:x.ev env=some (.str l))(hi:i.ev env=some (.int .i64 (j:Nat)))(hb:l[j]? =some c):cB fD env s none (.Ja x i)=some (.int .u8 (c.toNat:Nat),s):=by
 have e:idx (.int .i64 (j:Nat))=some j:=ju;simp only [cB,hx,hi,e,hb]
theorem Lw (hV:TV T){s:St}{l:List UInt8}(hs:s.Ok)(hl:l.length<=1000000000):cu T H 163 [.str l] s fun d s1=>d= .int .i64 (NF l)/\aC Nil s s1:=by
 refine ay hV.t163 ?_;try refine go ?_
 refine cg (fun m env s' =>s' =s/\∃j:Nat,j<=l.length/\m=l.length - j/\env=[(0,.str l),(3,.int .u64 (DS l j)),(6,.int .i64 (l.length:Nat)),(7,.int .i64 (j:Nat))]) l.length rfl ⟨rfl,0,aR _,rfl,rfl⟩ ?_;rintro m env s' ⟨rfl,j,hj,rfl,rfl⟩;rcases aG j l.length with h1 | h1
 ·have hb:l[j]? =some l[j]:=ae h1;try refine go ?_
  refine iZ (d:= .int .u8 (l[j].toNat:Nat)) ?_ rfl (Is rfl rfl hb);try refine go ?_
  exact bg (l.length - (j+1)) (by omega) rfl ⟨rfl,j+1,by omega,rfl,by rw [Hp hb]; rfl⟩
 ·have:j=l.length:=by omega
  subst this;try refine go ?_
  refine ak (oE hV hs) ?_;rintro d s1 ⟨rfl,g1,b1⟩;try refine go ?_
  refine ak (qp hV g1) ?_;rintro d s2 ⟨rfl,rfl⟩;try refine go ?_
  exact ai ⟨rfl,b1⟩
theorem yM (n:Int):∃h:Int,∀ {T:Nat->Option dS} {H:au} {s:St},TV T->s.Ok->cu T H 164 [.int .i64 n] s fun d s1=>d= .int .i64 h/\aC Nil s s1:=by
 apply Exists.intro;intro T H s hV hs;refine ay hV.t164 ?_
 repeat' first | refine go ?_ | refine gP hV.t208 ?_
 refine ak (oE hV hs) ?_;rintro d s1 ⟨rfl,g1,b1⟩;try refine go ?_
 refine ak (qp hV g1) ?_;rintro d s2 ⟨rfl,rfl⟩;try refine go ?_
 exact ai ⟨rfl,b1⟩
noncomputable def VP (n:Int):Int:=(yM n).choose
theorem Gk (hV:TV T){s:St}{n:Int}(hs:s.Ok):cu T H 164 [.int .i64 n] s fun d s1=>d= .int .i64 (VP n)/\aC Nil s s1:=(yM n).choose_spec hV hs
end
section
variable {T:Nat->Option dS}{H Y:au}
theorem Pr (hV:TV T){s:St}:cu T H 249 [.int .u64 2305843009213693951] s fun d s1=>d= .int .i64 61/\s1=s:=by
 refine ay hV.t249 ?_;try refine go ?_
 exact ai ⟨rfl,rfl⟩
theorem Sd (hV:TV T){s:St}:cu T H 264 [.int .u64 2305843009213693951] s fun d s1=>d= .int .i64 3/\s1=s:=by
 refine ay hV.t264 ?_;try refine go ?_
 refine ak (Pr hV) ?_;rintro d s1 ⟨rfl,rfl⟩;try refine go ?_
 exact ai ⟨rfl,rfl⟩
def xS (n:Int):Prop:=0<=n/\n < 18446744073709551616
instance (n:Int):Decidable (xS n):=inferInstanceAs (Decidable (_/\_))
theorem oW (n:Int):xS (IntKind.wrap .u64 n):=by rw [wrap_u64]; unfold xS; omega
theorem Qy (n:Int):xS (Int.fdiv (IntKind.wrap .u64 n) (2 ^ min (Int.toNat 3) (IntKind.bits .u64))):=by
 have e:(2:Int) ^ min (Int.toNat 3) (IntKind.bits .u64)=8:=rfl;obtain⟨h1,h2⟩:=oW n;rw [e,kJ _ (by decide)];unfold xS; omega
theorem xw {u:Int}(hu:xS u):0<=IntKind.wrap .u64 (u - IntKind.wrap .u64 (IntKind.wrap .u64 (Int.tdiv u 4294967295) * 4294967295))/\IntKind.wrap .u64 (u - IntKind.wrap .u64 (IntKind.wrap .u64 (Int.tdiv u 4294967295) * 4294967295)) < 4294967296:=by
 obtain⟨h1,h2⟩:=hu;rw [fj h1,kO (n:=u / 4294967295) (by omega) (by omega),kO (n:=u / 4294967295 * 4294967295) (by omega) (by omega),kO (by omega) (by omega)];omega
noncomputable def Ck:AC:=match AS.1.body with
 | .seq _ (.seq _ (.seq _ (.seq _ (.seq _ (.seq _ (.seq _ (.seq _ (.seq _ (.seq _ (.seq _ (.seq _ (.seq _ (.seq _ (.seq _ (.seq _ (.seq _ (.seq _ r)))))))))))))))))=>r
 | _=> .skip
def BW (c u q rh:Int):Int:=
 if q >= 4294967296\/IntKind.wrap .u64 (q * c) > IntKind.wrap .u64 (IntKind.wrap .u64 (4294967296 * rh)+u) then
  if rh+4294967295 >= 4294967296 then IntKind.wrap .u64 (q - 1) else BW c u (IntKind.wrap .u64 (q - 1)) (rh+4294967295)
 else q
 termination_by (4294967296 - rh).toNat
 decreasing_by omega
theorem O5 {c u q rh:Int}(h1: ¬ q >= 4294967296)(h2: ¬ IntKind.wrap .u64 (q * c) > IntKind.wrap .u64 (IntKind.wrap .u64 (4294967296 * rh)+u)):BW c u q rh=q:=by
 rw [BW,aJ (fun h=>h.elim h1 h2)]
theorem xy {c u q rh:Int}(h1:q >= 4294967296\/IntKind.wrap .u64 (q * c) > IntKind.wrap .u64 (IntKind.wrap .u64 (4294967296 * rh)+u))(h2:rh+4294967295 >= 4294967296):BW c u q rh=IntKind.wrap .u64 (q - 1):=by
 rw [BW,bJ h1,bJ h2]
theorem Cc {c u q rh:Int}(h1:q >= 4294967296\/IntKind.wrap .u64 (q * c) > IntKind.wrap .u64 (IntKind.wrap .u64 (4294967296 * rh)+u))(h2: ¬ rh+4294967295 >= 4294967296):BW c u (IntKind.wrap .u64 (q - 1)) (rh+4294967295)=BW c u q rh:=by
 rw [BW.eq_def c u q rh,bJ h1,aJ h2]
def dvF (b x:Int):Int:=IntKind.wrap .u64 (IntKind.wrap .u64 (b * 4294967296)+x)
def dvG (a u y x:Int):Int:=Int.fdiv (IntKind.wrap .u64 (IntKind.wrap .u64 (IntKind.wrap .u64 (a * 4294967296)+u) - IntKind.wrap .u64 (x * y))) (2 ^ min (Int.toNat 3) (IntKind.bits .u64))
theorem xY {s:St}{env:Env}{R:D->St->Prop}{a2 zT Hr a15 a17 q rh:Int}(zF:0<=rh/\rh < 4294967296)
  (hk:env.bR [2,8,9,10,14,15,16,17,18]=[(2,.int .u64 a2),(8,.int .u64 3),(9,.int .u64 4294967295),(10,.int .u64 zT),(14,.int .u64 Hr),(15,.int .u64 a15),(16,.int .u64 rh),(17,.int .u64 a17),(18,.int .u64 q)])
  (hR:R (.gJ [.int .u64 (dvF a15 (BW zT Hr q rh)),.int .u64 (dvG a17 Hr a2 (BW zT Hr q rh))]) s):eI T H (match Ck with | .seq (.block _ l) _=>l | _=> .skip) [.block 2,.seq (match Ck with | .seq _ r=>r | _=> .skip)] ⟨env,[]⟩ s (QF AS.1.results R):=by
 ·show eI T H (.loop _ _) [.block 2,.seq (.seq (.Aa _) .ret)] _ s _;generalize vq:BW zT Hr q rh=q0 at hR;refine cg (fun m env s' =>s' =s/\∃q rh:Int,BW zT Hr q rh=q0/\(0<=rh/\rh < 4294967296)/\m=(4294967296 - rh).toNat/\env=[(2,.int .u64 a2),(8,.int .u64 3),(9,.int .u64 4294967295),(10,.int .u64 zT),(14,.int .u64 Hr),(15,.int .u64 a15),(16,.int .u64 rh),(17,.int .u64 a17),(18,.int .u64 q)]) _ rfl ⟨rfl,q,rh,vq,zF,rfl,hk⟩ ?_;rintro m env s' ⟨rfl,q,rh,vq,zF,rfl,rfl⟩;have hw:IntKind.wrap .u64 (rh+4294967295)=rh+4294967295:=kO (by omega) (by omega);by_cases hq:q >= 4294967296
  ·have hd:decide (q >= 4294967296)=true:=cK hq;try refine go ?_
   refine cY (fun hc=> ?_) (fun hc=> ?_)
   ·simp only [hw,iT]at hc;rw [xy (.inl hq) hc]at vq;subst vq;try refine go ?_
    exact ai hR
   ·simp only [hw,bF]at hc;rw [← Cc (.inl hq) hc]at vq;try refine go ?_
    simp only [hw];exact bg (4294967296 - (rh+4294967295)).toNat (by omega) rfl ⟨rfl,_,rh+4294967295,vq,by omega,rfl,rfl⟩
  ·have hd:decide (q >= 4294967296)=false:=bk hq;try refine go ?_
   refine cY (fun qd=> ?_) (fun qd=> ?_)
   ·rw [iT]at qd;try refine go ?_
    refine cY (fun hc=> ?_) (fun hc=> ?_)
    ·simp only [hw,iT]at hc;rw [xy (.inr qd) hc]at vq;subst vq;try refine go ?_
     exact ai hR
    ·simp only [hw,bF]at hc;rw [← Cc (.inr qd) hc]at vq;try refine go ?_
     simp only [hw];exact bg (4294967296 - (rh+4294967295)).toNat (by omega) rfl ⟨rfl,_,rh+4294967295,vq,by omega,rfl,rfl⟩
   ·rw [bF]at qd;rw [O5 hq qd]at vq;subst vq;try refine go ?_
    exact ai hR
noncomputable def HU:AC:=match AS.1.body with
 | .seq _ (.seq _ (.seq _ (.seq _ (.seq _ (.seq _ (.seq _ (.seq _ (.seq _ (.seq _ (.seq _ (.seq _ (.seq _ (.seq _ r)))))))))))))=>r
 | _=> .skip
def dvR (a2 u v x:Int):Int:=IntKind.wrap .u64 (IntKind.wrap .u64 (IntKind.wrap .u64 (u * 4294967296)+v) - IntKind.wrap .u64 (x * a2))
def dvQ (x:Int):Int:=IntKind.wrap .u64 (Int.tdiv x 4294967295)
def dvH (x:Int):Int:=IntKind.wrap .u64 (x - IntKind.wrap .u64 (dvQ x * 4294967295))
def dvX (a2 zT Mg H9 Hr x:Int):Int:=BW zT Hr (dvQ (dvR a2 Mg H9 x)) (dvH (dvR a2 Mg H9 x))
theorem LY {s:St}{env:Env}{R:D->St->Prop}{a2 zT Mg H9 Hr q rh:Int}(hu:xS Mg)(zF:0<=rh/\rh < 4294967296)
  (hk:env.bR [2,8,9,10,11,13,14,15,16]=[(2,.int .u64 a2),(8,.int .u64 3),(9,.int .u64 4294967295),(10,.int .u64 zT),(11,.int .u64 Mg),(13,.int .u64 H9),(14,.int .u64 Hr),(15,.int .u64 q),(16,.int .u64 rh)])
  (hR:R (.gJ [.int .u64 (dvF (BW zT H9 q rh) (dvX a2 zT Mg H9 Hr (BW zT H9 q rh))),.int .u64 (dvG (dvR a2 Mg H9 (BW zT H9 q rh)) Hr a2 (dvX a2 zT Mg H9 Hr (BW zT H9 q rh)))]) s):
  eI T H (match HU with | .seq (.block _ l) _=>l | _=> .skip) [.block 0,.seq (match HU with | .seq _ r=>r | _=> .skip)] ⟨env,[]⟩ s (QF AS.1.results R):=by
 show eI T H (.loop _ _) [.block 0,.seq (.seq (.Aa _) (.seq (.Aa _) (.seq (.Aa _) Ck)))] _ s _;generalize vq:BW zT H9 q rh=q0 at hR;refine cg (fun m env s' =>s' =s/\∃q rh:Int,BW zT H9 q rh=q0/\(0<=rh/\rh < 4294967296)/\m=(4294967296 - rh).toNat/\env=[(2,.int .u64 a2),(8,.int .u64 3),(9,.int .u64 4294967295),(10,.int .u64 zT),(11,.int .u64 Mg),(13,.int .u64 H9),(14,.int .u64 Hr),(15,.int .u64 q),(16,.int .u64 rh)]) _ rfl ⟨rfl,q,rh,vq,zF,rfl,hk⟩ ?_;rintro m env s' ⟨rfl,q,rh,vq,zF,rfl,rfl⟩;have hw:IntKind.wrap .u64 (rh+4294967295)=rh+4294967295:=kO (by omega) (by omega);by_cases hq:q >= 4294967296
 ·have hd:decide (q >= 4294967296)=true:=cK hq;try refine go ?_
  refine cY (fun hc=> ?_) (fun hc=> ?_)
  ·simp only [hw,iT]at hc;rw [xy (.inl hq) hc]at vq;subst vq;try refine go ?_
   exact xY (xw (oW _)) rfl hR
  ·simp only [hw,bF]at hc;rw [← Cc (.inl hq) hc]at vq;try refine go ?_
   simp only [hw];exact bg (4294967296 - (rh+4294967295)).toNat (by omega) rfl ⟨rfl,_,rh+4294967295,vq,by omega,rfl,rfl⟩
 ·have hd:decide (q >= 4294967296)=false:=bk hq;try refine go ?_
  refine cY (fun qd=> ?_) (fun qd=> ?_)
  ·rw [iT]at qd;try refine go ?_
   refine cY (fun hc=> ?_) (fun hc=> ?_)
   ·simp only [hw,iT]at hc;rw [xy (.inr qd) hc]at vq;subst vq;try refine go ?_
    exact xY (xw (oW _)) rfl hR
   ·simp only [hw,bF]at hc;rw [← Cc (.inr qd) hc]at vq;try refine go ?_
    simp only [hw];exact bg (4294967296 - (rh+4294967295)).toNat (by omega) rfl ⟨rfl,_,rh+4294967295,vq,by omega,rfl,rfl⟩
  ·rw [bF]at qd;rw [O5 hq qd]at vq;subst vq;try refine go ?_
   exact xY (xw (oW _)) rfl hR
theorem Nh (hi lo:Int)(h1:0<=hi/\hi < 2305843009213693951)(h2:xS lo):∃q r:Int,xS r/\∀ {T:Nat->Option dS} {H:au} {s:St},TV T->cu T H 256 [.int .u64 hi,.int .u64 lo,.int .u64 2305843009213693951] s fun d s1=>d= .gJ [.int .u64 q,.int .u64 r]/\s1=s:=by
 by_cases hz:hi=0
 ·subst hz;refine⟨IntKind.wrap .u64 (Int.tdiv lo 2305843009213693951),Int.tmod lo 2305843009213693951,by rw [bY h2.1]; have:=h2.2; unfold xS; omega,fun {T H s} hV=> ?_⟩;refine ay hV.t256 ?_;try refine go ?_
  exact ai ⟨rfl,rfl⟩
 ·apply Exists.intro;apply Exists.intro;refine⟨?z,fun {T H s} hV=> ?x⟩
  case x=>
   have hlz:=Sd (H:=H) hV (s:=s);refine ay hV.t256 ?_;try refine go ?_
   refine ak hlz ?_;rintro d s1 ⟨rfl,rfl⟩;try refine go ?_
   refine LY (oW _) (xw (oW _)) rfl ?_;exact⟨rfl,rfl⟩
  case z=>exact Qy _
theorem DV (hi lo:Int)(h1:0<=hi)(h2:xS lo):∃r:Int,xS r/\∀ {T:Nat->Option dS} {H:au} {s:St},TV T->cu T H 240 [.int .u64 hi,.int .u64 lo,.int .u64 2305843009213693951] s fun d s1=>d= .int .u64 r/\s1=s:=by
 obtain⟨q,r,hr,hd⟩:=Nh (Int.tmod hi 2305843009213693951) lo (by rw [bY h1]; omega) h2;refine⟨r,hr,fun {T H s} hV=> ?_⟩;have hd:=hd (H:=H) (s:=s) hV;refine ay hV.t240 ?_;try refine go ?_
 refine ak hd ?_;rintro d s1 ⟨rfl,rfl⟩;try refine go ?_
 exact ai ⟨rfl,rfl⟩
noncomputable def Rh (hi lo:Int):Int:=if h:0<=hi/\xS lo then (DV hi lo h.1 h.2).choose else 0
theorem Lz {T:Nat->Option dS}{H:au}(hV:TV T){s:St}{hi lo:Int}(h1:0<=hi)(h2:xS lo):cu T H 240 [.int .u64 hi,.int .u64 lo,.int .u64 2305843009213693951] s fun d s1=>d= .int .u64 (Rh hi lo)/\xS (Rh hi lo)/\s1=s:=by
 have h:=(DV hi lo h1 h2).choose_spec;rw [Rh,dif_pos ⟨h1,h2⟩];exact (h.2 hV).mono fun d s1 ⟨e1,e2⟩=>⟨e1,h.1,e2⟩
end
section
variable {T:Nat->Option dS}{H Y:au}
theorem IM (hV:TV T){s:St}{k bo o cp:Nat}{V R:List Nat}(I:Nat->St->Prop)(Z:St->Prop)(h0:I 0 s)(hl:V.length<=100000000)
  (hI:∀j s,I j s->s.get bo=some (.var 32 (.sl o 0 V.length cp))/\s.get o=some (.arr 1 263 (dz (V++R)) 0))
  (hY:∀j s n,j < V.length->V[V.length - 1 - j]? =some n->I j s->∃c s',Y 0 (.lv (.yl k)::[.int .i64 ((V.length - 1 - j:Nat):Int),.int .u32 (n:Nat)]) s=some (.bool c,s')/\(c=true->I (j+1) s')/\(c=false->Z s'))
  (hR:∀s,I V.length s->Z s):cu T Y 188 [.yl k,.ptr bo 0] s fun _ s1=>Z s1:=by
 obtain⟨g1,g2⟩:=hI 0 s h0;have pQ:(dz (V++R)).length=V.length+R.length:=by simp [dz]
 have hw:IntKind.wrap .i64 ((V.length:Int) - 1)=(V.length:Int) - 1 - (0:Nat):=by rw [wrap_small (by omega) (by omega)]; omega
 refine ay hV.t188 ?_;try refine go ?_
 rw [hw];refine eT V.length (fun j=> [(0,.yl k),(1,.ptr bo 0),(3,.int .i64 ((V.length:Int) - 1 - (j:Nat)))]) I h0 ?_;intro j s' hj PT;obtain⟨g1,g2⟩:=hI j s' PT;rcases aG j V.length with h1 | h1
 ·have hi:(V.length:Int) - 1 - (j:Nat)=((V.length - 1 - j:Nat):Int):=by omega
  have hv:V[V.length - 1 - j]? =some V[V.length - 1 - j]:=ae (by omega);generalize V[V.length - 1 - j]=n at hv;obtain⟨c,s2,y1,y2,y3⟩:=hY j s' n h1 hv PT;have qc:(dz (V++R))[0+(V.length - 1 - j)]? =some (.int .u32 (n:Nat)):=by
   rw [aM,dz,aE,aO (by omega),hv]; rfl
  have Pu:IntKind.wrap .i64 (((V.length - 1 - j:Nat):Int) - 1)=(V.length:Int) - 1 - ((j+1:Nat):Int):=by rw [wrap_small (by omega) (by omega)]; omega
  rw [hi];try refine go ?_
  refine v8 ?_;refine ak (R:=fun d s1=>d= .bool c/\s1=s2) ⟨_,_,Ev.yield y1,rfl,rfl⟩ ?_;rintro d s3 ⟨rfl,rfl⟩;cases c
  ·try refine go ?_
   exact ai (y3 rfl)
  ·try refine go ?_
   rw [Pu];exact dO h1 (y2 rfl)
 ·have Rc:j=V.length:=by omega
  subst Rc;have hd:=cM ((V.length:Int) - 1 - (V.length:Nat) >= 0);try refine go ?_
  exact gU (hR _ PT)
theorem Rq (hV:TV T){s:St}{k bo:Nat}{nl:Bool}{V:List Nat}(I:Nat->St->Prop)(Z:St->Prop)(h0:I 0 s)(hl:V.length<=100000000)
  (hI:∀j s,I j s->s.get bo=some (.var 32 (.vs nl 1 (dz V))))
  (hY:∀j s n,j < V.length->V[V.length - 1 - j]? =some n->I j s->∃c s',Y 0 (.lv (.yl k)::[.int .i64 ((V.length - 1 - j:Nat):Int),.int .u32 (n:Nat)]) s=some (.bool c,s')/\(c=true->I (j+1) s')/\(c=false->Z s'))
  (hR:∀s,I V.length s->Z s):cu T Y 188 [.yl k,.ptr bo 0] s fun _ s1=>Z s1:=by
 have g1:=hI 0 s h0;have pQ:(dz V).length=V.length:=by simp [dz]
 have hw:IntKind.wrap .i64 ((V.length:Int) - 1)=(V.length:Int) - 1 - (0:Nat):=by rw [wrap_small (by omega) (by omega)]; omega
 refine ay hV.t188 ?_;try refine go ?_
 rw [pQ,hw];refine eT V.length (fun j=> [(0,.yl k),(1,.ptr bo 0),(3,.int .i64 ((V.length:Int) - 1 - (j:Nat)))]) I h0 ?_;intro j s' hj PT;have g1:=hI j s' PT;rcases aG j V.length with h1 | h1
 ·have hi:(V.length:Int) - 1 - (j:Nat)=((V.length - 1 - j:Nat):Int):=by omega
  have hv:V[V.length - 1 - j]? =some V[V.length - 1 - j]:=ae (by omega);generalize V[V.length - 1 - j]=n at hv;obtain⟨c,s2,y1,y2,y3⟩:=hY j s' n h1 hv PT;have qc:(dz V)[V.length - 1 - j]? =some (.int .u32 (n:Nat)):=by
   rw [dz,aE,hv]; rfl
  have Pu:IntKind.wrap .i64 (((V.length - 1 - j:Nat):Int) - 1)=(V.length:Int) - 1 - ((j+1:Nat):Int):=by rw [wrap_small (by omega) (by omega)]; omega
  rw [hi];try refine go ?_
  refine v8 ?_;refine ak (R:=fun d s1=>d= .bool c/\s1=s2) ⟨_,_,Ev.yield y1,rfl,rfl⟩ ?_;rintro d s3 ⟨rfl,rfl⟩;cases c
  ·try refine go ?_
   exact ai (y3 rfl)
  ·try refine go ?_
   rw [Pu];exact dO h1 (y2 rfl)
 ·have Rc:j=V.length:=by omega
  subst Rc;have hd:=cM ((V.length:Int) - 1 - (V.length:Nat) >= 0);try refine go ?_
  exact gU (hR _ PT)
theorem Dh (hV:TV T){s:St}{k bo:Nat}(g1:s.get bo=some (.var 32 (.vs true 0 []))):cu T Y 188 [.yl k,.ptr bo 0] s fun _ s1=>s1=s:=by
 refine ay hV.t188 ?_;try refine go ?_
 refine lQ ?_;try refine go ?_
 exact gU rfl
theorem rJ (hV:TV T){s:St}{o off n cp:Nat}(hs:s.Ok):cu T H 153 [.sl o off n cp] s fun d s1=>d= .fn (.func 188) [] [.ptr s.n 0]/\s1=s.bc (.var 32 (.sl o off n cp)):=by
 refine ay hV.t153 ?_;try refine go ?_
 exact ai ⟨rfl,rfl⟩
theorem w8 (hV:TV T){s:St}{nl:Bool}{z:Nat}{l:List D}(hs:s.Ok):cu T H 153 [.vs nl z l] s fun d s1=>d= .fn (.func 188) [] [.ptr s.n 0]/\s1=s.bc (.var 32 (.vs nl z l)):=by
 refine ay hV.t153 ?_;try refine go ?_
 exact ai ⟨rfl,rfl⟩
end
section
variable {T:Nat->Option dS}{H Y:au}
noncomputable def B8:AC:=match Pt.1.body with
 | .seq _ (.seq _ (.seq _ (.seq (.seq _ (.block _ r)) _)))=>r
 | _=> .skip
noncomputable def Ux:AC:=match B8 with
 | .iA _ _ _ a _=>a
 | _=> .skip
noncomputable def SR:AC:=match B8 with
 | .iA _ _ _ _ b=>b
 | _=> .skip
noncomputable def ue (r n:Int):Int:=Rh (r.fdiv (2 ^ min (Int.toNat 32) (IntKind.bits .u64))) (IntKind.wrap .u64 (BitVec.ofInt (IntKind.bits .u64) (IntKind.wrap .u64 (r * 2 ^ min (Int.toNat 32) (IntKind.bits .u64))) ||| BitVec.ofInt (IntKind.bits .u64) (IntKind.wrap .u64 n)).toNat)
noncomputable def tf (r:Int)(V:List Nat)(j:Nat):Int:=(V.reverse.take j).foldl (fun r (n:Nat)=>ue r (n:Int)) r
noncomputable def Z7 (V:List Nat):Int:=tf 0 V V.length
theorem Ht {r:Int}{V:List Nat}{j n:Nat}(hj:j < V.length)(hn:V[V.length - 1 - j]? =some n):tf r V (j+1)=ue (tf r V j) n:=by
 have h:V.reverse[j]? =some n:=by rw [List.getElem?_reverse hj]; exact hn
 rw [tf,gz,h,List.foldl_append]; rfl
theorem GU (hV:TV T){s:St}{y b3 b6:Nat}{i n r:Int}(hY:mW T H y [19,20] [(3,.ptr b3 0),(6,.ptr b6 0)] Ux SR Y)(hs:s.Ok)(hl:s.get (y+1)=some (.loop y .ready))
  (g3:s.get b3=some (.var 3 (.int .i64 2305843009213693951)))(g6:s.get b6=some (.var 237 (.int .u64 r)))(hr:xS r):
  ∃s',Y 0 (.lv (.yl y)::[.int .i64 i,.int .u32 n]) s=some (.bool true,s')/\s'.get (y+1)=some (.loop y .ready)/\(xS (ue r n)/\s'.get b6=some (.var 237 (.int .u64 (ue r n))))/\aC (fun j=>j=y+1\/j=b6) s s' :=by
 have ly:=hs.lt hl;have n3:b3≠y+1:=by rintro rfl; rw [hl]at g3; cases g3
 have n6:b6≠y+1:=by rintro rfl; rw [hl]at g6; cases g6
 have n36:b3≠b6:=by rintro rfl; rw [g3]at g6; simp at g6
 have kL:aC (fun j=>j=y+1) s (s.bD (y+1) (.loop y .busy)):=aC.set (aC.refl hs) _ ly (fun _=>rfl);have k3:=kL.get hs g3 n3;have k6:=kL.get hs g6 n6;have mc:=kL.ok;have XK:y+1 < (s.bD (y+1) (.loop y .busy)).n:=ly;have GG:0<=Int.fdiv r (2 ^ min (Int.toNat 32) (IntKind.bits .u64)):=by
  have e:(2:Int) ^ min (Int.toNat 32) (IntKind.bits .u64)=4294967296:=rfl;have:=hr.1;rw [e,kJ _ (by decide)]; omega
 obtain⟨c,s',q1,q2⟩:=si (e:=[(20,.int .u32 n),(19,.int .i64 i),(3,.ptr b3 0),(6,.ptr b6 0)]) (xs:=[.int .i64 i,.int .u32 n]) hY (fun c s' =>c=true/\s'.get (y+1)=some (.loop y .ready)/\(xS (ue r n)/\s'.get b6=some (.var 237 (.int .u64 (ue r n))))/\aC (fun j=>j=y+1\/j=b6) s s') rfl hl hs (by
  show eI T H (.Aa _) [] _ s _;try refine go ?_
  refine qB ⟨rfl,rfl, ?_⟩;generalize tZ:s.bD (y+1) (.loop y .busy)=s1 at kL k3 k6 XK mc ⊢;have sv:s1.get (y+1)=some (.loop y .busy):=by rw [← tZ]; exact St.aN
  have l6:=mc.lt k6;show eI T H (.block _ _) [] _ s1 _;try refine go ?_
  refine ak (Lz hV GG (oW _)) ?_;rintro d s2 ⟨rfl,D9,rfl⟩
  change xS (ue r n) at D9
  generalize xe:ue r n=r' at D9;try refine go ?_
  unfold ue at xe;simp only [xe];have jJ:aC (fun j=>j=b6) s2 (s2.bD b6 (.var 237 (.int .u64 r'))):=aC.set (aC.refl mc) _ l6 (fun _=>rfl);have Ae:=jJ.get mc sv (bO n6);have xd:aC (fun j=>j=y+1) (s2.bD b6 (.var 237 (.int .u64 r'))) ((s2.bD b6 (.var 237 (.int .u64 r'))).bD (y+1) (.loop y .ready)):=aC.set (aC.refl jJ.ok) _ (jJ.ok.lt Ae) (fun _=>rfl);refine qB ⟨rfl,Ae,jJ.ok,rfl,St.aN,⟨D9,xd.get jJ.ok St.aN n6⟩, ?_⟩;exact (kL.mono fun j hj=> .inl hj).trans ((jJ.mono fun j hj=> .inr hj).trans (xd.mono fun j hj=> .inl hj)))
 obtain⟨rfl,q3⟩:=q2;exact⟨s',q1,q3⟩
theorem uE (hV:TV T){s:St}{b3 b6 bo:Nat}{x:D}{V:List Nat}{r:Int}{E:Env}{k:List je}{Q:QP}(hs:s.Ok)(hx:Ws s x V)(hl:V.length<=100000000)
  (g3:s.get b3=some (.var 3 (.int .i64 2305843009213693951)))(g6:s.get b6=some (.var 237 (.int .u64 r)))(hr:xS r)(gb:s.get bo=some (.var 32 x))
  (hg:bP.ev E (.t 18)=some (.fn (.func 188) [] [.ptr bo 0]))(hk:E.bR [3,6,8]=[(3,.ptr b3 0),(6,.ptr b6 0)])
  (hq:∀s1,xS (tf r V V.length)->s1.get b6=some (.var 237 (.int .u64 (tf r V V.length)))->aC (fun j=>j=b6) s s1->kZ T H .normal k ⟨E,[(.mf,[])]⟩ s1 Q):
  eI T H B8 k ⟨E,[]⟩ s Q:=by
 show eI T H (.iA _ _ _ _ _) k ⟨E,[]⟩ s Q;refine qU (gf:=188) (caps:=[.ptr bo 0]) (fun Y hY=> ?_) hg hs.ro (by rw [hk]; rfl);have hY' :mW T H s.n [19,20] [(3,.ptr b3 0),(6,.ptr b6 0)] Ux SR Y:=by
  have:=hY;simp only at this;rw [hk]at this;exact this
 clear hY;have yq:aC (fun j=>j=s.n+1\/j=b6) s ((s.bc .dead).bc (.loop s.n .ready)):=aC.push (aC.push (aC.refl hs) _) _;have l3:=hs.lt g3; have l6:=hs.lt g6; have lb:=hs.lt gb;have nb6:bo≠b6:=by rintro rfl; rw [gb]at g6; simp at g6
 have n36:b3≠b6:=by rintro rfl; rw [g3]at g6; simp at g6
 have fin:∀ {s2:St},aC (fun j=>j=s.n+1\/j=b6) s s2->s2.get (s.n+1)=some (.loop s.n .ready)->xS (tf r V V.length)->s2.get b6=some (.var 237 (.int .u64 (tf r V V.length)))->
   ∃st x s3,s2.get (s.n+1)=some (.loop s.n st)/\CF st=some x/\s2.set (s.n+1) .dead=some s3/\kZ T H x k { (⟨E,[]⟩:Fr) with defers:=(.mf,[])::[]} s3 Q:=by
  intro s2 jJ Ae D9 hg6;have xd:aC (fun j=>j=s.n+1) s2 (s2.bD (s.n+1) .dead):=aC.set (aC.refl jJ.ok) _ (jJ.ok.lt Ae) (fun _=>rfl);have W9:aC (fun j=>j=b6) s (s2.bD (s.n+1) .dead):=(jJ.trans (xd.mono fun j hj=> .inl hj)) |> fun q=>⟨q.n,q.ok,fun o ho hw=>q.same o ho (by rintro (rfl | rfl); omega; exact hw rfl)⟩
  exact⟨.ready,.normal,_,Ae,rfl,jJ.ok.set _ _,hq _ D9 (xd.get jJ.ok hg6 (by omega)) W9⟩
 let I:Nat->St->Prop:=fun j s' =>aC (fun j=>j=s.n+1\/j=b6) s s' /\s'.get (s.n+1)=some (.loop s.n .ready)/\xS (tf r V j)/\s'.get b6=some (.var 237 (.int .u64 (tf r V j)))
 have R0:I 0 ((s.bc .dead).bc (.loop s.n .ready)):=⟨yq,St.ba,hr,(aC.push (aC.push (aC.refl (W:=fun _=>False) hs) _) _).get hs g6 (fun h=>h)⟩;have hYZ:∀ {Z:St->Prop} j s' (n:Nat),j < V.length->V[V.length - 1 - j]? =some n->I j s' ->∃c s2,Y 0 (.lv (.yl s.n)::[.int .i64 ((V.length - 1 - j:Nat):Int),.int .u32 (n:Nat)]) s' =some (.bool c,s2)/\(c=true->I (j+1) s2)/\(c=false->Z s2):=by
  rintro Z j s' n hj hn ⟨q1,q2,q3,q4⟩;obtain⟨s2,y1,y2,⟨y3,y4⟩,y5⟩:=GU (H:=H) (i:=((V.length - 1 - j:Nat):Int)) (n:=(n:Nat)) hV hY' q1.ok q2 (q1.get hs g3 (by omega)) q4 q3;rw [← Ht hj hn]at y3 y4;exact⟨true,s2,y1,fun _=>⟨q1.trans y5,y2,y3,y4⟩,fun h=>by cases h⟩
 rcases hx with ⟨nl,V,qW⟩ | _ | ⟨o,cp,V,R,go,hc⟩
 ·exact Rq hV I _ R0 hl (fun j s' hj=>hj.1.get hs gb (by omega)) (fun j s' n h1 h2 hj=>hYZ j s' n h1 h2 hj) (fun s2 ⟨q1,q2,q3,q4⟩=>fin q1 q2 q3 q4)
 ·refine (Dh hV ((aC.push (aC.push (aC.refl (W:=fun _=>False) hs) _) _).get hs gb (fun h=>h))).mono ?_;rintro d s1 rfl;obtain⟨q1,q2,q3,q4⟩:=R0;exact fin q1 q2 q3 q4
 ·have lo:=hs.lt go;have no6:o≠b6:=by rintro rfl; rw [go]at g6; cases g6
  exact IM hV I _ R0 hl (fun j s' hj=>⟨hj.1.get hs gb (by omega),hj.1.get hs go (by omega)⟩) (fun j s' n h1 h2 hj=>hYZ j s' n h1 h2 hj) (fun s2 ⟨q1,q2,q3,q4⟩=>fin q1 q2 q3 q4)
end
section
variable {T:Nat->Option dS}{H:au}
theorem Ws.sh {s:St}{x:D}{V:List Nat}(h:Ws s x V):(∃nl z L,x= .vs nl z L)\/∃o l c,x= .sl o 0 l c:=by
 rcases h with ⟨nl,V,hn⟩ | _ | ⟨o,cp,V,R,hg,hc⟩
 ·exact .inl ⟨_,_,_,rfl⟩
 ·exact .inl ⟨_,_,_,rfl⟩
 ·exact .inr ⟨_,_,_,rfl⟩
theorem J1 (hT:TW T){s:St}{x:D}{ng:Bool}{V:List Nat}(hs:s.Ok)(hx:Ws s x V)(hV:V.length<=aL):cu T H 122 [.agg [.bool ng,x]] s fun d s1=>qQ s1 d (dZ ng V)/\aC Nil s s1:=by
 have lW:aL=2147483648:=rfl;have OK:maxLen=9223372036854775807:=by decide
 have GD:=pH (H:=H) hT hx (by omega);have hle:=jV V;have gZ:=hx.sh;have key:∀ {x:D},((∃nl z L,x= .vs nl z L)\/∃o l c,x= .sl o 0 l c)->cu T H 151 [x] s (fun d s1=>s1=s/\Ws s d (bU V))->cu T H 122 [.agg [.bool ng,x]] s fun d s1=>qQ s1 d (dZ ng V)/\aC Nil s s1:=by
  clear GD gZ hx;intro x gZ GD;rcases gZ with ⟨nl,z,L,rfl⟩ | ⟨o,l,c,rfl⟩
  all_goals
   refine ay hT.t122 ?_;try refine go ?_
   refine bf GD ?_;rintro d s1 ⟨rfl,hd⟩;have gZ:=hd.sh;have zf:=D0 (H:=H) hT hs hd (by omega);clear GD;rcases gZ with ⟨nl',z',L',rfl⟩ | ⟨o',l',c',rfl⟩
   all_goals
    refine⟨rfl,by rfl, ?_⟩;try refine go ?_
    refine bf zf ?_;rintro d2 s2 ⟨h2,b2⟩;have abu:=h2.sh;have ok2:=b2.ok;have hwf:=zc (H:=H) (ng:=ng) hT h2 (by omega);rw [GN]at hwf;clear zf;rcases abu with ⟨CM,z2,L2,rfl⟩ | ⟨o2,l2,c2,rfl⟩
    all_goals
     refine⟨rfl,by rfl, ?_⟩;try refine go ?_
     refine bf hwf ?_;rintro d3 s3 ⟨rfl,y,rfl,h3⟩;have abh:=h3.sh;rcases abh with ⟨nl3,z3,L3,rfl⟩ | ⟨o3,l3,c3,rfl⟩
     all_goals
      refine⟨rfl,by rfl, ?_⟩
      repeat' first | refine go ?_ | refine od ?_
      exact ai ⟨⟨_,rfl,h3⟩,b2⟩
 exact key gZ GD
theorem Bg (hT:TW T){s:St}{d:D}{n:Bool×List Nat}(hs:s.Ok)(hx:qQ s d n)(hV:n.2.length<=aL):cu T H 76 [d] s fun d s1=>qQ s1 d (dZ (!(dZ n.1 n.2).1) (dZ n.1 n.2).2)/\aC Nil s s1:=by
 have lW:aL=2147483648:=rfl;have OK:maxLen=9223372036854775807:=by decide
 obtain⟨ng,V⟩:=n;obtain⟨x,rfl,hx⟩:=hx;have hle:=l7 ng V;simp only at hx hV ⊢;have PL:=J1 (H:=H) (ng:=ng) hT hs hx hV;have gZ:=hx.sh;have key:∀ {x:D},((∃nl z L,x= .vs nl z L)\/∃o l c,x= .sl o 0 l c)->cu T H 122 [.agg [.bool ng,x]] s (fun d s1=>qQ s1 d (dZ ng V)/\aC Nil s s1)->cu T H 76 [.agg [.bool ng,x]] s fun d s1=>qQ s1 d (dZ (!(dZ ng V).1) (dZ ng V).2)/\aC Nil s s1:=by
  clear PL gZ hx;intro x gZ PL;rcases gZ with ⟨nl,z,L,rfl⟩ | ⟨o,l,c,rfl⟩
  all_goals
   refine ay hT.t76 ?_;try refine go ?_
   refine ak PL ?_;rintro d s1 ⟨⟨y,rfl,hd⟩,b1⟩;have hwf:=zc (H:=H) (ng:= !(dZ ng V).1) hT hd (by omega);rcases hd.sh with ⟨nl',z',L',rfl⟩ | ⟨o',l',c',rfl⟩
   all_goals
    try refine go ?_
    refine ak hwf ?_;rintro d3 s3 ⟨rfl,y,rfl,h3⟩;rcases h3.sh with ⟨nl3,z3,L3,rfl⟩ | ⟨o3,l3,c3,rfl⟩
    all_goals
     try refine go ?_
     exact ai ⟨⟨_,rfl,h3⟩,b1⟩
 exact key gZ PL
theorem EG (hT:TW T){s:St}{d:D}{n:Bool×List Nat}(hs:s.Ok)(hx:qQ s d n)(hV:n.2.length<=aL):cu T H 35 [d] s fun d s1=>qQ s1 d (dZ n.1 n.2)/\aC Nil s s1:=by
 have hng:=Bg (H:=H) hT hs hx hV;have hle:=l7 n.1 n.2;have acU:=l7 (!(dZ n.1 n.2).1) (dZ n.1 n.2).2;obtain⟨x,rfl,hx⟩:=hx;have key:∀ {x:D},((∃nl z L,x= .vs nl z L)\/∃o l c,x= .sl o 0 l c)->cu T H 76 [.agg [.bool n.1,x]] s (fun d s1=>qQ s1 d (dZ (!(dZ n.1 n.2).1) (dZ n.1 n.2).2)/\aC Nil s s1)->cu T H 35 [.agg [.bool n.1,x]] s fun d s1=>qQ s1 d (dZ n.1 n.2)/\aC Nil s s1:=by
  clear hng hx;intro x gZ hng;rcases gZ with ⟨nl,z,L,rfl⟩ | ⟨o,l,c,rfl⟩
  all_goals
   refine ay hT.t35 ?_;try refine go ?_
   refine ak hng ?_;rintro d s1 ⟨h1,b1⟩;have qX:=Bg (H:=H) hT b1.ok h1 (by omega);obtain⟨y,rfl,h1⟩:=h1;rw [Gp,Kg]at qX;rcases h1.sh with ⟨nl',z',L',rfl⟩ | ⟨o',l',c',rfl⟩
   all_goals
    try refine go ?_
    refine ak qX ?_;rintro d3 s3 ⟨⟨y,rfl,h3⟩,b3⟩;have b4:=b1.trans b3;rcases h3.sh with ⟨nl3,z3,L3,rfl⟩ | ⟨o3,l3,c3,rfl⟩
    all_goals
     try refine go ?_
     exact ai ⟨⟨_,rfl,h3⟩,b4⟩
 exact key hx.sh hng
end
def qf (n:Bool×List Nat):Int:=if bU n.2=[] then 0 else if n.1 then -1 else 1
section
variable {T:Nat->Option dS}{H:au}
theorem Ws.pY {s:St}{o l c:Nat}{V:List Nat}(h:Ws s (.sl o 0 l c) V):l=V.length:=by cases h; rfl
theorem Ws.qb {s:St}{nl:Bool}{z:Nat}{L:List D}{V:List Nat}(h:Ws s (.vs nl z L) V):L=dz V:=by cases h <;> rfl
theorem II (hT:TW T)(Lh:TV T){s:St}{d:D}{n:Bool×List Nat}(hs:s.Ok)(hx:qQ s d n)(hV:n.2.length<=maxLen):cu T H 216 [d] s fun d s1=>s1=s/\d= .int .i64 (qf n):=by
 obtain⟨ng,V⟩:=n;obtain⟨x,rfl,hx⟩:=hx;simp only at hx hV ⊢;have GD:=pH (H:=H) hT hx hV;unfold qf;simp only;have key:∀ {x:D},((∃nl z L,x= .vs nl z L)\/∃o l c,x= .sl o 0 l c)->cu T H 151 [x] s (fun d s1=>s1=s/\Ws s d (bU V))->cu T H 216 [.agg [.bool ng,x]] s fun d s1=>s1=s/\d= .int .i64 (if bU V=[] then 0 else if ng=true then -1 else 1):=by
  clear GD hx;intro x gZ GD;rcases gZ with ⟨nl,z,L,rfl⟩ | ⟨o,l,c,rfl⟩
  all_goals
   refine ay Lh.t216 ?_;try refine go ?_
   refine ak GD ?_;rintro d s1 ⟨rfl,hd⟩;generalize bU V=W at hd ⊢;have hwl:(dz W).length=W.length:=cN W;rcases hd.sh with ⟨nl',z',L',rfl⟩ | ⟨o',l',c',rfl⟩
   ·have:=hd.qb;subst this;cases W with
    | nil=>
     try refine go ?_
     exact ai ⟨rfl,rfl⟩
    | cons v W=>
     rw [aU]at hwl;cases ng
     ·try refine go ?_
      exact ai ⟨rfl,rfl⟩
     ·try refine go ?_
      exact ai ⟨rfl,rfl⟩
   ·have:=hd.pY;subst this;cases W with
    | nil=>
     try refine go ?_
     exact ai ⟨rfl,rfl⟩
    | cons v W=>
     have hq:(v::W).length=W.length+1:=rfl;cases ng
     ·try refine go ?_
      exact ai ⟨rfl,rfl⟩
     ·try refine go ?_
      exact ai ⟨rfl,rfl⟩
 exact key hx.sh GD
end
end Go.Proofs.Tab
