/- Part. -/
import Derived.Test.YtdkejjahldkkoaaGreatDoorG33
set_option linter.unusedSectionVars false
set_option maxRecDepth 100000
set_option maxHeartbeats 4000000
set_option linter.unusedSimpArgs false
set_option linter.unusedVariables false
namespace Go.Proofs.Tab
open Go Go.Ab Go.Ab.Sm
theorem RX (L:List Int):eG 1 (ints L)=true:=by
 induction L with
 | nil=>rfl
 | cons v V ih=>simp only [ints,bG,eG]at ih ⊢; rw [ih]; rfl
def IV:List gX:=[.none,.bool false,.bool true]
theorem UZ {P:Nat}{s:St}:eW P s (fun _ _=>False) three IV:=by
 refine⟨rfl,fun i d v h1 h2=> ?_,fun _ _ _ h=>h.elim,fun _ _ h=>h.elim⟩
 match i with
 | 0=>cases h1; cases h2; rfl
 | 1=>cases h1; cases h2; rfl
 | 2=>cases h1; cases h2; rfl
 | i+3=>simp at h1
def ES (P Sh:Nat)(s:St)(so o la ta pl mp:Nat)(tms:List Tm)(d:D)(s1:St):Prop:=
 s1.Ok/\aC (bw so o la ta pl) s s1/\((∃e:Int,e≠0/\rl tms e/\d= .gJ [.vs true 0 [],.int .i64 e]/\bE s1 so o la ta pl mp P Sh three 0 0 0)\/
 (∃q st Ds Vs n tk F R,d= .gJ [.sl q 0 R.length R.length,.int .i64 0]/\s1.get q=some (.arr 1 3 (ints (R.map Int.ofNat)) st)/\st<=R.length/\bE s1 so o la ta pl mp P Sh Ds n n tk/\n<=400/\Ds.length<=403/\tk<=400/\eW P s1 F Ds (pW R tms Vs tms.length)/\vf P tms IV 0 R Vs n/\R.length=tms.length/\Mk tms R (pW R tms Vs tms.length)/\rl tms 0/\∀i j,F i j->s.n<=j\/E5 s1 j))
section
variable {T:Nat->Option dS}{H:au}{s s1:St}{so bo i:Nat}{x:D}{tms:List Tm}{t:Tm}{o la ta pl mp P Sh n lv tk:Nat}{Ds:List D}{Vs:List gX}{F:Nat->Nat->Prop}{R:List Nat}
theorem Fc {b kk t r:Nat}{e:Env}{ds:List (D×List D)}{g:Option (Nat×Bool)}{q:List Nat}{acc:List Fp}{l:List (bj×List Nat)}{k:List je}{Q:QP}{fp:Fp}{sz bytes ty z:Nat}{x y:bP}{yd:D} {o off len cp st z' ty' :Nat}{es:List D}(hi:items s yd=some (z,[]))(h:fT T H b kk l (acc++ [fp]) k ⟨(t,.sl o off len cp)::e,ds⟩ s Q)(hw:aI e g=some true:=by rfl)(hx:x.ev e=some (.sl o off len cp):=by rfl)(hy:y.ev e=some yd:=by rfl)(hg:s.get o=some (.arr z' ty' es st):=by exact gI)(hb:Nat.ble bytes 4096=true:=by rfl)(hf:cE b e ⟨some t,.append sz bytes ty x y,g,some r⟩=fp:=by exact fI)(hc:fg acc fp q=true:=by exact cI)(kq:Env.cX e (some t)=false:=by rfl)(hk:Nat.beq (bj.op ⟨some t,.append sz bytes ty x y,g,some r⟩).kind 5=false:=by rfl):
  fT T H b kk ((⟨some t,.append sz bytes ty x y,g,some r⟩,q)::l) acc k ⟨e,ds⟩ s Q:=by
 subst hf;refine fi hc kq (kF rfl) h hw ?_ hk;have ha:eG sz []=true:=rfl;cases yd <;> simp only [items]at hi <;> first | (cases hi; done) | skip
 all_goals simp only [cB,hx,hy,items,hi,kR,hb,ha,fF,hg]
theorem Mp (hS:TS T)(XU:TT T)(hP:TP T)(hW:TW T)(hV:TV T)(hX:TX T)(hU:TU T H)(hs:s.Ok)(dT:bE s so o la ta pl mp P Sh three 0 0 0)(hT:Bu tms)(pb:P<=65536)(TC:tms.length<=P)(sb:Sh<=256):
  cu T H 10 [.ptr so 0,.vs false 8 (tms.map Tm.d)] s (ES P Sh s so o la ta pl mp tms):=by
 have hlen:=hT.len;have vL:(tms.map Tm.d).length=tms.length:=aH _;have lso:=dT.lt hs (j:=so) (.inl (.inl rfl));have nof:∀j,(bw so o la ta pl j\/j=mp)->j < s.n:=fun j hj=>dT.lt hs hj;have acC:tms=tms:=rfl;obtain⟨sB,hsB⟩:∃sB,sB=s.bc (.var 97 (.agg [.ptr so 0,.vs false 8 (tms.map Tm.d),.vs true 0 []])):=⟨_,rfl⟩;have bB:aC Nil s sB:=by rw [hsB]; exact (aC.refl hs).push _
 have okB:=bB.ok;have stB:=dT.dU hs bB fun _ _ h=>h;have gB:sB.get s.n=some (.var 97 (.agg [.ptr so 0,.vs false 8 (tms.map Tm.d),.vs true 0 []])):=by rw [hsB]; exact St.ba
 subst hsB;refine ay hS.t10 ?_;have Sx:(((tms.map Tm.d).length:Nat):Int)=(tms.length:Nat):=by rw [vL]
 try refine go ?_
 refine Lu (nl:=false) hS hW hV hX hU TC okB stB ⟨gB⟩ hT ?_ (fun h=>by cases h) ?_ ?_
 ·simp only [← Sx]; rfl
 ·intro e fr s1 he FA b1;try refine go ?_
  refine ai ⟨b1.ok,(bB.trans b1).mono (fun _ h=>h.elim),.inl ⟨e,he,FA,rfl,stB.dU okB b1 fun _ _ h=>h⟩⟩
 intro s1 hgE b1
 have hg:∀i t,tms[i]? =some t->lg tms i t:=fun i t ht=>wU (by
  rcases hgE with ⟨_,h2⟩ | ⟨h1,_⟩
  ·exact h2 i t ht
  ·exact absurd rfl h1)
 have ok1:=b1.ok
 have cx:mb P Sh s1 so o la ta pl mp 0 0 0 s.n three IV (fun _ _=>False) tms [] (.vs true 0 []):=
  {ok:=ok1,pb:=pb,sb:=sb,st:=(stB.dU okB b1 fun _ _ h=>h),nb:=by omega,lb:=by omega,tb:=by omega,ds:=by decide,vs:=UZ,hF:=(fun _ _ h=>h.elim),bl:=⟨b1.get okB gB id⟩,rf:= .nil,md:=(fun k r t h=>by simp at h),b0:=⟨fun h=>gR _ (nof _ (.inl h)),fun h=>gR _ (nof _ (.inr h))⟩,x0:=(fun _ _ _ _ e=>by cases e),tm:=(fun u hu=>(hT.ok u hu).1)}
 try refine go ?_
 refine Ob (nl:=false) hS XU hP hW hV cx hg hlen (fun h=>by cases h) ⟨rfl,rfl,rfl⟩ (by omega) (by omega) (by omega) (by decide) ?_ ?_
 ·simp only [F2,← Sx]; rfl
 rintro s2 ⟨Ds,Vs,n,lv,tk,F,R,x,c1,c2,c3,c4,c5,c6,c7,c8⟩;try refine go ?_
 refine LZ (nl:=false) hS c1 hlen c2 (fun t ht k hk=> ?_) ?_ ?_
 ·obtain⟨i,hi⟩:=cH ht;have h1:=(hg i t hi).kids k hk;have h2:=(af.mp hi).1;refine⟨h1.1, ?_⟩;have h3:=h1.2;split at h3 <;> omega
 ·simp only [F3,← Sx]; rfl
 intro s3 d1 d2;have ok3:=d1.ok;have ZW:=d1.bl.go;have lb3:=ok3.lt ZW;have HB:=d1.rf;have n1:=bB.n; have n2:=b1.n; have n3:=c7.n;have b12:aC (bw so o la ta pl) s s3:=by
  refine ((bB.trans b1).mono fun _ h=>h.elim).trans' c7 (fun y hy hl=> ?_) |>.trans' d2 (fun y hy hl=> ?_)
  ·rcases hy with hy | rfl
   ·exact hy
   ·exact absurd hl (gR _)
  ·obtain⟨⟨i,hi⟩,hu⟩:=hy;rcases c8 i y hi with h1 | h1 | h1
   ·exact h1.elim
   ·omega
   ·exact absurd h1 hu
 have fin:∀ {s4:St} {q st:Nat},aC Nil s3 s4->s4.get q=some (.arr 1 3 (ints (R.map Int.ofNat)) st)->st<=R.length->ES P Sh s so o la ta pl mp tms (.gJ [.sl q 0 R.length R.length,.int .i64 0]) s4:=by
  intro s4 q st b4 g4 h4;have d3:=d1.nil b4;have n4:=b4.n;have e1:lv=n:=by omega
  subst e1;have pL:Ds.length<=403:=by have:=c5.2.2.2.2; simp only [aU,bL]at this; omega
  exact⟨b4.ok,b12.trans (b4.mono fun _ h=>h.elim),.inr ⟨q,st,Ds,Vs,lv,tk,F,R,rfl,g4,h4,d3.st,by omega,pL,by omega,d3.vs,c3,c2,d3.md,hgE,fun i j hj=>by
   rcases c8 i j hj with h1 | h1 | h1
   ·exact h1.elim
   ·exact .inl (by omega)
   ·exact .inr (((h1.dU c1.ok d2 fun hw=>hw.2 h1).dU ok3 b4 id))⟩⟩
 rcases HB with _ | ⟨hgr,cC⟩
 ·try refine go ?_
  have h0:s3.get (s3.n+0)=none:=ok3.fresh _ (an _);refine ox (dl:= .int .i64 ((0:Nat):Int)) (dc:= .int .i64 ((0:Nat):Int)) ju ju (an _) (by omega) (by simp only [aL]; omega) ?_;try refine go ?_
  refine Fc (yd:= .vs true 0 []) rfl ?_;try refine go ?_
  refine ai (fin (st:=0) ?_ (gI) (an _));exact bI
 ·have vk:=ir R;have acB:R.length<=200:=by omega
  have lgr:=ok3.lt hgr;rename_i qo;have fR:=RX (R.map Int.ofNat);try refine go ?_
  refine ox (dl:= .int .i64 ((0:Nat):Int)) (dc:= .int .i64 (R.length:Int)) ju ju (aR _) (by omega) (by simp only [aL]; omega) ?_;try refine go ?_
  have Xs:ints (R.map Int.ofNat)≠ []:=by intro h; rw [h]at vk; exact cC (ib.mp vk.symm)
  refine Fk (m:=ints (R.map Int.ofNat)) (es:=[]) (st:=0) (o2:=qo) (off2:=0) (len2:=R.length) (es2:=ints (R.map Int.ofNat)) fR Xs (by rw [gv,← vk,eD]) ?_ (he:=rfl) (hm:=by rw [vk]; simp only [aL]; omega);try refine go ?_
  rw [vk,aM];refine ai (fin (st:=0) ?_ (gI) (aR _));exact bI
end
open Go Go.Ab
noncomputable section
def cd3:=RK.mk (a:=cf Tryz.f3 3)
def cd4:=RK.mk (a:=cf Tryz.f4 4)
def cd6:=RK.mk (a:=cf Tryz.f6 6)
def cd7:=RK.mk (a:=cf Tryz.f7 7)
def YF:=RK.mk (a:=cf Tryz.f13 13)
def aa8:=RK.mk (a:=cf Tryz.f25 25)
def ZL:=RK.mk (a:=cf Tryz.f26 26)
def Yn:=RK.mk (a:=cf Tryz.f56 56)
def YB:=RK.mk (a:=cf Tryz.f66 66)
end
structure TH (T:Nat->Option dS):Prop where
 t3:T 3=some cd3.1
 t4:T 4=some cd4.1
 t6:T 6=some cd6.1
 t7:T 7=some cd7.1
 t13:T 13=some YF.1
 t25:T 25=some aa8.1
 t26:T 26=some ZL.1
 t56:T 56=some Yn.1
 t66:T 66=some YB.1
def Gg (B:Nat)(t:Tm):Prop:=t.kids.length<=B/\t.tx.length<=B/\t.mag.length<=B
section
variable {T:Nat->Option dS}{H:au}{s:St}{tms:List Tm}
def VS (nl:Bool)(s:St)(tms:List Tm)(m:Nat)(env:Env) (s' :St):Prop:=
 s' =s/\∃i n:Nat,m=tms.length - i/\i<=tms.length/\n<=4000000000000000000/\(∀j t,j < i->tms[j]? =some t->Gg n t)/\env=[(0,.vs nl 8 (tms.map Tm.d)),(3,.int .i64 (n:Nat)),(4,.int .i64 (i:Nat))]
theorem Hi (hH:TH T)(hs:s.Ok){nl:Bool}(hN:tms.length<=1000000000000000000)(hB:∀t∈tms,Gg 1000000000000000000 t):cu T H 4 [.vs nl 8 (tms.map Tm.d)] s fun d s1=>s1=s/\∃b,d= .bool b/\(b=false->tms.length<=200/\∀t∈tms,Gg 20000 t):=by
 have vL:(tms.map Tm.d).length=tms.length:=aH _;have Sx:(((tms.map Tm.d).length:Nat):Int)=(tms.length:Nat):=by rw [vL]
 refine ay hH.t4 ?_;by_cases acI:200 < tms.length
 ·have hd:=eR (((tms.map Tm.d).length:Int) > 200);try refine go ?_
  exact ai ⟨rfl,true,rfl,fun h=>by cases h⟩
 ·have hd:=cM (((tms.map Tm.d).length:Int) > 200);try refine go ?_
  refine cg (VS nl s tms) tms.length rfl ⟨rfl,0,0,rfl,aR _,by omega,(fun _ _ h=>by omega),rfl⟩ ?_;rintro m env s' ⟨rfl,i,n,rfl,hi,hn,hl,rfl⟩;by_cases dQ:i < tms.length
  ·have HH:=eR ((i:Int) < ((tms.map Tm.d).length:Nat));by_cases h3:n<=20000
   ·have Gn:=eR ((n:Int)<=20000);obtain⟨t,ht⟩:∃t,tms[i]? =some t:=⟨_,ae dQ⟩;have ha:=ee ht;obtain⟨b1,b2,b3⟩:=hB t (aK ht);have w1:IntKind.wrap .i64 ((n:Int)+(t.kids.length:Nat))=((n+t.kids.length:Nat):Int):=by rw [wrap_small (by omega) (by omega)]; omega
    have w2:IntKind.wrap .i64 (((n+t.kids.length:Nat):Int)+(t.tx.length:Nat))=((n+t.kids.length+t.tx.length:Nat):Int):=by rw [wrap_small (by omega) (by omega)]; omega
    have w3:IntKind.wrap .i64 (((n+t.kids.length+t.tx.length:Nat):Int)+(t.mag.length:Nat))=((n+t.kids.length+t.tx.length+t.mag.length:Nat):Int):=by rw [wrap_small (by omega) (by omega)]; omega
    have w4:IntKind.wrap .i64 ((i:Int)+1)=((i+1:Nat):Int):=by rw [wrap_small (by omega) (by omega)]; omega
    have e1:=fw t.kids;have e2:(dz t.mag).length=t.mag.length:=aH _;try refine go ?_
    rw [e1,e2,w1,w2,w3];refine bg (tms.length - (i+1)) (by omega) rfl ⟨rfl,i+1,n+t.kids.length+t.tx.length+t.mag.length,rfl,by omega,by omega,fun j u hj hu=> ?_,rfl⟩;by_cases hji:j=i
    ·subst hji;rw [ht]at hu; cases hu;exact⟨by omega,by omega,by omega⟩
    ·obtain⟨x1,x2,x3⟩:=hl j u (by omega) hu;exact⟨by omega,by omega,by omega⟩
   ·have Gn:=cM ((n:Int)<=20000);have IP:=eR ((n:Int) > 20000);try refine go ?_
    exact ai ⟨rfl,true,rfl,fun h=>by cases h⟩
  ·have HH:=cM ((i:Int) < ((tms.map Tm.d).length:Nat));by_cases h3:n<=20000
   ·have IP:=cM ((n:Int) > 20000);try refine go ?_
    refine ai ⟨rfl,false,rfl,fun _=>⟨by omega,fun t ht=> ?_⟩⟩;obtain⟨j,hj⟩:=cH ht;have CP:=(af.mp hj).1;obtain⟨x1,x2,x3⟩:=hl j t (by omega) hj;exact⟨by omega,by omega,by omega⟩
   ·have IP:=eR ((n:Int) > 20000);try refine go ?_
    exact ai ⟨rfl,true,rfl,fun h=>by cases h⟩
end
structure A5 (nl:Bool)(tms:List Tm):Prop where
 len:tms.length<=1000000000000000000
 nil:nl=true->tms=[]
 n1:∀t∈tms,t.n1=true->t.mag=[]
 n2:∀t∈tms,t.n2=true->t.kids=[]
 wd:∀t∈tms,∀w∈t.mag,w < 4294967296
 ls:∀t∈tms,Gg 1000000000000000000 t
section
variable {T:Nat->Option dS}{H:au}{s s1:St}{so bo i:Nat}{x:D}{tms:List Tm}{t:Tm}{o la ta pl mp P Sh n lv tk q st:Nat}{Ds:List D}{Vs:List gX}{F:Nat->Nat->Prop}{R:List Nat}
theorem Kh (hS:TS T)(hs:s.Ok)(dT:bE s so o la ta pl mp P Sh three 0 0 0):
  cu T H 10 [.ptr so 0,.vs true 8 []] s (ES P Sh s so o la ta pl mp []):=by
 have lso:=dT.lt hs (j:=so) (.inl (.inl rfl));have bB:aC Nil s (s.bc (.var 97 (.agg [.ptr so 0,.vs true 8 [],.vs true 0 []]))):=(aC.refl hs).push _;have gB:(s.bc (.var 97 (.agg [.ptr so 0,.vs true 8 [],.vs true 0 []]))).get s.n=some (.var 97 (.agg [.ptr so 0,.vs true 8 [],.vs true 0 []])):=St.ba;generalize hsB:s.bc (.var 97 (.agg [.ptr so 0,.vs true 8 [],.vs true 0 []]))=sB at bB gB;have okB:=bB.ok;have lB:=okB.lt gB;have fin:∀ {s4:St} {q st:Nat},aC Nil sB s4->s4.get q=some (.arr 1 3 (ints (([]:List Nat).map Int.ofNat)) st)->st<=0->ES P Sh s so o la ta pl mp [] (.gJ [.sl q 0 0 0,.int .i64 0]) s4:=by
  intro s4 q st b4 g4 h4;have d3:=(dT.dU hs bB fun _ _ h=>h).dU okB b4 fun _ _ h=>h;exact⟨b4.ok,(bB.trans b4).mono (fun _ h=>h.elim),.inr ⟨q,st,three,IV,0,0,fun _ _=>False,[],rfl,g4,h4,d3,by omega,by decide,by omega,UZ,.nil,rfl,(fun k r t h=>by simp at h),.inl ⟨rfl,fun i t h=>by simp at h⟩,fun _ _ h=>h.elim⟩⟩
 refine ay hS.t10 ?_;try refine go ?_
 show eI T H _ _ _ (s.bc (.var 97 (.agg [.ptr so 0,.vs true 8 [],.vs true 0 []]))) _;rw [hsB];refine eT 0 (fun j=> [(0,.ptr so 0),(1,.vs true 8 []),(6,.ptr s.n 0),(24,.int .i64 0),(25,.int .i64 0)]) (fun j s' =>s' =sB) rfl ?_;rintro j s' hj rfl;try refine go ?_
 refine eT 0 (fun j=> [(0,.ptr so 0),(1,.vs true 8 []),(6,.ptr s.n 0),(35,.vs true 8 []),(36,.int .i64 0),(37,.int .i64 0)]) (fun j s'' =>s'' =s') rfl ?_;rintro j s' hj rfl;try refine go ?_
 refine eT 0 (fun j=> [(0,.ptr so 0),(6,.ptr s.n 0),(54,.vs true 8 []),(55,.int .i64 0),(56,.int .i64 0)]) (fun j s'' =>s'' =s') rfl ?_;rintro j s' hj rfl;try refine go ?_
 have h0:s'.get (s'.n+0)=none:=okB.fresh _ (an _);refine ox (dl:= .int .i64 ((0:Nat):Int)) (dc:= .int .i64 ((0:Nat):Int)) ju ju (an _) (by omega) (by simp only [aL]; omega) ?_;try refine go ?_
 refine Fc (yd:= .vs true 0 []) rfl ?_;try refine go ?_
 refine ai (fin (st:=0) ?_ (gI) (an _));exact bI
end
noncomputable section
def cd9:=RK.mk (a:=cf Tryz.f9 9)
def I9:=RK.mk (a:=cf Tryz.f11 11)
def Zg:=RK.mk (a:=cf Tryz.f23 23)
def Qq:=RK.mk (a:=cf Tryz.f24 24)
def WH:=RK.mk (a:=cf Tryz.f46 46)
def Y8:=RK.mk (a:=cf Tryz.f47 47)
def aaD:=RK.mk (a:=cf Tryz.f48 48)
def ZB:=RK.mk (a:=cf Tryz.f49 49)
def aaR:=RK.mk (a:=cf Tryz.f50 50)
def YD:=RK.mk (a:=cf Tryz.f51 51)
def Zd:=RK.mk (a:=cf Tryz.f52 52)
def Yt:=RK.mk (a:=cf Tryz.f53 53)
def Zl:=RK.mk (a:=cf Tryz.f54 54)
def Yh:=RK.mk (a:=cf Tryz.f55 55)
def aap:=RK.mk (a:=cf Tryz.f86 86)
def Z9:=RK.mk (a:=cf Tryz.f87 87)
def Yx:=RK.mk (a:=cf Tryz.f93 93)
def Zs:=RK.mk (a:=cf Tryz.f99 99)
def UG:=RK.mk (a:=cf Tryz.f141 141)
def UA:=RK.mk (a:=cf Tryz.f142 142)
def TR:=RK.mk (a:=cf Tryz.f143 143)
end
structure mw (T:Nat->Option dS):Prop where
 t9:T 9=some cd9.1
 t11:T 11=some I9.1
 t23:T 23=some Zg.1
 t24:T 24=some Qq.1
 t46:T 46=some WH.1
 t47:T 47=some Y8.1
 t48:T 48=some aaD.1
 t49:T 49=some ZB.1
 t50:T 50=some aaR.1
 t51:T 51=some YD.1
 t52:T 52=some Zd.1
 t53:T 53=some Yt.1
 t54:T 54=some Zl.1
 t55:T 55=some Yh.1
 t86:T 86=some aap.1
 t87:T 87=some Z9.1
 t93:T 93=some Yx.1
 t99:T 99=some Zs.1
 t141:T 141=some UG.1
 t142:T 142=some UA.1
 t143:T 143=some TR.1
noncomputable section
def aaf:=RK.mk (a:=cf Tryz.f88 88)
def Yy:=RK.mk (a:=cf Tryz.f89 89)
def Zp:=RK.mk (a:=cf Tryz.f90 90)
def Y5:=RK.mk (a:=cf Tryz.f96 96)
def aaI:=RK.mk (a:=cf Tryz.f97 97)
def YV:=RK.mk (a:=cf Tryz.f98 98)
def Ub:=RK.mk (a:=cf Tryz.f134 134)
def SN:=RK.mk (a:=cf Tryz.f137 137)
def Uc:=RK.mk (a:=cf Tryz.f138 138)
def SU:=RK.mk (a:=cf Tryz.f139 139)
def Tv:=RK.mk (a:=cf Tryz.f140 140)
def Tg:=RK.mk (a:=cf Tryz.f176 176)
def TI:=RK.mk (a:=cf Tryz.f177 177)
def U9:=RK.mk (a:=cf Tryz.f178 178)
def Ui:=RK.mk (a:=cf Tryz.f180 180)
def Th:=RK.mk (a:=cf Tryz.f181 181)
def UN:=RK.mk (a:=cf Tryz.f182 182)
def U5:=RK.mk (a:=cf Tryz.f183 183)
def Vi:=RK.mk (a:=cf Tryz.f220 220)
def SX:=RK.mk (a:=cf Tryz.f221 221)
def TL:=RK.mk (a:=cf Tryz.f222 222)
def Ij:=RK.mk (a:=cf Tryz.f223 223)
def Ty:=RK.mk (a:=cf Tryz.f224 224)
end
structure nH (T:Nat->Option dS):Prop where
 t88:T 88=some aaf.1
 t89:T 89=some Yy.1
 t90:T 90=some Zp.1
 t96:T 96=some Y5.1
 t97:T 97=some aaI.1
 t98:T 98=some YV.1
 t134:T 134=some Ub.1
 t137:T 137=some SN.1
 t138:T 138=some Uc.1
 t139:T 139=some SU.1
 t140:T 140=some Tv.1
 t176:T 176=some Tg.1
 t177:T 177=some TI.1
 t178:T 178=some U9.1
 t180:T 180=some Ui.1
 t181:T 181=some Th.1
 t182:T 182=some UN.1
 t183:T 183=some U5.1
 t220:T 220=some Vi.1
 t221:T 221=some SX.1
 t222:T 222=some TL.1
 t223:T 223=some Ij.1
 t224:T 224=some Ty.1
noncomputable section
def Yi:=RK.mk (a:=cf Tryz.f43 43)
def Z3:=RK.mk (a:=cf Tryz.f44 44)
def aaA:=RK.mk (a:=cf Tryz.f45 45)
def Yo:=RK.mk (a:=cf Tryz.f84 84)
def Zj:=RK.mk (a:=cf Tryz.f85 85)
def aaT:=RK.mk (a:=cf Tryz.f91 91)
def Zu:=RK.mk (a:=cf Tryz.f92 92)
def aaZ:=RK.mk (a:=cf Tryz.f94 94)
def Yz:=RK.mk (a:=cf Tryz.f95 95)
def NG:=RK.mk (a:=cf Tryz.f132 132)
def UX:=RK.mk (a:=cf Tryz.f133 133)
def T4:=RK.mk (a:=cf Tryz.f135 135)
def SE:=RK.mk (a:=cf Tryz.f136 136)
def U3:=RK.mk (a:=cf Tryz.f175 175)
end
structure nB (T:Nat->Option dS):Prop where
 t43:T 43=some Yi.1
 t44:T 44=some Z3.1
 t45:T 45=some aaA.1
 t84:T 84=some Yo.1
 t85:T 85=some Zj.1
 t91:T 91=some aaT.1
 t92:T 92=some Zu.1
 t94:T 94=some aaZ.1
 t95:T 95=some Yz.1
 t132:T 132=some NG.1
 t133:T 133=some UX.1
 t135:T 135=some T4.1
 t136:T 136=some SE.1
 t175:T 175=some U3.1
end Go.Proofs.Tab
namespace Go.Ab.Sm
open Go Go.Ab
inductive Row (s:St)(sz:Nat):D->List D->Prop
 | vs (nl:Bool) (z:Nat) (L:List D) (hz:z=sz\/L=[]):Row s sz (.vs nl z L) L
 | sl (o off cp ty st:Nat) (es L:List D) (hg:s.get o=some (.arr sz ty es st)) (hL:(es.drop off).take L.length=L) (h1:off+L.length<=es.length) (h2:st<=off+cp) (h3:L.length<=cp):Row s sz (.sl o off L.length cp) L
def New (s:St)(d:D):Prop:=∀o a l c,d= .sl o a l c->s.n<=o
variable {T:Nat->Option dS}{H:au}{b kk:Nat}{k:List je}{s:St}{Q:QP}{t sz:Nat}{e:Env}{ds:List (D×List D)}{g:Option (Nat×Bool)}{d:D}{L:List D}
theorem Row.items (h:Row s sz d L):∃z,items s d=some (z,L)/\(z=sz\/L=[]/\∃nl,d= .vs nl z []):=by
 rcases h with ⟨nl,z,L,hz⟩ | ⟨o,off,cp,ty,st,es,L,hg,hL,h1,h2,h3⟩
 ·exact⟨z,rfl,by rcases hz with hz | rfl; exact .inl hz; exact .inr ⟨rfl,nl,rfl⟩⟩
 ·refine⟨sz, ?_,.inl rfl⟩;have e1:Nat.ble (off+L.length) es.length=true:=aq h1;have e2:Nat.ble st (off+cp)=true:=aq h2;simp only [Ab.items,hg,e1,e2,hL]
theorem Row.sh (h:Row s sz d L):(∃nl z,d= .vs nl z L)\/∃o off cp,d= .sl o off L.length cp:=by
 rcases h with ⟨nl,z,L,hz⟩ | ⟨o,off,cp,ty,st,es,L,hg,hL,h1,h2,h3⟩
 ·exact .inl ⟨nl,z,rfl⟩
 ·exact .inr ⟨o,off,cp,rfl⟩
theorem Row.yS (h:Row s sz d L)(r:List D):yS (d::r)=false:=by
 rcases h.sh with ⟨nl,z,rfl⟩ | ⟨o,off,cp,rfl⟩ <;> rfl
theorem Row.len (h:Row s sz d L):o7 s 1 d=some L.length:=by
 rcases h with ⟨nl,z,L,hz⟩ | ⟨o,off,cp,ty,st,es,L,hg,hL,h1,h2,h3⟩ <;> rfl
theorem Row.at (h:Row s sz d L){j:Nat}{v:D}(hv:L[j]? =some v):∃p,j8 s sz d j=some p/\∀n,iR s n p=part v.flat 0 n:=by
 have hj:=(af.mp hv).1;rcases h with ⟨nl,z,L,hz⟩ | ⟨o,off,cp,ty,st,es,L,hg,hL,h1,h2,h3⟩
 ·rcases hz with rfl | rfl
  ·exact⟨.jE v 0,by simp only [j8,az,hv],fun n=>rfl⟩
  ·simp at hv
 ·have e0:Nat.blt j L.length=true:=aq (mi hj);have e1:Nat.ble (off+L.length) es.length=true:=aq h1;have e2:Nat.ble st (off+cp)=true:=aq h2;have e3:es[off+j]? =some v:=by
   rw [← hL,de,bJ (by omega),cW]at hv;exact hv
  exact⟨.jK o (off+j) 0 (off+cp),by simp only [j8,hg,az,e0,e1,e2],fun n=>by simp only [iR,hg,e2,e3]⟩
theorem Row.at' (h:Row s sz d L){j:Nat}{v:D}(hv:L[j]? =some v):∃p,j8 s sz d j=some p/\(∀n,iR s n p=part v.flat 0 n)/\(∀(e:Env) t,(bP.t t).ev ((t,p)::e)=some p)/\(match p with | .lv _=>true | _=>false)=false:=by
 obtain⟨p,h1,h2⟩:=h.at hv;refine⟨p,h1,h2, ?_⟩;rcases h with ⟨nl,z',L,hz⟩ | ⟨o,off,cp,ty,st,es,L,hg,hL,_,_,_⟩
 ·simp only [j8]at h1;split at h1
  ·split at h1
   ·cases h1; exact ⟨fun e t=>by simp [bP.ev,Env.get],rfl⟩
   ·cases h1
  ·cases h1
 ·simp only [j8,hg]at h1;split at h1
  ·cases h1; exact ⟨fun e t=>by simp [bP.ev,Env.get],rfl⟩
  ·cases h1
theorem Row.take (h:Row s sz d L){n:Nat}(hn:n<=L.length):∃d',u7 d 0 (some n) none=some d' /\Row s sz d' (L.take n)/\∀o a l c,d' = .sl o a l c->∃l' c',d= .sl o a l' c' :=by
 have e0:Nat.ble 0 n=true:=aq (aR _);rcases h with ⟨nl,z,L,hz⟩ | ⟨o,off,cp,ty,st,es,L,hg,hL,h1,h2,h3⟩
 ·have e1:Nat.ble n L.length=true:=aq hn;have e2:Nat.ble L.length L.length=true:=aq (an _);refine⟨.vs nl z (L.take n),by simp only [u7,Option.getD,e0,e1,e2,gv],.vs nl z _ ?_,fun o a l c h=>by cases h⟩;rcases hz with hz | rfl
  ·exact .inl hz
  ·exact .inr (by simp)
 ·have e1:Nat.ble n cp=true:=aq (by omega);have hl:(L.take n).length=n:=by rw [cR]; omega
  refine⟨.sl o off n cp,by simp only [u7,Option.getD,e0,e1,fP,Nat.sub_zero], ?_,fun o' a l c h=>by cases h; exact ⟨_,_,rfl⟩⟩;have:=Row.sl (s:=s) (sz:=sz) o off cp ty st es (L.take n) hg (by rw [hl]; rw [← hL,List.take_take]; congr 1; omega) (by omega) h2 (by omega);rwa [hl]at this
theorem Row.dU {W:Nat->Prop}{s1:St}(h:Row s sz d L)(hs:s.Ok)(hb:aC W s s1)(hw:∀o a l c,d= .sl o a l c-> ¬ W o):Row s1 sz d L:=by
 rcases h with ⟨nl,z,L,hz⟩ | ⟨o,off,cp,ty,st,es,L,hg,hL,h1,h2,h3⟩
 ·exact .vs nl z L hz
 ·exact .sl o off cp ty st es L (hb.get hs hg (hw _ _ _ _ rfl)) hL h1 h2 h3
theorem Row.ev {i:Nat}(h:Row s sz d L)(hg:e.get i=some d):(bP.t i).ev e=some d:=by
 rcases h.sh with ⟨nl,z,rfl⟩ | ⟨o,off,cp,rfl⟩ <;> simp only [bP.ev,hg]
theorem Row.lv (h:Row s sz d L):(match (generalizing:=false) d with | .lv _=>true | _=>false)=false:=by
 rcases h.sh with ⟨nl,z,rfl⟩ | ⟨o,off,cp,rfl⟩ <;> rfl
theorem I0 {i:Nat}{l:List bj}(h:gN T H b l k ⟨(t,d)::e,ds⟩ s Q)(hw:aI e g=some true:=by rfl)(hg:e.get i=some d:=by rfl)(hR:Row s sz d L:=by assumption):gN T H b (⟨some t,.mv (.t i),g,none⟩::l) k ⟨e,ds⟩ s Q:=
 dC h hw (by rcases hR.sh with ⟨nl,z,rfl⟩ | ⟨o,off,cp,rfl⟩ <;> simp only [cB,bP.zb,hg,nk])
theorem Et {i:Nat}{l:List bj}(h:gN T H b l k ⟨(t,.int .i64 (L.length:Nat))::e,ds⟩ s Q)(hw:aI e g=some true:=by rfl)(hg:e.get i=some d:=by rfl)(hR:Row s sz d L:=by assumption):gN T H b (⟨some t,.len 1 (.t i),g,none⟩::l) k ⟨e,ds⟩ s Q:=
 dC h hw (by have hx:=hR.ev hg; rcases hR with ⟨nl,z,L,hz⟩ | ⟨o,off,cp,ty,st,es,L,hg,hL,h1,h2,h3⟩ <;> simp only [cB,hx,o7,Fy])
theorem BY {x:Nat}{i:bP}{l:List bj}{n v w:D}{j t1 t2:Nat}{m:Option Nat}{g1 g2:Option (Nat×Bool)}(hR:Row s sz d L)(he:L[j]? =some v)(h:∀p,gN T H b l k ⟨(t2,w)::(t1,p)::e,ds⟩ s Q)(hp:part v.flat 0 m=some w:=by rfl)(hw:aI e g1=some true:=by rfl)(hg:e.get x=some d:=by rfl)(hi:i.ev e=some n:=by rfl)(hj:idx n=some j:=by first | exact ju | rfl | exact hZ (by omega))(Pu:∀p,aI ((t1,p)::e) g2=some true:=by intro p; rfl):gN T H b (⟨some t1,.nA sz (.t x) i,g1,none⟩::⟨some t2,.load m (.t t1),g2,none⟩::l) k ⟨e,ds⟩ s Q:=by
 have hx:=hR.ev hg;obtain⟨p,h1,h2,h3,_⟩:=hR.at' he;refine dC (d:=p) (s1:=s) ?_ hw (by simp only [cB,hx,hi,hj,h1,nk]);exact dC (h p) (Pu p) (by simp only [cB,iu,h3,h2,hp,nk])
theorem E8 {x:Nat}{hi:bP}{l:List bj}{n:D}{m:Nat}(hR:Row s sz d L)(hm:m<=L.length)(h:∀d',Row s sz d' (L.take m)->(∀o a l c,d' = .sl o a l c->∃l' c',d= .sl o a l' c')->gN T H b l k ⟨(t,d')::e,ds⟩ s Q)(hw:aI e g=some true:=by rfl)(hg:e.get x=some d:=by rfl)(Xh:hi.ev e=some n:=by rfl)(hj:idx n=some m:=by first | exact ju | rfl | exact hZ (by omega)):gN T H b (⟨some t,.H8 sz (.t x) none (some hi) none,g,none⟩::l) k ⟨e,ds⟩ s Q:=by
 have hx:=hR.ev hg;obtain⟨d',h1,h2,h3⟩:=hR.take hm;obtain⟨z,h4,h5⟩:=hR.items;refine dC (h d' h2 h3) hw ?_;have e1:uz e none=some none:=rfl;have e2:uz e (some hi)=some (some n):=by simp [uz,Xh]
 have e3:mq 0 none=some 0:=rfl;have e4:mq 0 (some n)=some m:=hj;rcases h5 with rfl | ⟨rfl,nl,rfl⟩
 ·simp only [cB,hx,e1,e2,e3,e4,h4,az,eM,gu,h1,nk]
 ·simp only [cB,hx,e1,e2,e3,e4,h4,kR,gu,h1,nk]
theorem SA {x:bP}{y:Nat}{l:List bj}{bytes ty z0:Nat}{es:List D}(hR:Row s sz d L)(ha:eG sz L=true)(hm:L.length<=aL)(h0:L=[]->gN T H b l k ⟨(t,.vs true z0 es)::e,ds⟩ s Q)(h1:L≠ []->gN T H b l k ⟨(t,.sl s.n 0 L.length L.length)::e,ds⟩ (s.bc (.arr sz ty L 0)) Q)
  (hw:aI e g=some true:=by rfl)(hx:x.ev e=some (.vs true z0 es):=by rfl)(hgy:e.get y=some d:=by rfl)(hs:s.Ok:=by exact oI)(hb:Nat.ble bytes 4096=true:=by rfl):gN T H b (⟨some t,.append sz bytes ty x (.t y),g,none⟩::l) k ⟨e,ds⟩ s Q:=by
 have hy:=hR.ev hgy;obtain⟨z,h4,h5⟩:=hR.items;by_cases hL:L=[]
 ·subst hL;exact Ov h4 (h0 rfl) hw hx hy hb
 ·rcases h5 with rfl | ⟨h5,_⟩
  ·exact DX h4 rfl hL ha hm (h1 hL) hw hx hy hs hb
  ·exact absurd h5 hL
theorem CW {x:bP}{r:List bP}{l:List D}(h1:x.ev e=some d)(h2:sK e r=some l:=by rfl):sK e (x::r)=some (d::l):=by simp only [sK,h1,h2]
theorem K1 {f:Nat}{args:List bP}{x:List D}{l:List bj}(hx:sK e args=some x)(h:Call T H f x (some t) b l k ⟨e,ds⟩ s Q)(hw:aI e g=some true:=by rfl):gN T H b (⟨some t,.call false f args,g,none⟩::l) k ⟨e,ds⟩ s Q:=zo h hw hx
theorem j7 {x:bP}{l:List bj}(dT:d.st=true)(h:gN T H b l k ⟨(t,.lv d)::e,ds⟩ s Q)(hw:aI e g=some true:=by rfl)(hx:x.ev e=some d:=by rfl)(hL:e.tU t=true:=by rfl):gN T H b (⟨some t,.nC x,g,none⟩::l) k ⟨e,ds⟩ s Q:=xP h hw hx (by rw [hL,dT]; rfl)
theorem fJ {a z c:Nat}{x v:bP}{cs l1:List D}{l:List bj}(dT:d.st=true)(h:gN T H b l k ⟨(a,.lv (.agg l1))::e,ds⟩ s Q)(hw:aI e g=some true:=by rfl)(hx:x.zb e=some (.iI a c):=by rfl)(hv:v.ev e=some d:=by rfl)(ha:e.get a=some (.lv (.agg cs)):=by rfl)(hz:Nat.beq d.flat.length z=true:=by rfl)(hb:Nat.ble (c+d.flat.length) cs.length=true:=by rfl)(ho:over cs c d.flat=l1:=by rfl):gN T H b (⟨none,.iY a z x v,g,none⟩::l) k ⟨e,ds⟩ s Q:=
 dW h hw hx hv ha hz (by simp only [D.over,dT,hb,ho])
theorem FW {x:Nat}{l:List bj}{bs:List UInt8}(hR:Row s 1 d L)(hc:lX L=some bs)(h:gN T H b l k ⟨(t,.str bs)::e,ds⟩ s Q)(hw:aI e g=some true:=by rfl)(hg:e.get x=some d:=by rfl):gN T H b (⟨some t,.kE (.t x),g,none⟩::l) k ⟨e,ds⟩ s Q:=by
 have hx:=hR.ev hg;obtain⟨z,h4,h5⟩:=hR.items;refine dC h hw ?_;rcases h5 with rfl | ⟨rfl,nl,rfl⟩
 ·simp only [cB,hx,h4,az,eM,hc]
 ·simp only [cB,hx,h4,kR,hc]
theorem pD {f:Nat}{x:List D}{dst:Option Nat}{l:List bj}{fr:Fr}(P:St->Prop)(hP:P s)(h:∀p,P p->Call T H f x dst b l k fr p Q):Call T H f x dst b l k fr s Q:=h s hP
theorem CB {ex:Ex}{fr:Fr}(P:St->Prop)(hP:P s)(h:∀p,P p->kZ T H ex k fr p Q):kZ T H ex k fr s Q:=h s hP
theorem My {a:AC}{fr:Fr}(P:St->Prop)(hP:P s)(h:∀p,P p->eI T H a k fr p Q):eI T H a k fr s Q:=h s hP
theorem Cs {l:List (bj×List Nat)}{acc:List Fp}{fr:Fr}(P:St->Prop)(hP:P s)(h:∀p,P p->fT T H b kk l acc k fr p Q):fT T H b kk l acc k fr s Q:=h s hP
theorem Row.sc (h:Row s sz d L):d.sc=true:=by
 rcases h.sh with ⟨nl,z,rfl⟩ | ⟨o,off,cp,rfl⟩ <;> rfl
def dnI (N:Nat)(F:Nat->Env)(I:Nat->St->Prop):Nat->Env->St->Prop:=fun m env s=>m<=N/\env=F m/\I m s
theorem Vx {bR:List Nat}{a:AC}{fr:Fr}{x y:D}(N:Nat)(F:D->D->Nat->Env)(I:Nat->St->Prop)(hI:I N s)(h:∀m s,m<=N->I m s->eI T H a (.loop (dnI N (F x y) I) bR m::k) ⟨F x y m,[]⟩ s Q)(hd:fr.defers=[]:=by rfl)(hF:fr.env.bR bR=F x y N:=by rfl)(hb:a.il=false:=by rfl):eI T H (.loop bR a) k fr s Q:=by
 refine cg (dnI N (F x y) I) N hd ⟨an _,hF,hI⟩ ?_ hb;rintro m env s ⟨hm,rfl,hI⟩;exact h m s hm hI
theorem W3 {N:Nat}{F:Nat->Env}{I:Nat->St->Prop}{bR:List Nat}{fr:Fr}{m:Nat}(hm:m+1<=N)(hI:I m s)(hd:fr.defers=[]:=by rfl)(hF:fr.env.bR bR=F m:=by rfl):kZ T H .normal (.loop (dnI N F I) bR (m+1)::k) fr s Q:=
 bg m (by omega) hd ⟨by omega,hF,hI⟩
section
variable {fp:Fp}{acc:List Fp}{q:List Nat}{l:List (bj×List Nat)}
theorem uJ {x:Nat}{i:bP}{n v w:D}{j t1 t2:Nat}{m:Option Nat}{g1 g2:Option (Nat×Bool)}{q2:List Nat}(hR:Row s sz d L)(he:L[j]? =some v)
  (h:∀p fp fp',fT T H b kk l (acc++ [fp]++ [fp']) k ⟨(t2,w)::(t1,p)::e,ds⟩ s Q)(hq:q=[]:=by rfl)(Ar:q2=[]:=by rfl)(hp:part v.flat 0 m=some w:=by rfl)(hw:aI e g1=some true:=by rfl)(hg:e.get x=some d:=by rfl)(hi:i.ev e=some n:=by rfl)(hj:idx n=some j:=by first | exact ju | rfl | exact hZ (by omega))(Pu:∀p,aI ((t1,p)::e) g2=some true:=by intro p; rfl)
  (kq:Env.cX e (some t1)=false:=by rfl)(qw:∀p,Env.cX ((t1,p)::e) (some t2)=false:=by intro p; rfl)(Sw:(match (generalizing:=false) w with | .lv _=>true | _=>false)=false:=by rfl):fT T H b kk ((⟨some t1,.nA sz (.t x) i,g1,none⟩,q)::(⟨some t2,.load m (.t t1),g2,none⟩,q2)::l) acc k ⟨e,ds⟩ s Q:=by
 have hx:=hR.ev hg;subst hq Ar;obtain⟨p,h1,h2,h3,h4⟩:=hR.at' he;refine fi (d:=p) (s1:=s) (Ct) kq (kF h4) ?_ hw (by simp only [cB,hx,hi,hj,h1,nk]) rfl;exact fi (d:=w) (s1:=s) Ct (qw p) (kF Sw) (h p _ _) (Pu p) (by simp only [cB,iu,h3,h2,hp,nk]) rfl
theorem EH {i:Nat}(h:fT T H b kk l (acc++ [fp]) k ⟨(t,d)::e,ds⟩ s Q)(hw:aI e g=some true:=by rfl)(hg:e.get i=some d:=by rfl)(hR:Row s sz d L:=by assumption)
  (hf:cE b e ⟨some t,.mv (.t i),g,none⟩=fp:=by exact fI)(hc:fg acc fp q=true:=by exact cI)(kq:Env.cX e (some t)=false:=by rfl):fT T H b kk ((⟨some t,.mv (.t i),g,none⟩,q)::l) acc k ⟨e,ds⟩ s Q:=by
 subst hf;exact fi hc kq (kF hR.lv) h hw (by rcases hR.sh with ⟨nl,z,rfl⟩ | ⟨o,off,cp,rfl⟩ <;> simp only [cB,bP.zb,hg,nk]) rfl
theorem tM {g P:Prop}(h:g)(f:Zq g->P:=by intro xB; (first | refine Go.Ab.Sm.go ?_ | refine I0 ?_ | refine Et ?_ | refine EH ?_); (repeat' first | refine Go.Ab.Sm.go ?_ | refine I0 ?_ | refine Et ?_ | refine EH ?_); exact xB.out):P:=f ⟨h⟩
end
end Go.Ab.Sm
namespace Go.Proofs.Tab
open Go Go.Ab Go.Ab.Sm
theorem Ws.row {s:St}{x:D}{V:List Nat}(h:Ws s x V):Row s 1 x (dz V):=by
 rcases h with ⟨nl,V,hn⟩ | _ | ⟨o,cp,V,R,hg,hc⟩
 ·exact .vs nl 1 _ (.inl rfl)
 ·exact .vs true 0 _ (.inr rfl)
 ·have:=Row.sl (s:=s) (sz:=1) o 0 cp _ 0 _ (dz V) hg (by simp) (by simp) (aR _) (by rw [cN]; exact hc);rwa [cN]at this
theorem Ws.new {s:St}{V:List Nat}(cC:V≠ []):Ws (s.bc (.arr 1 263 (dz V) 0)) (.sl s.n 0 (dz V).length (dz V).length) V:=by
 rw [cN];exact .sl s.n V.length V [] (by rw [dY]; exact St.ba) (an _)
theorem KL (ng:Bool)(V:List Nat):dZ ng V=(ng && decide (0 < (bU V).length),bU V):=by
 unfold dZ;split <;> rename_i h <;> simp [h]
theorem abY {s:St}{nl:Bool}{z:Nat}{L:List D}:New s (.vs nl z L):=fun o a l c h=>by cases h
theorem ab9 {s:St}{n m:Nat}:New s (.sl s.n 0 n m):=fun o a l c h=>by cases h; exact an _
section
variable {T:Nat->Option dS}{H:au}{s:St}
theorem N9 (hT:nB T){x:D}{V:List Nat}(hs:s.Ok)(hx:Row s 1 x (dz V))(hV:V.length<=aL):cu T H 132 [x] s fun d s1=>Ws s1 d (bU V)/\New s d/\aC Nil s s1:=by
 have lW:aL=2147483648:=rfl;have e0:decide (((0:Nat):Int) > 0)=false:=rfl;have hl:(dz V).length=V.length:=cN V;have fin:∀ {E:Env} {d' :D} {q:Nat} {x:D},bU V=V.take q->Row s 1 d' ((dz V).take q)->gN T H 0 [⟨some 23,.append 1 4 263 (.t 19) (.t 22),none,none⟩,m 2 23] [.seq (.ret)] ⟨(22,d')::(21,.int .i64 (q:Nat))::(20,x)::(19,.vs true 0 [])::E,[]⟩ s (QF NG.1.results fun d s1=>Ws s1 d (bU V)/\New s d/\aC Nil s s1):=by
  intro E d' q x h1 h2;rw [← List.map_take,← h1]at h2;refine SA h2 (pd _) (by rw [cN,h1,cR]; omega) (fun h3=> ?_) (fun h3=> ?_)
  ·try refine go ?_
   refine ai ⟨?_,abY,aC.refl hs⟩;rw [nV]at h3;rw [h3]; exact .nil
  ·try refine go ?_
   refine ai ⟨?_,ab9,(aC.refl hs).push _⟩;exact Ws.new (by simpa using h3)
 refine ay hT.t132 ?_ (hx.yS _);try refine tM ?_
 refine cg (fun m env s' =>s' =s/\m<=(dz V).length/\env=[(0,x),(2,.vs true 0 []),(3,.int .i64 (m:Nat))]/\bU (V.take m)=bU V) (dz V).length rfl ⟨rfl,an _,rfl,by rw [hl,eD]⟩ ?_;rintro m env s' ⟨rfl,hm,rfl,ht⟩;rw [hl]at hm;cases m with
 | zero=>
  try refine tM ?_
  refine E8 hx (m:=0) (aR _) fun d' h1 h2=> ?_;exact fin (q:=0) (by rw [← ht]; rfl) h1
 | succ m=>
  have dQ:m < V.length:=by omega
  have hd:=eR (((m+1:Nat):Int) > 0);have hw:IntKind.wrap .i64 (((m+1:Nat):Int) - 1)=(m:Nat):=by rw [wrap_small (by omega) (by omega)]; omega
  have he:(dz V)[m]? =some (.int .u32 (V[m]:Nat)):=pG dQ;by_cases h0:V[m]=0
  ·have hb:((V[m]:Int)==0)=true:=by simpa using h0
   try refine tM ?_
   simp only [hw];refine BY hx he fun p=> ?_;try refine tM ?_
   simp only [hw];refine bg m (by omega) rfl ⟨rfl,by omega,rfl, ?_⟩;rw [← ht,oK V dQ,h0,lR]
  ·have hb:((V[m]:Int)==0)=false:=by simpa using h0
   have e1:bU V=V.take (m+1):=by rw [← ht,oK V dQ,lN h0]
   try refine tM ?_
   simp only [hw];refine BY hx he fun p=> ?_;try refine tM ?_
   refine E8 hx (m:=m+1) (by rw [hl]; omega) fun d' h1 h2=> ?_;exact fin (q:=m+1) e1 h1
theorem uO (hT:nB T){x:D}{V:List Nat}{ng:Bool}(hs:s.Ok)(hx:Row s 1 x (dz V))(hV:V.length<=aL):cu T H 85 [.bool ng,x] s fun d s1=>qQ s1 d (dZ ng V)/\aC Nil s s1:=by
 have ht:=N9 (H:=H) hT hs hx hV;have fin:∀d s1,Ws s1 d (bU V)->∀c,c=(ng && decide (0 < (bU V).length))->qQ s1 (.agg [.bool c,d]) (dZ ng V):=fun d s1 h c hc=>by rw [KL,hc]; exact ⟨_,rfl,h⟩
 have hl:=cN (bU V);rcases hx.sh with ⟨nl,z,rfl⟩ | ⟨o,off,cp,rfl⟩
 all_goals
  refine ay hT.t85 ?_;try refine go ?_
  refine ak ht ?_;rintro d s1 ⟨h1,h2,h3⟩;rcases h1.row.sh with ⟨nl,z,rfl⟩ | ⟨o,off,cp,rfl⟩ <;> cases ng
  all_goals
   try refine go ?_
   refine ai ⟨fin _ _ h1 _ ?_,h3⟩;simp [hl]
theorem ud (hT:nB T){d:D}{n:Bool×List Nat}(hs:s.Ok)(hx:qQ s d n)(hV:n.2.length<=aL):cu T H 45 [d] s fun d s1=>qQ s1 d (dZ n.1 n.2)/\aC Nil s s1:=by
 obtain⟨y,rfl,hy⟩:=hx;have hm:=uO (H:=H) (ng:=n.1) hT hs hy.row hV;rcases hy.row.sh with ⟨nl,z,rfl⟩ | ⟨o,off,cp,rfl⟩
 all_goals
  refine ay hT.t45 ?_;try refine go ?_
  refine ak hm ?_;rintro d s1 ⟨⟨y2,rfl,h1⟩,h2⟩;rcases h1.row.sh with ⟨nl,z,rfl⟩ | ⟨o,off,cp,rfl⟩
  all_goals
   try refine go ?_
   exact ai ⟨⟨_,rfl,h1⟩,h2⟩
theorem FO (hT:nB T){v:Int}(hs:s.Ok)(hv:v=0\/v=1\/v= -7):cu T H 92 [.int .i64 v] s fun d s1=>(∃n,qQ s1 d n/\n.2.length<=2)/\aC Nil s s1:=by
 have le:∀(ng:Bool) (a b:Nat),(dZ ng [a,b]).2.length<=2:=fun ng a b=>l7 ng [a,b];have lW:2<=aL:=by decide
 refine ay hT.t92 ?_;rcases hv with rfl | rfl | rfl
 ·try refine go ?_
  refine ak (uO (V:=[0,0]) hT hs (.vs false 1 _ (.inl rfl)) lW) ?_;rintro d s1 ⟨⟨y2,rfl,h1⟩,h2⟩;rcases h1.row.sh with ⟨nl,z,rfl⟩ | ⟨o,off,cp,rfl⟩
  all_goals
   try refine go ?_
   exact ai ⟨⟨_,⟨_,rfl,h1⟩,le _ _ _⟩,h2⟩
 ·try refine go ?_
  refine ak (uO (V:=[1,0]) hT hs (.vs false 1 _ (.inl rfl)) lW) ?_;rintro d s1 ⟨⟨y2,rfl,h1⟩,h2⟩;rcases h1.row.sh with ⟨nl,z,rfl⟩ | ⟨o,off,cp,rfl⟩
  all_goals
   try refine go ?_
   exact ai ⟨⟨_,⟨_,rfl,h1⟩,le _ _ _⟩,h2⟩
 ·try refine go ?_
  refine ak (uO (V:=[7,0]) hT hs (.vs false 1 _ (.inl rfl)) lW) ?_;rintro d s1 ⟨⟨y2,rfl,h1⟩,h2⟩;rcases h1.row.sh with ⟨nl,z,rfl⟩ | ⟨o,off,cp,rfl⟩
  all_goals
   try refine go ?_
   exact ai ⟨⟨_,⟨_,rfl,h1⟩,le _ _ _⟩,h2⟩
end
end Go.Proofs.Tab
