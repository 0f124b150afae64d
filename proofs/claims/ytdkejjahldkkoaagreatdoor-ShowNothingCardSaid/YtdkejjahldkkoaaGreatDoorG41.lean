/- Part. -/
import Derived.Test.YtdkejjahldkkoaaGreatDoorG40
set_option linter.unusedSectionVars false
set_option maxRecDepth 100000
set_option maxHeartbeats 2000000
set_option linter.unusedSimpArgs false
set_option linter.unusedVariables false
namespace Go.Proofs.Tab
open Go Go.Ab Go.Ab.Sm
section
variable {T:Nat->Option dS}{H:au}{s:St}{P Sh:Nat}
@[reducible] def P0 (kd:Int) (b:Bool):D:=rv kd 0 b false (.vs true 0 []) [] (.vs true 0 []) .cT 0 0 .cT .cT 0 false false
theorem Si (hS:mw T)(hs:s.Ok)(hP:P<=65536)(Lk:Sh<=256):cu T H 9 [.agg [.int .i64 0,.int .i64 (P:Nat),.int .i64 (Sh:Nat),.vs true 0 [],.vs true 0 []]] s fun d s1=>
  (∃wo oL cm,d= .gJ [.ptr wo 0,.int .i64 0]/\jT s1 wo oL cm P Sh 0 [P0 1 false,P0 2 false,P0 2 true]/\s.n<=wo/\s.n<=oL/\s.n<=cm)/\aC Nil s s1:=by
 have d1:=cM ((P:Int) < 0);have d2:=cM ((P:Int) > 65536);have d3:=cM ((Sh:Int) < 0);have d4:=cM ((Sh:Int) > 256);refine ay hS.t9 ?_;refine run_seq ?_;refine ma ?_;refine j7 rfl ?_;try refine go ?_
 refine CB (fun p=>p.get (s.n+1)=some (.var 88 (.agg [.sl (s.n+2) 0 3 3,.int .i64 0,.int .i64 0,.int .i64 (P:Nat),.int .i64 (Sh:Nat),.vs true 0 [],.vs true 0 [],.ptr s.n 0]))/\p.get (s.n+2)=some (.arr 22 94 [P0 1 false,P0 2 false,P0 2 true] 0)/\jF p s.n/\aC Nil s p) ⟨gI,gI,⟨0,0,0,0,gI⟩,bI⟩ ?_;rintro p ⟨g1,g2,g3,bp⟩;refine ai ⟨⟨s.n+1,s.n+2,s.n,rfl,⟨g1,⟨0,g2,aR _⟩,fun d hd=> ?_,g3,by simp⟩,by omega,by omega,by omega⟩,bp⟩;simp only [bS,eZ,kI]at hd;rcases hd with rfl | rfl | rfl <;> exact kK .nil (aR _)
end
theorem A5.ok {nl:Bool}{tms:List Tm}(h:A5 nl tms)(h1:tms.length<=200)(h2:∀t∈tms,Gg 20000 t):Bu tms:=
 ⟨h1,fun u hu=>⟨⟨h.n1 u hu,h.n2 u hu,by have:=(h2 u hu).2.2; omega,by have:=(h2 u hu).2.1; omega,by have:=(h2 u hu).1; omega⟩,h.wd u hu⟩⟩
theorem Bu.m {tms:List Tm}(h:Bu tms):∀u∈tms,u.Ok:=fun u hu=>(h.ok u hu).1
section
variable {T:Nat->Option dS}{H:au}{s s1:St}{tms:List Tm}{Sh P:Nat}
def SlN (x:D):Prop:=x= .vs true 0 []\/∃o n c,x= .sl o 0 n c
theorem Iy (hH:TH T)(hS:TS T)(XU:TT T)(hP:TP T)(hW:TW T)(hV:TV T)(hX:TX T)(hU:TU T H)(hRW:nB T)(hRT:nH T)(Zw:mw T)(hs:s.Ok){nl:Bool}(hI:A5 nl tms)(hT:Bu tms)(hl:∀t∈tms,Gg 20000 t):
  cu T H 6 [.vs nl 8 (tms.map Tm.d)] s fun d s1=>s1.Ok/\∃so o la ta pl mp Ds n lv tk x wo y,d= .gJ [.ptr so 0,x,.ptr wo 0,y,.bool true]/\SlN x/\SlN y/\bE s1 so o la ta pl mp 60000 4 Ds n lv tk:=by
 have hlen:=hT.len
 have VN:∀ {s:St} {so o la ta pl mp:Nat},s.Ok->bE s so o la ta pl mp 60000 4 three 0 0 0->cu T H 10 [.ptr so 0,.vs nl 8 (tms.map Tm.d)] s (ES 60000 4 s so o la ta pl mp tms):=fun h1 h2=>by
  cases nl with
  | true=>
   obtain rfl:=hI.nil rfl;exact Kh hS h1 h2
  | false=>exact Mp hS XU hP hW hV hX hU h1 h2 hT (by omega) (by omega) (by omega)
 refine ay hH.t6 ?_;try refine go ?_
 refine ak (Wk hS hs (P:=60000) (Sh:=4) (by omega) (by omega)) ?_;rintro d s1 ⟨so,o,la,ta,pl,mp,rfl,dT,Y0,b1⟩;have ok1:=b1.ok;try refine go ?_
 refine ak (Si Zw ok1 (P:=60000) (Sh:=4) (by omega) (by omega)) ?_;rintro d s2 ⟨⟨wo,oL,cm,rfl,hr,m1,m2,m3⟩,b2⟩;have ok2:=b2.ok;have pB:=dT.dU ok1 b2 fun _ _ h=>h;try refine go ?_
 refine ak (VN ok2 pB) ?_;rintro d s3 ⟨ok3,b3,hB⟩;have nof:∀j,s1.n<=j-> ¬ bw so o la ta pl j:=fun j hj h=>by have:=dT.lt ok1 (j:=j) (.inl h); omega
 have XH:jT s3 wo oL cm 60000 4 0 [P0 1 false,P0 2 false,P0 2 true]:=hr.dU ok2 b3 (nof _ m1) (nof _ m2) (hr.ct.dU ok2 b3 (nof _ m3)) fun j es st hg=>pB.u32 ⟨es,st,hg⟩;have hrb:=K7 (H:=H) (nz:=nl) hRW hRT Zw ok3 XH rfl hT.m (fun u hu=>(hl u hu).1) (by omega) (by omega) (by omega) (by omega)
 have Wz:∀ {s4:St},∀j,(bw so o la ta pl j\/j=mp)-> ¬ yZ wo oL cm j:=fun j hj=>by
  have:=dT.lt ok1 hj;rintro (h | h | h) <;> omega
 rcases hB with ⟨e,he,FA,rfl,G9⟩ | ⟨q,st,Ds,Vs,n,tk,F,R,rfl,gq,hq,G9,hn,pL,zP,MZ,hma,hRl,Kj,FA,hFn⟩
 ·try refine go ?_
  refine ak hrb ?_;rintro d s4 ⟨hR,b4⟩;rcases hR with ⟨e',Ol,Nn,rfl⟩ | ⟨Nn,_⟩
  ·obtain rfl:=FA.one Nn;try refine go ?_
   refine ai ⟨b4.ok,so,o,la,ta,pl,mp,_,_,_,_,_,wo,_,rfl,.inl rfl,.inl rfl,G9.dU ok3 b4 (Wz (s4:=s4))⟩
  ·exact absurd (FA.one Nn) he
 ·try refine go ?_
  refine ak hrb ?_;rintro d s4 ⟨hR,b4⟩;rcases hR with ⟨e',Ol,Nn,rfl⟩ | ⟨_,x,R',last,L,rfl,hx,abw,hr4⟩
  ·exact absurd (Nn.one FA) Ol
  have cC:((R.length:Int)==(R'.length:Int))=true:=by rw [hRl,abw]; simp
  rcases hx with _ | ⟨gx,hxn⟩
  ·try refine go ?_
   refine ai ⟨b4.ok,so,o,la,ta,pl,mp,_,_,_,_,_,wo,_,rfl,.inr ⟨_,_,_,rfl⟩,.inl rfl,G9.dU ok3 b4 (Wz (s4:=s4))⟩
  ·try refine go ?_
   refine ai ⟨b4.ok,so,o,la,ta,pl,mp,_,_,_,_,_,wo,_,rfl,.inr ⟨_,_,_,rfl⟩,.inr ⟨_,_,_,rfl⟩,G9.dU ok3 b4 (Wz (s4:=s4))⟩
end
section
variable {T:Nat->Option dS}{H:au}{s:St}{so o la ta pl mp P Sh n lv tk:Nat}{Ds:List D}{v:Int}
theorem get_nil (hT:TS T):cu T H 22 [.cT,.int .i64 v] s fun d s1=>d= .nv/\s1=s:=by
 refine ay hT.t22 ?_;try refine go ?_
 exact ai ⟨rfl,rfl⟩
theorem QR (hT:TS T)(h:bE s so o la ta pl mp P Sh Ds n lv tk)(hv:v < 0):cu T H 22 [.ptr so 0,.int .i64 v] s fun d s1=>d= .nv/\s1=s:=by
 obtain⟨h1,h2,h3,⟨g1,g2,g3,k1,k2,k3⟩,h5⟩:=h;have hd:=cM (v >= 0);refine ay hT.t22 ?_
 repeat' first | refine go ?_ | refine gP hT.t42 ?_ | refine gP hT.t83 ?_
 exact ai ⟨rfl,rfl⟩
def Ly (T:Nat->Option dS)(sp:D)(v:Int)(s:St):Prop:=∀ {H:au} {s1:St},aC Nil s s1->cu T H 22 [sp,.int .i64 v] s1 fun d s2=>d= .nv/\s2=s1
theorem xp (hT:TS T):Ly T .cT v s:=fun _=>get_nil hT
theorem HG (hT:TS T)(hs:s.Ok)(h:bE s so o la ta pl mp P Sh Ds n lv tk)(hv:v < 0):Ly T (.ptr so 0) v s:=fun hb=>QR hT (h.dU hs hb fun _ _ h=>h) hv
theorem Ly.dU {sp:D}{s1:St}(h:Ly T sp v s)(hb:aC Nil s s1):Ly T sp v s1:=fun h1=>h (hb.trans h1)
def K2 (sp:D):Prop:=sp= .cT\/∃so,sp= .ptr so 0
theorem KA (hH:TH T){sp:D}(zD:K2 sp)(hs:s.Ok)(hn:Ly T sp v s):cu T H 56 [sp,.int .i64 v] s fun d s1=>d= .nv/\s1=s:=by
 have hg:=hn (H:=H) (aC.refl hs);rcases zD with rfl | ⟨so,rfl⟩
 all_goals
  refine ay hH.t56 ?_;try refine go ?_
  refine ak hg ?_;rintro d s1 ⟨rfl,rfl⟩;try refine go ?_
  exact ai ⟨rfl,rfl⟩
theorem WT (hH:TH T){sp:D}(zD:K2 sp)(hs:s.Ok)(hn:Ly T sp v s):cu T H 66 [sp,.int .i64 v] s fun d s1=>d= .str []/\s1=s:=by
 have hg:=hn (H:=H) (aC.refl hs);rcases zD with rfl | ⟨so,rfl⟩
 all_goals
  refine ay hH.t66 ?_;try refine go ?_
  refine ak hg ?_;rintro d s1 ⟨rfl,rfl⟩;try refine go ?_
  exact ai ⟨rfl,rfl⟩
theorem Rr (hS:TS T){sp:D}(zD:K2 sp)(hs:s.Ok)(hn:Ly T sp v s):cu T H 12 [sp,.int .i64 v] s fun d s1=>d= .gJ [.str [],.bool false]/\s1=s:=by
 have hg:=hn (H:=H) (aC.refl hs);rcases zD with rfl | ⟨so,rfl⟩
 all_goals
  refine ay hS.t12 ?_;try refine go ?_
  refine ak hg ?_;rintro d s1 ⟨rfl,rfl⟩;try refine go ?_
  exact ai ⟨rfl,rfl⟩
theorem NH (hH:TH T){sp yl:D}{o2:Nat}(zD:K2 sp)(hs:s.Ok)(hn:Ly T sp v s)(hp:s.get o2=some (.var 115 (.agg [sp,yl,.vs true 0 [],.bool true]))):
  cu T H 26 [.ptr o2 0,.int .i64 v] s fun _ s1=>aC Nil s s1:=by
 have b1:aC Nil s (s.bc (.var 113 (.ptr o2 0))):=(aC.refl hs).push _;have ho:=KA (H:=H) hH zD b1.ok (hn.dU b1);have ht:=WT (H:=H) hH zD b1.ok (hn.dU b1);have lp:=hs.lt hp;rcases zD with rfl | ⟨so,rfl⟩
 all_goals
  refine ay hH.t26 ?_;try refine go ?_
  refine ak ho ?_;rintro d s1 ⟨rfl,rfl⟩;try refine go ?_
  refine ak ht ?_;rintro d s1 ⟨rfl,rfl⟩;try refine go ?_
  exact gU b1
theorem Xi (hH:TH T){sp:D}{k b1 b2:Nat}(zD:K2 sp)(hs:s.Ok)(hn:Ly T sp v s)(g1:s.get b1=some (.var 25 sp))(g2:s.get b2=some (.var 3 (.int .i64 v))):
  cu T H 25 [.yl k,.ptr b1 0,.ptr b2 0] s fun _ s1=>aC Nil s s1:=by
 have b3:aC Nil s (s.bc (.var 115 (.agg [sp,.yl k,.vs true 0 [],.bool true]))):=(aC.refl hs).push _;have hv:=NH (H:=H) (o2:=s.n) hH zD b3.ok (hn.dU b3) St.ba;have l1:=hs.lt g1; have l2:=hs.lt g2;rcases zD with rfl | ⟨so,rfl⟩
 all_goals
  refine ay hH.t25 ?_;try refine go ?_
  refine ak hv ?_;rintro d s1 b4;try refine go ?_
  exact gU (b3.trans b4)
theorem sL (hH:TH T)(hS:TS T)(hX:TX T){sp:D}{pn:Bool}(zD:K2 sp)(hs:s.Ok)(hn:Ly T sp v s):cu T H 7 [sp,.int .i64 v,.bool pn] s fun d s1=>d= .str []/\aC Nil s s1:=by
 have BZ:=Rr (H:=H) hS zD hs hn;have bp:aC Nil s (((s.bc (.var 54 (.agg [.cT,.vs true 0 []]))).bc (.var 25 sp)).bc (.var 3 (.int .i64 v))):=(((aC.refl hs).push _).push _).push _;have g0:(((s.bc (.var 54 (.agg [.cT,.vs true 0 []]))).bc (.var 25 sp)).bc (.var 3 (.int .i64 v))).get s.n=some (.var 54 (.agg [.cT,.vs true 0 []])):=gI;have g1:(((s.bc (.var 54 (.agg [.cT,.vs true 0 []]))).bc (.var 25 sp)).bc (.var 3 (.int .i64 v))).get (s.n+1)=some (.var 25 sp):=St.fh St.ba (by simp only [St.dN]; omega);have g2:(((s.bc (.var 54 (.agg [.cT,.vs true 0 []]))).bc (.var 25 sp)).bc (.var 3 (.int .i64 v))).get (s.n+1+1)=some (.var 3 (.int .i64 v)):=St.ba
 have key:∀ {p:St} {E:Env} {k:List je} {Q:QP} {ps:List Nat} {a c:AC} {bR:List Nat},aC Nil s p->p.get s.n=some (.var 54 (.agg [.cT,.vs true 0 []]))->p.get (s.n+1)=some (.var 25 sp)->p.get (s.n+1+1)=some (.var 3 (.int .i64 v))->
   bP.ev E (.t 24)=some (.fn (.func 25) [] [.ptr (s.n+1) 0,.ptr (s.n+1+1) 0])->(E.bR bR).plain=true->(∀p2,aC Nil s p2->p2.get s.n=some (.var 54 (.agg [.cT,.vs true 0 []]))->kZ T H .normal k ⟨E,[(.mf,[])]⟩ p2 Q)->
   eI T H (.iA bR (.t 24) ps a c) k ⟨E,[]⟩ p Q:=by
  intro p E k Q ps a c bR bp g0 g1 g2 he hk hq;have okp:=bp.ok;refine qU (fun Y _=> ?_) he okp.ro hk;have b2:aC Nil p ((p.bc .dead).bc (.loop p.n .ready)):=((aC.refl okp).push _).push _;refine (Xi (H:=Y) hH zD b2.ok (hn.dU (bp.trans b2)) (b2.get okp g1 fun h=>h) (b2.get okp g2 fun h=>h)).mono ?_;intro d p2 b3;have gl:=b3.get b2.ok (St.ba (s:=p.bc .dead) (x:= .loop p.n .ready)) fun h=>h;have lp:=okp.lt g0;have b4:aC (fun j=>j=p.n+1) p2 (p2.bD (p.n+1) .dead):=aC.set (aC.refl b3.ok) _ (b3.ok.lt gl) (fun _=>rfl);have b5:aC Nil p (p2.bD (p.n+1) .dead):=(b2.trans b3).trans' b4 fun o h1 h2=>by omega
  exact⟨.ready,.normal,_,gl,rfl,b3.ok.set _ _,hq _ (bp.trans b5) (b5.get okp g0 fun h=>h)⟩
 have fin:∀ {p:St},aC Nil s p->p.get s.n=some (.var 54 (.agg [.cT,.vs true 0 []]))->cu T H 16 [.ptr s.n 0] p fun d s1=>d= .str []/\aC Nil s s1:=fun {p} b g=>
  (Bc (y:= .vs true 0 []) (m:=[]) hX b.ok ⟨⟨.cT,.inl rfl,g⟩,.inl ⟨rfl,rfl⟩⟩ (by simp)).mono fun d s1 ⟨e,b2⟩=>⟨e,b.trans' b2 fun o h1 h2=>by
   rcases h1 with rfl | ⟨l,c,h⟩
   ·omega
   ·cases h⟩
 clear bp g0 g1 g2;rcases zD with rfl | ⟨so,rfl⟩
 all_goals
  refine ay hH.t7 ?_;try refine go ?_
  refine ak BZ ?_;rintro d s1 ⟨rfl,rfl⟩
  repeat' first | refine go ?_ | refine gP hH.t13 ?_
  refine key ((((aC.refl hs).push _).push _).push _) (gI) (St.fh St.ba (by simp only [St.dN]; omega)) St.ba rfl rfl ?_;intro p2 b2 g2;try refine go ?_
  refine ak (fin b2 g2) ?_;rintro d s2 ⟨rfl,b3⟩;try refine go ?_
  exact ai ⟨rfl,b3⟩
end
section
variable {T:Nat->Option dS}{H:au}{s s1:St}{tms:List Tm}{v:Int}{pn:Bool}
theorem WL (hH:TH T)(hS:TS T)(XU:TT T)(hP:TP T)(hW:TW T)(hV:TV T)(hX:TX T)(hU:TU T H)(hRW:nB T)(hRT:nH T)(Zw:mw T)(haw:∀s,cu T H 5 [] s fun d s1=>d= .bool true/\s1=s)(hs:s.Ok){nl:Bool}(hI:A5 nl tms)(qw: -9223372036854775808<=v)(Sw:v<=9223372036854775807):
  cu T H 3 [.vs nl 8 (tms.map Tm.d),.int .i64 v,.bool pn] s fun d _=>d= .bool true:=by
 refine ay hH.t3 ?_;try refine go ?_
 refine ak (Hi hH hs hI.len hI.ls) ?_;rintro d s1 ⟨rfl,b,rfl,hb⟩;cases b;rotate_left
 ·try refine go ?_
  refine ak (haw _) ?_;rintro d s2 ⟨rfl,rfl⟩;try refine go ?_
  exact ai rfl
 obtain⟨h1,h2⟩:=hb rfl;by_cases y8:v >= 0
 ·have hd:decide (v >= 0)=true:=cK y8;have hw:IntKind.wrap .i64 (-1 - v)= -1 - v:=wrap_small (by omega) (by omega);have hu: -1 - v < 0:=by omega
  try refine go ?_
  rw [hw];clear hw hd y8 qw Sw;generalize -1 - v=u at hu ⊢;refine ak (Iy hH hS XU hP hW hV hX hU hRW hRT Zw hs hI (hI.ok h1 h2) h2) ?_;rintro d s2 ⟨ok2,so,o,la,ta,pl,mp,Ds,n,lv,tk,x,wo,y,rfl,hx,hy,sa⟩;rcases hx with rfl | ⟨q1,q2,q3,rfl⟩ <;> rcases hy with rfl | ⟨q4,q5,q6,rfl⟩
  all_goals
   try refine go ?_
   refine ak (sL hH hS hX (.inl rfl) ok2 (xp hS)) ?_;rintro d s3 ⟨rfl,b3⟩;try refine go ?_
   refine ak (sL hH hS hX (.inl rfl) b3.ok (xp hS)) ?_;rintro d s4 ⟨rfl,b4⟩;have b5:=b3.trans b4;try refine go ?_
   refine ak (sL hH hS hX (.inr ⟨so,rfl⟩) b4.ok (HG hS b4.ok (sa.dU ok2 b5 fun _ _ h=>h) hu)) ?_;rintro d s6 ⟨rfl,b6⟩;try refine go ?_
   refine ak (haw _) ?_;rintro d s7 ⟨rfl,rfl⟩;try refine go ?_
   exact ai rfl
 ·have hd:decide (v >= 0)=false:=bk y8;have hu:v < 0:=by omega
  try refine go ?_
  clear hd y8 qw Sw;refine ak (Iy hH hS XU hP hW hV hX hU hRW hRT Zw hs hI (hI.ok h1 h2) h2) ?_;rintro d s2 ⟨ok2,so,o,la,ta,pl,mp,Ds,n,lv,tk,x,wo,y,rfl,hx,hy,sa⟩;rcases hx with rfl | ⟨q1,q2,q3,rfl⟩ <;> rcases hy with rfl | ⟨q4,q5,q6,rfl⟩
  all_goals
   try refine go ?_
   refine ak (sL hH hS hX (.inl rfl) ok2 (xp hS)) ?_;rintro d s3 ⟨rfl,b3⟩;try refine go ?_
   refine ak (sL hH hS hX (.inl rfl) b3.ok (xp hS)) ?_;rintro d s4 ⟨rfl,b4⟩;have b5:=b3.trans b4;try refine go ?_
   refine ak (sL hH hS hX (.inr ⟨so,rfl⟩) b4.ok (HG hS b4.ok (sa.dU ok2 b5 fun _ _ h=>h) hu)) ?_;rintro d s6 ⟨rfl,b6⟩;try refine go ?_
   refine ak (haw _) ?_;rintro d s7 ⟨rfl,rfl⟩;try refine go ?_
   exact ai rfl
end
end Go.Proofs.Tab
