/- Part. -/
import Derived.Test.YtdkejjahldkkoaaGreatDoorG36
set_option linter.unusedSectionVars false
set_option maxRecDepth 100000
set_option maxHeartbeats 2000000
set_option linter.unusedSimpArgs false
set_option linter.unusedVariables false
namespace Go.Proofs.Tab
open Go Go.Ab Go.Ab.Sm
@[reducible] def rv (kd num:Int) (b ng:Bool) (mag:D) (tx:List UInt8) (items dd:D) (cls base:Int) (fo sp:D) (of' :Int) (hh ss:Bool):D:= .agg [.int .i64 kd,.int .i64 num,.bool false,.bool b,.bool ng,mag,.str tx,items,dd,.int .i64 0,.vs true 0 [],.int .i64 0,.int .i64 0,.int .i64 cls,.int .i64 base,fo,sp,.int .i64 of',.cT,.bool false,.bool hh,.bool ss]
def sN (s:St)(d:D):Prop:=∃kd num b ng mag tx items dd cls base fo sp of' hh ss V,d=rv kd num b ng mag tx items dd cls base fo sp of' hh ss/\Ws s mag V/\V.length<=60000/\items.sc=true/\dd.sc=true/\fo.sc=true/\sp.sc=true
theorem sN.st {s:St}{d:D}(h:sN s d):d.st=true:=by
 obtain⟨kd,num,b,ng,mag,tx,items,dd,cls,base,fo,sp,of',hh,ss,V,rfl,h1,h2,h3,h4,h5,h6⟩:=h;simp only [rv,D.st,gQ,List.all_nil,h1.row.sc,h3,h4,h5,h6]; rfl
theorem sN.dU {W:Nat->Prop}{s s1:St}{d:D}(h:sN s d)(hs:s.Ok)(hb:aC W s s1)(hw:∀j es st,s.get j=some (.arr 1 263 es st)-> ¬ W j):sN s1 d:=by
 obtain⟨kd,num,b,ng,mag,tx,items,dd,cls,base,fo,sp,of',hh,ss,V,rfl,h1,h2⟩:=h;exact⟨kd,num,b,ng,mag,tx,items,dd,cls,base,fo,sp,of',hh,ss,V,rfl,h1.dU hs hb hw,h2⟩
structure jT (s:St)(wo oL cm P Sh:Nat)(last:Int)(L:List D):Prop where
 go:s.get wo=some (.var 88 (.agg [.sl oL 0 L.length L.length,.int .i64 last,.int .i64 0,.int .i64 (P:Nat),.int .i64 (Sh:Nat),.vs true 0 [],.vs true 0 [],.ptr cm 0]))
 gl:∃st,s.get oL=some (.arr 22 94 L st)/\st<=L.length
 vs:∀d∈L,sN s d
 ct:jF s cm
 nn:L≠ []
def yZ (wo oL cm j:Nat):Prop:=j=wo\/j=oL\/j=cm
section
variable {T:Nat->Option dS}{H:au}{s:St}{wo oL cm P Sh:Nat}{last:Int}{L:List D}
theorem jT.lt (h:jT s wo oL cm P Sh last L)(hs:s.Ok):wo < s.n/\oL < s.n/\cm < s.n:=by
 obtain⟨st,g1,_⟩:=h.gl;obtain⟨a1,a2,a3,a4,g2⟩:=h.ct;exact⟨hs.lt h.go,hs.lt g1,hs.lt g2⟩
theorem jT.ne (h:jT s wo oL cm P Sh last L):wo≠oL/\wo≠cm/\oL≠cm:=by
 obtain⟨st,g1,_⟩:=h.gl;obtain⟨a1,a2,a3,a4,g2⟩:=h.ct;have g3:=h.go;refine⟨?_, ?_, ?_⟩
 ·rintro rfl; rw [g3]at g1; cases g1
 ·rintro rfl; rw [g3]at g2; simp at g2
 ·rintro rfl; rw [g1]at g2; cases g2
theorem jT.nu (h:jT s wo oL cm P Sh last L):∀j es st,s.get j=some (.arr 1 263 es st)-> ¬ yZ wo oL cm j:=by
 obtain⟨st,g1,_⟩:=h.gl;obtain⟨a1,a2,a3,a4,g2⟩:=h.ct;have g3:=h.go;rintro j es st' g (rfl | rfl | rfl)
 ·rw [g3]at g; cases g
 ·rw [g1]at g; simp at g
 ·rw [g2]at g; cases g
theorem jT.dU {W:Nat->Prop}{s1:St}(h:jT s wo oL cm P Sh last L)(hs:s.Ok)(hb:aC W s s1)(h1: ¬ W wo)(h2: ¬ W oL)(h3:jF s1 cm)(hw:∀j es st,s.get j=some (.arr 1 263 es st)-> ¬ W j):jT s1 wo oL cm P Sh last L:=by
 obtain⟨st,g1,g2⟩:=h.gl;exact⟨hb.get hs h.go h1,⟨st,hb.get hs g1 h2,g2⟩,fun d hd=>(h.vs d hd).dU hs hb hw,h3,h.nn⟩
theorem jT.nil {s1:St}(h:jT s wo oL cm P Sh last L)(hs:s.Ok)(hb:aC Nil s s1):jT s1 wo oL cm P Sh last L:=h.dU hs hb id id (h.ct.dU hs hb id) (fun _ _ _ _=>id)
theorem jT.at (h:jT s wo oL cm P Sh last L){i:Nat}{d:D}(hd:L[i]? =some d):sN s d:=h.vs d (aK hd)
theorem vS (hS:mw T){d:D}(hs:s.Ok)(h:jT s wo oL cm P Sh last L)(hd:sN s d)(hL:L.length<=1000000):
  cu T H 87 [.ptr wo 0,d] s fun r s1=>r= .int .i64 (L.length:Nat)/\jT s1 wo oL cm P Sh last (L++ [d])/\aC (yZ wo oL cm) s s1/\s1.n=s.n+1:=by
 have dT:=hd.st;have Fz:=hd;obtain⟨kd,num,b,ng,mag,tx,items,dd,cls,base,fo,sp,of',hh,ss,V,rfl,h1,h2⟩:=hd;have gw:=h.go;obtain⟨st,gl,pB⟩:=h.gl;obtain⟨n1,n2,n3⟩:=h.ne;obtain⟨l1,l2,l3⟩:=h.lt hs;have w1:IntKind.wrap .i64 (((L.length+1:Nat):Int) - 1)=(L.length:Nat):=by rw [wrap_small (by omega) (by omega)]; omega
 refine ay hS.t87 ?_;refine run_seq ?_;refine ma ?_;refine j7 dT ?_;try refine go ?_
 refine yD ?_ (h2:=dT);try refine go ?_
 have fR:eG 22 [rv kd num b ng mag tx items dd cls base fo sp of' hh ss]=true:=by simp only [eG,dT]; rfl
 have lW:aL=2147483648:=rfl;refine rC ?_ (ha:=fR) (hm:=by simp only [aW]; omega);try refine go ?_
 obtain⟨a1,a2,a3,a4,gc⟩:=h.ct;have hlen:(L++ [rv kd num b ng mag tx items dd cls base fo sp of' hh ss]).length=L.length+1:=by rw [aB,aW]
 refine CB (fun p=>p.get wo=some (.var 88 (.agg [.sl oL 0 (L.length+1) (L.length+1),.int .i64 last,.int .i64 0,.int .i64 (P:Nat),.int .i64 (Sh:Nat),.vs true 0 [],.vs true 0 [],.ptr cm 0]))/\p.get oL=some (.arr 22 94 (L++ [rv kd num b ng mag tx items dd cls base fo sp of' hh ss]) st)/\jF p cm/\aC (yZ wo oL cm) s p/\p.n=s.n+1) ⟨gI,gI,⟨a1,a2,a3,a4,gI⟩, ?_,rfl⟩ ?_
 ·refine aC.set (aC.set (aC.up (aC.refl hs) 1) _ ?_ ?_) _ ?_ ?_
  all_goals first
   | (intro _; exact .inl rfl)
   | (intro _; exact .inr (.inl rfl))
   | (simp only [St.fE,St.jw]; omega)
 rintro p ⟨g1,g2,g3,bp,np⟩;refine ai ⟨by show D.int .i64 (IntKind.wrap .i64 (((L.length+1:Nat):Int) - 1))=_; rw [w1],⟨by rw [hlen]; exact g1,⟨st,g2,by rw [hlen]; omega⟩,fun d hd=> ?_,g3,by simp⟩,bp,np⟩
 ·rw [bK,cG]at hd;rcases hd with hd | rfl
  ·exact (h.vs d hd).dU hs bp h.nu
  ·exact Fz.dU hs bp h.nu
theorem mD (hS:mw T){kd num:Int}{b ng hh ss:Bool}{mag items dd fo sp:D}{tx:List UInt8} {cls base of' :Int}(hs:s.Ok)(h:jT s wo oL cm P Sh last L)(hd:∀num,sN s (rv kd num b ng mag tx items dd cls base fo sp of' hh ss))(hL:L.length<=1000000):
  cu T H 50 [.ptr wo 0,rv kd num b ng mag tx items dd cls base fo sp of' hh ss] s fun r s1=>r= .int .i64 (L.length:Nat)/\(∃last' num',jT s1 wo oL cm P Sh last' (L++ [rv kd num' b ng mag tx items dd cls base fo sp of' hh ss]))/\aC (yZ wo oL cm) s s1/\s1.n=s.n+1:=by
 have dT:=fun num=>(hd num).st;have gw:=h.go;obtain⟨n1,n2,n3⟩:=h.ne;obtain⟨l1,l2,l3⟩:=h.lt hs;refine ay hS.t50 ?_;refine run_seq ?_;refine ma ?_;refine j7 (dT num) ?_;try refine go ?_
 obtain⟨st,gl,pB⟩:=h.gl;obtain⟨a1,a2,a3,a4,gc⟩:=h.ct;refine pD (fun p=>p.get wo=some (.var 88 (.agg [.sl oL 0 L.length L.length,.int .i64 (IntKind.wrap .i64 (last+1)),.int .i64 0,.int .i64 (P:Nat),.int .i64 (Sh:Nat),.vs true 0 [],.vs true 0 [],.ptr cm 0]))/\p.get oL=some (.arr 22 94 L st)/\jF p cm/\aC (fun j=>j=wo) s p/\p.n=s.n) ⟨gI,gI,⟨a1,a2,a3,a4,gI⟩,aC.set (W:=fun j=>j=wo) (aC.refl hs) _ l1 (fun _=>rfl),rfl⟩ ?_;rintro p ⟨g1,g2,g3,bp,np⟩;have okp:=bp.ok;have nu:∀j es st,s.get j=some (.arr 1 263 es st)-> ¬ j=wo:=fun j es st g e=>h.nu j es st g (.inl e);have hp:jT p wo oL cm P Sh (IntKind.wrap .i64 (last+1)) L:=⟨g1,⟨st,g2,pB⟩,fun d hd=>(h.vs d hd).dU hs bp nu,g3,h.nn⟩;refine ak (vS (d:=rv kd (IntKind.wrap .i64 (last+1)) b ng mag tx items dd cls base fo sp of' hh ss) hS okp hp ((hd _).dU hs bp nu) hL) ?_;rintro r p2 ⟨rfl,h2,b2,SG⟩;try refine go ?_
 exact ai ⟨rfl,⟨_,_,h2⟩,(bp.mono fun j hj=> .inl hj).trans b2,by omega⟩
theorem kK {kd num:Int}{b ng hh ss:Bool}{mag items dd fo sp:D}{tx:List UInt8} {cls base of' :Int}{V:List Nat}(h1:Ws s mag V)(h2:V.length<=60000)(h3:items.sc=true:=by rfl)(h4:dd.sc=true:=by rfl)(h5:fo.sc=true:=by rfl)(h6:sp.sc=true:=by rfl):sN s (rv kd num b ng mag tx items dd cls base fo sp of' hh ss):=⟨_,_,_,_,_,_,_,_,_,_,_,_,_,_,_,V,rfl,h1,h2,h3,h4,h5,h6⟩
theorem Ss (hT:nB T)(hS:mw T){d:D}{n:Bool×List Nat}(hs:s.Ok)(h:jT s wo oL cm P Sh last L)(hd:qQ s d n)(hn:n.2.length<=60000)(hL:L.length<=1000000):
  cu T H 48 [.ptr wo 0,d] s fun r s1=>r= .int .i64 (L.length:Nat)/\(∃d,jT s1 wo oL cm P Sh last (L++ [d]))/\aC (yZ wo oL cm) s s1:=by
 have dT:=hd.st;have hF:=ud (H:=H) hT hs hd (by simp only [aL]; omega);obtain⟨y,rfl,hy⟩:=hd;refine ay hS.t48 ?_;refine run_seq ?_;refine ma ?_;refine j7 dT ?_;try refine go ?_
 refine ak hF ?_;rintro d s1 ⟨⟨y2,rfl,h1⟩,b1⟩;rcases h1.row.sh with ⟨nl,z,rfl⟩ | ⟨o,off,cp,rfl⟩
 all_goals
  try refine go ?_
  refine ak (vS hS b1.ok (h.nil hs b1) (kK h1 (cU (l7 _ _) hn)) hL) ?_;rintro r s2 ⟨rfl,h2,b2,_⟩;try refine go ?_
  exact ai ⟨rfl,⟨_,h2⟩,(b1.mono fun _ h=>h.elim).trans b2⟩
theorem R4 (hS:mw T){tx:List UInt8}(hs:s.Ok)(h:jT s wo oL cm P Sh last L)(hL:L.length<=1000000):
  cu T H 49 [.ptr wo 0,.str tx] s fun r s1=>r= .int .i64 (L.length:Nat)/\(∃d,jT s1 wo oL cm P Sh last (L++ [d]))/\aC (yZ wo oL cm) s s1:=by
 refine ay hS.t49 ?_;try refine go ?_
 refine ak (vS hS hs h (kK .nil (aR _)) hL) ?_;rintro r s2 ⟨rfl,h2,b2,_⟩;try refine go ?_
 exact ai ⟨rfl,⟨_,h2⟩,b2⟩
end
section
variable {T:Nat->Option dS}{H:au}{s:St}{wo oL cm P Sh:Nat}{last:Int}{L:List D}
theorem Mj (hS:mw T){i:Nat}(h:jT s wo oL cm P Sh last L)(hi:i < L.length):cu T H 141 [.ptr wo 0,.int .i64 (i:Nat)] s fun d s1=>d= .bool true/\s1=s:=by
 have gw:=h.go;obtain⟨st,gl,dT⟩:=h.gl;obtain⟨kd,num,b,ng,mag,tx,items,dd,cls,base,fo,sp,of',hh,ss,V,he,h1,h2⟩:=h.at (ae hi);have oP:L[0+i]? =some (rv kd num b ng mag tx items dd cls base fo sp of' hh ss):=by rw [aM,ae hi,he]
 have d1:=eR ((i:Int) >= 0);have d2:=eR ((i:Int) < (L.length:Nat));refine ay hS.t141 ?_;try refine go ?_
 exact ai ⟨rfl,rfl⟩
theorem yL (hS:mw T){k:Int}:cu T H 142 [.int .i64 k] s fun d s1=>(∃c,d= .bool c)/\s1=s:=by
 refine ay hS.t142 ?_;by_cases h1:1<=k
 ·by_cases h2:k<=4
  ·have d1:=eR (k >= 1);have d2:decide (k<=4)=true:=cK h2;try refine go ?_
   exact ai ⟨⟨_,rfl⟩,rfl⟩
  ·have d1:=eR (k >= 1);have d2:decide (k<=4)=false:=bk h2;try refine go ?_
   exact ai ⟨⟨_,rfl⟩,rfl⟩
 ·have d1:=cM (k >= 1);try refine go ?_
  exact ai ⟨⟨_,rfl⟩,rfl⟩
theorem mL (hT:nB T)(hS:mw T){d:D}(hs:s.Ok)(hd:sN s d):cu T H 93 [d] s fun r s1=>(∃n,qQ s1 r n/\n.2.length<=60000)/\aC Nil s s1:=by
 have dT:=hd.st;obtain⟨kd,num,b,ng,mag,tx,items,dd,cls,base,fo,sp,of',hh,ss,V,rfl,h1,h2,h3,h4,h5,h6⟩:=hd;have pB:(D.agg [.bool ng,mag]).st=true:=qQ.st (n:=(ng,V)) ⟨_,rfl,h1⟩;refine ay hS.t93 ?_;refine run_seq ?_;refine ma ?_;refine j7 dT ?_;try refine go ?_
 refine cY (fun _=> ?_) (fun _=> ?_)
 ·cases b
  ·try refine go ?_
   refine ak (FO hT hs (.inl rfl)) ?_;rintro d s1 ⟨⟨n,hn,qX⟩,b1⟩;have mu:=hn.st;obtain⟨y,rfl,hy⟩:=hn;refine fJ mu ?_;try refine go ?_
   exact ai ⟨⟨n,⟨y,rfl,hy⟩,by omega⟩,b1⟩
  ·try refine go ?_
   refine ak (FO hT hs (.inr (.inl rfl))) ?_;rintro d s1 ⟨⟨n,hn,qX⟩,b1⟩;have mu:=hn.st;obtain⟨y,rfl,hy⟩:=hn;refine fJ mu ?_;try refine go ?_
   exact ai ⟨⟨n,⟨y,rfl,hy⟩,by omega⟩,b1⟩
 ·try refine go ?_
  refine fJ pB ?_;try refine go ?_
  exact ai ⟨⟨(ng,V),⟨_,rfl,h1⟩,h2⟩,aC.refl hs⟩
theorem BA (hT:nB T)(hS:mw T){i:Nat}(hs:s.Ok)(h:jT s wo oL cm P Sh last L)(hi:i < L.length):cu T H 143 [.ptr wo 0,.int .i64 (i:Nat)] s fun d s1=>(∃r c n,d= .gJ [r,.bool c]/\qQ s1 r n/\n.2.length<=60000)/\aC Nil s s1:=by
 have gw:=h.go;obtain⟨st,gl,dT⟩:=h.gl;have hv:=h.at (ae hi);have pB:=hv.st;have B3:=mL (H:=H) hT hS hs hv;obtain⟨kd,num,b,ng,mag,tx,items,dd,cls,base,fo,sp,of',hh,ss,V,he,h1,h2⟩:=hv;rw [he]at pB B3;have oP:L[0+i]? =some (rv kd num b ng mag tx items dd cls base fo sp of' hh ss):=by rw [aM,ae hi,he]
 refine ay hS.t143 ?_;by_cases ZE:kd=3
 ·have e3:(kd !=3)=false:=by simp [ZE]
  try refine go ?_
  refine fJ pB ?_;try refine go ?_
  refine ak B3 ?_;rintro d s1 ⟨⟨n,hn,qX⟩,b1⟩;have mu:=hn.st;obtain⟨y,rfl,hy⟩:=hn;refine fJ mu ?_;try refine go ?_
  exact ai ⟨⟨_,_,n,rfl,⟨y,rfl,hy⟩,qX⟩,b1⟩
 ·have e3:(kd !=3)=true:=by simp [ZE]
  by_cases zL:kd=2
  ·have e2:(kd !=2)=false:=by simp [zL]
   try refine go ?_
   refine fJ pB ?_;try refine go ?_
   refine ak B3 ?_;rintro d s1 ⟨⟨n,hn,qX⟩,b1⟩;have mu:=hn.st;obtain⟨y,rfl,hy⟩:=hn;refine fJ mu ?_;try refine go ?_
   exact ai ⟨⟨_,_,n,rfl,⟨y,rfl,hy⟩,qX⟩,b1⟩
  ·have e2:(kd !=2)=true:=by simp [zL]
   try refine go ?_
   refine fJ pB ?_;try refine go ?_
   exact ai ⟨⟨_,_,(false,[]),rfl,⟨_,rfl,.nil⟩,aR _⟩,aC.refl hs⟩
theorem Jd (hT:nB T)(hS:mw T){i j:Nat}(hs:s.Ok)(h:jT s wo oL cm P Sh last L)(hi:i < L.length)(hj:j < L.length):cu T H 99 [.ptr wo 0,.int .i64 (i:Nat),.int .i64 (j:Nat)] s fun d s1=>(∃c,d= .bool c)/\aC Nil s s1:=by
 have gw:=h.go;obtain⟨st,gl,dT⟩:=h.gl;have hv:=h.at (ae hi);have CL :=h.at (ae hj);have pB:=hv.st; have G9:=CL.st;have B3:=fun (p:St) (okp:p.Ok) (b:aC Nil s p)=>mL (H:=H) hT hS okp (hv.dU hs b fun _ _ _ _=>id);have TF :=fun (p:St) (okp:p.Ok) (b:aC Nil s p)=>mL (H:=H) hT hS okp (CL.dU hs b fun _ _ _ _=>id);obtain⟨kd,num,b,ng,mag,tx,items,dd,cls,base,fo,sp,of',hh,ss,V,he,h1,h2⟩:=hv;obtain⟨kd',num',b',ng',mag',tx',items',dd',cls',base',fo',sp',of'',P8,ss',V',Ol,G4,xo⟩:=CL;rw [he]at pB B3;rw [Ol]at G9 TF;have oP:L[0+i]? =some (rv kd num b ng mag tx items dd cls base fo sp of' hh ss):=by rw [aM,ae hi,he]
 have P3 :L[0+j]? =some (rv kd' num' b' ng' mag' tx' items' dd' cls' base' fo' sp' of'' P8 ss'):=by rw [aM,ae hj,Ol]
 refine ay hS.t99 ?_;try refine go ?_
 refine ak (Mj hS h hi) ?_;rintro d s1 ⟨rfl,rfl⟩;try refine go ?_
 refine ak (Mj hS h hj) ?_;rintro d s2 ⟨rfl,rfl⟩;try refine go ?_
 refine cY (fun _=> ?_) (fun _=> ?_)
 ·try refine go ?_
  exact ai ⟨⟨_,rfl⟩,aC.refl hs⟩
 ·try refine go ?_
  refine fJ pB ?_;try refine go ?_
  refine fJ G9 ?_;try refine go ?_
  refine ak (yL hS) ?_;rintro d s3 ⟨⟨p1,rfl⟩,rfl⟩;cases p1
  ·try refine go ?_
   exact ai ⟨⟨_,rfl⟩,aC.refl hs⟩
  try refine go ?_
  refine ak (yL hS) ?_;rintro d s4 ⟨⟨p2,rfl⟩,rfl⟩;cases p2
  ·try refine go ?_
   exact ai ⟨⟨_,rfl⟩,aC.refl hs⟩
  try refine go ?_
  refine ak (BA hT hS hs h hi) ?_;rintro d s5 ⟨⟨r,c,n,rfl,hn,qX⟩,b5⟩;have st5:=hn.st;obtain⟨y,rfl,hy⟩:=hn;try refine go ?_
  refine fJ st5 ?_;try refine go ?_
  refine ak (BA hT hS b5.ok (h.nil hs b5) hj) ?_;rintro d s6 ⟨⟨r',c',n',rfl,Fu,acN⟩,b6⟩;have st6:=Fu.st;obtain⟨y',rfl,JS⟩:=Fu;try refine go ?_
  refine fJ st6 ?_;have b06:=b5.trans b6;have ok6:=b06.ok;by_cases Xn:c=true/\c' =true
  ·obtain⟨rfl,rfl⟩:=Xn;try refine go ?_
   refine bf (B3 s6 ok6 b06) ?_;rintro d p ⟨⟨n1,zQ,sv⟩,b7⟩;obtain⟨y1,rfl,xc⟩:=zQ;have ok7:=b7.ok;refine⟨rfl,by simp [lost,eN.kind,cJ,dE,cE,aI,bz,bz.cV,fZ,bP.ev,Env.get,cP,D.flat,D.isAgg,cL,D.fv,D.beq,az,Obj.aV,bC,bu,D.bV,D.aV,cA], ?_⟩;try refine go ?_
   refine bf (TF p b7.ok (b06.trans b7)) ?_;rintro d p2 ⟨⟨n2,hn3,hl3⟩,b8⟩;obtain⟨y3,rfl,hy3⟩:=hn3;have ok8:=b8.ok;refine⟨rfl,by simp [lost,eN.kind,cJ,dE,cE,aI,bz,bz.cV,fZ,bP.ev,Env.get,cP,D.flat,D.isAgg,cL,D.fv,D.beq,az,Obj.aV,bC,bu,D.bV,D.aV,cA], ?_⟩;try refine go ?_
   have lW:aL=2147483648:=rfl;refine bf (wH (n:=n1) (m:=n2) hT b8.ok ⟨y1,rfl,xc.dU b7.ok b8 fun _ _ _ _=>id⟩ ⟨y3,rfl,hy3⟩ (by omega) (by omega)) ?_;rintro d p3 ⟨⟨r,rfl⟩,b9⟩;have ok9:=b9.ok;refine⟨rfl,by simp [lost,eN.kind,cJ,dE,cE,aI,bz,bz.cV,fZ,bP.ev,Env.get,cP,D.flat,D.isAgg,cL,D.fv,D.beq,az,Obj.aV,bC,bu,D.bV,D.aV,cA], ?_⟩;try refine go ?_
   exact ai ⟨⟨_,rfl⟩,((b06.trans b7).trans b8).trans b9⟩
  ·cases c <;> cases c' <;> first
    | (exfalso; exact Xn ⟨rfl,rfl⟩)
    | skip
   all_goals
    cases hkk:(kd==kd') <;> cases htt:(tx==tx')
    all_goals
     try refine go ?_
     exact ai ⟨⟨_,rfl⟩,b06⟩
end
section
variable {T:Nat->Option dS}{H:au}{s:St}{wo oL cm P Sh:Nat}{last:Int}{L:List D}
theorem l8.dU {W:Nat->Prop}{s1:St}{N dv n:Nat}{K:Int->Prop}(h:l8 s N cm dv K n)(hs:s.Ok)(hb:aC W s s1)(hW:∀j,N<=j-> ¬ W j)(hc:jF s1 cm):l8 s1 N cm dv K n:=by
 obtain⟨to,eo,lo,log,x,E,C,b,m,u,most,ver,q1,q2,q3,q4,q5,q6,q7,q8,q9⟩:=h;exact⟨to,eo,lo,log,x,E,C,b,m,u,most,ver,hb.get hs q1 (hW _ q3),q2.dU hs hb (hW _ q4) (fun hE=>hW _ (q5 hE)) (hW _ q6) hc,q3,q4,q5,q6,q7,q8,q9⟩
theorem yY (hT:nH T)(hS:mw T){kd:Int}(K:Int->Prop)(hs:s.Ok)(h:jT s wo oL cm P Sh last L)(hP:P<=65536)(hL:L.length<=1000000):
  cu T H 53 [.ptr wo 0,.int .i64 kd] s fun r s1=>r= .int .i64 (L.length:Nat)/\(∃last' num dv,jT s1 wo oL cm P Sh last' (L++ [rv kd num false false (.vs true 0 []) [] (.vs true 0 []) (.ptr dv 0) 0 0 .cT .cT 0 false false])/\l8 s1 s.n cm dv K 0)/\aC (yZ wo oL cm) s s1/\s.n<=s1.n:=by
 have gw:=h.go;obtain⟨l1,l2,l3⟩:=h.lt hs;obtain⟨n1,n2,n3⟩:=h.ne;refine ay hS.t53 ?_;try refine go ?_
 refine bf (DZ hT hs h.ct hP) ?_;rintro d p ⟨dv,to,lo,m',rfl,gd,ht,k1,k2,k3,b1⟩;have ok1:=b1.ok;have ZD:=b1.get hs gw n2;refine⟨rfl,by simp [lost,eN.kind,cJ,dE,cE,aI,bz,bz.cV,fZ,bP.ev,Env.get,cP,D.flat,D.isAgg,cL,D.fv,D.beq,az,Obj.aV,bC,bu,D.bV,D.aV,gw,ZD], ?_⟩;have hp:jT p wo oL cm P Sh last L:=h.dU hs b1 n2 n3 ht.ct (fun j es st g e=>h.nu j es st g (.inr (.inr e)));have hD:l8 p s.n cm dv K 0:=⟨to,0,lo,3,_,_,_,_,_,_,_,_,gd,ht,k1,k2,fun h=>absurd rfl h,k3,l3,an _,fun e he=>by cases he⟩;try refine go ?_
 refine ak (mD hS ok1 hp (fun num=>kK .nil (aR _)) hL) ?_;rintro r p2 ⟨rfl,⟨last',num',Kv⟩,b2,SG⟩;try refine go ?_
 have bn:=b1.n;exact ai ⟨rfl,⟨last',num',dv,Kv,hD.dU ok1 b2 (fun j hj=>by rintro (h | h | h) <;> omega) Kv.ct⟩,(b1.mono fun j hj=> .inr (.inr hj)).trans b2,by omega⟩
theorem JV (hT:nH T)(hS:mw T){nm:List UInt8}{bs:Int}(hs:s.Ok)(h:jT s wo oL cm P Sh last L)(hP:P<=65536)(Lk:Sh<=256)(hL:L.length<=1000000):
  cu T H 51 [.ptr wo 0,.str nm,.int .i64 bs] s fun r s1=>r= .int .i64 (L.length:Nat)/\(∃last' num dv fo,jT s1 wo oL cm P Sh last' (L++ [rv 13 num false false (.vs true 0 []) nm (.vs true 0 []) (.ptr dv 0) 0 bs (.ptr fo 0) .cT 0 false false]))/\aC (yZ wo oL cm) s s1:=by
 have gw:=h.go;obtain⟨l1,l2,l3⟩:=h.lt hs;obtain⟨n1,n2,n3⟩:=h.ne;refine ay hS.t51 ?_;try refine go ?_
 refine bf (DZ hT hs h.ct hP) ?_;rintro d p ⟨dv,to,lo,m',rfl,gd,ht,k1,k2,k3,b1⟩;have ok1:=b1.ok;have ZD:=b1.get hs gw n2;refine⟨rfl,by simp [lost,eN.kind,cJ,dE,cE,aI,bz,bz.cV,fZ,bP.ev,Env.get,cP,D.flat,D.isAgg,cL,D.fv,D.beq,az,Obj.aV,bC,bu,D.bV,D.aV,gw,ZD], ?_⟩;have hp:jT p wo oL cm P Sh last L:=h.dU hs b1 n2 n3 ht.ct (fun j es st g e=>h.nu j es st g (.inr (.inr e)));try refine go ?_
 refine bf (Pa hT ok1 ht.ct hP Lk) ?_;rintro d q ⟨fo,rfl,R3,cq,b2⟩;have ok2:=b2.ok;have gw2:=b2.get ok1 ZD n2;refine⟨rfl,by simp [lost,eN.kind,cJ,dE,cE,aI,bz,bz.cV,fZ,bP.ev,Env.get,cP,D.flat,D.isAgg,cL,D.fv,D.beq,az,Obj.aV,bC,bu,D.bV,D.aV,ZD,gw2], ?_⟩;have hq:jT q wo oL cm P Sh last L:=hp.dU ok1 b2 n2 n3 cq (fun j es st g e=>hp.nu j es st g (.inr (.inr e)));try refine go ?_
 refine ak (mD hS ok2 hq (fun num=>kK .nil (aR _)) hL) ?_;rintro r p2 ⟨rfl,⟨last',num',Kv⟩,b3,SG⟩;try refine go ?_
 exact ai ⟨rfl,⟨last',num',dv,fo,Kv⟩,((b1.mono fun j hj=> .inr (.inr hj)).trans (b2.mono fun j hj=> .inr (.inr hj))).trans b3⟩
theorem BX (hT:nH T)(hS:mw T){c fo:Nat}{kd num:Int}{b ng hh ss:Bool}{mag items dd sp:D}{tx:List UInt8} {cls base of' :Int}(hs:s.Ok)(h:jT s wo oL cm P Sh last L)(hc:L[c]? =some (rv kd num b ng mag tx items dd cls base (.ptr fo 0) sp of' hh ss))(hL:L.length<=1000000):
  cu T H 52 [.ptr wo 0,.int .i64 (c:Nat)] s fun r s1=>r= .int .i64 (L.length:Nat)/\(∃last' d,jT s1 wo oL cm P Sh last' (L++ [d]))/\aC (yZ wo oL cm) s s1:=by
 have gw:=h.go;obtain⟨st,gl,dT⟩:=h.gl;have zf:=(af.mp hc).1;have JO:L[0+c]? =some (rv kd num b ng mag tx items dd cls base (.ptr fo 0) sp of' hh ss):=by rw [aM]; exact hc
 refine ay hS.t52 ?_;try refine go ?_
 refine ak (MJ hT hs) ?_;rintro d p ⟨rfl,b1⟩;try refine go ?_
 refine ak (mD hS b1.ok (h.nil hs b1) (fun num=>kK .nil (aR _)) hL) ?_;rintro r p2 ⟨rfl,⟨last',num',Kv⟩,b3,SG⟩;try refine go ?_
 exact ai ⟨rfl,⟨last',_,Kv⟩,(b1.mono fun _ h=>h.elim).trans b3⟩
end
def AK (N:Nat):D->Prop
 | .agg l=>∀o a n c,l[5]? =some (.sl o a n c)->o < N
 | _=>True
theorem sN.mag {s:St}{d:D}(hs:s.Ok)(h:sN s d):AK s.n d:=by
 obtain⟨kd,num,b,ng,mag,tx,items,dd,cls,base,fo,sp,of',hh,ss,V,rfl,h1,h2⟩:=h;intro o a n c h;simp only [bX,aQ,aa]at h;subst h;cases h1 with
 | sl o cp V R hg hc=>exact hs.lt hg
theorem sN.Pk {W:Nat->Prop}{s s1:St}{d:D}{N:Nat}(h:sN s d)(hs:s.Ok)(hb:aC W s s1)(hm:AK N d)(hW:∀j es st,s.get j=some (.arr 1 263 es st)->j < N-> ¬ W j):sN s1 d:=by
 obtain⟨kd,num,b,ng,mag,tx,items,dd,cls,base,fo,sp,of',hh,ss,V,rfl,h1,h2⟩:=h;refine⟨kd,num,b,ng,mag,tx,items,dd,cls,base,fo,sp,of',hh,ss,V,rfl, ?_,h2⟩;rcases h1 with ⟨nl,V,hn⟩ | _ | ⟨o,cp,V,R,hg,hc⟩
 ·exact .vs nl V hn
 ·exact .nil
 ·exact .sl o cp V R (hb.get hs hg (hW o _ _ hg (hm _ _ _ _ rfl))) hc
section
variable {T:Nat->Option dS}{H:au}{s:St}{wo oL cm P Sh N dv n:Nat}{last:Int}{L:List D}{K:Int->Prop}
theorem jT.Pk {s1:St}(h:jT s wo oL cm P Sh last L)(hs:s.Ok)(hb:aC (fun j=>N<=j\/j=cm) s s1)(h1:wo < N)(h2:oL < N)(hm:∀d∈L,AK N d)(h3:jF s1 cm):jT s1 wo oL cm P Sh last L:=by
 obtain⟨n1,n2,n3⟩:=h.ne;obtain⟨st,g1,g2⟩:=h.gl
 exact⟨hb.get hs h.go (by omega),⟨st,hb.get hs g1 (by omega),g2⟩,fun d hd=>(h.vs d hd).Pk hs hb (hm d hd) (fun j es st g hj=>by
  rintro (h' | rfl)
  ·omega
  ·exact h.nu j es st g (.inr (.inr rfl))),h3,h.nn⟩
theorem Lo.ct {mo:Nat}{h k v told:Int}{wa sa:Bool}(hm:Lo s N cm mo dv h k v K n told wa sa):jF s cm/\cm < N:=by
 obtain⟨to,eo,lo,log,x,E,C,b,m,u,most,ver,so,at',t0,t1,t2,t3,t4,sc,gm,gd,ht,zd,k1,k2,k3,k4,k5,k6,k7,k8,k9,Lm,Ud,WJ⟩:=hm;exact⟨ht.ct,k5⟩
theorem Lo.dU {W:Nat->Prop}{s1:St}{mo:Nat}{h k v told:Int}{wa sa:Bool}(hm:Lo s N cm mo dv h k v K n told wa sa)(hs:s.Ok)(hb:aC W s s1)(hW:∀j,N<=j->j < s.n-> ¬ W j)(hc:jF s1 cm):Lo s1 N cm mo dv h k v K n told wa sa:=by
 obtain⟨to,eo,lo,log,x,E,C,b,m,u,most,ver,so,at',t0,t1,t2,t3,t4,sc,gm,gd,ht,⟨J,vi,zd⟩,k1,k2,k3,k4,k5,k6,k7,k8,k9,Lm,Ud,WJ⟩:=hm;have n1:=hb.n;have q1:=hs.lt gm; have q2:=hs.lt gd; have q3:=hs.lt ht.go; have q4:=hs.lt zd;obtain⟨st,g1,_⟩:=ht.ce;have q5:=hs.lt g1
 have q6:E≠ []->eo < s.n:=fun hE=>by
  rcases ht.en with _ | ⟨_,tR,E,g4,_⟩
  ·exact absurd rfl hE
  ·exact hs.lt g4
 exact⟨to,eo,lo,log,x,E,C,b,m,u,most,ver,so,at',t0,t1,t2,t3,t4,sc,hb.get hs gm (hW _ k6 q1),hb.get hs gd (hW _ k1 q2),ht.dU hs hb (hW _ k2 q3) (fun hE=>hW _ (k3 hE) (q6 hE)) (hW _ k4 q5) hc,⟨J,vi,hb.get hs zd (hW _ k7 q4)⟩,k1,k2,k3,k4,k5,k6,k7,by omega,k9,Lm,Ud,WJ⟩
theorem Lo.tell (hT:nH T){mo:Nat}{h k v told:Int}{c:Bool}(hs:s.Ok)(hm:Lo s N cm mo dv h k v K n told true false):cu T H 98 [.ptr mo 0,.bool c] s fun _ s1=>Lo s1 N cm mo dv h k v K n told false c/\aC (fun j=>N<=j\/j=cm) s s1:=by
 obtain⟨to,eo,lo,log,x,E,C,b,m,u,most,ver,so,at',t0,t1,t2,t3,t4,sc,gm,gd,ht,⟨J,vi,zd⟩,k1,k2,k3,k4,k5,k6,k7,k8,k9,Lm,Ud,WJ⟩:=hm;have nmd:mo≠dv:=by rintro rfl; rw [gm]at gd; simp at gd
 have nmt:mo≠to:=by have gt:=ht.go; rintro rfl; rw [gm]at gt; simp at gt
 have nml:mo≠lo:=by obtain ⟨st,g1,_⟩:=ht.ce; rintro rfl; rw [gm]at g1; cases g1
 have nme:E≠ []->mo≠eo:=fun hE=>by
  rcases ht.en with _ | ⟨_,tR,E,g4,_⟩
  ·exact absurd rfl hE
  ·rintro rfl; rw [gm]at g4; cases g4
 have nms:mo≠so:=by rintro rfl; rw [gm]at zd; simp at zd
 refine (Nl (c:=c) hT hs gm).mono ?_;rintro d s1 ⟨g1,n1,b1⟩;exact⟨⟨to,eo,lo,log,x,E,C,b,m,u,most,ver,so,at',t0,t1,t2,t3,t4,sc,g1,b1.get hs gd (bO nmd),ht.dU hs b1 (bO nmt) (fun hE=>bO (nme hE)) (bO nml) (ht.ct.dU hs b1 (by omega)),⟨J,vi,b1.get hs zd (bO nms)⟩,k1,k2,k3,k4,k5,k6,k7,by omega,k9,Lm,Ud,fun _=>WJ (.inl rfl)⟩,b1.mono fun j hj=>by subst hj; exact .inl k6⟩
def abr (s:St)(wo oL cm P Sh N dv n:Nat)(last:Int)(L:List D)(K:Int->Prop)(h k v:Int)(mo:Nat)(mm:Nat)(env:Env) (s' :St):Prop:=
 env=[(0,.ptr wo 0),(3,.int .i64 k),(11,.ptr mo 0)]/\jT s' wo oL cm P Sh last L/\aC (fun j=>N<=j\/j=cm) s s' /\∃told:Int,(mm:Int)=n - told/\ -1<=told/\((told= -1/\MaF s' N cm mo dv h k v K n)\/∃c,Lo s' N cm mo dv h k v K n told false c)
theorem IE (hT:nH T)(hW:nB T)(hS:mw T){hash value:Int}{v kk:Nat}{kd num:Int}{b ng hh ss:Bool}{mag items fo sp:D}{tx:List UInt8} {cls base of' :Int}(hs:s.Ok)(h:jT s wo oL cm P Sh last L)(hv:L[v]? =some (rv kd num b ng mag tx items (.ptr dv 0) cls base fo sp of' hh ss))(hD:l8 s N cm dv (fun k=>∃i:Nat,k=(i:Int)/\i < L.length) n)(hkk:kk < L.length)(hn:n<=20000)(h1:wo < N)(h2:oL < N)(hm:∀d∈L,AK N d)(hN:N<=s.n):
  cu T H 55 [.ptr wo 0,.int .i64 (v:Nat),.int .i64 hash,.int .i64 (kk:Nat),.int .i64 value] s fun _ s1=>jT s1 wo oL cm P Sh last L/\l8 s1 N cm dv (fun k=>∃i:Nat,k=(i:Int)/\i < L.length) (n+1)/\aC (fun j=>N<=j\/j=cm) s s1:=by
 have gw:=h.go;obtain⟨st,gl,dT⟩:=h.gl;have J8:=(af.mp hv).1;have kq:L[0+v]? =some (rv kd num b ng mag tx items (.ptr dv 0) cls base fo sp of' hh ss):=by rw [aM]; exact hv
 have hcm:cm < N:=by obtain ⟨to,eo,lo,log,x,E,C,b,m,u,most,ver,q1,q2,q3,q4,q5,q6,q7,q8,q9⟩:=hD; exact q7
 refine ay hS.t55 ?_;try refine go ?_
 refine ak (K5 hT hs) ?_;rintro d p ⟨rfl,gm,np,bp⟩;have okp:=bp.ok;try refine go ?_
 refine cg (abr s wo oL cm P Sh N dv n last L (fun k=>∃i:Nat,k=(i:Int)/\i < L.length) hash (kk:Nat) value s.n) (n+1) rfl ⟨rfl,h.nil hs bp,bp.mono fun _ h=>h.elim, -1,by omega,by omega,.inl ⟨rfl,gm,hN,by omega,hD.dU hs bp (fun _ _=>id) (h.ct.dU hs bp id)⟩⟩ ?_;rintro mm env s1 ⟨rfl,hr,b1,told,hmm,wL,hma⟩;have ok1:=b1.ok;have NZ:cu T H 97 [.ptr s.n 0] s1 (Mx s1 N cm s.n dv hash (kk:Nat) value (fun k=>∃i:Nat,k=(i:Int)/\i < L.length) n told):=by
  rcases hma with ⟨rfl,hF⟩ | ⟨c,hC⟩
  ·exact AR hT ok1 hn ⟨kk,rfl,hkk⟩ (.inr ⟨rfl,hF⟩)
  ·cases c
   ·exact AR hT ok1 hn ⟨kk,rfl,hkk⟩ (.inl hC)
   ·exact Ko hT ok1 hC
 try refine go ?_
 refine ak NZ ?_;rintro d s2 ⟨⟨c0,c1,c3,c4,c2,rfl,pA⟩,b2⟩;have ok2:=b2.ok;rcases pA with ⟨JO,hD2⟩ | ⟨rfl,⟨i,rfl,hi⟩,told',tW,sO,hM⟩
 ·have e0:(c0 !=1)=true:=by simpa using JO
  try refine go ?_
  have MA:jF s2 cm:=by obtain ⟨to,eo,lo,log,x,E,C,b,m,u,most,ver,q1,q2,q3,q4,q5,q6,q7,q8,q9⟩:=hD2; exact q2.ct
  exact ai ⟨hr.Pk ok1 b2 h1 h2 hm MA,hD2,b1.trans b2⟩
 ·have xe:=hr.Pk ok1 b2 h1 h2 hm hM.ct.1;try refine go ?_
  refine ak (Jd hW hS ok2 xe hi hkk) ?_;rintro d s3 ⟨⟨c,rfl⟩,b3⟩;have ok3:=b3.ok;have hM3:=hM.dU ok2 b3 (fun _ _ _=>id) (hM.ct.1.dU ok2 b3 id);try refine go ?_
  refine ak (hM3.tell hT (c:=c) ok3) ?_;rintro d s4 ⟨hM4,b4⟩;try refine go ?_
  exact bg (n - told') (by omega) rfl ⟨rfl,(xe.nil ok2 b3).Pk ok3 b4 h1 h2 hm hM4.ct.1,((b1.trans b2).trans (b3.mono fun _ h=>h.elim)).trans b4,told',by omega,by omega,.inr ⟨c,hM4⟩⟩
end
section
variable {T:Nat->Option dS}{H:au}{s:St}{wo oL cm P Sh:Nat}{last:Int}{L:List D}{tms:List Tm}{nz:Bool}
theorem Tm.st (t:Tm):t.d.st=true:=rfl
theorem Nj (hS:mw T){c:Bool}:cu T H 47 [.bool c] s fun d s1=>d= .int .i64 (if c then 2 else 1)/\s1=s:=by
 refine ay hS.t47 ?_;cases c
 ·try refine go ?_
  exact ai ⟨rfl,rfl⟩
 ·try refine go ?_
  exact ai ⟨rfl,rfl⟩
theorem Ao (hT:nB T)(hS:mw T){t:Tm}{v:Nat}(hs:s.Ok)(h:jT s wo oL cm P Sh last L)(ho:t.Ok)(hv:v < L.length):cu T H 54 [t.d,.ptr wo 0,.int .i64 (v:Nat)] s fun d s1=>(∃(n:Int) (c:Bool),d= .gJ [.int .i64 n,.bool c])/\aC Nil s s1:=by
 have gw:=h.go;obtain⟨st,gl,dT⟩:=h.gl;have CL :=h.at (ae hv);have B3:=mL (H:=H) hT hS hs CL;have pB:=CL.st;obtain⟨kd',num',b',ng',mag',tx',items',dd',cls',base',fo',sp',of',P8,ss',V',he,G4,xo⟩:=CL;rw [he]at B3 pB;have oP:L[0+v]? =some (rv kd' num' b' ng' mag' tx' items' dd' cls' base' fo' sp' of' P8 ss'):=by rw [aM,ae hv,he]
 have BZ:=ho.tx; have hmg:=ho.mag; have zQ:=ho.n1;obtain⟨kd,b,ng,n1,mag,tx,n2,kids,hh,sm⟩:=t;have GQ:(Tm.mk kd b ng n1 mag tx n2 kids hh sm).d.st=true:=rfl;simp only at BZ hmg zQ;refine ay hS.t54 ?_;refine run_seq ?_;refine ma ?_;refine j7 GQ ?_;by_cases k1:kd=1
 ·subst k1;try refine go ?_
  refine ak (FO hT hs (.inr (.inr rfl))) ?_;rintro d s1 ⟨⟨n,hn,qX⟩,b1⟩;have hw:=vJ (H:=H) hT hn (by omega);have mu:=hn.st;obtain⟨y,rfl,hy⟩:=hn;try refine go ?_
  refine ak hw ?_;rintro d s2 ⟨rfl,⟨q,rfl⟩⟩;try refine go ?_
  exact ai ⟨⟨_,_,rfl⟩,b1⟩
 have e1:(kd==1)=false:=by simpa using k1
 by_cases k2:kd=2\/kd=3
 ·have xB:∀kd,kd=2\/kd=3->True:=fun _ _=>trivial;rcases k2 with rfl | rfl
  all_goals
   try refine go ?_
   refine ak B3 ?_;rintro d s1 ⟨⟨n,hn,qX⟩,b1⟩;have hw:=vJ (H:=H) hT hn (by omega);have mu:=hn.st;obtain⟨y,rfl,hy⟩:=hn;try refine go ?_
   refine ak hw ?_;rintro d s2 ⟨rfl,⟨q,rfl⟩⟩;try refine go ?_
   exact ai ⟨⟨_,_,rfl⟩,b1⟩
 have e2:(kd==2)=false:=by simpa using fun e=>k2 (.inl e)
 have e3:(kd==3)=false:=by simpa using fun e=>k2 (.inr e)
 by_cases k4:kd=4
 ·subst k4;try refine go ?_
  refine ak (Ph (l:=tx) hT (by omega)) ?_;rintro d s2 ⟨rfl,⟨q,rfl⟩⟩;try refine go ?_
  exact ai ⟨⟨_,_,rfl⟩,aC.refl hs⟩
 have e4:(kd==4)=false:=by simpa using k4
 by_cases Xt:kd=14
 ·subst Xt;cases hh
  ·try refine go ?_
   refine bf (GK hT) ?_;rintro d s2 ⟨rfl,⟨q,rfl⟩⟩;refine⟨rfl,by simp [lost,eN.kind,cJ,dE,cE,aI,bz,bz.cV,fZ,bP.ev,Env.get,cP,D.flat,D.isAgg,cL,D.fv,D.beq,az,Obj.aV,bC,bu,D.bV,D.aV,gw,gl], ?_⟩;try refine go ?_
   exact ai ⟨⟨_,_,rfl⟩,aC.refl hs⟩
  ·try refine go ?_
   refine ak (vJ (n:=(ng,mag)) hT ⟨_,rfl,.vs n1 mag zQ⟩ (by simpa using hmg)) ?_;rintro d s2 ⟨rfl,⟨q,rfl⟩⟩;try refine go ?_
   exact ai ⟨⟨_,_,rfl⟩,aC.refl hs⟩
 have X3:(kd==14)=false:=by simpa using Xt
 try refine go ?_
 exact ai ⟨⟨_,_,rfl⟩,aC.refl hs⟩
theorem Lv (hT:nB T)(hS:mw T){i j:Nat}{t u:Tm}(hs:s.Ok)(hi:tms[i]? =some t)(hj:tms[j]? =some u)(ht:t.Ok)(hu:u.Ok):cu T H 86 [.vs nz 8 (tms.map Tm.d),.int .i64 (i:Nat),.int .i64 (j:Nat)] s fun d s1=>(∃c,d= .bool c/\(i=j->c=true))/\aC Nil s s1:=by
 have hi' :=ee hi;have VE :=ee hj;have q1:=ht.mag; have q2:=ht.n1; have q3:=hu.mag; have q4:=hu.n1;obtain⟨kd,b,ng,n1,mag,tx,n2,kids,hh,sm⟩:=t;obtain⟨kd',b',ng',Rt,mag',tx',SG,kids',P8,sm'⟩:=u;have mu:(Tm.mk kd b ng n1 mag tx n2 kids hh sm).d.st=true:=rfl;have tR:(Tm.mk kd' b' ng' Rt mag' tx' SG kids' P8 sm').d.st=true:=rfl;simp only at q1 q2 q3 q4;refine ay hS.t86 ?_;have hn:=fun (p:St) (okp:p.Ok)=>mL (H:=H) (d:=rv kd 0 b ng (.vs n1 1 (dz mag)) [] (.vs true 0 []) .cT 0 0 .cT .cT 0 false false) hT hS okp (kK (.vs n1 mag q2) q1);have Fu :=fun (p:St) (okp:p.Ok)=>mL (H:=H) (d:=rv kd' 0 b' ng' (.vs Rt 1 (dz mag')) [] (.vs true 0 []) .cT 0 0 .cT .cT 0 false false) hT hS okp (kK (.vs Rt mag' q4) q3);have c1:kd=3\/kd=2\/((kd==3)=false/\(kd==2)=false):=by
  simp only [bQ]; omega
 have c2:kd' =3\/kd' =2\/((kd' ==3)=false/\(kd' ==2)=false):=by
  simp only [bQ]; omega
 by_cases nO:i=j
 ·subst nO;have hji:((i:Int)==(i:Int))=true:=by simp
  rcases c1 with rfl | rfl | ⟨a3,a2⟩ <;> rcases c2 with rfl | rfl | ⟨b3,b2⟩
  all_goals
   try refine go ?_
   exact ai ⟨⟨_,rfl,fun _=>rfl⟩,aC.refl hs⟩
 have cC:((i:Int)==(j:Int))=false:=by simp only [bQ]; omega
 have lW:aL=2147483648:=rfl;have hd:∀(x:Int),(x==3)=true->x=3:=fun x h=>by simpa using h
 by_cases Yv:(kd=3\/kd=2)/\(kd' =3\/kd' =2)
 ·obtain⟨r1,r2⟩:=Yv;rcases r1 with rfl | rfl <;> rcases r2 with rfl | rfl
  all_goals
   try refine go ?_
   refine bf (hn s hs) ?_;rintro d p ⟨⟨n1,zQ,sv⟩,b7⟩;obtain⟨y1,rfl,xc⟩:=zQ;have ok7:=b7.ok;refine⟨rfl,by simp [lost,eN.kind,cJ,dE,cE,aI,bz,bz.cV,fZ,bP.ev,Env.get,cP,D.flat,D.isAgg,cL,D.fv,D.beq,az,Obj.aV,bC,bu,D.bV,D.aV,cA], ?_⟩;try refine go ?_
   refine bf (Fu p b7.ok) ?_;rintro d p2 ⟨⟨n2,hn3,hl3⟩,b8⟩;obtain⟨y3,rfl,hy3⟩:=hn3;have ok8:=b8.ok;refine⟨rfl,by simp [lost,eN.kind,cJ,dE,cE,aI,bz,bz.cV,fZ,bP.ev,Env.get,cP,D.flat,D.isAgg,cL,D.fv,D.beq,az,Obj.aV,bC,bu,D.bV,D.aV,cA], ?_⟩;try refine go ?_
   refine bf (wH (n:=n1) (m:=n2) hT b8.ok ⟨y1,rfl,xc.dU b7.ok b8 fun _ _ _ _=>id⟩ ⟨y3,rfl,hy3⟩ (by omega) (by omega)) ?_;rintro d p3 ⟨⟨r,rfl⟩,b9⟩;have ok9:=b9.ok;refine⟨rfl,by simp [lost,eN.kind,cJ,dE,cE,aI,bz,bz.cV,fZ,bP.ev,Env.get,cP,D.flat,D.isAgg,cL,D.fv,D.beq,az,Obj.aV,bC,bu,D.bV,D.aV,cA], ?_⟩;try refine go ?_
   exact ai ⟨⟨_,rfl,fun h=>absurd h nO⟩,(b7.trans b8).trans b9⟩
 rcases c1 with rfl | rfl | ⟨a3,a2⟩
 ·rcases c2 with rfl | rfl | ⟨b3,b2⟩
  ·exact absurd ⟨.inl rfl,.inl rfl⟩ Yv
  ·exact absurd ⟨.inl rfl,.inr rfl⟩ Yv
  ·have g:((3:Int) !=kd')=true:=by simp only [bQ]at b3; simp only [bne_iff_ne]; omega
   try refine go ?_
   exact ai ⟨⟨_,rfl,fun h=>absurd h nO⟩,aC.refl hs⟩
 ·rcases c2 with rfl | rfl | ⟨b3,b2⟩
  ·exact absurd ⟨.inr rfl,.inl rfl⟩ Yv
  ·exact absurd ⟨.inr rfl,.inr rfl⟩ Yv
  ·have g:((2:Int) !=kd')=true:=by simp only [bQ]at b2; simp only [bne_iff_ne]; omega
   try refine go ?_
   exact ai ⟨⟨_,rfl,fun h=>absurd h nO⟩,aC.refl hs⟩
 ·have Ih:∀b:Bool,((kd==1)=b)->(kd !=kd')=true\/(kd !=kd')=false:=fun b _=>by cases (kd !=kd') <;> simp
  rcases c2 with rfl | rfl | ⟨b3,b2⟩
  ·have g:(kd !=(3:Int))=true:=by simp only [bQ]at a3; simp only [bne_iff_ne]; omega
   try refine go ?_
   exact ai ⟨⟨_,rfl,fun h=>absurd h nO⟩,aC.refl hs⟩
  ·have g:(kd !=(2:Int))=true:=by simp only [bQ]at a2; simp only [bne_iff_ne]; omega
   try refine go ?_
   exact ai ⟨⟨_,rfl,fun h=>absurd h nO⟩,aC.refl hs⟩
  ·cases g:(kd !=kd')
   ·cases g14:(kd==14)
    ·cases g1:(kd==1)
     ·try refine go ?_
      exact ai ⟨⟨_,rfl,fun h=>absurd h nO⟩,aC.refl hs⟩
     ·try refine go ?_
      exact ai ⟨⟨_,rfl,fun h=>absurd h nO⟩,aC.refl hs⟩
    ·try refine go ?_
     exact ai ⟨⟨_,rfl,fun h=>absurd h nO⟩,aC.refl hs⟩
   ·try refine go ?_
    exact ai ⟨⟨_,rfl,fun h=>absurd h nO⟩,aC.refl hs⟩
end
@[reducible] def Nc (num:Int):D:=rv 6 num false false (.vs true 0 []) [] (.vs true 0 []) .cT 0 0 .cT .cT 0 false false
def IY (s:St)(wo oL cm P Sh:Nat)(L:List D)(kd:Int)(d:D)(s1:St):Prop:=
 ∃(r:Nat) (last' :Int) (M:List D),d= .int .i64 (r:Nat)/\jT s1 wo oL cm P Sh last' (L++M)/\r < (L++M).length/\M.length<=2/\(kd=6->r=L.length/\∃num,M=[Nc num])/\aC (yZ wo oL cm) s s1
section
variable {T:Nat->Option dS}{H:au}{s:St}{wo oL cm P Sh i:Nat}{last:Int}{L:List D}{tms:List Tm}{nz:Bool}{t:Tm}{x:D}{R:List Nat}
theorem Hu (hT:nB T)(hR:nH T)(hS:mw T)(hs:s.Ok)(h:jT s wo oL cm P Sh last L)(hi:tms[i]? =some t)(ho:t.Ok)(hk:t.kd=1)(PU:3<=L.length)(hL:L.length<=1000000)(hx:x= .vs true 0 []\/∃o n,x= .sl o 0 n n):
  cu T H 24 [.ptr wo 0,.vs nz 8 (tms.map Tm.d),x,.int .i64 (i:Nat)] s (IY s wo oL cm P Sh L t.kd):=by
 have hi' :=ee hi;have q1:=ho.mag; have q2:=ho.n1; have q3:=ho.tx;obtain⟨kd,b,ng,n1,mag,tx,n2,kids,hh,sm⟩:=t;have mu:(Tm.mk kd b ng n1 mag tx n2 kids hh sm).d.st=true:=rfl;simp only at hk q1 q2 q3; subst hk;rcases hx with rfl | ⟨o,n,rfl⟩
 all_goals
  refine ay hS.t24 ?_;try refine go ?_
  exact ai ⟨0,last,[],rfl,by simpa using h,by simp; omega,by simp,fun h=>by simp at h,aC.refl hs⟩
theorem GZ (hT:nB T)(hR:nH T)(hS:mw T)(hs:s.Ok)(h:jT s wo oL cm P Sh last L)(hi:tms[i]? =some t)(ho:t.Ok)(hk:t.kd=2)(PU:3<=L.length)(hL:L.length<=1000000)(hx:x= .vs true 0 []\/∃o n,x= .sl o 0 n n):
  cu T H 24 [.ptr wo 0,.vs nz 8 (tms.map Tm.d),x,.int .i64 (i:Nat)] s (IY s wo oL cm P Sh L t.kd):=by
 have hi' :=ee hi;have q1:=ho.mag; have q2:=ho.n1; have q3:=ho.tx;obtain⟨kd,b,ng,n1,mag,tx,n2,kids,hh,sm⟩:=t;have mu:(Tm.mk kd b ng n1 mag tx n2 kids hh sm).d.st=true:=rfl;simp only at hk q1 q2 q3; subst hk;rcases hx with rfl | ⟨o,n,rfl⟩
 all_goals
  refine ay hS.t24 ?_;try refine go ?_
  refine ak (Nj hS) ?_;rintro d s1 ⟨rfl,rfl⟩;cases b
  ·try refine go ?_
   exact ai ⟨1,last,[],rfl,by simpa using h,by simp; omega,by simp,fun h=>by simp at h,aC.refl hs⟩
  ·try refine go ?_
   exact ai ⟨2,last,[],rfl,by simpa using h,by simp; omega,by simp,fun h=>by simp at h,aC.refl hs⟩
theorem Kn (hT:nB T)(hR:nH T)(hS:mw T)(hs:s.Ok)(h:jT s wo oL cm P Sh last L)(hi:tms[i]? =some t)(ho:t.Ok)(hk:t.kd=3)(PU:3<=L.length)(hL:L.length<=1000000)(hx:x= .vs true 0 []\/∃o n,x= .sl o 0 n n):
  cu T H 24 [.ptr wo 0,.vs nz 8 (tms.map Tm.d),x,.int .i64 (i:Nat)] s (IY s wo oL cm P Sh L t.kd):=by
 have hi' :=ee hi;have q1:=ho.mag; have q2:=ho.n1; have q3:=ho.tx;obtain⟨kd,b,ng,n1,mag,tx,n2,kids,hh,sm⟩:=t;have mu:(Tm.mk kd b ng n1 mag tx n2 kids hh sm).d.st=true:=rfl;simp only at hk q1 q2 q3; subst hk;rcases hx with rfl | ⟨o,n,rfl⟩
 all_goals
  refine ay hS.t24 ?_;try refine go ?_
  refine ak (Ss (n:=(ng,mag)) hT hS hs h ⟨_,rfl,.vs n1 mag q2⟩ q1 hL) ?_;rintro d s1 ⟨rfl,⟨v,h1⟩,b1⟩;try refine go ?_
  exact ai ⟨L.length,last,[v],rfl,h1,by simp,by simp,fun h=>by simp at h,b1⟩
theorem JT (hT:nB T)(hR:nH T)(hS:mw T)(hs:s.Ok)(h:jT s wo oL cm P Sh last L)(hi:tms[i]? =some t)(ho:t.Ok)(hk:t.kd=4)(PU:3<=L.length)(hL:L.length<=1000000)(hx:x= .vs true 0 []\/∃o n,x= .sl o 0 n n):
  cu T H 24 [.ptr wo 0,.vs nz 8 (tms.map Tm.d),x,.int .i64 (i:Nat)] s (IY s wo oL cm P Sh L t.kd):=by
 have hi' :=ee hi;have q1:=ho.mag; have q2:=ho.n1; have q3:=ho.tx;obtain⟨kd,b,ng,n1,mag,tx,n2,kids,hh,sm⟩:=t;have mu:(Tm.mk kd b ng n1 mag tx n2 kids hh sm).d.st=true:=rfl;simp only at hk q1 q2 q3; subst hk;rcases hx with rfl | ⟨o,n,rfl⟩
 all_goals
  refine ay hS.t24 ?_;try refine go ?_
  refine ak (R4 hS hs h hL) ?_;rintro d s1 ⟨rfl,⟨v,h1⟩,b1⟩;try refine go ?_
  exact ai ⟨L.length,last,[v],rfl,h1,by simp,by simp,fun h=>by simp at h,b1⟩
theorem F6 (hT:nB T)(hR:nH T)(hS:mw T)(hs:s.Ok)(h:jT s wo oL cm P Sh last L)(hi:tms[i]? =some t)(ho:t.Ok)(hk:t.kd=6)(PU:3<=L.length)(hL:L.length<=1000000)(hx:x= .vs true 0 []\/∃o n,x= .sl o 0 n n):
  cu T H 24 [.ptr wo 0,.vs nz 8 (tms.map Tm.d),x,.int .i64 (i:Nat)] s (IY s wo oL cm P Sh L t.kd):=by
 have hi' :=ee hi;have q1:=ho.mag; have q2:=ho.n1; have q3:=ho.tx;obtain⟨kd,b,ng,n1,mag,tx,n2,kids,hh,sm⟩:=t;have mu:(Tm.mk kd b ng n1 mag tx n2 kids hh sm).d.st=true:=rfl;simp only at hk q1 q2 q3; subst hk;rcases hx with rfl | ⟨o,n,rfl⟩
 all_goals
  refine ay hS.t24 ?_;try refine go ?_
  refine ak (mD hS hs h (fun num=>kK .nil (aR _)) hL) ?_;rintro d s1 ⟨rfl,⟨l1,num,h1⟩,b1,n1⟩;try refine go ?_
  exact ai ⟨L.length,l1,[_],rfl,h1,by simp,by simp,fun _=>⟨rfl,num,rfl⟩,b1⟩
end
section
variable {T:Nat->Option dS}{H:au}{s:St}{wo oL cm P Sh i:Nat}{last:Int}{L:List D}{tms:List Tm}{nz:Bool}{t:Tm}{x:D}{R:List Nat}
theorem jT.ni (h:jT s wo oL cm P Sh last L){o:Nat}{es:List D}{st:Nat}(g:s.get o=some (.arr 1 3 es st)): ¬ yZ wo oL cm o:=by
 obtain⟨st',g1,_⟩:=h.gl;obtain⟨a1,a2,a3,a4,g2⟩:=h.ct;have g3:=h.go;rintro (rfl | rfl | rfl)
 ·rw [g3]at g; cases g
 ·rw [g1]at g; simp at g
 ·rw [g2]at g; simp at g
theorem Hj (hS:mw T)(hs:s.Ok)(h:jT s wo oL cm P Sh last L)(hi:tms[i]? =some t)(hk:t.kd=15\/t.kd=16\/t.kd=17){y r:Nat}(aaU:t.kids=[(y:Int)])(hx:Refs s x R)(hy:R[y]? =some r)(hL:L.length<=1000000):
  cu T H 24 [.ptr wo 0,.vs nz 8 (tms.map Tm.d),x,.int .i64 (i:Nat)] s (IY s wo oL cm P Sh L t.kd):=by
 have hi' :=ee hi;have vk:=ir R;obtain⟨o,rfl,g,oP,hl⟩:=hx.at' hy;obtain⟨kd,b,ng,n1,mag,tx,n2,kids,hh,sm⟩:=t;simp only at hk aaU;subst aaU;have Co:(ints [(y:Int)])[0]? =some (.int .i64 (y:Nat)):=rfl;have mu:(Tm.mk kd b ng n1 mag tx n2 [(y:Int)] hh sm).d.st=true:=rfl;have lF:=fun kd:Int=>mD (H:=H) (kd:=kd) (num:=0) (b:=false) (ng:=false) (hh:=false) (ss:=false) (mag:= .vs true 0 []) (items:= .vs true 0 []) (dd:= .cT) (fo:= .cT) (sp:= .cT) (tx:=[]) (cls:=0) (base:=0) (of' :=(r:Nat)) hS hs h (fun num=>kK .nil (aR _)) hL;rcases hk with rfl | rfl | rfl
 all_goals
  refine ay hS.t24 ?_;try refine go ?_
  refine bf (lF _) ?_;rintro d s1 ⟨rfl,⟨l1,num,h1⟩,b1,n1⟩;have g1:=b1.get hs g (h.ni g);refine⟨rfl,by simp [lost,eN.kind,cJ,dE,cE,aI,bz,bz.cV,fZ,bP.ev,Env.get,cP,D.flat,D.isAgg,cL,D.fv,D.beq,az,Obj.aV,bC,bu,D.bV,D.aV,g,g1], ?_⟩;try refine go ?_
  exact ai ⟨L.length,l1,[_],rfl,h1,by simp,by simp,fun h=>by simp at h,b1⟩
end
end Go.Proofs.Tab
