/- Part. -/
import Derived.Test.YtjaldhgmboeffaaGreatDoorG39
import Derived.Test.YtjaldhgmboeffaaGreatDoorG34
set_option linter.unusedSimpArgs false
set_option linter.unusedVariables false
set_option linter.unusedSectionVars false
set_option maxRecDepth 100000
set_option maxHeartbeats 2000000
namespace Go.Proofs.Tab
open Go Go.Ab Go.Ab.Sm
abbrev B9 (V:List Nat):List D:=V.map fun r:Nat=>D.int .i32 (r:Int)
theorem x5 (V:List Nat):(B9 V).length=V.length:=aJ _
theorem wS {n:Nat}{l:List UInt8}(h:l≠ []):lf (n+1) l=(Lib.decodeL l).1::lf n (l.drop (Lib.decodeL l).2):=by rw [lf,aK h]
theorem GP (n:Nat):lf n []=[]:=by cases n <;> rfl
theorem u9:∀(n:Nat) (l:List UInt8),(lf n l).length<=l.length
 | 0,l=>aS _
 | n+1,l=>by
  by_cases cE:l=[]
  ·subst cE; exact aq _
  have hw:=Lib.decodeL_width l;have hl:=dT.2 cE;have ih:=u9 n (l.drop (Lib.decodeL l).2);rw [dY]at ih;rw [wS cE,aV]; omega
inductive Runes (s s1:St):D->List Nat->Prop
 | nil:Runes s s1 (.vs true 0 []) []
 | sl (o:Nat) (V:List Nat) (h:s1.get o=some (.arr 1 21 (B9 V) 0)) (hn:s.n < o) (cE:V≠ []):Runes s s1 (.sl o 0 V.length V.length) V
section
variable {T:Nat->Option dU}{H:ay}{s:St}
def PcI (s:St)(l:List UInt8)(m:Nat)(env:Env) (s' :St):Prop:=aF Nil s s' /\∃pos V d,l.length - pos<=m/\s'.get s.n=some (.lF l pos)/\Runes s s' d V/\V++lf m (l.drop pos)=lf l.length l/\env=[(3,d),(7,.ptr s.n 0)]
theorem zi (hT:nB T)(hs:s.Ok){l:List UInt8}(hl:l.length<=1000000):cu T H 181 [.str l] s fun d s1=>Row s1 1 d (B9 (lf l.length l))/\aF Nil s s1:=by
 have lZ:aL=2147483648:=rfl;have ur:=u9 l.length l;refine ax hT.t181 ?_;try refine go ?_
 refine iV ?_ rfl (Eu hs rfl);try refine go ?_
 refine cg (PcI s l) l.length rfl ⟨aF.push (aF.refl hs) _,0,[],_,by omega,St.bu,.nil,rfl,rfl⟩ ?_;rintro m env s1 ⟨b1,pos,V,d,hm,hg,hr,hV,rfl⟩;have ok1:=b1.ok;have ln:=ok1.lt hg;by_cases hp:pos < l.length
 ·have hd:=qI ⟨l.toArray⟩ pos;have hdl:Lib.decodeL (l.drop pos)=Utf8.decode ⟨l.toArray⟩ pos:=by
   have:=Lib.decodeL_drop ⟨l.toArray⟩ pos;simpa using this
  have cE:l.drop pos≠ []:=by intro h; have:=congrArg List.length h; rw [dY,bL]at this; omega
  obtain⟨m',rfl⟩:∃m',m=m' +1:=⟨m - 1,by omega⟩;rw [wS cE,List.drop_drop,hdl]at hV;have Ym:(V++ [(Utf8.decode ⟨l.toArray⟩ pos).1])++lf m' (l.drop (pos+(Utf8.decode ⟨l.toArray⟩ pos).2))=lf l.length l:=by rw [← hV]; simp
  have hVl:V.length+1<=1000000:=by have:=congrArg List.length Ym; rw [aG,aG,aZ]at this; omega
  have ei:B9 (V++ [(Utf8.decode ⟨l.toArray⟩ pos).1])=B9 V++ [.int .i32 ((Utf8.decode ⟨l.toArray⟩ pos).1:Nat)]:=by simp
  have eil:=x5 V;generalize hdc:(Utf8.decode ⟨l.toArray⟩ pos).1=r at Ym ei;have bs:aF Nil s (s1.bF s.n (.lF l (pos+(Utf8.decode ⟨l.toArray⟩ pos).2))):=aF.set b1 _ ln (fun h=>by omega);have n1:=b1.n;have oks:=bs.ok;have gs:(s1.bF s.n (.lF l (pos+(Utf8.decode ⟨l.toArray⟩ pos).2))).get s.n=some (.lF l (pos+(Utf8.decode ⟨l.toArray⟩ pos).2)):=St.aO;rcases hr with _ | ⟨o,V,h,hn,X0⟩
  ·try refine go ?_
   refine iV ?_ rfl (Cf ok1 rfl hg hp);rw [hdc];try refine go ?_
   refine bf m' (by omega) rfl ⟨?_,_,[r],_,by omega, ?_,.sl s1.n [r] St.bu (by omega) (by simp),Ym,rfl⟩
   ·exact aF.push bs _
   ·exact St.fV gs (by rw [St.fE]; omega)
  ·have lo:=ok1.lt h;have h' :(s1.bF s.n (.lF l (pos+(Utf8.decode ⟨l.toArray⟩ pos).2))).get o=some (.arr 1 21 (B9 V) 0):=St.eS h (by omega);try refine go ?_
   refine iV ?_ rfl (Cf ok1 rfl hg hp);rw [hdc];try refine go ?_
   have jr:=Runes.sl (s:=s) (s1:=(s1.bF s.n (.lF l (pos+(Utf8.decode ⟨l.toArray⟩ pos).2))).bF o (.arr 1 21 (B9 V++ [.int .i32 (r:Nat)]) 0)) o (V++ [r]) (by rw [ei]; exact St.aO) hn (by simp);rw [aG,aZ]at jr;refine bf m' (by omega) rfl ⟨?_,_,V++ [r],_,by omega, ?_,jr,Ym,rfl⟩
   ·exact aF.set bs _ (by rw [St.fE]; exact lo) (fun h=>by omega)
   ·exact St.eS gs (by omega)
 ·have h0:l.drop pos=[]:=List.drop_eq_nil_of_le (by omega);rw [h0,GP,dZ]at hV;rw [← hV];rcases hr with _ | ⟨o,V,h,hn,X0⟩
  ·try refine go ?_
   refine iV ?_ rfl (B7 rfl hg hp);try refine go ?_
   exact ai ⟨.vs true 0 _ (.inr rfl),b1⟩
  ·try refine go ?_
   refine iV ?_ rfl (B7 rfl hg hp);try refine go ?_
   refine ai ⟨?_,b1⟩;have:=Row.sl (s:=s1) (sz:=1) o 0 V.length _ 0 _ (B9 V) h (by rw [gz,eE]) (by simp) (aS _) (by simp);rwa [x5]at this
theorem Lp (hT:nB T)(hs:s.Ok){l:List UInt8}(hl:l.length<=1000000):cu T H 121 [.str l] s fun d s1=>d= .bool (Lib.validD l)/\aF Nil s s1:=by
 refine ax hT.t121 ?_;try refine go ?_
 refine ak (zi hT hs hl) ?_;rintro d s1 ⟨h1,b1⟩;have hc:=wR l.length l (aq _);have hk:=Ah l.length l (aq _);have hb:(r8 l==l)=Lib.validD l:=by
  cases hv:Lib.validD l with
  | true=>rw [hk.2 hv]; simp
  | false=>
   rw [bJ];intro h; rw [hk.1 h]at hv; cases hv
 refine G7 h1 hc ?_;try refine go ?_
 exact ai ⟨by rw [← hb],b1⟩
theorem Qj (hT:nB T)(hs:s.Ok){l:List UInt8}(hl:l.length<=1000000):cu T H 122 [.str l] s fun d s1=>(∃n:Nat,d= .int .i64 n/\n<=l.length)/\aF Nil s s1:=by
 refine ax hT.t122 ?_;try refine go ?_
 refine ak (zi hT hs hl) ?_;rintro d s1 ⟨h1,b1⟩;try refine tw ?_
 exact ai ⟨⟨(B9 (lf l.length l)).length,rfl,by rw [x5]; exact u9 _ _⟩,b1⟩
end
@[reducible] def rv (kd num:Int) (b ng:Bool) (mag:D) (tx:List UInt8) (items dd:D) (cls base:Int) (fo sp:D) (of' :Int) (hh ss:Bool):D:= .agg [.int .i64 kd,.int .i64 num,.bool false,.bool b,.bool ng,mag,.str tx,items,dd,.int .i64 0,.vs true 0 [],.int .i64 0,.int .i64 0,.int .i64 cls,.int .i64 base,fo,sp,.int .i64 of',.cz,.bool false,.bool hh,.bool ss]
def sN (s:St)(d:D):Prop:=∃kd num b ng mag tx items dd cls base fo sp of' hh ss V,d=rv kd num b ng mag tx items dd cls base fo sp of' hh ss/\Ws s mag V/\V.length<=60000/\items.sc=true/\dd.sc=true/\fo.sc=true/\sp.sc=true
theorem sN.st {s:St}{d:D}(h:sN s d):d.st=true:=by
 obtain⟨kd,num,b,ng,mag,tx,items,dd,cls,base,fo,sp,of',hh,ss,V,rfl,h1,h2,h3,h4,h5,h6⟩:=h;simp only [rv,D.st,gQ,List.all_nil,h1.row.sc,h3,h4,h5,h6]; rfl
theorem sN.dK {W:Nat->Prop}{s s1:St}{d:D}(h:sN s d)(hs:s.Ok)(hb:aF W s s1)(hw:∀j es st,s.get j=some (.arr 1 194 es st)-> ¬ W j):sN s1 d:=by
 obtain⟨kd,num,b,ng,mag,tx,items,dd,cls,base,fo,sp,of',hh,ss,V,rfl,h1,h2⟩:=h;exact⟨kd,num,b,ng,mag,tx,items,dd,cls,base,fo,sp,of',hh,ss,V,rfl,h1.dK hs hb hw,h2⟩
structure jT (s:St)(wo oL cm P Sh:Nat)(last:Int)(L:List D):Prop where
 go:s.get wo=some (.var 152 (.agg [.sl oL 0 L.length L.length,.int .i64 last,.int .i64 0,.int .i64 (P:Nat),.int .i64 (Sh:Nat),.vs true 0 [],.vs true 0 [],.ptr cm 0]))
 gl:∃st,s.get oL=some (.arr 22 158 L st)/\st<=L.length
 vs:∀d∈L,sN s d
 ct:jF s cm
 nn:L≠ []
def zl (wo oL cm j:Nat):Prop:=j=wo\/j=oL\/j=cm
section
variable {T:Nat->Option dU}{H:ay}{s:St}{wo oL cm P Sh:Nat}{last:Int}{L:List D}
theorem jT.lt (h:jT s wo oL cm P Sh last L)(hs:s.Ok):wo < s.n/\oL < s.n/\cm < s.n:=by
 obtain⟨st,g1,_⟩:=h.gl;obtain⟨a1,a2,a3,a4,g2⟩:=h.ct;exact⟨hs.lt h.go,hs.lt g1,hs.lt g2⟩
theorem jT.ne (h:jT s wo oL cm P Sh last L):wo≠oL/\wo≠cm/\oL≠cm:=by
 obtain⟨st,g1,_⟩:=h.gl;obtain⟨a1,a2,a3,a4,g2⟩:=h.ct;have g3:=h.go;refine⟨?_, ?_, ?_⟩
 ·rintro rfl; rw [g3]at g1; cases g1
 ·rintro rfl; rw [g3]at g2; simp at g2
 ·rintro rfl; rw [g1]at g2; cases g2
theorem jT.nu (h:jT s wo oL cm P Sh last L):∀j es st,s.get j=some (.arr 1 194 es st)-> ¬ zl wo oL cm j:=by
 obtain⟨st,g1,_⟩:=h.gl;obtain⟨a1,a2,a3,a4,g2⟩:=h.ct;have g3:=h.go;rintro j es st' g (rfl | rfl | rfl)
 ·rw [g3]at g; cases g
 ·rw [g1]at g; simp at g
 ·rw [g2]at g; cases g
theorem jT.dK {W:Nat->Prop}{s1:St}(h:jT s wo oL cm P Sh last L)(hs:s.Ok)(hb:aF W s s1)(h1: ¬ W wo)(h2: ¬ W oL)(h3:jF s1 cm)(hw:∀j es st,s.get j=some (.arr 1 194 es st)-> ¬ W j):jT s1 wo oL cm P Sh last L:=by
 obtain⟨st,g1,g2⟩:=h.gl;exact⟨hb.get hs h.go h1,⟨st,hb.get hs g1 h2,g2⟩,fun d hd=>(h.vs d hd).dK hs hb hw,h3,h.nn⟩
theorem jT.nil {s1:St}(h:jT s wo oL cm P Sh last L)(hs:s.Ok)(hb:aF Nil s s1):jT s1 wo oL cm P Sh last L:=h.dK hs hb id id (h.ct.dK hs hb id) (fun _ _ _ _=>id)
theorem jT.at (h:jT s wo oL cm P Sh last L){i:Nat}{d:D}(hd:L[i]? =some d):sN s d:=h.vs d (aM hd)
theorem vC (hS:mz T){d:D}(hs:s.Ok)(h:jT s wo oL cm P Sh last L)(hd:sN s d)(hL:L.length<=1000000):
  cu T H 184 [.ptr wo 0,d] s fun r s1=>r= .int .i64 (L.length:Nat)/\jT s1 wo oL cm P Sh last (L++ [d])/\aF (zl wo oL cm) s s1/\s1.n=s.n+1:=by
 have dN:=hd.st;have Fh:=hd;obtain⟨kd,num,b,ng,mag,tx,items,dd,cls,base,fo,sp,of',hh,ss,V,rfl,h1,h2⟩:=hd;have gw:=h.go;obtain⟨st,gl,pB⟩:=h.gl;obtain⟨n1,n2,n3⟩:=h.ne;obtain⟨l1,l2,l3⟩:=h.lt hs;have w1:IntKind.wrap .i64 (((L.length+1:Nat):Int) - 1)=(L.length:Nat):=by rw [wrap_small (by omega) (by omega)]; omega
 refine ax hS.t184 ?_;refine run_seq ?_;refine mb ?_;refine j8 dN ?_;try refine go ?_
 refine yJ ?_ (h2:=dN);try refine go ?_
 have fS:eI 22 [rv kd num b ng mag tx items dd cls base fo sp of' hh ss]=true:=by simp only [eI,dN]; rfl
 have lZ:aL=2147483648:=rfl;refine rP ?_ (ha:=fS) (hm:=by simp only [aZ]; omega);try refine go ?_
 obtain⟨a1,a2,a3,a4,gc⟩:=h.ct;have hlen:(L++ [rv kd num b ng mag tx items dd cls base fo sp of' hh ss]).length=L.length+1:=by rw [aG,aZ]
 refine BO (fun p=>p.get wo=some (.var 152 (.agg [.sl oL 0 (L.length+1) (L.length+1),.int .i64 last,.int .i64 0,.int .i64 (P:Nat),.int .i64 (Sh:Nat),.vs true 0 [],.vs true 0 [],.ptr cm 0]))/\p.get oL=some (.arr 22 158 (L++ [rv kd num b ng mag tx items dd cls base fo sp of' hh ss]) st)/\jF p cm/\aF (zl wo oL cm) s p/\p.n=s.n+1) ⟨gI,gI,⟨a1,a2,a3,a4,gI⟩, ?_,rfl⟩ ?_
 ·refine aF.set (aF.set (aF.up (aF.refl hs) 1) _ ?_ ?_) _ ?_ ?_
  all_goals first
   | (intro _; exact .inl rfl)
   | (intro _; exact .inr (.inl rfl))
   | (simp only [St.fE,St.jx]; omega)
 rintro p ⟨g1,g2,g3,bp,np⟩;refine ai ⟨by show D.int .i64 (IntKind.wrap .i64 (((L.length+1:Nat):Int) - 1))=_; rw [w1],⟨by rw [hlen]; exact g1,⟨st,g2,by rw [hlen]; omega⟩,fun d hd=> ?_,g3,by simp⟩,bp,np⟩
 ·rw [bK,cH]at hd;rcases hd with hd | rfl
  ·exact (h.vs d hd).dK hs bp h.nu
  ·exact Fh.dK hs bp h.nu
theorem mH (hS:mz T){kd num:Int}{b ng hh ss:Bool}{mag items dd fo sp:D}{tx:List UInt8} {cls base of' :Int}(hs:s.Ok)(h:jT s wo oL cm P Sh last L)(hd:∀num,sN s (rv kd num b ng mag tx items dd cls base fo sp of' hh ss))(hL:L.length<=1000000):
  cu T H 128 [.ptr wo 0,rv kd num b ng mag tx items dd cls base fo sp of' hh ss] s fun r s1=>r= .int .i64 (L.length:Nat)/\(∃last' num',jT s1 wo oL cm P Sh last' (L++ [rv kd num' b ng mag tx items dd cls base fo sp of' hh ss]))/\aF (zl wo oL cm) s s1/\s1.n=s.n+1:=by
 have dN:=fun num=>(hd num).st;have gw:=h.go;obtain⟨n1,n2,n3⟩:=h.ne;obtain⟨l1,l2,l3⟩:=h.lt hs;refine ax hS.t128 ?_;refine run_seq ?_;refine mb ?_;refine j8 (dN num) ?_;try refine go ?_
 obtain⟨st,gl,pB⟩:=h.gl;obtain⟨a1,a2,a3,a4,gc⟩:=h.ct;refine jL (fun p=>p.get wo=some (.var 152 (.agg [.sl oL 0 L.length L.length,.int .i64 (IntKind.wrap .i64 (last+1)),.int .i64 0,.int .i64 (P:Nat),.int .i64 (Sh:Nat),.vs true 0 [],.vs true 0 [],.ptr cm 0]))/\p.get oL=some (.arr 22 158 L st)/\jF p cm/\aF (fun j=>j=wo) s p/\p.n=s.n) ⟨gI,gI,⟨a1,a2,a3,a4,gI⟩,aF.set (W:=fun j=>j=wo) (aF.refl hs) _ l1 (fun _=>rfl),rfl⟩ ?_;rintro p ⟨g1,g2,g3,bp,np⟩;have okp:=bp.ok;have nu:∀j es st,s.get j=some (.arr 1 194 es st)-> ¬ j=wo:=fun j es st g e=>h.nu j es st g (.inl e);have hp:jT p wo oL cm P Sh (IntKind.wrap .i64 (last+1)) L:=⟨g1,⟨st,g2,pB⟩,fun d hd=>(h.vs d hd).dK hs bp nu,g3,h.nn⟩;refine ak (vC (d:=rv kd (IntKind.wrap .i64 (last+1)) b ng mag tx items dd cls base fo sp of' hh ss) hS okp hp ((hd _).dK hs bp nu) hL) ?_;rintro r p2 ⟨rfl,h2,b2,Vb⟩;try refine go ?_
 exact ai ⟨rfl,⟨_,_,h2⟩,(bp.mono fun j hj=> .inl hj).trans b2,by omega⟩
theorem kR {kd num:Int}{b ng hh ss:Bool}{mag items dd fo sp:D}{tx:List UInt8} {cls base of' :Int}{V:List Nat}(h1:Ws s mag V)(h2:V.length<=60000)(h3:items.sc=true:=by rfl)(h4:dd.sc=true:=by rfl)(h5:fo.sc=true:=by rfl)(h6:sp.sc=true:=by rfl):sN s (rv kd num b ng mag tx items dd cls base fo sp of' hh ss):=⟨_,_,_,_,_,_,_,_,_,_,_,_,_,_,_,V,rfl,h1,h2,h3,h4,h5,h6⟩
theorem PQ (hT:nB T)(hS:mz T){d:D}{n:Bool×List Nat}(hs:s.Ok)(h:jT s wo oL cm P Sh last L)(hd:qD s d n)(hn:n.2.length<=60000)(hL:L.length<=1000000):
  cu T H 126 [.ptr wo 0,d] s fun r s1=>r= .int .i64 (L.length:Nat)/\(∃d,jT s1 wo oL cm P Sh last (L++ [d]))/\aF (zl wo oL cm) s s1:=by
 have dN:=hd.st;have hF:=uB (H:=H) hT hs hd (by simp only [aL]; omega);obtain⟨y,rfl,hy⟩:=hd;refine ax hS.t126 ?_;refine run_seq ?_;refine mb ?_;refine j8 dN ?_;try refine go ?_
 refine ak hF ?_;rintro d s1 ⟨⟨y2,rfl,h1⟩,b1⟩;rcases h1.row.sh with ⟨nl,z,rfl⟩ | ⟨o,off,cp,rfl⟩
 all_goals
  try refine go ?_
  refine ak (vC hS b1.ok (h.nil hs b1) (kR h1 (cU (mh _ _) hn)) hL) ?_;rintro r s2 ⟨rfl,h2,b2,_⟩;try refine go ?_
  exact ai ⟨rfl,⟨_,h2⟩,(b1.mono fun _ h=>h.elim).trans b2⟩
theorem Ri (hS:mz T){tx:List UInt8}(hs:s.Ok)(h:jT s wo oL cm P Sh last L)(hL:L.length<=1000000):
  cu T H 127 [.ptr wo 0,.str tx] s fun r s1=>r= .int .i64 (L.length:Nat)/\(∃d,jT s1 wo oL cm P Sh last (L++ [d]))/\aF (zl wo oL cm) s s1:=by
 refine ax hS.t127 ?_;try refine go ?_
 refine ak (vC hS hs h (kR .nil (aS _)) hL) ?_;rintro r s2 ⟨rfl,h2,b2,_⟩;try refine go ?_
 exact ai ⟨rfl,⟨_,h2⟩,b2⟩
end
section
variable {T:Nat->Option dU}{H:ay}{s:St}{wo oL cm P Sh:Nat}{last:Int}{L:List D}
theorem MF (hS:mz T){i:Nat}(h:jT s wo oL cm P Sh last L)(hi:i < L.length):cu T H 243 [.ptr wo 0,.int .i64 (i:Nat)] s fun d s1=>d= .bool true/\s1=s:=by
 have gw:=h.go;obtain⟨st,gl,dN⟩:=h.gl;obtain⟨kd,num,b,ng,mag,tx,items,dd,cls,base,fo,sp,of',hh,ss,V,he,h1,h2⟩:=h.at (ab hi);have oM:L[0+i]? =some (rv kd num b ng mag tx items dd cls base fo sp of' hh ss):=by rw [aN,ab hi,he]
 have d1:=eJ ((i:Int) >= 0);have d2:=eJ ((i:Int) < (L.length:Nat));refine ax hS.t243 ?_;try refine go ?_
 exact ai ⟨rfl,rfl⟩
theorem xV (hS:mz T){k:Int}:cu T H 244 [.int .i64 k] s fun d s1=>(∃c,d= .bool c)/\s1=s:=by
 refine ax hS.t244 ?_;by_cases h1:1<=k
 ·by_cases h2:k<=4
  ·have d1:=eJ (k >= 1);have d2:decide (k<=4)=true:=cO h2;try refine go ?_
   exact ai ⟨⟨_,rfl⟩,rfl⟩
  ·have d1:=eJ (k >= 1);have d2:decide (k<=4)=false:=bk h2;try refine go ?_
   exact ai ⟨⟨_,rfl⟩,rfl⟩
 ·have d1:=cN (k >= 1);try refine go ?_
  exact ai ⟨⟨_,rfl⟩,rfl⟩
theorem mR (hT:nB T)(hS:mz T){d:D}(hs:s.Ok)(hd:sN s d):cu T H 190 [d] s fun r s1=>(∃n,qD s1 r n/\n.2.length<=60000)/\aF Nil s s1:=by
 have dN:=hd.st;obtain⟨kd,num,b,ng,mag,tx,items,dd,cls,base,fo,sp,of',hh,ss,V,rfl,h1,h2,h3,h4,h5,h6⟩:=hd;have pB:(D.agg [.bool ng,mag]).st=true:=qD.st (n:=(ng,V)) ⟨_,rfl,h1⟩;refine ax hS.t190 ?_;refine run_seq ?_;refine mb ?_;refine j8 dN ?_;try refine go ?_
 refine cV (fun _=> ?_) (fun _=> ?_)
 ·cases b
  ·try refine go ?_
   refine ak (Hc hT hs (.inl rfl)) ?_;rintro d s1 ⟨⟨n,hn,qV⟩,b1⟩;have mE:=hn.st;obtain⟨y,rfl,hy⟩:=hn;refine fJ mE ?_;try refine go ?_
   exact ai ⟨⟨n,⟨y,rfl,hy⟩,by omega⟩,b1⟩
  ·try refine go ?_
   refine ak (Hc hT hs (.inr (.inl rfl))) ?_;rintro d s1 ⟨⟨n,hn,qV⟩,b1⟩;have mE:=hn.st;obtain⟨y,rfl,hy⟩:=hn;refine fJ mE ?_;try refine go ?_
   exact ai ⟨⟨n,⟨y,rfl,hy⟩,by omega⟩,b1⟩
 ·try refine go ?_
  refine fJ pB ?_;try refine go ?_
  exact ai ⟨⟨(ng,V),⟨_,rfl,h1⟩,h2⟩,aF.refl hs⟩
theorem zY (hT:nB T)(hS:mz T){i:Nat}(hs:s.Ok)(h:jT s wo oL cm P Sh last L)(hi:i < L.length):cu T H 245 [.ptr wo 0,.int .i64 (i:Nat)] s fun d s1=>(∃r c n,d= .gK [r,.bool c]/\qD s1 r n/\n.2.length<=60000)/\aF Nil s s1:=by
 have gw:=h.go;obtain⟨st,gl,dN⟩:=h.gl;have hv:=h.at (ab hi);have pB:=hv.st;have Cq:=mR (H:=H) hT hS hs hv;obtain⟨kd,num,b,ng,mag,tx,items,dd,cls,base,fo,sp,of',hh,ss,V,he,h1,h2⟩:=hv;rw [he]at pB Cq;have oM:L[0+i]? =some (rv kd num b ng mag tx items dd cls base fo sp of' hh ss):=by rw [aN,ab hi,he]
 refine ax hS.t245 ?_;by_cases ZV:kd=3
 ·have e3:(kd !=3)=false:=by simp [ZV]
  try refine go ?_
  refine fJ pB ?_;try refine go ?_
  refine ak Cq ?_;rintro d s1 ⟨⟨n,hn,qV⟩,b1⟩;have mE:=hn.st;obtain⟨y,rfl,hy⟩:=hn;refine fJ mE ?_;try refine go ?_
  exact ai ⟨⟨_,_,n,rfl,⟨y,rfl,hy⟩,qV⟩,b1⟩
 ·have e3:(kd !=3)=true:=by simp [ZV]
  by_cases ym:kd=2
  ·have e2:(kd !=2)=false:=by simp [ym]
   try refine go ?_
   refine fJ pB ?_;try refine go ?_
   refine ak Cq ?_;rintro d s1 ⟨⟨n,hn,qV⟩,b1⟩;have mE:=hn.st;obtain⟨y,rfl,hy⟩:=hn;refine fJ mE ?_;try refine go ?_
   exact ai ⟨⟨_,_,n,rfl,⟨y,rfl,hy⟩,qV⟩,b1⟩
  ·have e2:(kd !=2)=true:=by simp [ym]
   try refine go ?_
   refine fJ pB ?_;try refine go ?_
   exact ai ⟨⟨_,_,(false,[]),rfl,⟨_,rfl,.nil⟩,aS _⟩,aF.refl hs⟩
theorem JK (hT:nB T)(hS:mz T){i j:Nat}(hs:s.Ok)(h:jT s wo oL cm P Sh last L)(hi:i < L.length)(hj:j < L.length):cu T H 196 [.ptr wo 0,.int .i64 (i:Nat),.int .i64 (j:Nat)] s fun d s1=>(∃c,d= .bool c)/\aF Nil s s1:=by
 have gw:=h.go;obtain⟨st,gl,dN⟩:=h.gl;have hv:=h.at (ab hi);have Ct :=h.at (ab hj);have pB:=hv.st; have Mg:=Ct.st;have Cq:=fun (p:St) (okp:p.Ok) (b:aF Nil s p)=>mR (H:=H) hT hS okp (hv.dK hs b fun _ _ _ _=>id);have UP :=fun (p:St) (okp:p.Ok) (b:aF Nil s p)=>mR (H:=H) hT hS okp (Ct.dK hs b fun _ _ _ _=>id);obtain⟨kd,num,b,ng,mag,tx,items,dd,cls,base,fo,sp,of',hh,ss,V,he,h1,h2⟩:=hv;obtain⟨kd',num',b',ng',mag',tx',items',dd',cls',base',fo',sp',of'',RQ,ss',V',Pp,FZ,xr⟩:=Ct;rw [he]at pB Cq;rw [Pp]at Mg UP;have oM:L[0+i]? =some (rv kd num b ng mag tx items dd cls base fo sp of' hh ss):=by rw [aN,ab hi,he]
 have R5 :L[0+j]? =some (rv kd' num' b' ng' mag' tx' items' dd' cls' base' fo' sp' of'' RQ ss'):=by rw [aN,ab hj,Pp]
 refine ax hS.t196 ?_;try refine go ?_
 refine ak (MF hS h hi) ?_;rintro d s1 ⟨rfl,rfl⟩;try refine go ?_
 refine ak (MF hS h hj) ?_;rintro d s2 ⟨rfl,rfl⟩;try refine go ?_
 refine cV (fun _=> ?_) (fun _=> ?_)
 ·try refine go ?_
  exact ai ⟨⟨_,rfl⟩,aF.refl hs⟩
 ·try refine go ?_
  refine fJ pB ?_;try refine go ?_
  refine fJ Mg ?_;try refine go ?_
  refine ak (xV hS) ?_;rintro d s3 ⟨⟨p1,rfl⟩,rfl⟩;cases p1
  ·try refine go ?_
   exact ai ⟨⟨_,rfl⟩,aF.refl hs⟩
  try refine go ?_
  refine ak (xV hS) ?_;rintro d s4 ⟨⟨p2,rfl⟩,rfl⟩;cases p2
  ·try refine go ?_
   exact ai ⟨⟨_,rfl⟩,aF.refl hs⟩
  try refine go ?_
  refine ak (zY hT hS hs h hi) ?_;rintro d s5 ⟨⟨r,c,n,rfl,hn,qV⟩,b5⟩;have st5:=hn.st;obtain⟨y,rfl,hy⟩:=hn;try refine go ?_
  refine fJ st5 ?_;try refine go ?_
  refine ak (zY hT hS b5.ok (h.nil hs b5) hj) ?_;rintro d s6 ⟨⟨r',c',n',rfl,Fm,acC⟩,b6⟩;have st6:=Fm.st;obtain⟨y',rfl,JD⟩:=Fm;try refine go ?_
  refine fJ st6 ?_;have b06:=b5.trans b6;have ok6:=b06.ok;by_cases Xp:c=true/\c' =true
  ·obtain⟨rfl,rfl⟩:=Xp;try refine go ?_
   refine aX (Cq s6 ok6 b06) ?_;rintro d p ⟨⟨n1,zA,sq⟩,b7⟩;obtain⟨y1,rfl,w7⟩:=zA;have ok7:=b7.ok;refine⟨rfl,by simp [lost,eQ.kind,cK,dE,cF,aI,bC,bC.cW,gk,bP.ev,Env.get,cS,D.flat,D.isAgg,cP,D.fw,D.beq,aA,Obj.aW,bE,br,D.bW,D.aW,cB], ?_⟩;try refine go ?_
   refine aX (UP p b7.ok (b06.trans b7)) ?_;rintro d p2 ⟨⟨n2,hn3,hl3⟩,b8⟩;obtain⟨y3,rfl,hy3⟩:=hn3;have ok8:=b8.ok;refine⟨rfl,by simp [lost,eQ.kind,cK,dE,cF,aI,bC,bC.cW,gk,bP.ev,Env.get,cS,D.flat,D.isAgg,cP,D.fw,D.beq,aA,Obj.aW,bE,br,D.bW,D.aW,cB], ?_⟩;try refine go ?_
   have lZ:aL=2147483648:=rfl;refine aX (wT (n:=n1) (m:=n2) hT b8.ok ⟨y1,rfl,w7.dK b7.ok b8 fun _ _ _ _=>id⟩ ⟨y3,rfl,hy3⟩ (by omega) (by omega)) ?_;rintro d p3 ⟨⟨r,rfl⟩,b9⟩;have ok9:=b9.ok;refine⟨rfl,by simp [lost,eQ.kind,cK,dE,cF,aI,bC,bC.cW,gk,bP.ev,Env.get,cS,D.flat,D.isAgg,cP,D.fw,D.beq,aA,Obj.aW,bE,br,D.bW,D.aW,cB], ?_⟩;try refine go ?_
   exact ai ⟨⟨_,rfl⟩,((b06.trans b7).trans b8).trans b9⟩
  ·cases c <;> cases c' <;> first
    | (exfalso; exact Xp ⟨rfl,rfl⟩)
    | skip
   all_goals
    cases hkk:(kd==kd') <;> cases htt:(tx==tx')
    all_goals
     try refine go ?_
     exact ai ⟨⟨_,rfl⟩,b06⟩
end
section
variable {T:Nat->Option dU}{H:ay}{s:St}{wo oL cm P Sh:Nat}{last:Int}{L:List D}
theorem l9.dK {W:Nat->Prop}{s1:St}{N dv n:Nat}{K:Int->Prop}(h:l9 s N cm dv K n)(hs:s.Ok)(hb:aF W s s1)(hW:∀j,N<=j-> ¬ W j)(hc:jF s1 cm):l9 s1 N cm dv K n:=by
 obtain⟨to,eo,lo,log,x,E,C,b,m,u,most,ver,q1,q2,q3,q4,q5,q6,q7,q8,q9⟩:=h;exact⟨to,eo,lo,log,x,E,C,b,m,u,most,ver,hb.get hs q1 (hW _ q3),q2.dK hs hb (hW _ q4) (fun hE=>hW _ (q5 hE)) (hW _ q6) hc,q3,q4,q5,q6,q7,q8,q9⟩
theorem x7 (hT:nK T)(hS:mz T){kd:Int}(K:Int->Prop)(hs:s.Ok)(h:jT s wo oL cm P Sh last L)(hP:P<=65536)(hL:L.length<=1000000):
  cu T H 131 [.ptr wo 0,.int .i64 kd] s fun r s1=>r= .int .i64 (L.length:Nat)/\(∃last' num dv,jT s1 wo oL cm P Sh last' (L++ [rv kd num false false (.vs true 0 []) [] (.vs true 0 []) (.ptr dv 0) 0 0 .cz .cz 0 false false])/\l9 s1 s.n cm dv K 0)/\aF (zl wo oL cm) s s1/\s.n<=s1.n:=by
 have gw:=h.go;obtain⟨l1,l2,l3⟩:=h.lt hs;obtain⟨n1,n2,n3⟩:=h.ne;refine ax hS.t131 ?_;try refine go ?_
 refine aX (Eg hT hs h.ct hP) ?_;rintro d p ⟨dv,to,lo,m',rfl,gd,ht,k1,k2,k3,b1⟩;have ok1:=b1.ok;have gw1:=b1.get hs gw n2;refine⟨rfl,by simp [lost,eQ.kind,cK,dE,cF,aI,bC,bC.cW,gk,bP.ev,Env.get,cS,D.flat,D.isAgg,cP,D.fw,D.beq,aA,Obj.aW,bE,br,D.bW,D.aW,gw,gw1], ?_⟩;have hp:jT p wo oL cm P Sh last L:=h.dK hs b1 n2 n3 ht.ct (fun j es st g e=>h.nu j es st g (.inr (.inr e)));have hD:l9 p s.n cm dv K 0:=⟨to,0,lo,3,_,_,_,_,_,_,_,_,gd,ht,k1,k2,fun h=>absurd rfl h,k3,l3,aq _,fun e he=>by cases he⟩;try refine go ?_
 refine ak (mH hS ok1 hp (fun num=>kR .nil (aS _)) hL) ?_;rintro r p2 ⟨rfl,⟨last',num',KC⟩,b2,Vb⟩;try refine go ?_
 have bn:=b1.n;exact ai ⟨rfl,⟨last',num',dv,KC,hD.dK ok1 b2 (fun j hj=>by rintro (h | h | h) <;> omega) KC.ct⟩,(b1.mono fun j hj=> .inr (.inr hj)).trans b2,by omega⟩
theorem Jl (hT:nK T)(hS:mz T){nm:List UInt8}{bs:Int}(hs:s.Ok)(h:jT s wo oL cm P Sh last L)(hP:P<=65536)(K7:Sh<=256)(hL:L.length<=1000000):
  cu T H 129 [.ptr wo 0,.str nm,.int .i64 bs] s fun r s1=>r= .int .i64 (L.length:Nat)/\(∃last' num dv fo,jT s1 wo oL cm P Sh last' (L++ [rv 13 num false false (.vs true 0 []) nm (.vs true 0 []) (.ptr dv 0) 0 bs (.ptr fo 0) .cz 0 false false]))/\aF (zl wo oL cm) s s1:=by
 have gw:=h.go;obtain⟨l1,l2,l3⟩:=h.lt hs;obtain⟨n1,n2,n3⟩:=h.ne;refine ax hS.t129 ?_;try refine go ?_
 refine aX (Eg hT hs h.ct hP) ?_;rintro d p ⟨dv,to,lo,m',rfl,gd,ht,k1,k2,k3,b1⟩;have ok1:=b1.ok;have gw1:=b1.get hs gw n2;refine⟨rfl,by simp [lost,eQ.kind,cK,dE,cF,aI,bC,bC.cW,gk,bP.ev,Env.get,cS,D.flat,D.isAgg,cP,D.fw,D.beq,aA,Obj.aW,bE,br,D.bW,D.aW,gw,gw1], ?_⟩;have hp:jT p wo oL cm P Sh last L:=h.dK hs b1 n2 n3 ht.ct (fun j es st g e=>h.nu j es st g (.inr (.inr e)));try refine go ?_
 refine aX (OL hT ok1 ht.ct hP K7) ?_;rintro d q ⟨fo,rfl,RD,cq,b2⟩;have ok2:=b2.ok;have gw2:=b2.get ok1 gw1 n2;refine⟨rfl,by simp [lost,eQ.kind,cK,dE,cF,aI,bC,bC.cW,gk,bP.ev,Env.get,cS,D.flat,D.isAgg,cP,D.fw,D.beq,aA,Obj.aW,bE,br,D.bW,D.aW,gw1,gw2], ?_⟩;have hq:jT q wo oL cm P Sh last L:=hp.dK ok1 b2 n2 n3 cq (fun j es st g e=>hp.nu j es st g (.inr (.inr e)));try refine go ?_
 refine ak (mH hS ok2 hq (fun num=>kR .nil (aS _)) hL) ?_;rintro r p2 ⟨rfl,⟨last',num',KC⟩,b3,Vb⟩;try refine go ?_
 exact ai ⟨rfl,⟨last',num',dv,fo,KC⟩,((b1.mono fun j hj=> .inr (.inr hj)).trans (b2.mono fun j hj=> .inr (.inr hj))).trans b3⟩
theorem Bv (hT:nK T)(hS:mz T){c fo:Nat}{kd num:Int}{b ng hh ss:Bool}{mag items dd sp:D}{tx:List UInt8} {cls base of' :Int}(hs:s.Ok)(h:jT s wo oL cm P Sh last L)(hc:L[c]? =some (rv kd num b ng mag tx items dd cls base (.ptr fo 0) sp of' hh ss))(hL:L.length<=1000000):
  cu T H 130 [.ptr wo 0,.int .i64 (c:Nat)] s fun r s1=>r= .int .i64 (L.length:Nat)/\(∃last' d,jT s1 wo oL cm P Sh last' (L++ [d]))/\aF (zl wo oL cm) s s1:=by
 have gw:=h.go;obtain⟨st,gl,dN⟩:=h.gl;have yh:=(aj.mp hc).1;have JW:L[0+c]? =some (rv kd num b ng mag tx items dd cls base (.ptr fo 0) sp of' hh ss):=by rw [aN]; exact hc
 refine ax hS.t130 ?_;try refine go ?_
 refine ak (Mi hT hs) ?_;rintro d p ⟨rfl,b1⟩;try refine go ?_
 refine ak (mH hS b1.ok (h.nil hs b1) (fun num=>kR .nil (aS _)) hL) ?_;rintro r p2 ⟨rfl,⟨last',num',KC⟩,b3,Vb⟩;try refine go ?_
 exact ai ⟨rfl,⟨last',_,KC⟩,(b1.mono fun _ h=>h.elim).trans b3⟩
end
def Aq (N:Nat):D->Prop
 | .agg l=>∀o a n c,l[5]? =some (.sl o a n c)->o < N
 | _=>True
theorem sN.mag {s:St}{d:D}(hs:s.Ok)(h:sN s d):Aq s.n d:=by
 obtain⟨kd,num,b,ng,mag,tx,items,dd,cls,base,fo,sp,of',hh,ss,V,rfl,h1,h2⟩:=h;intro o a n c h;simp only [bY,aR,aa]at h;subst h;cases h1 with
 | sl o cp V R hg hc=>exact hs.lt hg
theorem sN.No {W:Nat->Prop}{s s1:St}{d:D}{N:Nat}(h:sN s d)(hs:s.Ok)(hb:aF W s s1)(hm:Aq N d)(hW:∀j es st,s.get j=some (.arr 1 194 es st)->j < N-> ¬ W j):sN s1 d:=by
 obtain⟨kd,num,b,ng,mag,tx,items,dd,cls,base,fo,sp,of',hh,ss,V,rfl,h1,h2⟩:=h;refine⟨kd,num,b,ng,mag,tx,items,dd,cls,base,fo,sp,of',hh,ss,V,rfl, ?_,h2⟩;rcases h1 with ⟨nl,V,hn⟩ | _ | ⟨o,cp,V,R,hg,hc⟩
 ·exact .vs nl V hn
 ·exact .nil
 ·exact .sl o cp V R (hb.get hs hg (hW o _ _ hg (hm _ _ _ _ rfl))) hc
section
variable {T:Nat->Option dU}{H:ay}{s:St}{wo oL cm P Sh N dv n:Nat}{last:Int}{L:List D}{K:Int->Prop}
theorem jT.No {s1:St}(h:jT s wo oL cm P Sh last L)(hs:s.Ok)(hb:aF (fun j=>N<=j\/j=cm) s s1)(h1:wo < N)(h2:oL < N)(hm:∀d∈L,Aq N d)(h3:jF s1 cm):jT s1 wo oL cm P Sh last L:=by
 obtain⟨n1,n2,n3⟩:=h.ne;obtain⟨st,g1,g2⟩:=h.gl
 exact⟨hb.get hs h.go (by omega),⟨st,hb.get hs g1 (by omega),g2⟩,fun d hd=>(h.vs d hd).No hs hb (hm d hd) (fun j es st g hj=>by
  rintro (h' | rfl)
  ·omega
  ·exact h.nu j es st g (.inr (.inr rfl))),h3,h.nn⟩
theorem K4.ct {mo:Nat}{h k v told:Int}{wa sa:Bool}(hm:K4 s N cm mo dv h k v K n told wa sa):jF s cm/\cm < N:=by
 obtain⟨to,eo,lo,log,x,E,C,b,m,u,most,ver,so,at',t0,t1,t2,t3,t4,sc,gm,gd,ht,y7,k1,k2,k3,k4,k5,k6,k7,k8,k9,Lh,Vu,Xd⟩:=hm;exact⟨ht.ct,k5⟩
theorem K4.dK {W:Nat->Prop}{s1:St}{mo:Nat}{h k v told:Int}{wa sa:Bool}(hm:K4 s N cm mo dv h k v K n told wa sa)(hs:s.Ok)(hb:aF W s s1)(hW:∀j,N<=j->j < s.n-> ¬ W j)(hc:jF s1 cm):K4 s1 N cm mo dv h k v K n told wa sa:=by
 obtain⟨to,eo,lo,log,x,E,C,b,m,u,most,ver,so,at',t0,t1,t2,t3,t4,sc,gm,gd,ht,⟨J,vi,y7⟩,k1,k2,k3,k4,k5,k6,k7,k8,k9,Lh,Vu,Xd⟩:=hm;have n1:=hb.n;have q1:=hs.lt gm; have q2:=hs.lt gd; have q3:=hs.lt ht.go; have q4:=hs.lt y7;obtain⟨st,g1,_⟩:=ht.ce;have q5:=hs.lt g1
 have q6:E≠ []->eo < s.n:=fun hE=>by
  rcases ht.en with _ | ⟨_,tJ,E,g4,_⟩
  ·exact absurd rfl hE
  ·exact hs.lt g4
 exact⟨to,eo,lo,log,x,E,C,b,m,u,most,ver,so,at',t0,t1,t2,t3,t4,sc,hb.get hs gm (hW _ k6 q1),hb.get hs gd (hW _ k1 q2),ht.dK hs hb (hW _ k2 q3) (fun hE=>hW _ (k3 hE) (q6 hE)) (hW _ k4 q5) hc,⟨J,vi,hb.get hs y7 (hW _ k7 q4)⟩,k1,k2,k3,k4,k5,k6,k7,by omega,k9,Lh,Vu,Xd⟩
theorem K4.tell (hT:nK T){mo:Nat}{h k v told:Int}{c:Bool}(hs:s.Ok)(hm:K4 s N cm mo dv h k v K n told true false):cu T H 195 [.ptr mo 0,.bool c] s fun _ s1=>K4 s1 N cm mo dv h k v K n told false c/\aF (fun j=>N<=j\/j=cm) s s1:=by
 obtain⟨to,eo,lo,log,x,E,C,b,m,u,most,ver,so,at',t0,t1,t2,t3,t4,sc,gm,gd,ht,⟨J,vi,y7⟩,k1,k2,k3,k4,k5,k6,k7,k8,k9,Lh,Vu,Xd⟩:=hm;have nmd:mo≠dv:=by rintro rfl; rw [gm]at gd; simp at gd
 have nmt:mo≠to:=by have gt:=ht.go; rintro rfl; rw [gm]at gt; simp at gt
 have nml:mo≠lo:=by obtain ⟨st,g1,_⟩:=ht.ce; rintro rfl; rw [gm]at g1; cases g1
 have nme:E≠ []->mo≠eo:=fun hE=>by
  rcases ht.en with _ | ⟨_,tJ,E,g4,_⟩
  ·exact absurd rfl hE
  ·rintro rfl; rw [gm]at g4; cases g4
 have nms:mo≠so:=by rintro rfl; rw [gm]at y7; simp at y7
 refine (M0 (c:=c) hT hs gm).mono ?_;rintro d s1 ⟨g1,n1,b1⟩;exact⟨⟨to,eo,lo,log,x,E,C,b,m,u,most,ver,so,at',t0,t1,t2,t3,t4,sc,g1,b1.get hs gd (bO nmd),ht.dK hs b1 (bO nmt) (fun hE=>bO (nme hE)) (bO nml) (ht.ct.dK hs b1 (by omega)),⟨J,vi,b1.get hs y7 (bO nms)⟩,k1,k2,k3,k4,k5,k6,k7,by omega,k9,Lh,Vu,fun _=>Xd (.inl rfl)⟩,b1.mono fun j hj=>by subst hj; exact .inl k6⟩
def ab0 (s:St)(wo oL cm P Sh N dv n:Nat)(last:Int)(L:List D)(K:Int->Prop)(h k v:Int)(mo:Nat)(mm:Nat)(env:Env) (s' :St):Prop:=
 env=[(0,.ptr wo 0),(3,.int .i64 k),(11,.ptr mo 0)]/\jT s' wo oL cm P Sh last L/\aF (fun j=>N<=j\/j=cm) s s' /\∃told:Int,(mm:Int)=n - told/\ -1<=told/\((told= -1/\MaF s' N cm mo dv h k v K n)\/∃c,K4 s' N cm mo dv h k v K n told false c)
theorem HC (hT:nK T)(hW:nB T)(hS:mz T){hash value:Int}{v kk:Nat}{kd num:Int}{b ng hh ss:Bool}{mag items fo sp:D}{tx:List UInt8} {cls base of' :Int}(hs:s.Ok)(h:jT s wo oL cm P Sh last L)(hv:L[v]? =some (rv kd num b ng mag tx items (.ptr dv 0) cls base fo sp of' hh ss))(hD:l9 s N cm dv (fun k=>∃i:Nat,k=(i:Int)/\i < L.length) n)(hkk:kk < L.length)(hn:n<=20000)(h1:wo < N)(h2:oL < N)(hm:∀d∈L,Aq N d)(hN:N<=s.n):
  cu T H 133 [.ptr wo 0,.int .i64 (v:Nat),.int .i64 hash,.int .i64 (kk:Nat),.int .i64 value] s fun _ s1=>jT s1 wo oL cm P Sh last L/\l9 s1 N cm dv (fun k=>∃i:Nat,k=(i:Int)/\i < L.length) (n+1)/\aF (fun j=>N<=j\/j=cm) s s1:=by
 have gw:=h.go;obtain⟨st,gl,dN⟩:=h.gl;have IV:=(aj.mp hv).1;have kz:L[0+v]? =some (rv kd num b ng mag tx items (.ptr dv 0) cls base fo sp of' hh ss):=by rw [aN]; exact hv
 have hcm:cm < N:=by obtain ⟨to,eo,lo,log,x,E,C,b,m,u,most,ver,q1,q2,q3,q4,q5,q6,q7,q8,q9⟩:=hD; exact q7
 refine ax hS.t133 ?_;try refine go ?_
 refine ak (KO hT hs) ?_;rintro d p ⟨rfl,gm,np,bp⟩;have okp:=bp.ok;try refine go ?_
 refine cg (ab0 s wo oL cm P Sh N dv n last L (fun k=>∃i:Nat,k=(i:Int)/\i < L.length) hash (kk:Nat) value s.n) (n+1) rfl ⟨rfl,h.nil hs bp,bp.mono fun _ h=>h.elim, -1,by omega,by omega,.inl ⟨rfl,gm,hN,by omega,hD.dK hs bp (fun _ _=>id) (h.ct.dK hs bp id)⟩⟩ ?_;rintro mm env s1 ⟨rfl,hr,b1,told,hmm,v8,hma⟩;have ok1:=b1.ok;have LV:cu T H 194 [.ptr s.n 0] s1 (Nj s1 N cm s.n dv hash (kk:Nat) value (fun k=>∃i:Nat,k=(i:Int)/\i < L.length) n told):=by
  rcases hma with ⟨rfl,hF⟩ | ⟨c,hC⟩
  ·exact Bi hT ok1 hn ⟨kk,rfl,hkk⟩ (.inr ⟨rfl,hF⟩)
  ·cases c
   ·exact Bi hT ok1 hn ⟨kk,rfl,hkk⟩ (.inl hC)
   ·exact JV hT ok1 hC
 try refine go ?_
 refine ak LV ?_;rintro d s2 ⟨⟨c0,c1,c3,c4,c2,rfl,pC⟩,b2⟩;have ok2:=b2.ok;rcases pC with ⟨JW,hD2⟩ | ⟨rfl,⟨i,rfl,hi⟩,told',tP,sH,hM⟩
 ·have e0:(c0 !=1)=true:=by simpa using JW
  try refine go ?_
  have L5:jF s2 cm:=by obtain ⟨to,eo,lo,log,x,E,C,b,m,u,most,ver,q1,q2,q3,q4,q5,q6,q7,q8,q9⟩:=hD2; exact q2.ct
  exact ai ⟨hr.No ok1 b2 h1 h2 hm L5,hD2,b1.trans b2⟩
 ·have zx:=hr.No ok1 b2 h1 h2 hm hM.ct.1;try refine go ?_
  refine ak (JK hW hS ok2 zx hi hkk) ?_;rintro d s3 ⟨⟨c,rfl⟩,b3⟩;have ok3:=b3.ok;have hM3:=hM.dK ok2 b3 (fun _ _ _=>id) (hM.ct.1.dK ok2 b3 id);try refine go ?_
  refine ak (hM3.tell hT (c:=c) ok3) ?_;rintro d s4 ⟨hM4,b4⟩;try refine go ?_
  exact bf (n - told') (by omega) rfl ⟨rfl,(zx.nil ok2 b3).No ok3 b4 h1 h2 hm hM4.ct.1,((b1.trans b2).trans (b3.mono fun _ h=>h.elim)).trans b4,told',by omega,by omega,.inr ⟨c,hM4⟩⟩
end
end Go.Proofs.Tab
