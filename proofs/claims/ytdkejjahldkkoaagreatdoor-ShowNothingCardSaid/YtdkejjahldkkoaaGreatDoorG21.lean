/- Part. -/
import Derived.Test.YtdkejjahldkkoaaGreatDoorG20
import Derived.KernelRfl
import Derived.Lib.DecodeN
import Derived.Test.YtdkejjahldkkoaaGreatDoorProg
set_option linter.unusedSectionVars false
set_option maxRecDepth 100000
set_option maxHeartbeats 4000000
set_option linter.unusedSimpArgs false
set_option linter.unusedVariables false
namespace Go.Ab.Sm
open Go Go.Ab
variable {T:Nat->Option dS}{H:au}{b kk:Nat}{k:List je}{fr:Fr}{s:St}{Q:QP}{l:List (bj×List Nat)}{acc:List Fp}{q:List Nat}
structure fT (T:Nat->Option dS)(H:au)(b kk:Nat)(l:List (bj×List Nat))(acc:List Fp)(k:List je)(fr:Fr)(s:St)(Q:QP):Prop where
 out:VV T H b kk l acc fr s (mK T H Q k .normal)
theorem Ct {acc:List Fp}{y:Fp}:fg acc y []=true:=rfl
theorem AB (h:fT T H s.n 0 l [] k fr s Q):eI T H (.yO 0 l) k fr s Q:=by
 refine⟨E3 (by simp [Nat.blt,Nat.ble]) ?_⟩;have e: { s with n:=s.n+0}=s:=by cases s; rfl
 rw [e]; exact h.out
theorem CX {j:Nat}(h:fT T H s.n j l [] k fr (s.up j) Q)(hs:s.Ok:=by exact oI):eI T H (.yO j l) k fr s Q:=⟨E3 (by rw [hs.ro]; rfl) h.out⟩
theorem DF (h:kZ T H .normal k fr s Q):fT T H b kk [] acc k fr s Q:=⟨Sp h.out⟩
section
variable {t:Nat}{e:Env}{ds:List (D×List D)}{g:Option (Nat×Bool)}
theorem fi {dst:Option Nat}{op:eN}{al:Option Nat}{d:D}{s1:St}(hc:fg acc (cE b e ⟨dst,op,g,al⟩) q=true)(kq:e.cX dst=false)(hj:(iu e dst d).cX dst=false)(h:fT T H b kk l (acc++ [cE b e ⟨dst,op,g,al⟩]) k ⟨iu e dst d,ds⟩ s1 Q)
  (hw:aI e g=some true)(ho:cB fD e s (match (generalizing:=false) al with | some r=>some (b+r) | none=>none) op=some (d,s1))(hk:Nat.beq op.kind 5=false):fT T H b kk ((⟨dst,op,g,al⟩,q)::l) acc k ⟨e,ds⟩ s Q:=
 ⟨y9 hc kq (iD (o:=⟨dst,op,g,al⟩) (fr:=⟨e,ds⟩) hw ho) hj hk h.out⟩
theorem Ci {fp:Fp}{op:eN}{d:D}{s1:St}(h:fT T H b kk l (acc++ [fp]) k ⟨(t,d)::e,ds⟩ s1 Q)(hw:aI e g=some true:=by rfl)(ho:cB fD e s none op=some (d,s1):=by rfl)(hf:cE b e ⟨(some t),op,g,none⟩=fp:=by exact fI)(hc:fg acc fp q=true:=by exact cI)(kq:Env.cX e (some t)=false:=by rfl)(qw:Env.cX ((t,d)::e) (some t)=false:=by rfl)(hk:Nat.beq (bj.op ⟨(some t),op,g,none⟩).kind 5=false:=by rfl):fT T H b kk ((⟨(some t),op,g,none⟩,q)::l) acc k ⟨e,ds⟩ s Q:=by
 subst hf;exact fi hc kq qw h hw ho hk
theorem xT {fp:Fp}{sz:Option Nat}{x:bP}{o c ty:Nat}{v d:D}(h:fT T H b kk l (acc++ [fp]) k ⟨(t,d)::e,ds⟩ s Q)(hw:aI e g=some true:=by rfl)(hx:x.ev e=some (.ptr o c):=by rfl)(hg:s.get o=some (.var ty v):=by exact gI)(hp:part v.flat c sz=some d:=by rfl)(hf:cE b e ⟨(some t),.load sz x,g,none⟩=fp:=by exact fI)(hc:fg acc fp q=true:=by exact cI)(kq:Env.cX e (some t)=false:=by rfl)(qw:Env.cX ((t,d)::e) (some t)=false:=by rfl)(hk:Nat.beq (bj.op ⟨(some t),.load sz x,g,none⟩).kind 5=false:=by rfl):fT T H b kk ((⟨(some t),.load sz x,g,none⟩,q)::l) acc k ⟨e,ds⟩ s Q:=by
 subst hf;exact
 fi hc kq qw h hw (by simp only [cB,hx,iR,hg,hp,nk]) hk
theorem Ec {fp:Fp}{sz:Option Nat}{x:bP}{c:Nat}{z d:D}(h:fT T H b kk l (acc++ [fp]) k ⟨(t,d)::e,ds⟩ s Q)(hw:aI e g=some true:=by rfl)(hx:x.ev e=some (.jE z c):=by rfl)(hp:part z.flat c sz=some d:=by rfl)(hf:cE b e ⟨(some t),.load sz x,g,none⟩=fp:=by exact fI)(hc:fg acc fp q=true:=by exact cI)(kq:Env.cX e (some t)=false:=by rfl)(qw:Env.cX ((t,d)::e) (some t)=false:=by rfl)(hk:Nat.beq (bj.op ⟨(some t),.load sz x,g,none⟩).kind 5=false:=by rfl):fT T H b kk ((⟨(some t),.load sz x,g,none⟩,q)::l) acc k ⟨e,ds⟩ s Q:=by
 subst hf;exact
 fi hc kq qw h hw (by simp only [cB,hx,iR,hp,nk]) hk
theorem vR {fp:Fp}{sz:Nat}{x v:bP}{o c ty:Nat}{d w w1:D}(h:fT T H b kk l (acc++ [fp]) k ⟨e,ds⟩ (s.bD o (.var ty w1)) Q)(hw:aI e g=some true:=by rfl)(hx:x.ev e=some (.ptr o c):=by rfl)(hv:v.ev e=some d:=by rfl)(hs:s.Ok:=by exact oI)(hg:s.get o=some (.var ty w):=by exact gI)(hz:Nat.beq d.flat.length sz=true:=by rfl)(hp:w.over c d=some w1:=by rfl)(hf:cE b e ⟨none,.store sz x v,g,none⟩=fp:=by exact fI)(hc:fg acc fp q=true:=by exact cI)(kq:Env.cX e none=false:=by rfl)(qw:Env.cX (e) none=false:=by rfl)(hk:Nat.beq (bj.op ⟨none,.store sz x v,g,none⟩).kind 5=false:=by rfl):fT T H b kk ((⟨none,.store sz x v,g,none⟩,q)::l) acc k ⟨e,ds⟩ s Q:=by
 subst hf;exact
 fi (d:= .gJ []) hc kq qw h hw (by simp only [cB,hx,hv,jM,hz,hg,hp,hs.set,oC]) hk
theorem Dd {fp:Fp}{sz:Nat}{x i:bP}{n:D}{j:Nat}{nl:Bool}{es:List D}{z:D}(h:fT T H b kk l (acc++ [fp]) k ⟨(t,.jE z 0)::e,ds⟩ s Q)(hw:aI e g=some true:=by rfl)(hx:x.ev e=some (.vs nl sz es):=by rfl)(hi:i.ev e=some n:=by rfl)(hj:idx n=some j:=by first | exact ju | rfl | exact hZ (by omega))(he:es[j]? =some z:=by first | assumption | rfl)(hf:cE b e ⟨some t,.nA sz x i,g,none⟩=fp:=by exact fI)(hc:fg acc fp q=true:=by exact cI)(kq:Env.cX e (some t)=false:=by rfl)(qw:Env.cX ((t,.jE z 0)::e) (some t)=false:=by rfl)(hk:Nat.beq (bj.op ⟨some t,.nA sz x i,g,none⟩).kind 5=false:=by rfl):fT T H b kk ((⟨some t,.nA sz x i,g,none⟩,q)::l) acc k ⟨e,ds⟩ s Q:=by
 subst hf;exact
 fi hc kq qw h hw (by simp only [cB,hx,hi,hj,j8,az,he,nk]) hk
theorem yU {fp:Fp}{sz:Nat}{x i:bP}{n:D}{j o off len cp ty st:Nat}{es:List D}(h:fT T H b kk l (acc++ [fp]) k ⟨(t,.jK o (off+j) 0 (off+cp))::e,ds⟩ s Q)(hw:aI e g=some true:=by rfl)(hx:x.ev e=some (.sl o off len cp):=by rfl)(hi:i.ev e=some n:=by rfl)(hg:s.get o=some (.arr sz ty es st):=by exact gI)(hj:idx n=some j:=by first | exact ju | rfl | exact hZ (by omega))(hl:j < len:=by exact sI)(h1:off+len<=es.length:=by exact sI)(h2:st<=off+cp:=by exact sI)(hf:cE b e ⟨some t,.nA sz x i,g,none⟩=fp:=by exact fI)(hc:fg acc fp q=true:=by exact cI)(kq:Env.cX e (some t)=false:=by rfl)(qw:Env.cX ((t,.jK o (off+j) 0 (off+cp))::e) (some t)=false:=by rfl)(hk:Nat.beq (bj.op ⟨some t,.nA sz x i,g,none⟩).kind 5=false:=by rfl):fT T H b kk ((⟨some t,.nA sz x i,g,none⟩,q)::l) acc k ⟨e,ds⟩ s Q:=by
 subst hf;have e1:Nat.blt j len=true:=aq (mi hl);have e2:Nat.ble (off+len) es.length=true:=aq h1;have e3:Nat.ble st (off+cp)=true:=aq h2;exact fi hc kq qw h hw (by simp only [cB,hx,hi,hj,j8,hg,az,e1,e2,e3,nk]) hk
theorem zl {fp:Fp}{sz:Option Nat}{x:bP}{o i c en z ty st:Nat}{es:List D}{v d:D}(h:fT T H b kk l (acc++ [fp]) k ⟨(t,d)::e,ds⟩ s Q)(hw:aI e g=some true:=by rfl)(hx:x.ev e=some (.jK o i c en):=by rfl)(hg:s.get o=some (.arr z ty es st):=by exact gI)(hi:es[i]? =some v:=by first | assumption | rfl)(dT:st<=en:=by exact sI)(hp:part v.flat c sz=some d:=by rfl)(hf:cE b e ⟨some t,.load sz x,g,none⟩=fp:=by exact fI)(hc:fg acc fp q=true:=by exact cI)(kq:Env.cX e (some t)=false:=by rfl)(qw:Env.cX ((t,d)::e) (some t)=false:=by rfl)(hk:Nat.beq (bj.op ⟨some t,.load sz x,g,none⟩).kind 5=false:=by rfl):fT T H b kk ((⟨some t,.load sz x,g,none⟩,q)::l) acc k ⟨e,ds⟩ s Q:=by
 subst hf;have e1:Nat.ble st en=true:=aq dT;exact fi hc kq qw h hw (by simp only [cB,hx,iR,hg,e1,hi,hp,nk]) hk
theorem Bp {fp:Fp}{sz:Nat}{x v:bP}{o i c en z ty st:Nat}{es:List D}{d w w1:D}(h:fT T H b kk l (acc++ [fp]) k ⟨e,ds⟩ (s.bD o (.arr z ty (es.set i w1) es.length)) Q)(hw:aI e g=some true:=by rfl)(hx:x.ev e=some (.jK o i c en):=by rfl)(hv:v.ev e=some d:=by rfl)(hs:s.Ok:=by exact oI)(hg:s.get o=some (.arr z ty es st):=by exact gI)(hi:es[i]? =some w:=by first | assumption | rfl)(he:en=es.length:=by exact sI)(hz:Nat.beq d.flat.length sz=true:=by rfl)(hp:w.over c d=some w1:=by rfl)(hf:cE b e ⟨none,.store sz x v,g,none⟩=fp:=by exact fI)(hc:fg acc fp q=true:=by exact cI)(kq:Env.cX e none=false:=by rfl)(qw:Env.cX (e) none=false:=by rfl)(hk:Nat.beq (bj.op ⟨none,.store sz x v,g,none⟩).kind 5=false:=by rfl):fT T H b kk ((⟨none,.store sz x v,g,none⟩,q)::l) acc k ⟨e,ds⟩ s Q:=by
 subst hf;subst he;exact fi (d:= .gJ []) hc kq qw h hw (by simp only [cB,hx,hv,jM,hz,hg,az,hi,hp,hs.set,oC]) hk
theorem yD {fp:Fp}{sz:Nat}{z d:D}{x:bP}(h:fT T H b kk l (acc++ [fp]) k ⟨(t,.vs false sz [d])::e,ds⟩ s Q)(hw:aI e g=some true:=by rfl)(hx:x.ev e=some d:=by rfl)(hz:eG sz [z]=true:=by rfl)(h1:Nat.beq d.flat.length sz=true:=by rfl)(h2:d.st=true:=by rfl)(hf:cE b e ⟨some t,.qe sz z 1 [(0,x)],g,none⟩=fp:=by exact fI)(hc:fg acc fp q=true:=by exact cI)(kq:Env.cX e (some t)=false:=by rfl)(qw:Env.cX ((t,.vs false sz [d])::e) (some t)=false:=by rfl)(hk:Nat.beq (bj.op ⟨some t,.qe sz z 1 [(0,x)],g,none⟩).kind 5=false:=by rfl):fT T H b kk ((⟨some t,.qe sz z 1 [(0,x)],g,none⟩,q)::l) acc k ⟨e,ds⟩ s Q:=by
 subst hf;exact
 fi hc kq qw h hw (by simp only [cB,jx,hx,hz,sY,h1,h2,List.replicate,aU,bL,Nat.blt,Nat.ble,jR]) hk
theorem D7 {fp:Fp}{sz ty:Nat}{x:bP}{lo hi:Option bP} {a b' :Option D}{lo' hi' o off len cp st:Nat}{es:List D}(h:fT T H b kk l (acc++ [fp]) k ⟨(t,.sl o (off+lo') (hi' - lo') (cp - lo'))::e,ds⟩ s Q)(hw:aI e g=some true:=by rfl)(hx:x.ev e=some (.sl o off len cp):=by rfl)(ha:uz e lo=some a:=by rfl) (jm :uz e hi=some b' :=by rfl)(PJ:mq 0 a=some lo' :=by first | rfl | exact ju | exact hZ (by omega))(kL:(match b' with | none=>some len | some d=>idx d)=some hi' :=by first | rfl | exact ju | exact hZ (by omega))(hg:s.get o=some (.arr sz ty es st):=by exact gI)(h1:off+len<=es.length:=by exact sI)(h2:st<=off+cp:=by exact sI)(h3:lo' <=hi' :=by exact sI)(h4:hi' <=cp:=by exact sI)(hf:cE b e ⟨some t,.H8 sz x lo hi none,g,none⟩=fp:=by exact fI)(hc:fg acc fp q=true:=by exact cI)(kq:Env.cX e (some t)=false:=by rfl)(qw:Env.cX ((t,.sl o (off+lo') (hi' - lo') (cp - lo'))::e) (some t)=false:=by rfl)(hk:Nat.beq (bj.op ⟨some t,.H8 sz x lo hi none,g,none⟩).kind 5=false:=by rfl):fT T H b kk ((⟨some t,.H8 sz x lo hi none,g,none⟩,q)::l) acc k ⟨e,ds⟩ s Q:=by
 subst hf;have e1:Nat.ble (off+len) es.length=true:=aq h1;have e2:Nat.ble st (off+cp)=true:=aq h2;have e3:Nat.ble lo' hi' =true:=aq h3;have e4:Nat.ble hi' cp=true:=aq h4;have e5:uz e none=some none:=rfl;have e6:mq 0 none=some 0:=rfl;refine fi hc kq qw h hw ?_ hk;cases b' with
 | none=>
  simp only [aa]at kL; subst kL;simp only [cB,hx,ha,jm,e5,PJ,e6,items,hg,e1,e2,az,eM,gu,u7,Option.getD,e3,e4,nk]
 | some d=>
  simp only at kL;have jJ:mq 0 (some d)=some hi' :=kL;simp only [cB,hx,ha,jm,e5,PJ,e6,jJ,items,hg,e1,e2,az,eM,gu,u7,Option.getD,e3,e4,nk]
theorem Ax {fp:Fp}{x:bP}{o c:Nat}{es:List (Nat×D×D)}(h:fT T H b kk l (acc++ [fp]) k ⟨(t,.int .i64 (es.length:Nat))::e,ds⟩ s Q)(hw:aI e g=some true:=by rfl)(hx:x.ev e=some (.mp o):=by rfl)(hg:s.get o=some (.map es c):=by exact gI)(hf:cE b e ⟨some t,.len 2 x,g,none⟩=fp:=by exact fI)(hc:fg acc fp q=true:=by exact cI)(kq:Env.cX e (some t)=false:=by rfl)(qw:Env.cX ((t,.int .i64 (es.length:Nat))::e) (some t)=false:=by rfl)(hk:Nat.beq (bj.op ⟨some t,.len 2 x,g,none⟩).kind 5=false:=by rfl):fT T H b kk ((⟨some t,.len 2 x,g,none⟩,q)::l) acc k ⟨e,ds⟩ s Q:=by
 subst hf;exact
 fi hc kq qw h hw (by simp only [cB,hx,o7,hg,Fy]) hk
theorem EK {fp:Fp}{et:ET}{z kd:D}{ok:Bool}{m ky:bP}{o c:Nat}{es:List (Nat×D×D)}(h:fT T H b kk l (acc++ [fp]) k ⟨(t,Fl ok z false)::e,ds⟩ s Q)(hw:aI e g=some true:=by rfl)(hm:m.ev e=some (.mp o):=by rfl)(hky:ky.ev e=some kd:=by rfl)(gW:oN et kd=true:=by rfl)(hg:s.get o=some (.map es c):=by exact gI)(hf:findKey et kd es 0=some none:=by rfl)(hf:cE b e ⟨some t,.lookup et z ok m ky,g,none⟩=fp:=by exact fI)(hc:fg acc fp q=true:=by exact cI)(kq:Env.cX e (some t)=false:=by rfl)(qw:Env.cX ((t,Fl ok z false)::e) (some t)=false:=by rfl)(hk:Nat.beq (bj.op ⟨some t,.lookup et z ok m ky,g,none⟩).kind 5=false:=by rfl):fT T H b kk ((⟨some t,.lookup et z ok m ky,g,none⟩,q)::l) acc k ⟨e,ds⟩ s Q:=by
 subst hf;exact
 fi hc kq qw h hw (by simp only [cB,hm,hky,gW,hg,hf]) hk
theorem As {fp:Fp}{op:eN}{al:Option Nat}(h:fT T H b kk l (acc++ [fp]) k ⟨(t,.gJ [])::e,ds⟩ s Q)(hw:aI e g=some false:=by rfl)(hf:cE b e ⟨some t,op,g,al⟩=fp:=by exact fI)(hc:fg acc fp q=true:=by exact cI)(kq:Env.cX e (some t)=false:=by rfl)(hj:Env.cX ((t,.gJ [])::e) (some t)=false:=by rfl)(hk:Nat.beq op.kind 5=false:=by rfl):
  fT T H b kk ((⟨some t,op,g,al⟩,q)::l) acc k ⟨e,ds⟩ s Q:=by
 subst hf;refine⟨y9 hc kq (fr1:=⟨(t,.gJ [])::e,ds⟩) (s1:=s) ?_ hj hk h.out⟩;unfold oper;simp only [hw];rfl
theorem kF {d:D}{e:Env}{t:Nat}(h:(match d with | .lv _=>true | _=>false)=false):Env.cX (iu e (some t) d) (some t)=false:=by
 cases d <;> first
  | (cases h; done)
  | simp [iu,Env.cX,Env.kG,Env.get]
theorem On {al:Nat}{x:Obj}(hs:s.Ok)(hg:s.get al=none)(hl:al < s.n):s.mk' (some al) x=some (al,s.bD al x):=by
 have:Nat.blt al s.n=true:=aq (mi hl);simp only [St.mk',hs.ro,hg,this]
theorem Eb {fp:Fp}{r:Nat}{ty:Nat}{x:bP}{d:D}(h:fT T H b kk l (acc++ [fp]) k ⟨(t,.ptr (b+r) 0)::e,ds⟩ (s.bD (b+r) (.var ty d)) Q)(hw:aI e g=some true:=by rfl)(hx:x.ev e=some d:=by rfl)(hd:(d.st && Nat.blt 0 d.flat.length)=true:=by rfl)(hs:s.Ok:=by exact oI)(hg:s.get (b+r)=none:=by exact nI)(hl:b+r < s.n:=by first | assumption | omega | (simp only [St.dN,St.fE,St.jw]; omega))(hf:cE b e ⟨some t,.box ty x,g,some r⟩=fp:=by exact fI)(hc:fg acc fp q=true:=by exact cI)(kq:Env.cX e (some t)=false:=by rfl)(hk:Nat.beq (bj.op ⟨some t,.box ty x,g,some r⟩).kind 5=false:=by rfl):fT T H b kk ((⟨some t,.box ty x,g,some r⟩,q)::l) acc k ⟨e,ds⟩ s Q:=by
 subst hf;exact fi hc kq (kF rfl) h hw (by simp only [cB,hx,hd,On hs hg hl]) hk
theorem ox {fp:Fp}{r:Nat}{sz bytes ty:Nat}{z dl dc:D}{ln cp:bP}{l1 c1:Nat}(sv:idx dl=some l1)(zI:idx dc=some c1)(h1:l1<=c1)(h2:c1 * bytes<=140737488355328)(h3:c1<=aL)(h:fT T H b kk l (acc++ [fp]) k ⟨(t,.sl (b+r) 0 l1 l1)::e,ds⟩ (s.bD (b+r) (.arr sz ty (List.replicate l1 z) 0)) Q)(hw:aI e g=some true:=by rfl)(hx:ln.ev e=some dl:=by rfl)(hy:cp.ev e=some dc:=by rfl)(hz:eG sz [z]=true:=by rfl)(hs:s.Ok:=by exact oI)(hg:s.get (b+r)=none:=by exact nI)(hl:b+r < s.n:=by first | assumption | omega | (simp only [St.dN,St.fE,St.jw]; omega))(hf:cE b e ⟨some t,.oq sz bytes ty z ln cp,g,some r⟩=fp:=by exact fI)(hc:fg acc fp q=true:=by exact cI)(kq:Env.cX e (some t)=false:=by rfl)(hk:Nat.beq (bj.op ⟨some t,.oq sz bytes ty z ln cp,g,some r⟩).kind 5=false:=by rfl):fT T H b kk ((⟨some t,.oq sz bytes ty z ln cp,g,some r⟩,q)::l) acc k ⟨e,ds⟩ s Q:=by
 subst hf;have e1:Nat.ble l1 c1=true:=aq h1;have e2:Nat.ble (c1 * bytes) 140737488355328=true:=aq h2;have e3:Nat.ble c1 aL=true:=aq h3;exact fi hc kq (kF rfl) h hw (by simp only [cB,hx,hy,sv,zI,e1,e2,e3,hz,fk,On hs hg hl]) hk
theorem rC {fp:Fp}{r:Nat}{sz bytes ty:Nat}{x y:bP}{o off len cp st:Nat}{nl:Bool}{es m:List D}(h:fT T H b kk l (acc++ [fp]) k ⟨(t,.sl o off (len+m.length) (len+m.length))::e,ds⟩ (s.bD o (.arr sz ty (es++m) st)) Q)(hw:aI e g=some true:=by rfl)(hx:x.ev e=some (.sl o off len cp):=by rfl)(hy:y.ev e=some (.vs nl sz m):=by rfl)(hs:s.Ok:=by exact oI)(hg:s.get o=some (.arr sz ty es st):=by exact gI)(hb:Nat.ble bytes 4096=true:=by rfl)(ha:eG sz m=true:=by rfl)(hn:m≠ []:=by simp)(he:off+len=es.length:=by exact sI)(dT:st<=es.length:=by exact sI)(hm:len+m.length<=aL:=by exact sI)(hf:cE b e ⟨some t,.append sz bytes ty x y,g,some r⟩=fp:=by exact fI)(hc:fg acc fp q=true:=by exact cI)(kq:Env.cX e (some t)=false:=by rfl)(hk:Nat.beq (bj.op ⟨some t,.append sz bytes ty x y,g,some r⟩).kind 5=false:=by rfl):fT T H b kk ((⟨some t,.append sz bytes ty x y,g,some r⟩,q)::l) acc k ⟨e,ds⟩ s Q:=by
 subst hf;refine fi hc kq (kF rfl) h hw ?_ hk;simp only [cB,hx,hy,items,az,eM,hb,ha,sA hs hg he dT hm hn]
theorem Fk {fp:Fp}{r:Nat}{sz bytes ty:Nat}{x y:bP}{o off len cp st:Nat}{o2 off2 len2 cp2 ty2 tR:Nat}{es es2 m:List D}(ha:eG sz m=true)(hn:m≠ [])(Ua:(es2.drop off2).take len2=m)(h:fT T H b kk l (acc++ [fp]) k ⟨(t,.sl o off (len+m.length) (len+m.length))::e,ds⟩ (s.bD o (.arr sz ty (es++m) st)) Q)(hw:aI e g=some true:=by rfl)(hx:x.ev e=some (.sl o off len cp):=by rfl)(hy:y.ev e=some (.sl o2 off2 len2 cp2):=by rfl)(hs:s.Ok:=by exact oI)(hg:s.get o=some (.arr sz ty es st):=by exact gI)(FF:s.get o2=some (.arr sz ty2 es2 tR):=by exact gI)(h21:off2+len2<=es2.length:=by exact sI)(h22:tR<=off2+cp2:=by exact sI)(hb:Nat.ble bytes 4096=true:=by rfl)(he:off+len=es.length:=by exact sI)(dT:st<=es.length:=by exact sI)(hm:len+m.length<=aL:=by exact sI)(hf:cE b e ⟨some t,.append sz bytes ty x y,g,some r⟩=fp:=by exact fI)(hc:fg acc fp q=true:=by exact cI)(kq:Env.cX e (some t)=false:=by rfl)(hk:Nat.beq (bj.op ⟨some t,.append sz bytes ty x y,g,some r⟩).kind 5=false:=by rfl):fT T H b kk ((⟨some t,.append sz bytes ty x y,g,some r⟩,q)::l) acc k ⟨e,ds⟩ s Q:=by
 subst hf;have e1:Nat.ble (off2+len2) es2.length=true:=aq h21;have e2:Nat.ble tR (off2+cp2)=true:=aq h22;refine fi hc kq (kF rfl) h hw ?_ hk;simp only [cB,hx,hy,items,FF,e1,e2,Ua,az,eM,hb,ha,sA hs hg he dT hm hn]
theorem Ai {al sz ty z:Nat}{es m:List D}(hs:s.Ok)(hg:s.get al=none)(hl:al < s.n)(hm:m.length<=aL)(hn:m≠ []):
  fF s (some al) sz ty (.vs true z es) m=some (.sl al 0 m.length m.length,s.bD al (.arr sz ty m 0)):=by
 cases m with
 | nil=>exact absurd rfl hn
 | cons x m=>
  have e3:Nat.ble (x::m).length aL=true:=aq hm;simp only [fF,e3,On hs hg hl]
theorem wR {fp:Fp}{r:Nat}{sz bytes ty z:Nat}{x y:bP}{nl:Bool}{es m:List D}(h:fT T H b kk l (acc++ [fp]) k ⟨(t,.sl (b+r) 0 m.length m.length)::e,ds⟩ (s.bD (b+r) (.arr sz ty m 0)) Q)(hw:aI e g=some true:=by rfl)(hx:x.ev e=some (.vs true z es):=by rfl)(hy:y.ev e=some (.vs nl sz m):=by rfl)(hs:s.Ok:=by exact oI)(hg:s.get (b+r)=none:=by exact nI)(hl:b+r < s.n:=by first | assumption | omega | (simp only [St.dN,St.fE,St.jw]; omega))(hb:Nat.ble bytes 4096=true:=by rfl)(ha:eG sz m=true:=by rfl)(hn:m≠ []:=by simp)(hm:m.length<=aL:=by exact sI)(hf:cE b e ⟨some t,.append sz bytes ty x y,g,some r⟩=fp:=by exact fI)(hc:fg acc fp q=true:=by exact cI)(kq:Env.cX e (some t)=false:=by rfl)(hk:Nat.beq (bj.op ⟨some t,.append sz bytes ty x y,g,some r⟩).kind 5=false:=by rfl):fT T H b kk ((⟨some t,.append sz bytes ty x y,g,some r⟩,q)::l) acc k ⟨e,ds⟩ s Q:=by
 subst hf;refine fi hc kq (kF rfl) h hw ?_ hk;simp only [cB,hx,hy,items,az,eM,hb,ha,Ai hs hg hl hm hn]
theorem bf {fp:Fp}{f:Nat}{args:List bP}{x:List D}{R:D->St->Prop}(hE:cu T H f x s R)(h:∀d s1,R d s1->Env.cX ((t,d)::e) (some t)=false/\lost acc s s1 ⟨some t,.call false f args,g,none⟩ q=false/\fT T H b kk l (acc++ [fpC fp s s1]) k ⟨(t,d)::e,ds⟩ s1 Q)
  (hw:aI e g=some true:=by rfl)(hx:sK e args=some x:=by rfl)(hf:cE b e ⟨some t,.call false f args,g,none⟩=fp:=by exact fI)(hc:fg acc fp q=true:=by exact cI)(kq:Env.cX e (some t)=false:=by rfl)(hs:s.Ok:=by exact oI):
  fT T H b kk ((⟨some t,.call false f args,g,none⟩,q)::l) acc k ⟨e,ds⟩ s Q:=by
 subst hf;obtain⟨d,s1,h1,h2⟩:=hE;obtain⟨h3,h4,h5⟩:=h d s1 h2;exact⟨uf (r:=(d,s1)) hc kq ⟨s,h1,fun C hC=>iD (o:=⟨some t,.call false f args,g,none⟩) (fr:=⟨e,ds⟩) hw (by simp only [cB,hx]; exact NM hs.ro hC)⟩ h3 h4 h5.out⟩
theorem qy {fp:Fp}{f:Nat}{args:List bP}{x:List D}{R:D->St->Prop}(hE:cu T H f x { s with ro:=true} R)(h:∀d s1,R d s1->Env.cX ((t,d)::e) (some t)=false/\fT T H b 0 l (acc++ [fp]) k ⟨(t,d)::e,ds⟩ s Q)
  (hw:aI e g=some true:=by rfl)(hx:sK e args=some x:=by rfl)(hf:cE b e ⟨some t,.call true f args,g,none⟩=fp:=by exact fI)(hc:fg acc fp q=true:=by exact cI)(kq:Env.cX e (some t)=false:=by rfl):
  fT T H b 0 ((⟨some t,.call true f args,g,none⟩,q)::l) acc k ⟨e,ds⟩ s Q:=by
 subst hf;obtain⟨d,s1,h1,h2⟩:=hE;obtain⟨h3,h5⟩:=h d s1 h2;exact⟨uf (r:=(d,s1)) hc kq ⟨_,h1,fun C hC=>iD (o:=⟨some t,.call true f args,g,none⟩) (fr:=⟨e,ds⟩) hw (by simp only [cB,hx,lV,hC])⟩ h3 (by rfl) h5.out⟩
theorem tF {fp:Fp}{f:Nat}{args:List bP}{x:List D}{R:D->St->Prop}(hE:cu T H f x { s with ro:=true,h:=sT (kk+1) b s.h} R)(h:∀d s1,R d s1->Env.cX ((t,d)::e) (some t)=false/\fT T H b (kk+1) l (acc++ [fp]) k ⟨(t,d)::e,ds⟩ s Q)
  (hw:aI e g=some true:=by rfl)(hx:sK e args=some x:=by rfl)(hf:cE b e ⟨some t,.call true f args,g,none⟩=fp:=by exact fI)(hc:fg acc fp q=true:=by exact cI)(kq:Env.cX e (some t)=false:=by rfl):
  fT T H b (kk+1) ((⟨some t,.call true f args,g,none⟩,q)::l) acc k ⟨e,ds⟩ s Q:=by
 subst hf;obtain⟨d,s1,h1,h2⟩:=hE;obtain⟨h3,h5⟩:=h d s1 h2;exact⟨uf (r:=(d,s1)) hc kq ⟨_,h1,fun C hC=>iD (o:=⟨some t,.call true f args,g,none⟩) (fr:=⟨e,ds⟩) hw (by simp only [cB,hx,lV,hC])⟩ h3 (by rfl) h5.out⟩
end
end Go.Ab.Sm
namespace Go.Ab.Sm
structure Zq (g:Prop):Prop where
 out:g
theorem go {g P:Prop}(h:g)(f:Zq g->P:=by intro xB; (first | refine run_seq ?_ | refine ma ?_ | refine Bt ?_ | refine vN ?_ | refine vP ?_ | refine AB ?_ | refine CX ?_ | refine Ic ?_ | refine E0 ?_ | refine CV ?_ | refine yh ?_ | refine DU ?_ | refine Ez ?_ | refine ym ?_ | refine x8 ?_ | refine zB ?_ | refine x6 ?_ | refine AH ?_ | refine Bv ?_ | refine yn ?_ | refine x5 ?_ | refine Aq ?_ | refine ret_callR0 ?_ | refine Bz ?_ | refine ret_callN0 ?_ | refine BG ?_ | refine CT ?_ | refine Ip ?_ | refine IU ?_ | refine HJ ?_ | refine IN ?_ | refine HC ?_ | refine HM ?_ | refine IT ?_ | refine ops_stv ?_ | refine D4 ?_ | refine ops_sta ?_ | refine EN ?_ | refine Io ?_ | refine Bo ?_ | refine ops_mkmapn ?_ | refine xL ?_ | refine xP ?_ | refine dW ?_ | refine ops_lstore ?_ | refine ops_lenm ?_ | refine ops_lk0 ?_ | refine HA ?_ | refine Iu ?_ | refine ops_ass ?_ | refine ops_asn ?_ | refine Ir ?_ | refine Iv ?_ | refine Oj ?_ | refine Mr ?_ | refine Nw ?_ | refine OW ?_ | refine iZ ?_ | refine qR ?_ | refine ops_skip0 ?_ | refine DF ?_ | refine As ?_ | refine xT ?_ | refine zl ?_ | refine Dd ?_ | refine yU ?_ | refine dops_aps ?_ | refine rC ?_ | refine wR ?_ | refine Ec ?_ | refine dops_stv ?_ | refine vR ?_ | refine dops_sta ?_ | refine Bp ?_ | refine Eb ?_ | refine dops_bslice ?_ | refine dops_mkmap ?_ | refine D7 ?_ | refine Ax ?_ | refine EK ?_ | refine dops_lk1 ?_ | refine yD ?_ | refine Ci ?_ | refine dops_op0 ?_ | refine zo ?_ | refine ops_call0 ?_ | refine Bm ?_ | refine ops_callv0 ?_ | refine kB ?_ | refine ops_invoke0 ?_); (repeat' first | refine run_seq ?_ | refine ma ?_ | refine Bt ?_ | refine vN ?_ | refine vP ?_ | refine AB ?_ | refine CX ?_ | refine Ic ?_ | refine E0 ?_ | refine CV ?_ | refine yh ?_ | refine DU ?_ | refine Ez ?_ | refine ym ?_ | refine x8 ?_ | refine zB ?_ | refine x6 ?_ | refine AH ?_ | refine Bv ?_ | refine yn ?_ | refine x5 ?_ | refine Aq ?_ | refine ret_callR0 ?_ | refine Bz ?_ | refine ret_callN0 ?_ | refine BG ?_ | refine CT ?_ | refine Ip ?_ | refine IU ?_ | refine HJ ?_ | refine IN ?_ | refine HC ?_ | refine HM ?_ | refine IT ?_ | refine ops_stv ?_ | refine D4 ?_ | refine ops_sta ?_ | refine EN ?_ | refine Io ?_ | refine Bo ?_ | refine ops_mkmapn ?_ | refine xL ?_ | refine xP ?_ | refine dW ?_ | refine ops_lstore ?_ | refine ops_lenm ?_ | refine ops_lk0 ?_ | refine HA ?_ | refine Iu ?_ | refine ops_ass ?_ | refine ops_asn ?_ | refine Ir ?_ | refine Iv ?_ | refine Oj ?_ | refine Mr ?_ | refine Nw ?_ | refine OW ?_ | refine iZ ?_ | refine qR ?_ | refine ops_skip0 ?_ | refine DF ?_ | refine As ?_ | refine xT ?_ | refine zl ?_ | refine Dd ?_ | refine yU ?_ | refine dops_aps ?_ | refine rC ?_ | refine wR ?_ | refine Ec ?_ | refine dops_stv ?_ | refine vR ?_ | refine dops_sta ?_ | refine Bp ?_ | refine Eb ?_ | refine dops_bslice ?_ | refine dops_mkmap ?_ | refine D7 ?_ | refine Ax ?_ | refine EK ?_ | refine dops_lk1 ?_ | refine yD ?_ | refine Ci ?_ | refine dops_op0 ?_ | refine zo ?_ | refine ops_call0 ?_ | refine Bm ?_ | refine ops_callv0 ?_ | refine kB ?_ | refine ops_invoke0 ?_); exact xB.out):P:=f ⟨h⟩
end Go.Ab.Sm
namespace Go.Ab
theorem eR (p:Prop) [Decidable p](h:p:=by omega):decide p=true:=cK h
theorem cM (p:Prop) [Decidable p](h: ¬p:=by omega):decide p=false:=bk h
abbrev o (d:Nat)(x:eN):bj:=⟨some d,x,none,none⟩
abbrev w (d:Nat)(x:eN)(g:Nat×Bool):bj:=⟨some d,x,some g,none⟩
abbrev m (d x:Nat):bj:=⟨some d,.mv (.t x),none,none⟩
namespace Sm
open Go Go.Ab
variable {T:Nat->Option dS}{H:au}{b:Nat}{k:List je}{s:St}{Q:QP}{l:List bj}{t:Nat}{e:Env}{ds:List (D×List D)}{g:Option (Nat×Bool)}
theorem QO {sz z:Nat}{x:bP}{nl:Bool}{L:List D}{lo hi:Option bP} {a b' :Option D} {lo' hi' :Nat}(hz:z=sz\/L=[])(PJ:mq 0 a=some lo')(kL:mq L.length b' =some hi')(h1:lo' <=hi')(h2:hi' <=L.length)
  (h:gN T H b l k ⟨(t,.vs nl z ((L.take hi').drop lo'))::e,ds⟩ s Q)(hw:aI e g=some true:=by rfl)(hx:x.ev e=some (.vs nl z L):=by rfl)(ha:uz e lo=some a:=by rfl)(hb:uz e hi=some b' :=by rfl):gN T H b (⟨some t,.H8 sz x lo hi none,g,none⟩::l) k ⟨e,ds⟩ s Q:=by
 have e3:Nat.ble lo' hi' =true:=aq h1;have e4:Nat.ble hi' L.length=true:=aq h2;have e4' :Nat.ble L.length L.length=true:=aq (an _);have e5:uz e none=some none:=rfl;have e6:mq 0 none=some 0:=rfl;refine dC h hw ?_;cases b' with
 | none=>
  simp only [mq,aa]at kL; subst kL;rcases hz with rfl | rfl
  ·simp only [cB,hx,ha,hb,e5,PJ,e6,items,az,eM,gu,u7,Option.getD,e3,e4,e4',nk]
  ·simp only [cB,hx,ha,hb,e5,PJ,e6,items,kR,gu,u7,Option.getD,e3,e4,e4',nk]
 | some d=>
  have jJ:mq 0 (some d)=some hi' :=kL;rcases hz with rfl | rfl
  ·simp only [cB,hx,ha,hb,e5,PJ,e6,jJ,items,az,eM,gu,u7,Option.getD,e3,e4,e4',nk]
  ·simp only [cB,hx,ha,hb,e5,PJ,e6,jJ,items,kR,gu,u7,Option.getD,e3,e4,e4',nk]
theorem tY {sz z bytes ty:Nat}{x y:bP}{yd:D}{o off len cp st:Nat}{es m:List D}(hi:items s yd=some (z,m))(hz:z=sz)(hn:m≠ [])(ha:eG sz m=true)(hm:len+m.length<=aL)(h:gN T H b l k ⟨(t,.sl o off (len+m.length) (len+m.length))::e,ds⟩ (s.bD o (.arr sz ty (es++m) st)) Q)(hw:aI e g=some true:=by rfl)(hx:x.ev e=some (.sl o off len cp):=by rfl)(hy:y.ev e=some yd:=by rfl)(hs:s.Ok:=by exact oI)(hg:s.get o=some (.arr sz ty es st):=by exact gI)(hb:Nat.ble bytes 4096=true:=by rfl)(he:off+len=es.length:=by exact sI)(dT:st<=es.length:=by exact sI):gN T H b (⟨some t,.append sz bytes ty x y,g,none⟩::l) k ⟨e,ds⟩ s Q:=by
 subst hz;refine dC h hw ?_;cases yd <;> simp only [items]at hi <;> first | (cases hi; done) | skip
 all_goals simp only [cB,hx,hy,items,hi,az,eM,hb,ha,sA hs hg he dT hm hn]
theorem DX {sz z z0 bytes ty:Nat}{x y:bP}{yd:D}{es m:List D}(hi:items s yd=some (z,m))(hz:z=sz)(hn:m≠ [])(ha:eG sz m=true)(hm:m.length<=aL)(h:gN T H b l k ⟨(t,.sl s.n 0 m.length m.length)::e,ds⟩ (s.bc (.arr sz ty m 0)) Q)(hw:aI e g=some true:=by rfl)(hx:x.ev e=some (.vs true z0 es):=by rfl)(hy:y.ev e=some yd:=by rfl)(hs:s.Ok:=by exact oI)(hb:Nat.ble bytes 4096=true:=by rfl):gN T H b (⟨some t,.append sz bytes ty x y,g,none⟩::l) k ⟨e,ds⟩ s Q:=by
 subst hz;refine dC h hw ?_;cases yd <;> simp only [items]at hi <;> first | (cases hi; done) | skip
 all_goals simp only [cB,hx,hy,items,hi,az,eM,hb,ha,append_nil hs hm hn]
theorem IZ {sz z z' ty' bytes ty:Nat}{x y:bP}{yd:D}{o off len cp st:Nat}{es:List D}(hi:items s yd=some (z,[]))(h:gN T H b l k ⟨(t,.sl o off len cp)::e,ds⟩ s Q)(hw:aI e g=some true:=by rfl)(hx:x.ev e=some (.sl o off len cp):=by rfl)(hy:y.ev e=some yd:=by rfl)(hg:s.get o=some (.arr z' ty' es st):=by exact gI)(hb:Nat.ble bytes 4096=true:=by rfl):gN T H b (⟨some t,.append sz bytes ty x y,g,none⟩::l) k ⟨e,ds⟩ s Q:=by
 refine dC h hw ?_;have ha:eG sz []=true:=rfl;cases yd <;> simp only [items]at hi <;> first | (cases hi; done) | skip
 all_goals simp only [cB,hx,hy,items,hi,kR,hb,ha,fF,hg]
theorem Ov {sz z z0 bytes ty:Nat}{nl:Bool}{es:List D}{x y:bP}{yd:D}(hi:items s yd=some (z,[]))(h:gN T H b l k ⟨(t,.vs nl z0 es)::e,ds⟩ s Q)(hw:aI e g=some true:=by rfl)(hx:x.ev e=some (.vs nl z0 es):=by rfl)(hy:y.ev e=some yd:=by rfl)(hb:Nat.ble bytes 4096=true:=by rfl):gN T H b (⟨some t,.append sz bytes ty x y,g,none⟩::l) k ⟨e,ds⟩ s Q:=by
 refine dC h hw ?_;have ha:eG sz []=true:=rfl;cases yd <;> simp only [items]at hi <;> first | (cases hi; done) | skip
 all_goals simp only [cB,hx,hy,items,hi,kR,hb,ha,fF]
theorem od {kk:Nat}{fp:Fp}{acc:List Fp}{q:List Nat}{dl:List (bj×List Nat)}{a sz c:Nat}{x v:bP}{d w w1:D}(h:fT T H b kk dl (acc++ [fp]) k ⟨(a,.lv w1)::e,ds⟩ s Q)(hw:aI e g=some true:=by rfl)(hx:x.zb e=some (.iI a c):=by rfl)(hv:v.ev e=some d:=by rfl)(ha:e.get a=some (.lv w):=by rfl)(hz:Nat.beq d.flat.length sz=true:=by rfl)(hp:w.over c d=some w1:=by rfl)
  (hf:cE b e ⟨none,.iY a sz x v,g,none⟩=fp:=by exact fI)(hc:fg acc fp q=true:=by exact cI):fT T H b kk ((⟨none,.iY a sz x v,g,none⟩,q)::dl) acc k ⟨e,ds⟩ s Q:=by
 subst hf;refine⟨y9 (o:=⟨none,.iY a sz x v,g,none⟩) (fr1:=⟨(a,.lv w1)::e,ds⟩) hc rfl ?_ rfl rfl h.out⟩;unfold oper;simp only [hw,hx,hv,az,ha,hz,hp,iu]
theorem qU {fr:Fr}{bR:List Nat}{gg:bP}{ps:List Nat}{a c:AC}{gf:Nat}{caps:List D}
  (h:∀Y,mW T H s.n ps (fr.env.bR bR) a c Y->cu T Y gf (.yl s.n::caps) ((s.bc .dead).bc (.loop s.n .ready)) fun _ s2=>
   ∃st x s3,s2.get (s.n+1)=some (.loop s.n st)/\CF st=some x/\s2.set (s.n+1) .dead=some s3/\kZ T H x k { fr with defers:=(.mf,[])::fr.defers} s3 Q)
  (hg:gg.ev fr.env=some (.fn (.func gf) [] caps))(wz:s.ro=false)(hp:(fr.env.bR bR).plain=true):eI T H (.iA bR gg ps a c) k fr s Q:=by
 refine⟨Ju hg wz hp fun Y hY=> ?_⟩;obtain⟨d,s2,h1,st,x,s3,h2,h3,h4,h5⟩:=h Y hY;exact⟨d,s2,h1,st,x,s3,h2,h3,h4,h5.out⟩
theorem si {y:Nat}{ps:List Nat}{env e:Env}{a c:AC}{Y:au}{xs:List D}(hY:mW T H y ps env a c Y)(R:Bool->St->Prop)(hb:qa ps xs env=some e)(hl:s.get (y+1)=some (.loop y .ready))(hs:s.Ok)
  (h:eI T H a [] ⟨e,[]⟩ s fun x f1 s1=>x= .normal/\s1=s/\eI T H c [] f1 (s.bD (y+1) (.loop y .busy)) fun x f2 s3=>f2.defers=[]/\s3.get (y+1)=some (.loop y .busy)/\s3.Ok/\R (qj x) (s3.bD (y+1) (.loop y (R1 x)))):
  ∃c s',Y 0 (.lv (.yl y)::xs) s=some (.bool c,s')/\R c s' :=by
 refine hY.2 xs s e R hb (by simp [St.nL,hl]) (Wp.mono h.out ?_);rintro x f1 s1 ⟨rfl,rfl,h2⟩;refine⟨rfl,by simp [St.nL,hl],_,hs.set _ _,Wp.mono h2.out ?_⟩;rintro x f2 s3 ⟨h3,h4,h5,h6⟩;exact⟨h3,by simp [St.nL,h4],_,h5.set _ _,h6⟩
theorem I5 {s:St}{e:Env}{x:bP}{o n ty:Nat}{v:D}(hs:s.Ok)(hx:x.ev e=some (.ptr o 0))(hg:s.get o=some (.var ty v))(hn:Nat.beq v.flat.length n=true):cB fD e s none (.zq n x)=some (.sl s.n 0 n n,(s.bD o .dead).bc (.arr 1 ty v.flat 0)):=by
 have l:=hs.lt hg;simp only [cB,hx,hg,hn,hs.set,(hs.bD .dead l).W1];rfl
end Sm
end Go.Ab
namespace Go.Ab
abbrev RK (a:Option dS):= {c:dS // a=some c}
abbrev RK.mk {a:Option dS}(h:RK a:=by apply Subtype.mk; conv=>lhs; reduce; try simp only [Int.reduceOfNat,Int.reduceNegSucc]):RK a:=h
open Go
def MQ:List (Nat×nJ)->Nat->nJ
 | [],_=>⟨[],[],[],[],0⟩
 | (k,a)::r,n=>bif Nat.beq k n then a else MQ r n
def cfT (P:Program)(G:Gl)(X:iJ)(A:List (Nat×nJ))(n:Nat):Option dS:=match P.funcs[n]? with
 | some f => match f.name == "runtime.NumGoroutine" with
  | true=>none
  | false=>oJ P G X f (MQ A n)
 | none=>none
theorem VJ {P:Program}{G:Gl}{X:iJ}{A:List (Nat×nJ)} [eW]:nT P G X (cfT P G X A):=⟨fun f fn hf=>by
 unfold cfT at hf;split at hf
 ·rename_i g hg;split at hf
  ·cases hf
  ·rename_i hn;exact⟨g,_,hg,hn,hf⟩
 ·cases hf⟩
end Go.Ab
namespace Go.Proofs.Tab
open Go Go.Ab
def CH:List D:=(List.range 256).map fun c=> .int .u8 (Lib.firstT c:Nat)
def BE:List D:=(List.range 16).flatMap fun i=> [.int .u8 (Lib.accLo i:Nat),.int .u8 (Lib.accHi i:Nat)]
@[reducible] def ON:D:= .agg CH
@[reducible] def Cg:D:= .agg BE
open Go Go.Ab Go.Proofs
def gl:Gl:=fun g=>bif Nat.beq g 0 then some ON else bif Nat.beq g 1 then some Cg else none
def exts:iJ:=fun n=>bif Nat.beq n 68 then some (Ext.Zv) else (none)
def ZF:List (Nat×nJ):=[(4,⟨[],[],[],[[0,3,4]],0⟩),(5,⟨[10],[],[],[],0⟩),(6,⟨[7],[],[],[],0⟩),(7,⟨[],[],[],[[9,10]],0⟩),(8,⟨[2],[],[(40,2),(33,2),(28,2),(23,2),(18,2),(13,2),(9,2)],[[6,51,52,53]],0⟩),
 (9,⟨[1,46],[],[(29,1),(24,1),(19,1),(14,1),(9,1),(5,1)],[],0⟩),(10,⟨[10,49,12],[],[(75,12)],[[0,1,6,24,25],[0,1,6,35,36,37],[0,6,54,55,56],[0,6,13,54,55,56,76,77,78]],0⟩),
 (11,⟨[41,95],[],[],[[0,1,6],[0,1,8,9],[0,1,8,10],[0,1,8,10,11]],0⟩),(12,⟨[6],[],[(15,6)],[],0⟩),(18,⟨[],[],[],[[3,9,10,11]],0⟩),(19,⟨[21,27],[],[],[],0⟩),(20,⟨[5],[],[(27,5),(23,5),(14,5)],[],0⟩),
 (21,⟨[3],[],[(101,3),(95,3),(79,3),(77,3),(45,3),(43,3),(33,3),(23,3),(14,3),(8,3)],[],0⟩),
 (23,⟨[7,14],[],[(213,7),(202,7),(198,7),(192,7),(188,7),(181,14),(178,14),(174,14),(169,14),(165,14),(136,7),(118,7),(112,7),(106,7),(102,7),(96,7),(86,7),(63,7),(59,7),(55,7),(51,7),(47,7),(44,7),(36,7),(31,7),(27,7),(23,7),(19,7)],[[0,1,2,7,8,9,10,11,12]],0⟩),
 (24,⟨[9,62],[],[(171,9),(168,9),(157,9),(143,9),(134,9),(124,9),(114,9),(110,9),(107,9),(95,9),(86,9),(73,9),(65,9),(55,9),(47,9),(41,9),(35,9),(29,9),(23,9)],[[0,2,9,10,11],[0,1,2,9,13,14,15]],0⟩),
 (26,⟨[68,9,80,97,109,115,128,28],[],[],[],0⟩),(30,⟨[5],[],[(95,5),(86,5),(77,5),(68,5),(59,5),(27,5),(19,5)],[[0,2,4,5,6,28,29,30],[0,4,5,43,44,45]],0⟩),(32,⟨[5],[],[(35,5),(26,5),(20,5),(16,5)],[[0,6,41,42,43]],0⟩),
 (34,⟨[3],[],[],[],0⟩),(35,⟨[1,2],[],[],[],0⟩),(38,⟨[3],[],[(46,3),(39,3),(15,3)],[[0,3,5,6,32,33,34]],0⟩),(42,⟨[10],[],[(11,10)],[],0⟩),(45,⟨[1,2],[],[(5,1),(3,1)],[],0⟩),
 (46,⟨[3],[],[(36,3),(31,3),(14,3),(10,3)],[[0,3,5,6,7],[0,3,5,6,7,8,9]],0⟩),(48,⟨[3],[],[],[],0⟩),(50,⟨[3],[],[(16,3)],[],0⟩),(54,⟨[3],[],[(47,3),(35,3),(33,3),(28,3),(8,3)],[],0⟩),(55,⟨[12],[],[(33,12),(28,12)],[[0,3,11]],0⟩),
 (57,⟨[21,29],[],[],[],0⟩),(59,⟨[17,29],[],[],[],0⟩),(65,⟨[],[],[],[[0,6,7,8]],0⟩),(66,⟨[6,7,8,9,10],[],[(43,10),(37,9),(31,8),(26,7)],[],0⟩),(70,⟨[1,27],[],[(22,1),(15,1),(10,1),(5,1)],[[1,3,4]],0⟩),
 (71,⟨[1],[],[(19,1),(16,1),(12,1),(7,1),(3,1)],[],0⟩),(72,⟨[6],[],[(141,6),(136,6),(110,6),(105,6),(89,6),(84,6)],[[0],[0]],0⟩),(73,⟨[],[],[],[[3,5]],0⟩),(74,⟨[5],[],[(29,5),(23,5),(19,5),(13,5)],[],0⟩),
 (76,⟨[1,2,3],[],[(9,3),(6,3)],[],0⟩),(77,⟨[2],[],[],[],0⟩),(79,⟨[9],[],[(36,9),(28,9)],[[0,2,8,9]],0⟩),(84,⟨[13],[],[],[[3,7]],0⟩),(85,⟨[4],[],[],[],0⟩),
 (86,⟨[7,8],[],[(79,8),(77,7),(73,7),(69,7),(65,8),(63,7),(56,8),(54,8),(52,8),(48,7),(46,7),(44,7),(31,8),(27,8),(23,7),(19,7)],[],0⟩),(87,⟨[3,11],[],[],[],0⟩),(91,⟨[1],[],[(12,1),(6,1)],[],0⟩),(92,⟨[2,17],[],[],[],0⟩),
 (93,⟨[1,2],[],[(10,1),(6,1),(3,1)],[],0⟩),(94,⟨[],[],[],[[0,3,4]],0⟩),(97,⟨[2],[],[],[],0⟩),(99,⟨[7,8,9,11],[],[(87,8),(85,7),(80,8),(78,7),(74,8),(72,7),(45,8),(40,7)],[],0⟩),(102,⟨[23],[],[],[[0,2,8,9,10]],0⟩),
 (117,⟨[1,43],[],[(57,1),(12,1)],[[1,2,3,4,9],[1,2,3,4,5,6,9],[7,9]],0⟩),(118,⟨[],[],[],[[3,8]],0⟩),(122,⟨[1,2],[],[(5,1),(3,1)],[],0⟩),(123,⟨[4],[],[],[],0⟩),(125,⟨[11],[],[],[],0⟩),(126,⟨[5],[58],[(30,5),(28,5),(23,5),(15,5)],[],0⟩),
 (127,⟨[2,5],[57],[(138,5),(124,5)],[[0,2]],0⟩),(129,⟨[9,11,13],[],[],[],0⟩),(132,⟨[],[],[],[[0,2,3]],0⟩),(133,⟨[2,3],[],[(22,2),(19,3),(17,2),(15,2),(12,3),(10,2)],[],0⟩),(135,⟨[2],[],[(45,2),(25,2),(14,2)],[[1,2,6,7]],0⟩),
 (138,⟨[2],[],[],[],0⟩),(139,⟨[],[],[],[[0]],0⟩),(140,⟨[2],[24],[],[],0⟩),(143,⟨[4,6],[],[(18,6),(14,6)],[],0⟩),(144,⟨[],[],[],[[0,1,7,8]],0⟩),(151,⟨[],[],[],[[0]],0⟩),(154,⟨[2,3],[],[(14,3)],[[0,2,3,5]],0⟩),(157,⟨[13],[],[],[],0⟩),
 (161,⟨[1],[],[(12,1),(6,1)],[],0⟩),(162,⟨[2,17],[],[],[],0⟩),(163,⟨[],[],[],[[0,3,6,7]],0⟩),(166,⟨[4,6,7],[],[(21,7),(14,6)],[],0⟩),(168,⟨[],[16,17],[],[],0⟩),(169,⟨[4,5],[],[],[],0⟩),(170,⟨[],[],[],[[0,6]],0⟩),(171,⟨[3,4],[],[],[],0⟩),
 (172,⟨[4],[],[],[],0⟩),(173,⟨[2,3],[],[(22,3),(20,2)],[],0⟩),(175,⟨[],[],[],[[0,1,5]],0⟩),(180,⟨[3,4],[],[],[],0⟩),(183,⟨[57],[],[],[[0,1,2,3,10]],0⟩),(188,⟨[],[],[],[[0,1,3]],0⟩),(189,⟨[],[],[],[[0,1,3]],0⟩),(195,⟨[5,6],[],[],[],0⟩),
 (196,⟨[3,4],[],[(5,3)],[],0⟩),(197,⟨[5,6],[],[],[],0⟩),(202,⟨[2],[],[],[],0⟩),(203,⟨[2],[9],[],[],0⟩),(204,⟨[56],[],[],[],0⟩),(205,⟨[2],[],[(31,2),(15,2)],[[3,6,8]],0⟩),(216,⟨[1],[],[(10,1),(4,1)],[],0⟩),(217,⟨[],[],[],[[0,1,5]],0⟩),
 (218,⟨[],[],[],[[4,21,22]],0⟩),(220,⟨[2,4],[],[(25,4),(19,4)],[[2,4,5]],0⟩),(223,⟨[35],[],[],[[0,4,5],[0,4,6]],0⟩),(224,⟨[],[],[],[[0,2,6,7]],0⟩),(235,⟨[],[],[],[[0,2,3]],0⟩),(237,⟨[4],[],[(15,4)],[[0,2,8,9,10]],0⟩),
 (238,⟨[],[],[],[[0,7,8]],0⟩),(239,⟨[],[],[],[[2,3,4]],0⟩),(253,⟨[],[],[],[[0,4,5,6,23,24]],0⟩),(256,⟨[],[],[],[[2,8,9,10,11,13,14,15,16],[2,8,9,10,14,15,16,17,18]],0⟩),(295,⟨[1],[],[],[],0⟩),(296,⟨[1],[],[],[],0⟩),
 (297,⟨[1],[],[],[],0⟩),(302,⟨[1],[],[(3,1)],[],0⟩),(303,⟨[1],[],[],[],0⟩),(326,⟨[1],[],[],[],0⟩),(334,⟨[2],[],[(5,2)],[],0⟩),(335,⟨[1],[],[(3,1)],[],0⟩),(336,⟨[3],[],[(6,3)],[],0⟩),(338,⟨[2],[],[(5,2)],[],0⟩),(339,⟨[1],[],[(3,1)],[],0⟩),
 (340,⟨[3],[],[(6,3)],[],0⟩)]
noncomputable abbrev cf (f:Func)(n:Nat):Option dS:=oJ Tryz.prog gl exts f (MQ ZF n)
noncomputable def Q4:Nat->Option dS:=cfT Tryz.prog gl exts ZF
noncomputable section
def aa6:=RK.mk (a:=cf Tryz.f35 35)
def Yq:=RK.mk (a:=cf Tryz.f76 76)
def T0:=RK.mk (a:=cf Tryz.f122 122)
def U8:=RK.mk (a:=cf Tryz.f123 123)
def Uj:=RK.mk (a:=cf Tryz.f150 150)
def T7:=RK.mk (a:=cf Tryz.f151 151)
end
structure TW (T:Nat->Option dS):Prop where
 t35:T 35=some aa6.1
 t76:T 76=some Yq.1
 t122:T 122=some T0.1
 t123:T 123=some U8.1
 t150:T 150=some Uj.1
 t151:T 151=some T7.1
end Go.Proofs.Tab
