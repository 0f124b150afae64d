/- Part. -/
import Derived.Test.YtjaldhgmboeffaaGreatDoorG21
import Derived.KernelRfl
import Derived.Lib.DecodeN
import Derived.Test.YtjaldhgmboeffaaGreatDoorProg
set_option linter.unusedSimpArgs false
set_option linter.unusedVariables false
set_option linter.unusedSectionVars false
set_option maxRecDepth 100000
set_option maxHeartbeats 4000000
namespace Go.Ab.Sm
open Go Go.Ab
variable {T:Nat->Option dU}{H:ay}{b kk:Nat}{k:List iT}{fr:Fr}{s:St}{Q:QP}{l:List (bg×List Nat)}{acc:List Fp}{q:List Nat}
structure fU (T:Nat->Option dU)(H:ay)(b kk:Nat)(l:List (bg×List Nat))(acc:List Fp)(k:List iT)(fr:Fr)(s:St)(Q:QP):Prop where
 out:WQ T H b kk l acc fr s (mN T H Q k .normal)
theorem BL {acc:List Fp}{y:Fp}:fh acc y []=true:=rfl
theorem Bm (h:fU T H s.n 0 l [] k fr s Q):eH T H (.wY 0 l) k fr s Q:=by
 refine⟨D0 (by simp [Nat.blt,Nat.ble]) ?_⟩;have e: { s with n:=s.n+0}=s:=by cases s; rfl
 rw [e]; exact h.out
theorem EF {j:Nat}(h:fU T H s.n j l [] k fr (s.up j) Q)(hs:s.Ok:=by exact oI):eH T H (.wY j l) k fr s Q:=⟨D0 (by rw [hs.ro]; rfl) h.out⟩
theorem CA (h:lg T H .normal k fr s Q):fU T H b kk [] acc k fr s Q:=⟨R8 h.out⟩
section
variable {t:Nat}{e:Env}{ds:List (D×List D)}{g:Option (Nat×Bool)}
theorem fj {dst:Option Nat}{op:eQ}{al:Option Nat}{d:D}{s1:St}(hc:fh acc (cF b e ⟨dst,op,g,al⟩) q=true)(kz:e.cY dst=false)(hj:(ij e dst d).cY dst=false)(h:fU T H b kk l (acc++ [cF b e ⟨dst,op,g,al⟩]) k ⟨ij e dst d,ds⟩ s1 Q)
  (hw:aI e g=some true)(ho:cC fF e s (match (generalizing:=false) al with | some r=>some (b+r) | none=>none) op=some (d,s1))(hk:Nat.beq op.kind 5=false):fU T H b kk ((⟨dst,op,g,al⟩,q)::l) acc k ⟨e,ds⟩ s Q:=
 ⟨yR hc kz (iC (o:=⟨dst,op,g,al⟩) (fr:=⟨e,ds⟩) hw ho) hj hk h.out⟩
theorem BZ {fp:Fp}{op:eQ}{d:D}{s1:St}(h:fU T H b kk l (acc++ [fp]) k ⟨(t,d)::e,ds⟩ s1 Q)(hw:aI e g=some true:=by rfl)(ho:cC fF e s none op=some (d,s1):=by rfl)(hf:cF b e ⟨(some t),op,g,none⟩=fp:=by exact fI)(hc:fh acc fp q=true:=by exact cI)(kz:Env.cY e (some t)=false:=by rfl)(qq:Env.cY ((t,d)::e) (some t)=false:=by rfl)(hk:Nat.beq (bg.op ⟨(some t),op,g,none⟩).kind 5=false:=by rfl):fU T H b kk ((⟨(some t),op,g,none⟩,q)::l) acc k ⟨e,ds⟩ s Q:=by
 subst hf;exact fj hc kz qq h hw ho hk
theorem yY {fp:Fp}{sz:Option Nat}{x:bP}{o c ty:Nat}{v d:D}(h:fU T H b kk l (acc++ [fp]) k ⟨(t,d)::e,ds⟩ s Q)(hw:aI e g=some true:=by rfl)(hx:x.ev e=some (.ptr o c):=by rfl)(hg:s.get o=some (.var ty v):=by exact gI)(hp:part v.flat c sz=some d:=by rfl)(hf:cF b e ⟨(some t),.load sz x,g,none⟩=fp:=by exact fI)(hc:fh acc fp q=true:=by exact cI)(kz:Env.cY e (some t)=false:=by rfl)(qq:Env.cY ((t,d)::e) (some t)=false:=by rfl)(hk:Nat.beq (bg.op ⟨(some t),.load sz x,g,none⟩).kind 5=false:=by rfl):fU T H b kk ((⟨(some t),.load sz x,g,none⟩,q)::l) acc k ⟨e,ds⟩ s Q:=by
 subst hf;exact
 fj hc kz qq h hw (by simp only [cC,hx,iP,hg,hp,nj]) hk
theorem ED {fp:Fp}{sz:Option Nat}{x:bP}{c:Nat}{z d:D}(h:fU T H b kk l (acc++ [fp]) k ⟨(t,d)::e,ds⟩ s Q)(hw:aI e g=some true:=by rfl)(hx:x.ev e=some (.jD z c):=by rfl)(hp:part z.flat c sz=some d:=by rfl)(hf:cF b e ⟨(some t),.load sz x,g,none⟩=fp:=by exact fI)(hc:fh acc fp q=true:=by exact cI)(kz:Env.cY e (some t)=false:=by rfl)(qq:Env.cY ((t,d)::e) (some t)=false:=by rfl)(hk:Nat.beq (bg.op ⟨(some t),.load sz x,g,none⟩).kind 5=false:=by rfl):fU T H b kk ((⟨(some t),.load sz x,g,none⟩,q)::l) acc k ⟨e,ds⟩ s Q:=by
 subst hf;exact
 fj hc kz qq h hw (by simp only [cC,hx,iP,hp,nj]) hk
theorem vh {fp:Fp}{sz:Nat}{x v:bP}{o c ty:Nat}{d w w1:D}(h:fU T H b kk l (acc++ [fp]) k ⟨e,ds⟩ (s.bF o (.var ty w1)) Q)(hw:aI e g=some true:=by rfl)(hx:x.ev e=some (.ptr o c):=by rfl)(hv:v.ev e=some d:=by rfl)(hs:s.Ok:=by exact oI)(hg:s.get o=some (.var ty w):=by exact gI)(hz:Nat.beq d.flat.length sz=true:=by rfl)(hp:w.over c d=some w1:=by rfl)(hf:cF b e ⟨none,.store sz x v,g,none⟩=fp:=by exact fI)(hc:fh acc fp q=true:=by exact cI)(kz:Env.cY e none=false:=by rfl)(qq:Env.cY (e) none=false:=by rfl)(hk:Nat.beq (bg.op ⟨none,.store sz x v,g,none⟩).kind 5=false:=by rfl):fU T H b kk ((⟨none,.store sz x v,g,none⟩,q)::l) acc k ⟨e,ds⟩ s Q:=by
 subst hf;exact
 fj (d:= .gK []) hc kz qq h hw (by simp only [cC,hx,hv,jN,hz,hg,hp,hs.set,oK]) hk
theorem Ee {fp:Fp}{sz:Nat}{x i:bP}{n:D}{j:Nat}{nl:Bool}{es:List D}{z:D}(h:fU T H b kk l (acc++ [fp]) k ⟨(t,.jD z 0)::e,ds⟩ s Q)(hw:aI e g=some true:=by rfl)(hx:x.ev e=some (.vs nl sz es):=by rfl)(hi:i.ev e=some n:=by rfl)(hj:idx n=some j:=by first | exact jz | rfl | exact gY (by omega))(he:es[j]? =some z:=by first | assumption | rfl)(hf:cF b e ⟨some t,.jY sz x i,g,none⟩=fp:=by exact fI)(hc:fh acc fp q=true:=by exact cI)(kz:Env.cY e (some t)=false:=by rfl)(qq:Env.cY ((t,.jD z 0)::e) (some t)=false:=by rfl)(hk:Nat.beq (bg.op ⟨some t,.jY sz x i,g,none⟩).kind 5=false:=by rfl):fU T H b kk ((⟨some t,.jY sz x i,g,none⟩,q)::l) acc k ⟨e,ds⟩ s Q:=by
 subst hf;exact
 fj hc kz qq h hw (by simp only [cC,hx,hi,hj,ke,aA,he,nj]) hk
theorem za {fp:Fp}{sz:Nat}{x i:bP}{n:D}{j o off len cp ty st:Nat}{es:List D}(h:fU T H b kk l (acc++ [fp]) k ⟨(t,.jI o (off+j) 0 (off+cp))::e,ds⟩ s Q)(hw:aI e g=some true:=by rfl)(hx:x.ev e=some (.sl o off len cp):=by rfl)(hi:i.ev e=some n:=by rfl)(hg:s.get o=some (.arr sz ty es st):=by exact gI)(hj:idx n=some j:=by first | exact jz | rfl | exact gY (by omega))(hl:j < len:=by exact sI)(h1:off+len<=es.length:=by exact sI)(h2:st<=off+cp:=by exact sI)(hf:cF b e ⟨some t,.jY sz x i,g,none⟩=fp:=by exact fI)(hc:fh acc fp q=true:=by exact cI)(kz:Env.cY e (some t)=false:=by rfl)(qq:Env.cY ((t,.jI o (off+j) 0 (off+cp))::e) (some t)=false:=by rfl)(hk:Nat.beq (bg.op ⟨some t,.jY sz x i,g,none⟩).kind 5=false:=by rfl):fU T H b kk ((⟨some t,.jY sz x i,g,none⟩,q)::l) acc k ⟨e,ds⟩ s Q:=by
 subst hf;have e1:Nat.blt j len=true:=au (mn hl);have e2:Nat.ble (off+len) es.length=true:=au h1;have e3:Nat.ble st (off+cp)=true:=au h2;exact fj hc kz qq h hw (by simp only [cC,hx,hi,hj,ke,hg,aA,e1,e2,e3,nj]) hk
theorem xK {fp:Fp}{sz:Option Nat}{x:bP}{o i c en z ty st:Nat}{es:List D}{v d:D}(h:fU T H b kk l (acc++ [fp]) k ⟨(t,d)::e,ds⟩ s Q)(hw:aI e g=some true:=by rfl)(hx:x.ev e=some (.jI o i c en):=by rfl)(hg:s.get o=some (.arr z ty es st):=by exact gI)(hi:es[i]? =some v:=by first | assumption | rfl)(dN:st<=en:=by exact sI)(hp:part v.flat c sz=some d:=by rfl)(hf:cF b e ⟨some t,.load sz x,g,none⟩=fp:=by exact fI)(hc:fh acc fp q=true:=by exact cI)(kz:Env.cY e (some t)=false:=by rfl)(qq:Env.cY ((t,d)::e) (some t)=false:=by rfl)(hk:Nat.beq (bg.op ⟨some t,.load sz x,g,none⟩).kind 5=false:=by rfl):fU T H b kk ((⟨some t,.load sz x,g,none⟩,q)::l) acc k ⟨e,ds⟩ s Q:=by
 subst hf;have e1:Nat.ble st en=true:=au dN;exact fj hc kz qq h hw (by simp only [cC,hx,iP,hg,e1,hi,hp,nj]) hk
theorem Bg {fp:Fp}{sz:Nat}{x v:bP}{o i c en z ty st:Nat}{es:List D}{d w w1:D}(h:fU T H b kk l (acc++ [fp]) k ⟨e,ds⟩ (s.bF o (.arr z ty (es.set i w1) es.length)) Q)(hw:aI e g=some true:=by rfl)(hx:x.ev e=some (.jI o i c en):=by rfl)(hv:v.ev e=some d:=by rfl)(hs:s.Ok:=by exact oI)(hg:s.get o=some (.arr z ty es st):=by exact gI)(hi:es[i]? =some w:=by first | assumption | rfl)(he:en=es.length:=by exact sI)(hz:Nat.beq d.flat.length sz=true:=by rfl)(hp:w.over c d=some w1:=by rfl)(hf:cF b e ⟨none,.store sz x v,g,none⟩=fp:=by exact fI)(hc:fh acc fp q=true:=by exact cI)(kz:Env.cY e none=false:=by rfl)(qq:Env.cY (e) none=false:=by rfl)(hk:Nat.beq (bg.op ⟨none,.store sz x v,g,none⟩).kind 5=false:=by rfl):fU T H b kk ((⟨none,.store sz x v,g,none⟩,q)::l) acc k ⟨e,ds⟩ s Q:=by
 subst hf;subst he;exact fj (d:= .gK []) hc kz qq h hw (by simp only [cC,hx,hv,jN,hz,hg,aA,hi,hp,hs.set,oK]) hk
theorem yJ {fp:Fp}{sz:Nat}{z d:D}{x:bP}(h:fU T H b kk l (acc++ [fp]) k ⟨(t,.vs false sz [d])::e,ds⟩ s Q)(hw:aI e g=some true:=by rfl)(hx:x.ev e=some d:=by rfl)(hz:eI sz [z]=true:=by rfl)(h1:Nat.beq d.flat.length sz=true:=by rfl)(h2:d.st=true:=by rfl)(hf:cF b e ⟨some t,.pX sz z 1 [(0,x)],g,none⟩=fp:=by exact fI)(hc:fh acc fp q=true:=by exact cI)(kz:Env.cY e (some t)=false:=by rfl)(qq:Env.cY ((t,.vs false sz [d])::e) (some t)=false:=by rfl)(hk:Nat.beq (bg.op ⟨some t,.pX sz z 1 [(0,x)],g,none⟩).kind 5=false:=by rfl):fU T H b kk ((⟨some t,.pX sz z 1 [(0,x)],g,none⟩,q)::l) acc k ⟨e,ds⟩ s Q:=by
 subst hf;exact
 fj hc kz qq h hw (by simp only [cC,jv,hx,hz,sX,h1,h2,List.replicate,aV,bL,Nat.blt,Nat.ble,jR]) hk
theorem C8 {fp:Fp}{sz ty:Nat}{x:bP}{lo hi:Option bP} {a b' :Option D}{lo' hi' o off len cp st:Nat}{es:List D}(h:fU T H b kk l (acc++ [fp]) k ⟨(t,.sl o (off+lo') (hi' - lo') (cp - lo'))::e,ds⟩ s Q)(hw:aI e g=some true:=by rfl)(hx:x.ev e=some (.sl o off len cp):=by rfl)(ha:sJ e lo=some a:=by rfl) (jl :sJ e hi=some b' :=by rfl)(Pr:lH 0 a=some lo' :=by first | rfl | exact jz | exact gY (by omega))(kO:(match b' with | none=>some len | some d=>idx d)=some hi' :=by first | rfl | exact jz | exact gY (by omega))(hg:s.get o=some (.arr sz ty es st):=by exact gI)(h1:off+len<=es.length:=by exact sI)(h2:st<=off+cp:=by exact sI)(h3:lo' <=hi' :=by exact sI)(h4:hi' <=cp:=by exact sI)(hf:cF b e ⟨some t,.HE sz x lo hi none,g,none⟩=fp:=by exact fI)(hc:fh acc fp q=true:=by exact cI)(kz:Env.cY e (some t)=false:=by rfl)(qq:Env.cY ((t,.sl o (off+lo') (hi' - lo') (cp - lo'))::e) (some t)=false:=by rfl)(hk:Nat.beq (bg.op ⟨some t,.HE sz x lo hi none,g,none⟩).kind 5=false:=by rfl):fU T H b kk ((⟨some t,.HE sz x lo hi none,g,none⟩,q)::l) acc k ⟨e,ds⟩ s Q:=by
 subst hf;have e1:Nat.ble (off+len) es.length=true:=au h1;have e2:Nat.ble st (off+cp)=true:=au h2;have e3:Nat.ble lo' hi' =true:=au h3;have e4:Nat.ble hi' cp=true:=au h4;have e5:sJ e none=some none:=rfl;have e6:lH 0 none=some 0:=rfl;refine fj hc kz qq h hw ?_ hk;cases b' with
 | none=>
  simp only [aa]at kO; subst kO;simp only [cC,hx,ha,jl,e5,Pr,e6,items,hg,e1,e2,aA,eP,fZ,uG,Option.getD,e3,e4,nj]
 | some d=>
  simp only at kO;have jK:lH 0 (some d)=some hi' :=kO;simp only [cC,hx,ha,jl,e5,Pr,e6,jK,items,hg,e1,e2,aA,eP,fZ,uG,Option.getD,e3,e4,nj]
theorem AI {fp:Fp}{x:bP}{o c:Nat}{es:List (Nat×D×D)}(h:fU T H b kk l (acc++ [fp]) k ⟨(t,.int .i64 (es.length:Nat))::e,ds⟩ s Q)(hw:aI e g=some true:=by rfl)(hx:x.ev e=some (.mp o):=by rfl)(hg:s.get o=some (.map es c):=by exact gI)(hf:cF b e ⟨some t,.len 2 x,g,none⟩=fp:=by exact fI)(hc:fh acc fp q=true:=by exact cI)(kz:Env.cY e (some t)=false:=by rfl)(qq:Env.cY ((t,.int .i64 (es.length:Nat))::e) (some t)=false:=by rfl)(hk:Nat.beq (bg.op ⟨some t,.len 2 x,g,none⟩).kind 5=false:=by rfl):fU T H b kk ((⟨some t,.len 2 x,g,none⟩,q)::l) acc k ⟨e,ds⟩ s Q:=by
 subst hf;exact
 fj hc kz qq h hw (by simp only [cC,hx,o8,hg,Fq]) hk
theorem Eo {fp:Fp}{et:ET}{z kd:D}{ok:Bool}{m ky:bP}{o c:Nat}{es:List (Nat×D×D)}(h:fU T H b kk l (acc++ [fp]) k ⟨(t,Fa ok z false)::e,ds⟩ s Q)(hw:aI e g=some true:=by rfl)(hm:m.ev e=some (.mp o):=by rfl)(hky:ky.ev e=some kd:=by rfl)(gV:oQ et kd=true:=by rfl)(hg:s.get o=some (.map es c):=by exact gI)(hf:findKey et kd es 0=some none:=by rfl)(hf:cF b e ⟨some t,.lookup et z ok m ky,g,none⟩=fp:=by exact fI)(hc:fh acc fp q=true:=by exact cI)(kz:Env.cY e (some t)=false:=by rfl)(qq:Env.cY ((t,Fa ok z false)::e) (some t)=false:=by rfl)(hk:Nat.beq (bg.op ⟨some t,.lookup et z ok m ky,g,none⟩).kind 5=false:=by rfl):fU T H b kk ((⟨some t,.lookup et z ok m ky,g,none⟩,q)::l) acc k ⟨e,ds⟩ s Q:=by
 subst hf;exact
 fj hc kz qq h hw (by simp only [cC,hm,hky,gV,hg,hf]) hk
theorem Bc {fp:Fp}{op:eQ}{al:Option Nat}(h:fU T H b kk l (acc++ [fp]) k ⟨(t,.gK [])::e,ds⟩ s Q)(hw:aI e g=some false:=by rfl)(hf:cF b e ⟨some t,op,g,al⟩=fp:=by exact fI)(hc:fh acc fp q=true:=by exact cI)(kz:Env.cY e (some t)=false:=by rfl)(hj:Env.cY ((t,.gK [])::e) (some t)=false:=by rfl)(hk:Nat.beq op.kind 5=false:=by rfl):
  fU T H b kk ((⟨some t,op,g,al⟩,q)::l) acc k ⟨e,ds⟩ s Q:=by
 subst hf;refine⟨yR hc kz (fr1:=⟨(t,.gK [])::e,ds⟩) (s1:=s) ?_ hj hk h.out⟩;unfold oper;simp only [hw];rfl
theorem kI {d:D}{e:Env}{t:Nat}(h:(match d with | .lv _=>true | _=>false)=false):Env.cY (ij e (some t) d) (some t)=false:=by
 cases d <;> first
  | (cases h; done)
  | simp [ij,Env.cY,Env.kC,Env.get]
theorem LL {al:Nat}{x:Obj}(hs:s.Ok)(hg:s.get al=none)(hl:al < s.n):s.mk' (some al) x=some (al,s.bF al x):=by
 have:Nat.blt al s.n=true:=au (mn hl);simp only [St.mk',hs.ro,hg,this]
theorem E0 {fp:Fp}{r:Nat}{ty:Nat}{x:bP}{d:D}(h:fU T H b kk l (acc++ [fp]) k ⟨(t,.ptr (b+r) 0)::e,ds⟩ (s.bF (b+r) (.var ty d)) Q)(hw:aI e g=some true:=by rfl)(hx:x.ev e=some d:=by rfl)(hd:(d.st && Nat.blt 0 d.flat.length)=true:=by rfl)(hs:s.Ok:=by exact oI)(hg:s.get (b+r)=none:=by exact nI)(hl:b+r < s.n:=by first | assumption | omega | (simp only [St.dV,St.fE,St.jx]; omega))(hf:cF b e ⟨some t,.box ty x,g,some r⟩=fp:=by exact fI)(hc:fh acc fp q=true:=by exact cI)(kz:Env.cY e (some t)=false:=by rfl)(hk:Nat.beq (bg.op ⟨some t,.box ty x,g,some r⟩).kind 5=false:=by rfl):fU T H b kk ((⟨some t,.box ty x,g,some r⟩,q)::l) acc k ⟨e,ds⟩ s Q:=by
 subst hf;exact fj hc kz (kI rfl) h hw (by simp only [cC,hx,hd,LL hs hg hl]) hk
theorem om {fp:Fp}{r:Nat}{sz bytes ty:Nat}{z dl dc:D}{ln cp:bP}{l1 c1:Nat}(sq:idx dl=some l1)(zk:idx dc=some c1)(h1:l1<=c1)(h2:c1 * bytes<=140737488355328)(h3:c1<=aL)(h:fU T H b kk l (acc++ [fp]) k ⟨(t,.sl (b+r) 0 l1 l1)::e,ds⟩ (s.bF (b+r) (.arr sz ty (List.replicate l1 z) 0)) Q)(hw:aI e g=some true:=by rfl)(hx:ln.ev e=some dl:=by rfl)(hy:cp.ev e=some dc:=by rfl)(hz:eI sz [z]=true:=by rfl)(hs:s.Ok:=by exact oI)(hg:s.get (b+r)=none:=by exact nI)(hl:b+r < s.n:=by first | assumption | omega | (simp only [St.dV,St.fE,St.jx]; omega))(hf:cF b e ⟨some t,.ou sz bytes ty z ln cp,g,some r⟩=fp:=by exact fI)(hc:fh acc fp q=true:=by exact cI)(kz:Env.cY e (some t)=false:=by rfl)(hk:Nat.beq (bg.op ⟨some t,.ou sz bytes ty z ln cp,g,some r⟩).kind 5=false:=by rfl):fU T H b kk ((⟨some t,.ou sz bytes ty z ln cp,g,some r⟩,q)::l) acc k ⟨e,ds⟩ s Q:=by
 subst hf;have e1:Nat.ble l1 c1=true:=au h1;have e2:Nat.ble (c1 * bytes) 140737488355328=true:=au h2;have e3:Nat.ble c1 aL=true:=au h3;exact fj hc kz (kI rfl) h hw (by simp only [cC,hx,hy,sq,zk,e1,e2,e3,hz,fm,LL hs hg hl]) hk
theorem rP {fp:Fp}{r:Nat}{sz bytes ty:Nat}{x y:bP}{o off len cp st:Nat}{nl:Bool}{es m:List D}(h:fU T H b kk l (acc++ [fp]) k ⟨(t,.sl o off (len+m.length) (len+m.length))::e,ds⟩ (s.bF o (.arr sz ty (es++m) st)) Q)(hw:aI e g=some true:=by rfl)(hx:x.ev e=some (.sl o off len cp):=by rfl)(hy:y.ev e=some (.vs nl sz m):=by rfl)(hs:s.Ok:=by exact oI)(hg:s.get o=some (.arr sz ty es st):=by exact gI)(hb:Nat.ble bytes 4096=true:=by rfl)(ha:eI sz m=true:=by rfl)(hn:m≠ []:=by simp)(he:off+len=es.length:=by exact sI)(dN:st<=es.length:=by exact sI)(hm:len+m.length<=aL:=by exact sI)(hf:cF b e ⟨some t,.append sz bytes ty x y,g,some r⟩=fp:=by exact fI)(hc:fh acc fp q=true:=by exact cI)(kz:Env.cY e (some t)=false:=by rfl)(hk:Nat.beq (bg.op ⟨some t,.append sz bytes ty x y,g,some r⟩).kind 5=false:=by rfl):fU T H b kk ((⟨some t,.append sz bytes ty x y,g,some r⟩,q)::l) acc k ⟨e,ds⟩ s Q:=by
 subst hf;refine fj hc kz (kI rfl) h hw ?_ hk;simp only [cC,hx,hy,items,aA,eP,hb,ha,sj hs hg he dN hm hn]
theorem CS {fp:Fp}{r:Nat}{sz bytes ty:Nat}{x y:bP}{o off len cp st:Nat}{o2 off2 len2 cp2 ty2 tJ:Nat}{es es2 m:List D}(ha:eI sz m=true)(hn:m≠ [])(UK:(es2.drop off2).take len2=m)(h:fU T H b kk l (acc++ [fp]) k ⟨(t,.sl o off (len+m.length) (len+m.length))::e,ds⟩ (s.bF o (.arr sz ty (es++m) st)) Q)(hw:aI e g=some true:=by rfl)(hx:x.ev e=some (.sl o off len cp):=by rfl)(hy:y.ev e=some (.sl o2 off2 len2 cp2):=by rfl)(hs:s.Ok:=by exact oI)(hg:s.get o=some (.arr sz ty es st):=by exact gI)(Fc:s.get o2=some (.arr sz ty2 es2 tJ):=by exact gI)(h21:off2+len2<=es2.length:=by exact sI)(h22:tJ<=off2+cp2:=by exact sI)(hb:Nat.ble bytes 4096=true:=by rfl)(he:off+len=es.length:=by exact sI)(dN:st<=es.length:=by exact sI)(hm:len+m.length<=aL:=by exact sI)(hf:cF b e ⟨some t,.append sz bytes ty x y,g,some r⟩=fp:=by exact fI)(hc:fh acc fp q=true:=by exact cI)(kz:Env.cY e (some t)=false:=by rfl)(hk:Nat.beq (bg.op ⟨some t,.append sz bytes ty x y,g,some r⟩).kind 5=false:=by rfl):fU T H b kk ((⟨some t,.append sz bytes ty x y,g,some r⟩,q)::l) acc k ⟨e,ds⟩ s Q:=by
 subst hf;have e1:Nat.ble (off2+len2) es2.length=true:=au h21;have e2:Nat.ble tJ (off2+cp2)=true:=au h22;refine fj hc kz (kI rfl) h hw ?_ hk;simp only [cC,hx,hy,items,Fc,e1,e2,UK,aA,eP,hb,ha,sj hs hg he dN hm hn]
theorem zy {al sz ty z:Nat}{es m:List D}(hs:s.Ok)(hg:s.get al=none)(hl:al < s.n)(hm:m.length<=aL)(hn:m≠ []):
  fH s (some al) sz ty (.vs true z es) m=some (.sl al 0 m.length m.length,s.bF al (.arr sz ty m 0)):=by
 cases m with
 | nil=>exact absurd rfl hn
 | cons x m=>
  have e3:Nat.ble (x::m).length aL=true:=au hm;simp only [fH,e3,LL hs hg hl]
theorem wK {fp:Fp}{r:Nat}{sz bytes ty z:Nat}{x y:bP}{nl:Bool}{es m:List D}(h:fU T H b kk l (acc++ [fp]) k ⟨(t,.sl (b+r) 0 m.length m.length)::e,ds⟩ (s.bF (b+r) (.arr sz ty m 0)) Q)(hw:aI e g=some true:=by rfl)(hx:x.ev e=some (.vs true z es):=by rfl)(hy:y.ev e=some (.vs nl sz m):=by rfl)(hs:s.Ok:=by exact oI)(hg:s.get (b+r)=none:=by exact nI)(hl:b+r < s.n:=by first | assumption | omega | (simp only [St.dV,St.fE,St.jx]; omega))(hb:Nat.ble bytes 4096=true:=by rfl)(ha:eI sz m=true:=by rfl)(hn:m≠ []:=by simp)(hm:m.length<=aL:=by exact sI)(hf:cF b e ⟨some t,.append sz bytes ty x y,g,some r⟩=fp:=by exact fI)(hc:fh acc fp q=true:=by exact cI)(kz:Env.cY e (some t)=false:=by rfl)(hk:Nat.beq (bg.op ⟨some t,.append sz bytes ty x y,g,some r⟩).kind 5=false:=by rfl):fU T H b kk ((⟨some t,.append sz bytes ty x y,g,some r⟩,q)::l) acc k ⟨e,ds⟩ s Q:=by
 subst hf;refine fj hc kz (kI rfl) h hw ?_ hk;simp only [cC,hx,hy,items,aA,eP,hb,ha,zy hs hg hl hm hn]
theorem aX {fp:Fp}{f:Nat}{args:List bP}{x:List D}{R:D->St->Prop}(hE:cu T H f x s R)(h:∀d s1,R d s1->Env.cY ((t,d)::e) (some t)=false/\lost acc s s1 ⟨some t,.call false f args,g,none⟩ q=false/\fU T H b kk l (acc++ [fpC fp s s1]) k ⟨(t,d)::e,ds⟩ s1 Q)
  (hw:aI e g=some true:=by rfl)(hx:sg e args=some x:=by rfl)(hf:cF b e ⟨some t,.call false f args,g,none⟩=fp:=by exact fI)(hc:fh acc fp q=true:=by exact cI)(kz:Env.cY e (some t)=false:=by rfl)(hs:s.Ok:=by exact oI):
  fU T H b kk ((⟨some t,.call false f args,g,none⟩,q)::l) acc k ⟨e,ds⟩ s Q:=by
 subst hf;obtain⟨d,s1,h1,h2⟩:=hE;obtain⟨h3,h4,h5⟩:=h d s1 h2;exact⟨tZ (r:=(d,s1)) hc kz ⟨s,h1,fun C hC=>iC (o:=⟨some t,.call false f args,g,none⟩) (fr:=⟨e,ds⟩) hw (by simp only [cC,hx]; exact Pe hs.ro hC)⟩ h3 h4 h5.out⟩
theorem qN {fp:Fp}{f:Nat}{args:List bP}{x:List D}{R:D->St->Prop}(hE:cu T H f x { s with ro:=true} R)(h:∀d s1,R d s1->Env.cY ((t,d)::e) (some t)=false/\fU T H b 0 l (acc++ [fp]) k ⟨(t,d)::e,ds⟩ s Q)
  (hw:aI e g=some true:=by rfl)(hx:sg e args=some x:=by rfl)(hf:cF b e ⟨some t,.call true f args,g,none⟩=fp:=by exact fI)(hc:fh acc fp q=true:=by exact cI)(kz:Env.cY e (some t)=false:=by rfl):
  fU T H b 0 ((⟨some t,.call true f args,g,none⟩,q)::l) acc k ⟨e,ds⟩ s Q:=by
 subst hf;obtain⟨d,s1,h1,h2⟩:=hE;obtain⟨h3,h5⟩:=h d s1 h2;exact⟨tZ (r:=(d,s1)) hc kz ⟨_,h1,fun C hC=>iC (o:=⟨some t,.call true f args,g,none⟩) (fr:=⟨e,ds⟩) hw (by simp only [cC,hx,lY,hC])⟩ h3 (by rfl) h5.out⟩
theorem tH {fp:Fp}{f:Nat}{args:List bP}{x:List D}{R:D->St->Prop}(hE:cu T H f x { s with ro:=true,h:=sM (kk+1) b s.h} R)(h:∀d s1,R d s1->Env.cY ((t,d)::e) (some t)=false/\fU T H b (kk+1) l (acc++ [fp]) k ⟨(t,d)::e,ds⟩ s Q)
  (hw:aI e g=some true:=by rfl)(hx:sg e args=some x:=by rfl)(hf:cF b e ⟨some t,.call true f args,g,none⟩=fp:=by exact fI)(hc:fh acc fp q=true:=by exact cI)(kz:Env.cY e (some t)=false:=by rfl):
  fU T H b (kk+1) ((⟨some t,.call true f args,g,none⟩,q)::l) acc k ⟨e,ds⟩ s Q:=by
 subst hf;obtain⟨d,s1,h1,h2⟩:=hE;obtain⟨h3,h5⟩:=h d s1 h2;exact⟨tZ (r:=(d,s1)) hc kz ⟨_,h1,fun C hC=>iC (o:=⟨some t,.call true f args,g,none⟩) (fr:=⟨e,ds⟩) hw (by simp only [cC,hx,lY,hC])⟩ h3 (by rfl) h5.out⟩
end
end Go.Ab.Sm
namespace Go.Ab.Sm
structure aaN (g:Prop):Prop where
 out:g
theorem go {g P:Prop}(h:g)(f:aaN g->P:=by intro xo; (first | refine run_seq ?_ | refine mb ?_ | refine AE ?_ | refine vL ?_ | refine vO ?_ | refine Bm ?_ | refine EF ?_ | refine HA ?_ | refine C4 ?_ | refine E3 ?_ | refine xF ?_ | refine Dd ?_ | refine DM ?_ | refine yN ?_ | refine yG ?_ | refine y9 ?_ | refine yT ?_ | refine Bb ?_ | refine A5 ?_ | refine yU ?_ | refine yf ?_ | refine zV ?_ | refine ret_callR0 ?_ | refine Ag ?_ | refine ret_callN0 ?_ | refine B2 ?_ | refine C9 ?_ | refine Ht ?_ | refine Ia ?_ | refine H9 ?_ | refine HB ?_ | refine Hw ?_ | refine H6 ?_ | refine Ib ?_ | refine ops_stv ?_ | refine D6 ?_ | refine ops_sta ?_ | refine DB ?_ | refine HW ?_ | refine Ak ?_ | refine ops_mkmapn ?_ | refine xD ?_ | refine xG ?_ | refine dW ?_ | refine ops_lstore ?_ | refine ops_lenm ?_ | refine ops_lk0 ?_ | refine ID ?_ | refine Im ?_ | refine ops_ass ?_ | refine ops_asn ?_ | refine Hr ?_ | refine Hv ?_ | refine Mn ?_ | refine Pd ?_ | refine NL ?_ | refine N6 ?_ | refine iV ?_ | refine qt ?_ | refine ops_skip0 ?_ | refine CA ?_ | refine Bc ?_ | refine yY ?_ | refine xK ?_ | refine Ee ?_ | refine za ?_ | refine dops_aps ?_ | refine rP ?_ | refine wK ?_ | refine ED ?_ | refine dops_stv ?_ | refine vh ?_ | refine dops_sta ?_ | refine Bg ?_ | refine E0 ?_ | refine dops_bslice ?_ | refine dops_mkmap ?_ | refine C8 ?_ | refine AI ?_ | refine Eo ?_ | refine dops_lk1 ?_ | refine yJ ?_ | refine BZ ?_ | refine dops_op0 ?_ | refine zh ?_ | refine ops_call0 ?_ | refine AL ?_ | refine ops_callv0 ?_ | refine kG ?_ | refine ops_invoke0 ?_); (repeat' first | refine run_seq ?_ | refine mb ?_ | refine AE ?_ | refine vL ?_ | refine vO ?_ | refine Bm ?_ | refine EF ?_ | refine HA ?_ | refine C4 ?_ | refine E3 ?_ | refine xF ?_ | refine Dd ?_ | refine DM ?_ | refine yN ?_ | refine yG ?_ | refine y9 ?_ | refine yT ?_ | refine Bb ?_ | refine A5 ?_ | refine yU ?_ | refine yf ?_ | refine zV ?_ | refine ret_callR0 ?_ | refine Ag ?_ | refine ret_callN0 ?_ | refine B2 ?_ | refine C9 ?_ | refine Ht ?_ | refine Ia ?_ | refine H9 ?_ | refine HB ?_ | refine Hw ?_ | refine H6 ?_ | refine Ib ?_ | refine ops_stv ?_ | refine D6 ?_ | refine ops_sta ?_ | refine DB ?_ | refine HW ?_ | refine Ak ?_ | refine ops_mkmapn ?_ | refine xD ?_ | refine xG ?_ | refine dW ?_ | refine ops_lstore ?_ | refine ops_lenm ?_ | refine ops_lk0 ?_ | refine ID ?_ | refine Im ?_ | refine ops_ass ?_ | refine ops_asn ?_ | refine Hr ?_ | refine Hv ?_ | refine Mn ?_ | refine Pd ?_ | refine NL ?_ | refine N6 ?_ | refine iV ?_ | refine qt ?_ | refine ops_skip0 ?_ | refine CA ?_ | refine Bc ?_ | refine yY ?_ | refine xK ?_ | refine Ee ?_ | refine za ?_ | refine dops_aps ?_ | refine rP ?_ | refine wK ?_ | refine ED ?_ | refine dops_stv ?_ | refine vh ?_ | refine dops_sta ?_ | refine Bg ?_ | refine E0 ?_ | refine dops_bslice ?_ | refine dops_mkmap ?_ | refine C8 ?_ | refine AI ?_ | refine Eo ?_ | refine dops_lk1 ?_ | refine yJ ?_ | refine BZ ?_ | refine dops_op0 ?_ | refine zh ?_ | refine ops_call0 ?_ | refine AL ?_ | refine ops_callv0 ?_ | refine kG ?_ | refine ops_invoke0 ?_); exact xo.out):P:=f ⟨h⟩
end Go.Ab.Sm
namespace Go.Ab
theorem eJ (p:Prop) [Decidable p](h:p:=by omega):decide p=true:=cO h
theorem cN (p:Prop) [Decidable p](h: ¬p:=by omega):decide p=false:=bk h
abbrev o (d:Nat)(x:eQ):bg:=⟨some d,x,none,none⟩
abbrev w (d:Nat)(x:eQ)(g:Nat×Bool):bg:=⟨some d,x,some g,none⟩
abbrev m (d x:Nat):bg:=⟨some d,.mv (.t x),none,none⟩
namespace Sm
open Go Go.Ab
variable {T:Nat->Option dU}{H:ay}{b:Nat}{k:List iT}{s:St}{Q:QP}{l:List bg}{t:Nat}{e:Env}{ds:List (D×List D)}{g:Option (Nat×Bool)}
theorem Ql {sz z:Nat}{x:bP}{nl:Bool}{L:List D}{lo hi:Option bP} {a b' :Option D} {lo' hi' :Nat}(hz:z=sz\/L=[])(Pr:lH 0 a=some lo')(kO:lH L.length b' =some hi')(h1:lo' <=hi')(h2:hi' <=L.length)
  (h:gG T H b l k ⟨(t,.vs nl z ((L.take hi').drop lo'))::e,ds⟩ s Q)(hw:aI e g=some true:=by rfl)(hx:x.ev e=some (.vs nl z L):=by rfl)(ha:sJ e lo=some a:=by rfl)(hb:sJ e hi=some b' :=by rfl):gG T H b (⟨some t,.HE sz x lo hi none,g,none⟩::l) k ⟨e,ds⟩ s Q:=by
 have e3:Nat.ble lo' hi' =true:=au h1;have e4:Nat.ble hi' L.length=true:=au h2;have e4' :Nat.ble L.length L.length=true:=au (aq _);have e5:sJ e none=some none:=rfl;have e6:lH 0 none=some 0:=rfl;refine du h hw ?_;cases b' with
 | none=>
  simp only [lH,aa]at kO; subst kO;rcases hz with rfl | rfl
  ·simp only [cC,hx,ha,hb,e5,Pr,e6,items,aA,eP,fZ,uG,Option.getD,e3,e4,e4',nj]
  ·simp only [cC,hx,ha,hb,e5,Pr,e6,items,kU,fZ,uG,Option.getD,e3,e4,e4',nj]
 | some d=>
  have jK:lH 0 (some d)=some hi' :=kO;rcases hz with rfl | rfl
  ·simp only [cC,hx,ha,hb,e5,Pr,e6,jK,items,aA,eP,fZ,uG,Option.getD,e3,e4,e4',nj]
  ·simp only [cC,hx,ha,hb,e5,Pr,e6,jK,items,kU,fZ,uG,Option.getD,e3,e4,e4',nj]
theorem uf {sz z bytes ty:Nat}{x y:bP}{yd:D}{o off len cp st:Nat}{es m:List D}(hi:items s yd=some (z,m))(hz:z=sz)(hn:m≠ [])(ha:eI sz m=true)(hm:len+m.length<=aL)(h:gG T H b l k ⟨(t,.sl o off (len+m.length) (len+m.length))::e,ds⟩ (s.bF o (.arr sz ty (es++m) st)) Q)(hw:aI e g=some true:=by rfl)(hx:x.ev e=some (.sl o off len cp):=by rfl)(hy:y.ev e=some yd:=by rfl)(hs:s.Ok:=by exact oI)(hg:s.get o=some (.arr sz ty es st):=by exact gI)(hb:Nat.ble bytes 4096=true:=by rfl)(he:off+len=es.length:=by exact sI)(dN:st<=es.length:=by exact sI):gG T H b (⟨some t,.append sz bytes ty x y,g,none⟩::l) k ⟨e,ds⟩ s Q:=by
 subst hz;refine du h hw ?_;cases yd <;> simp only [items]at hi <;> first | (cases hi; done) | skip
 all_goals simp only [cC,hx,hy,items,hi,aA,eP,hb,ha,sj hs hg he dN hm hn]
theorem EA {sz z z0 bytes ty:Nat}{x y:bP}{yd:D}{es m:List D}(hi:items s yd=some (z,m))(hz:z=sz)(hn:m≠ [])(ha:eI sz m=true)(hm:m.length<=aL)(h:gG T H b l k ⟨(t,.sl s.n 0 m.length m.length)::e,ds⟩ (s.bz (.arr sz ty m 0)) Q)(hw:aI e g=some true:=by rfl)(hx:x.ev e=some (.vs true z0 es):=by rfl)(hy:y.ev e=some yd:=by rfl)(hs:s.Ok:=by exact oI)(hb:Nat.ble bytes 4096=true:=by rfl):gG T H b (⟨some t,.append sz bytes ty x y,g,none⟩::l) k ⟨e,ds⟩ s Q:=by
 subst hz;refine du h hw ?_;cases yd <;> simp only [items]at hi <;> first | (cases hi; done) | skip
 all_goals simp only [cC,hx,hy,items,hi,aA,eP,hb,ha,append_nil hs hm hn]
theorem HR {sz z z' ty' bytes ty:Nat}{x y:bP}{yd:D}{o off len cp st:Nat}{es:List D}(hi:items s yd=some (z,[]))(h:gG T H b l k ⟨(t,.sl o off len cp)::e,ds⟩ s Q)(hw:aI e g=some true:=by rfl)(hx:x.ev e=some (.sl o off len cp):=by rfl)(hy:y.ev e=some yd:=by rfl)(hg:s.get o=some (.arr z' ty' es st):=by exact gI)(hb:Nat.ble bytes 4096=true:=by rfl):gG T H b (⟨some t,.append sz bytes ty x y,g,none⟩::l) k ⟨e,ds⟩ s Q:=by
 refine du h hw ?_;have ha:eI sz []=true:=rfl;cases yd <;> simp only [items]at hi <;> first | (cases hi; done) | skip
 all_goals simp only [cC,hx,hy,items,hi,kU,hb,ha,fH,hg]
theorem NK {sz z z0 bytes ty:Nat}{nl:Bool}{es:List D}{x y:bP}{yd:D}(hi:items s yd=some (z,[]))(h:gG T H b l k ⟨(t,.vs nl z0 es)::e,ds⟩ s Q)(hw:aI e g=some true:=by rfl)(hx:x.ev e=some (.vs nl z0 es):=by rfl)(hy:y.ev e=some yd:=by rfl)(hb:Nat.ble bytes 4096=true:=by rfl):gG T H b (⟨some t,.append sz bytes ty x y,g,none⟩::l) k ⟨e,ds⟩ s Q:=by
 refine du h hw ?_;have ha:eI sz []=true:=rfl;cases yd <;> simp only [items]at hi <;> first | (cases hi; done) | skip
 all_goals simp only [cC,hx,hy,items,hi,kU,hb,ha,fH]
theorem oy {kk:Nat}{fp:Fp}{acc:List Fp}{q:List Nat}{dl:List (bg×List Nat)}{a sz c:Nat}{x v:bP}{d w w1:D}(h:fU T H b kk dl (acc++ [fp]) k ⟨(a,.lv w1)::e,ds⟩ s Q)(hw:aI e g=some true:=by rfl)(hx:x.yP e=some (.iG a c):=by rfl)(hv:v.ev e=some d:=by rfl)(ha:e.get a=some (.lv w):=by rfl)(hz:Nat.beq d.flat.length sz=true:=by rfl)(hp:w.over c d=some w1:=by rfl)
  (hf:cF b e ⟨none,.iX a sz x v,g,none⟩=fp:=by exact fI)(hc:fh acc fp q=true:=by exact cI):fU T H b kk ((⟨none,.iX a sz x v,g,none⟩,q)::dl) acc k ⟨e,ds⟩ s Q:=by
 subst hf;refine⟨yR (o:=⟨none,.iX a sz x v,g,none⟩) (fr1:=⟨(a,.lv w1)::e,ds⟩) hc rfl ?_ rfl rfl h.out⟩;unfold oper;simp only [hw,hx,hv,aA,ha,hz,hp,ij]
theorem tK {fr:Fr}{bV:List Nat}{gg:bP}{ps:List Nat}{a c:AC}{gf:Nat}{caps:List D}
  (h:∀Y,m9 T H s.n ps (fr.env.bV bV) a c Y->cu T Y gf (.yl s.n::caps) ((s.bz .dead).bz (.loop s.n .ready)) fun _ s2=>
   ∃st x s3,s2.get (s.n+1)=some (.loop s.n st)/\BW st=some x/\s2.set (s.n+1) .dead=some s3/\lg T H x k { fr with defers:=(.mw,[])::fr.defers} s3 Q)
  (hg:gg.ev fr.env=some (.fn (.func gf) [] caps))(wM:s.ro=false)(hp:(fr.env.bV bV).plain=true):eH T H (.iK bV gg ps a c) k fr s Q:=by
 refine⟨KN hg wM hp fun Y hY=> ?_⟩;obtain⟨d,s2,h1,st,x,s3,h2,h3,h4,h5⟩:=h Y hY;exact⟨d,s2,h1,st,x,s3,h2,h3,h4,h5.out⟩
theorem rq {y:Nat}{ps:List Nat}{env e:Env}{a c:AC}{Y:ay}{xs:List D}(hY:m9 T H y ps env a c Y)(R:Bool->St->Prop)(hb:pU ps xs env=some e)(hl:s.get (y+1)=some (.loop y .ready))(hs:s.Ok)
  (h:eH T H a [] ⟨e,[]⟩ s fun x f1 s1=>x= .normal/\s1=s/\eH T H c [] f1 (s.bF (y+1) (.loop y .busy)) fun x f2 s3=>f2.defers=[]/\s3.get (y+1)=some (.loop y .busy)/\s3.Ok/\R (qn x) (s3.bF (y+1) (.loop y (PS x)))):
  ∃c s',Y 0 (.lv (.yl y)::xs) s=some (.bool c,s')/\R c s' :=by
 refine hY.2 xs s e R hb (by simp [St.nN,hl]) (Wp.mono h.out ?_);rintro x f1 s1 ⟨rfl,rfl,h2⟩;refine⟨rfl,by simp [St.nN,hl],_,hs.set _ _,Wp.mono h2.out ?_⟩;rintro x f2 s3 ⟨h3,h4,h5,h6⟩;exact⟨h3,by simp [St.nN,h4],_,h5.set _ _,h6⟩
theorem Kb {s:St}{e:Env}{x:bP}{o n ty:Nat}{v:D}(hs:s.Ok)(hx:x.ev e=some (.ptr o 0))(hg:s.get o=some (.var ty v))(hn:Nat.beq v.flat.length n=true):cC fF e s none (.yX n x)=some (.sl s.n 0 n n,(s.bF o .dead).bz (.arr 1 ty v.flat 0)):=by
 have l:=hs.lt hg;simp only [cC,hx,hg,hn,hs.set,(hs.bF .dead l).We];rfl
end Sm
end Go.Ab
namespace Go.Ab
abbrev RK (a:Option dU):= {c:dU // a=some c}
abbrev RK.mk {a:Option dU}(h:RK a:=by apply Subtype.mk; conv=>lhs; reduce; try simp only [Int.reduceOfNat,Int.reduceNegSucc]):RK a:=h
open Go
def Np:List (Nat×nA)->Nat->nA
 | [],_=>⟨[],[],[],[],0⟩
 | (k,a)::r,n=>bif Nat.beq k n then a else Np r n
def cfT (P:Program)(G:Gl)(X:iw)(A:List (Nat×nA))(n:Nat):Option dU:=match P.funcs[n]? with
 | some f => match f.name == "runtime.NumGoroutine" with
  | true=>none
  | false=>mO P G X f (Np A n)
 | none=>none
theorem W9 {P:Program}{G:Gl}{X:iw}{A:List (Nat×nA)} [eV]:mC P G X (cfT P G X A):=⟨fun f fn hf=>by
 unfold cfT at hf;split at hf
 ·rename_i g hg;split at hf
  ·cases hf
  ·rename_i hn;exact⟨g,_,hg,hn,hf⟩
 ·cases hf⟩
end Go.Ab
namespace Go.Proofs.Tab
open Go Go.Ab
def BV:List D:=(List.range 256).map fun c=> .int .u8 (Lib.firstT c:Nat)
def B6:List D:=(List.range 16).flatMap fun i=> [.int .u8 (Lib.accLo i:Nat),.int .u8 (Lib.accHi i:Nat)]
@[reducible] def NB:D:= .agg BV
@[reducible] def Bu:D:= .agg B6
open Go Go.Ab Go.Proofs
def gl:Gl:=fun g=>bif Nat.beq g 0 then some NB else bif Nat.beq g 1 then some Bu else none
def exts:iw:=fun n=>bif Nat.beq n 298 then some (Ext.YN) else (none)
def aaH:List (Nat×nA):=[(3,⟨[],[],[],[[1,2,8,10]],0⟩),(4,⟨[],[],[],[[0,3,4]],0⟩),(5,⟨[24],[],[],[],0⟩),(6,⟨[4,9,94],[],[(151,9),(138,9),(130,9),(125,9),(92,9),(83,9)],[[0,1,4,5]],0⟩),
 (14,⟨[2],[],[(40,2),(33,2),(28,2),(23,2),(18,2),(13,2),(9,2)],[[6,51,52,53]],0⟩),(15,⟨[2],[],[],[],0⟩),(16,⟨[10,49,12],[],[(75,12)],[[0,1,6,24,25],[0,1,6,35,36,37],[0,6,54,55,56],[0,6,13,54,55,56,76,77,78]],0⟩),
 (17,⟨[3,4],[],[],[],0⟩),(19,⟨[10],[],[],[],0⟩),(20,⟨[],[],[],[[0,7,8,9]],0⟩),(24,⟨[1,2],[],[(3,1)],[],0⟩),(26,⟨[],[14],[],[],0⟩),(27,⟨[1,2],[],[(3,1)],[],0⟩),(36,⟨[1,46],[],[(29,1),(24,1),(19,1),(14,1),(9,1),(5,1)],[],0⟩),
 (37,⟨[41,95],[],[],[[0,1,6],[0,1,8,9],[0,1,8,10],[0,1,8,10,11]],0⟩),(39,⟨[],[],[],[[3,9,10,11]],0⟩),(40,⟨[21,27],[],[],[],0⟩),(41,⟨[5],[],[(27,5),(23,5),(14,5)],[],0⟩),
 (42,⟨[3],[],[(101,3),(95,3),(79,3),(77,3),(45,3),(43,3),(33,3),(23,3),(14,3),(8,3)],[],0⟩),(45,⟨[4,5],[16],[],[],0⟩),(46,⟨[4,6,7],[],[(21,7),(14,6)],[],0⟩),(47,⟨[1,2],[],[],[],0⟩),(48,⟨[1],[],[(12,1),(6,1)],[],0⟩),
 (49,⟨[6],[],[(15,6)],[],0⟩),(50,⟨[],[],[],[[0,3,6,7]],0⟩),(51,⟨[2,17],[],[],[],0⟩),(53,⟨[9,11,13],[],[],[],0⟩),(54,⟨[5,6],[],[],[],0⟩),(56,⟨[2],[],[],[],0⟩),(60,⟨[8],[],[],[],0⟩),(62,⟨[6],[],[],[],0⟩),
 (69,⟨[7,14],[],[(213,7),(202,7),(198,7),(192,7),(188,7),(181,14),(178,14),(174,14),(169,14),(165,14),(136,7),(118,7),(112,7),(106,7),(102,7),(96,7),(86,7),(63,7),(59,7),(55,7),(51,7),(47,7),(44,7),(36,7),(31,7),(27,7),(23,7),(19,7)],[[0,1,2,7,8,9,10,11,12]],0⟩),
 (70,⟨[9,62],[],[(171,9),(168,9),(157,9),(143,9),(134,9),(124,9),(114,9),(110,9),(107,9),(95,9),(86,9),(73,9),(65,9),(55,9),(47,9),(41,9),(35,9),(29,9),(23,9)],[[0,2,9,10,11],[0,1,2,9,13,14,15]],0⟩),
 (73,⟨[5],[],[(95,5),(86,5),(77,5),(68,5),(59,5),(27,5),(19,5)],[[0,2,4,5,6,28,29,30],[0,4,5,43,44,45]],0⟩),(75,⟨[5],[],[(35,5),(26,5),(20,5),(16,5)],[[0,6,41,42,43]],0⟩),(77,⟨[3],[],[],[],0⟩),(78,⟨[1,2],[],[],[],0⟩),
 (81,⟨[3],[],[(46,3),(39,3),(15,3)],[[0,3,5,6,32,33,34]],0⟩),(85,⟨[10],[],[(11,10)],[],0⟩),(86,⟨[2],[],[(31,2),(15,2)],[[3,6,8]],0⟩),(89,⟨[4],[],[],[],0⟩),(98,⟨[2,3],[],[(22,3),(20,2)],[],0⟩),(105,⟨[8],[],[],[],0⟩),(107,⟨[11],[],[],[],0⟩),
 (109,⟨[2,5],[57],[(138,5),(124,5)],[[0,2]],0⟩),(112,⟨[4],[],[],[],0⟩),(123,⟨[1,2],[],[(5,1),(3,1)],[],0⟩),(124,⟨[3],[],[(36,3),(31,3),(14,3),(10,3)],[[0,3,5,6,7],[0,3,5,6,7,8,9]],0⟩),(126,⟨[3],[],[],[],0⟩),(128,⟨[3],[],[(16,3)],[],0⟩),
 (132,⟨[3],[],[(47,3),(35,3),(33,3),(28,3),(8,3)],[],0⟩),(133,⟨[12],[],[(33,12),(28,12)],[[0,3,11]],0⟩),(135,⟨[1,27],[],[(22,1),(15,1),(10,1),(5,1)],[[1,3,4]],0⟩),(136,⟨[1],[],[(19,1),(16,1),(12,1),(7,1),(3,1)],[],0⟩),
 (138,⟨[],[],[],[[3,5]],0⟩),(139,⟨[5],[],[(29,5),(23,5),(19,5),(13,5)],[],0⟩),(141,⟨[1,2,3],[],[(9,3),(6,3)],[],0⟩),(142,⟨[2],[],[],[],0⟩),(144,⟨[9],[],[(36,9),(28,9)],[[0,2,8,9]],0⟩),(150,⟨[],[],[],[[0]],0⟩),
 (159,⟨[1],[],[(10,1),(4,1)],[],0⟩),(160,⟨[],[],[],[[0,1,5]],0⟩),(170,⟨[7,8],[],[],[],0⟩),(171,⟨[3,4],[],[(5,3)],[],0⟩),(176,⟨[],[16,17],[],[],0⟩),(177,⟨[4,5],[],[],[],0⟩),(178,⟨[],[],[],[[0,6]],0⟩),(179,⟨[3,4],[],[],[],0⟩),
 (180,⟨[4],[],[],[],0⟩),(181,⟨[13],[],[],[[3,7]],0⟩),(182,⟨[4],[],[],[],0⟩),(183,⟨[7,8],[],[(79,8),(77,7),(73,7),(69,7),(65,8),(63,7),(56,8),(54,8),(52,8),(48,7),(46,7),(44,7),(31,8),(27,8),(23,7),(19,7)],[],0⟩),(184,⟨[3,11],[],[],[],0⟩),
 (188,⟨[1],[],[(12,1),(6,1)],[],0⟩),(189,⟨[2,17],[],[],[],0⟩),(190,⟨[1,2],[],[(10,1),(6,1),(3,1)],[],0⟩),(191,⟨[],[],[],[[0,3,4]],0⟩),(194,⟨[2],[],[],[],0⟩),
 (196,⟨[7,8,9,11],[],[(87,8),(85,7),(80,8),(78,7),(74,8),(72,7),(45,8),(40,7)],[],0⟩),(198,⟨[1,43],[],[(57,1),(12,1)],[[1,2,3,4,9],[1,2,3,4,5,6,9],[7,9]],0⟩),(201,⟨[1,2],[],[(5,1),(3,1)],[],0⟩),
 (203,⟨[5],[58],[(30,5),(28,5),(23,5),(15,5)],[],0⟩),(206,⟨[],[],[],[[0,1,3]],0⟩),(207,⟨[],[],[],[[2,8,9,10,11,13,14,15,16],[2,8,9,10,14,15,16,17,18]],0⟩),(217,⟨[5,6],[],[],[],0⟩),(218,⟨[3,4],[],[(5,3)],[],0⟩),(219,⟨[5,6],[],[],[],0⟩),
 (224,⟨[2],[],[],[],0⟩),(225,⟨[2],[9],[],[],0⟩),(226,⟨[56],[],[],[],0⟩),(234,⟨[],[],[],[[0,2,3]],0⟩),(235,⟨[2,3],[],[(22,2),(19,3),(17,2),(15,2),(12,3),(10,2)],[],0⟩),(237,⟨[2],[],[(45,2),(25,2),(14,2)],[[1,2,6,7]],0⟩),
 (240,⟨[2],[],[],[],0⟩),(241,⟨[],[],[],[[0]],0⟩),(242,⟨[2],[24],[],[],0⟩),(245,⟨[4,6],[],[(18,6),(14,6)],[],0⟩),(248,⟨[2,3],[],[(14,3)],[[0,2,3,5]],0⟩),(263,⟨[],[],[],[[0,2,3]],0⟩),(265,⟨[4],[],[(15,4)],[[0,2,8,9,10]],0⟩),
 (266,⟨[],[],[],[[0,7,8]],0⟩),(267,⟨[],[],[],[[2,3,4]],0⟩),(271,⟨[],[],[],[[0,1,5]],0⟩),(276,⟨[3,4],[],[],[],0⟩),(279,⟨[57],[],[],[[0,1,2,3,10]],0⟩),(281,⟨[],[],[],[[0,1,3]],0⟩),(286,⟨[],[],[],[[4,21,22]],0⟩),
 (289,⟨[],[],[],[[0,4,5,6,23,24]],0⟩),(293,⟨[2,4],[],[(25,4),(19,4)],[[2,4,5]],0⟩),(296,⟨[35],[],[],[[0,4,5],[0,4,6]],0⟩),(297,⟨[],[],[],[[0,2,6,7]],0⟩),(343,⟨[3,4],[],[],[],0⟩),(347,⟨[1],[],[(3,1)],[],0⟩),(352,⟨[1],[],[],[],0⟩),
 (353,⟨[1],[],[],[],0⟩),(354,⟨[1],[],[],[],0⟩),(367,⟨[1],[],[],[],0⟩),(368,⟨[1],[],[],[],0⟩),(386,⟨[2],[],[(5,2)],[],0⟩),(387,⟨[1],[],[(3,1)],[],0⟩),(388,⟨[3],[],[(6,3)],[],0⟩),(390,⟨[2],[],[(5,2)],[],0⟩),(391,⟨[1],[],[(3,1)],[],0⟩),
 (392,⟨[3],[],[(6,3)],[],0⟩)]
noncomputable abbrev cf (f:Func)(n:Nat):Option dU:=mO Tryz.prog gl exts f (Np aaH n)
noncomputable def Rn:Nat->Option dU:=cfT Tryz.prog gl exts aaH
noncomputable section
def aaD:=RK.mk (a:=cf Tryz.f78 78)
def aaI:=RK.mk (a:=cf Tryz.f89 89)
def SU:=RK.mk (a:=cf Tryz.f141 141)
def T2:=RK.mk (a:=cf Tryz.f150 150)
def T7:=RK.mk (a:=cf Tryz.f201 201)
def Uk:=RK.mk (a:=cf Tryz.f246 246)
end
structure TW (T:Nat->Option dU):Prop where
 t78:T 78=some aaD.1
 t89:T 89=some aaI.1
 t141:T 141=some SU.1
 t150:T 150=some T2.1
 t201:T 201=some T7.1
 t246:T 246=some Uk.1
end Go.Proofs.Tab
