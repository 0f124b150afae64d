/- Part. -/
import Derived.Test.YthaiegafejbmoaaGreatDoorG23
import Derived.KernelRfl
import Derived.Lib.DecodeN
import Derived.Test.YthaiegafejbmoaaGreatDoorProg
set_option linter.unusedSectionVars false
set_option linter.unusedSimpArgs false
set_option linter.unusedVariables false
namespace Go.Ab.Sm
open Go Go.Ab
variable {T:Nat->Option dJ}{H:au}{b kk:Nat}{k:List iI}{fr:Fr}{s:St}{Q:QP}{l:List (bz×List Nat)}{acc:List Fp}{q:List Nat}
structure fF (T:Nat->Option dJ)(H:au)(b kk:Nat)(l:List (bz×List Nat))(acc:List Fp)(k:List iI)(fr:Fr)(s:St)(Q:QP):Prop where
 out:Vz T H b kk l acc fr s (mi T H Q k .normal)
theorem RU {acc:List Fp}{y:Fp}:eQ acc y []=true:=rfl
theorem BP (h:fF T H s.n 0 l [] k fr s Q):dR T H (.yF 0 l) k fr s Q:=by
 refine⟨FG (by simp [Nat.blt,Nat.ble]) ?_⟩;have e: { s with n:=s.n+0}=s:=by cases s; rfl
 rw [e]; exact h.out
theorem E9 {j:Nat}(h:fF T H s.n j l [] k fr (s.up j) Q)(hs:s.Ok:=by exact oI):dR T H (.yF j l) k fr s Q:=⟨FG (by rw [hs.ro]; rfl) h.out⟩
theorem DM (h:lB T H .normal k fr s Q):fF T H b kk [] acc k fr s Q:=⟨Ua h.out⟩
section
variable {t:Nat}{e:Env}{ds:List (D×List D)}{g:Option (Nat×Bool)}
theorem fk {dst:Option Nat}{op:eE}{al:Option Nat}{d:D}{s1:St}(hc:eQ acc (cl b e ⟨dst,op,g,al⟩) q=true)(kB:e.cE dst=false)(hj:(iq e dst d).cE dst=false)(h:fF T H b kk l (acc++ [cl b e ⟨dst,op,g,al⟩]) k ⟨iq e dst d,ds⟩ s1 Q)
  (hw:aJ e g=some true)(ho:cg fm e s (match (generalizing:=false) al with | some r=>some (b+r) | none=>none) op=some (d,s1))(hk:Nat.beq op.kind 5=false):fF T H b kk ((⟨dst,op,g,al⟩,q)::l) acc k ⟨e,ds⟩ s Q:=
 ⟨Aj hc kB (gG (o:=⟨dst,op,g,al⟩) (fr:=⟨e,ds⟩) hw ho) hj hk h.out⟩
theorem lM {fp:Fp}{op:eE}{d:D}{s1:St}(h:fF T H b kk l (acc++ [fp]) k ⟨(t,d)::e,ds⟩ s1 Q)(hw:aJ e g=some true:=by rfl)(ho:cg fm e s none op=some (d,s1):=by rfl)(hf:cl b e ⟨(some t),op,g,none⟩=fp:=by exact fI)(hc:eQ acc fp q=true:=by exact cI)(kB:Env.cE e (some t)=false:=by rfl)(ql:Env.cE ((t,d)::e) (some t)=false:=by rfl)(hk:Nat.beq (bz.op ⟨(some t),op,g,none⟩).kind 5=false:=by rfl):fF T H b kk ((⟨(some t),op,g,none⟩,q)::l) acc k ⟨e,ds⟩ s Q:=by
 subst hf;exact fk hc kB ql h hw ho hk
theorem yE {fp:Fp}{sz:Option Nat}{x:bO}{o c ty:Nat}{v d:D}(h:fF T H b kk l (acc++ [fp]) k ⟨(t,d)::e,ds⟩ s Q)(hw:aJ e g=some true:=by rfl)(hx:x.ev e=some (.ptr o c):=by rfl)(hg:s.get o=some (.var ty v):=by exact gI)(hp:part v.flat c sz=some d:=by rfl)(hf:cl b e ⟨(some t),.load sz x,g,none⟩=fp:=by exact fI)(hc:eQ acc fp q=true:=by exact cI)(kB:Env.cE e (some t)=false:=by rfl)(ql:Env.cE ((t,d)::e) (some t)=false:=by rfl)(hk:Nat.beq (bz.op ⟨(some t),.load sz x,g,none⟩).kind 5=false:=by rfl):fF T H b kk ((⟨(some t),.load sz x,g,none⟩,q)::l) acc k ⟨e,ds⟩ s Q:=by
 subst hf;exact
 fk hc kB ql h hw (by simp only [cg,hx,iJ,hg,hp,pw]) hk
theorem DK {fp:Fp}{sz:Option Nat}{x:bO}{c:Nat}{z d:D}(h:fF T H b kk l (acc++ [fp]) k ⟨(t,d)::e,ds⟩ s Q)(hw:aJ e g=some true:=by rfl)(hx:x.ev e=some (.jJ z c):=by rfl)(hp:part z.flat c sz=some d:=by rfl)(hf:cl b e ⟨(some t),.load sz x,g,none⟩=fp:=by exact fI)(hc:eQ acc fp q=true:=by exact cI)(kB:Env.cE e (some t)=false:=by rfl)(ql:Env.cE ((t,d)::e) (some t)=false:=by rfl)(hk:Nat.beq (bz.op ⟨(some t),.load sz x,g,none⟩).kind 5=false:=by rfl):fF T H b kk ((⟨(some t),.load sz x,g,none⟩,q)::l) acc k ⟨e,ds⟩ s Q:=by
 subst hf;exact
 fk hc kB ql h hw (by simp only [cg,hx,iJ,hp,pw]) hk
theorem sw {fp:Fp}{sz:Nat}{x v:bO}{o c ty:Nat}{d w w1:D}(h:fF T H b kk l (acc++ [fp]) k ⟨e,ds⟩ (s.bn o (.var ty w1)) Q)(hw:aJ e g=some true:=by rfl)(hx:x.ev e=some (.ptr o c):=by rfl)(hv:v.ev e=some d:=by rfl)(hs:s.Ok:=by exact oI)(hg:s.get o=some (.var ty w):=by exact gI)(hz:Nat.beq d.flat.length sz=true:=by rfl)(hp:w.over c d=some w1:=by rfl)(hf:cl b e ⟨none,.store sz x v,g,none⟩=fp:=by exact fI)(hc:eQ acc fp q=true:=by exact cI)(kB:Env.cE e none=false:=by rfl)(ql:Env.cE (e) none=false:=by rfl)(hk:Nat.beq (bz.op ⟨none,.store sz x v,g,none⟩).kind 5=false:=by rfl):fF T H b kk ((⟨none,.store sz x v,g,none⟩,q)::l) acc k ⟨e,ds⟩ s Q:=by
 subst hf;exact
 fk (d:= .gW []) hc kB ql h hw (by simp only [cg,hx,hv,jI,hz,hg,hp,hs.set,nY]) hk
theorem DJ {fp:Fp}{sz:Nat}{x i:bO}{n:D}{j:Nat}{nl:Bool}{es:List D}{z:D}(h:fF T H b kk l (acc++ [fp]) k ⟨(t,.jJ z 0)::e,ds⟩ s Q)(hw:aJ e g=some true:=by rfl)(hx:x.ev e=some (.vs nl sz es):=by rfl)(hi:i.ev e=some n:=by rfl)(hj:idx n=some j:=by first | exact ll | rfl | exact iT (by omega))(he:es[j]? =some z:=by first | assumption | rfl)(hf:cl b e ⟨some t,.oP sz x i,g,none⟩=fp:=by exact fI)(hc:eQ acc fp q=true:=by exact cI)(kB:Env.cE e (some t)=false:=by rfl)(ql:Env.cE ((t,.jJ z 0)::e) (some t)=false:=by rfl)(hk:Nat.beq (bz.op ⟨some t,.oP sz x i,g,none⟩).kind 5=false:=by rfl):fF T H b kk ((⟨some t,.oP sz x i,g,none⟩,q)::l) acc k ⟨e,ds⟩ s Q:=by
 subst hf;exact
 fk hc kB ql h hw (by simp only [cg,hx,hi,hj,mY,aA,he,pw]) hk
theorem yC {fp:Fp}{sz:Nat}{x i:bO}{n:D}{j o off len cp ty st:Nat}{es:List D}(h:fF T H b kk l (acc++ [fp]) k ⟨(t,.jN o (off+j) 0 (off+cp))::e,ds⟩ s Q)(hw:aJ e g=some true:=by rfl)(hx:x.ev e=some (.sl o off len cp):=by rfl)(hi:i.ev e=some n:=by rfl)(hg:s.get o=some (.arr sz ty es st):=by exact gI)(hj:idx n=some j:=by first | exact ll | rfl | exact iT (by omega))(hl:j < len:=by exact sI)(h1:off+len<=es.length:=by exact sI)(h2:st<=off+cp:=by exact sI)(hf:cl b e ⟨some t,.oP sz x i,g,none⟩=fp:=by exact fI)(hc:eQ acc fp q=true:=by exact cI)(kB:Env.cE e (some t)=false:=by rfl)(ql:Env.cE ((t,.jN o (off+j) 0 (off+cp))::e) (some t)=false:=by rfl)(hk:Nat.beq (bz.op ⟨some t,.oP sz x i,g,none⟩).kind 5=false:=by rfl):fF T H b kk ((⟨some t,.oP sz x i,g,none⟩,q)::l) acc k ⟨e,ds⟩ s Q:=by
 subst hf;have e1:Nat.blt j len=true:=ax (pc hl);have e2:Nat.ble (off+len) es.length=true:=ax h1;have e3:Nat.ble st (off+cp)=true:=ax h2;exact fk hc kB ql h hw (by simp only [cg,hx,hi,hj,mY,hg,aA,e1,e2,e3,pw]) hk
theorem yD {fp:Fp}{sz:Option Nat}{x:bO}{o i c en z ty st:Nat}{es:List D}{v d:D}(h:fF T H b kk l (acc++ [fp]) k ⟨(t,d)::e,ds⟩ s Q)(hw:aJ e g=some true:=by rfl)(hx:x.ev e=some (.jN o i c en):=by rfl)(hg:s.get o=some (.arr z ty es st):=by exact gI)(hi:es[i]? =some v:=by first | assumption | rfl)(cG:st<=en:=by exact sI)(hp:part v.flat c sz=some d:=by rfl)(hf:cl b e ⟨some t,.load sz x,g,none⟩=fp:=by exact fI)(hc:eQ acc fp q=true:=by exact cI)(kB:Env.cE e (some t)=false:=by rfl)(ql:Env.cE ((t,d)::e) (some t)=false:=by rfl)(hk:Nat.beq (bz.op ⟨some t,.load sz x,g,none⟩).kind 5=false:=by rfl):fF T H b kk ((⟨some t,.load sz x,g,none⟩,q)::l) acc k ⟨e,ds⟩ s Q:=by
 subst hf;have e1:Nat.ble st en=true:=ax cG;exact fk hc kB ql h hw (by simp only [cg,hx,iJ,hg,e1,hi,hp,pw]) hk
theorem vE {fp:Fp}{sz:Nat}{x v:bO}{o i c en z ty st:Nat}{es:List D}{d w w1:D}(h:fF T H b kk l (acc++ [fp]) k ⟨e,ds⟩ (s.bn o (.arr z ty (es.set i w1) es.length)) Q)(hw:aJ e g=some true:=by rfl)(hx:x.ev e=some (.jN o i c en):=by rfl)(hv:v.ev e=some d:=by rfl)(hs:s.Ok:=by exact oI)(hg:s.get o=some (.arr z ty es st):=by exact gI)(hi:es[i]? =some w:=by first | assumption | rfl)(he:en=es.length:=by exact sI)(hz:Nat.beq d.flat.length sz=true:=by rfl)(hp:w.over c d=some w1:=by rfl)(hf:cl b e ⟨none,.store sz x v,g,none⟩=fp:=by exact fI)(hc:eQ acc fp q=true:=by exact cI)(kB:Env.cE e none=false:=by rfl)(ql:Env.cE (e) none=false:=by rfl)(hk:Nat.beq (bz.op ⟨none,.store sz x v,g,none⟩).kind 5=false:=by rfl):fF T H b kk ((⟨none,.store sz x v,g,none⟩,q)::l) acc k ⟨e,ds⟩ s Q:=by
 subst hf;subst he;exact fk (d:= .gW []) hc kB ql h hw (by simp only [cg,hx,hv,jI,hz,hg,aA,hi,hp,hs.set,nY]) hk
theorem DP {fp:Fp}{sz:Nat}{z d:D}{x:bO}(h:fF T H b kk l (acc++ [fp]) k ⟨(t,.vs false sz [d])::e,ds⟩ s Q)(hw:aJ e g=some true:=by rfl)(hx:x.ev e=some d:=by rfl)(hz:eC sz [z]=true:=by rfl)(h1:Nat.beq d.flat.length sz=true:=by rfl)(h2:d.st=true:=by rfl)(hf:cl b e ⟨some t,.pP sz z 1 [(0,x)],g,none⟩=fp:=by exact fI)(hc:eQ acc fp q=true:=by exact cI)(kB:Env.cE e (some t)=false:=by rfl)(ql:Env.cE ((t,.vs false sz [d])::e) (some t)=false:=by rfl)(hk:Nat.beq (bz.op ⟨some t,.pP sz z 1 [(0,x)],g,none⟩).kind 5=false:=by rfl):fF T H b kk ((⟨some t,.pP sz z 1 [(0,x)],g,none⟩,q)::l) acc k ⟨e,ds⟩ s Q:=by
 subst hf;exact
 fk hc kB ql h hw (by simp only [cg,jk,hx,hz,sX,h1,h2,List.replicate,aT,b9,Nat.blt,Nat.ble,jD]) hk
theorem DO {fp:Fp}{sz ty:Nat}{x:bO}{lo hi:Option bO} {a b' :Option D}{lo' hi' o off len cp st:Nat}{es:List D}(h:fF T H b kk l (acc++ [fp]) k ⟨(t,.sl o (off+lo') (hi' - lo') (cp - lo'))::e,ds⟩ s Q)(hw:aJ e g=some true:=by rfl)(hx:x.ev e=some (.sl o off len cp):=by rfl)(ha:wT e lo=some a:=by rfl) (iS :wT e hi=some b' :=by rfl)(Q4:mN 0 a=some lo' :=by first | rfl | exact ll | exact iT (by omega))(kv:(match b' with | none=>some len | some d=>idx d)=some hi' :=by first | rfl | exact ll | exact iT (by omega))(hg:s.get o=some (.arr sz ty es st):=by exact gI)(h1:off+len<=es.length:=by exact sI)(h2:st<=off+cp:=by exact sI)(h3:lo' <=hi' :=by exact sI)(h4:hi' <=cp:=by exact sI)(hf:cl b e ⟨some t,.KT sz x lo hi none,g,none⟩=fp:=by exact fI)(hc:eQ acc fp q=true:=by exact cI)(kB:Env.cE e (some t)=false:=by rfl)(ql:Env.cE ((t,.sl o (off+lo') (hi' - lo') (cp - lo'))::e) (some t)=false:=by rfl)(hk:Nat.beq (bz.op ⟨some t,.KT sz x lo hi none,g,none⟩).kind 5=false:=by rfl):fF T H b kk ((⟨some t,.KT sz x lo hi none,g,none⟩,q)::l) acc k ⟨e,ds⟩ s Q:=by
 subst hf;have e1:Nat.ble (off+len) es.length=true:=ax h1;have e2:Nat.ble st (off+cp)=true:=ax h2;have e3:Nat.ble lo' hi' =true:=ax h3;have e4:Nat.ble hi' cp=true:=ax h4;have e5:wT e none=some none:=rfl;have e6:mN 0 none=some 0:=rfl;refine fk hc kB ql h hw ?_ hk;cases b' with
 | none=>
  simp only [aa]at kv; subst kv;simp only [cg,hx,ha,iS,e5,Q4,e6,items,hg,e1,e2,aA,eG,gD,yr,Option.getD,e3,e4,pw]
 | some d=>
  simp only at kv;have jb:mN 0 (some d)=some hi' :=kv;simp only [cg,hx,ha,iS,e5,Q4,e6,jb,items,hg,e1,e2,aA,eG,gD,yr,Option.getD,e3,e4,pw]
theorem A4 {fp:Fp}{x:bO}{o c:Nat}{es:List (Nat×D×D)}(h:fF T H b kk l (acc++ [fp]) k ⟨(t,.int .i64 (es.length:Nat))::e,ds⟩ s Q)(hw:aJ e g=some true:=by rfl)(hx:x.ev e=some (.mp o):=by rfl)(hg:s.get o=some (.map es c):=by exact gI)(hf:cl b e ⟨some t,.len 2 x,g,none⟩=fp:=by exact fI)(hc:eQ acc fp q=true:=by exact cI)(kB:Env.cE e (some t)=false:=by rfl)(ql:Env.cE ((t,.int .i64 (es.length:Nat))::e) (some t)=false:=by rfl)(hk:Nat.beq (bz.op ⟨some t,.len 2 x,g,none⟩).kind 5=false:=by rfl):fF T H b kk ((⟨some t,.len 2 x,g,none⟩,q)::l) acc k ⟨e,ds⟩ s Q:=by
 subst hf;exact
 fk hc kB ql h hw (by simp only [cg,hx,pJ,hg,Gy]) hk
theorem DL {fp:Fp}{et:ET}{z kd:D}{ok:Bool}{m ky:bO}{o c:Nat}{es:List (Nat×D×D)}(h:fF T H b kk l (acc++ [fp]) k ⟨(t,EC ok z false)::e,ds⟩ s Q)(hw:aJ e g=some true:=by rfl)(hm:m.ev e=some (.mp o):=by rfl)(hky:ky.ev e=some kd:=by rfl)(kM:oT et kd=true:=by rfl)(hg:s.get o=some (.map es c):=by exact gI)(hf:findKey et kd es 0=some none:=by rfl)(hf:cl b e ⟨some t,.lookup et z ok m ky,g,none⟩=fp:=by exact fI)(hc:eQ acc fp q=true:=by exact cI)(kB:Env.cE e (some t)=false:=by rfl)(ql:Env.cE ((t,EC ok z false)::e) (some t)=false:=by rfl)(hk:Nat.beq (bz.op ⟨some t,.lookup et z ok m ky,g,none⟩).kind 5=false:=by rfl):fF T H b kk ((⟨some t,.lookup et z ok m ky,g,none⟩,q)::l) acc k ⟨e,ds⟩ s Q:=by
 subst hf;exact
 fk hc kB ql h hw (by simp only [cg,hm,hky,kM,hg,hf]) hk
theorem A5 {fp:Fp}{op:eE}{al:Option Nat}(h:fF T H b kk l (acc++ [fp]) k ⟨(t,.gW [])::e,ds⟩ s Q)(hw:aJ e g=some false:=by rfl)(hf:cl b e ⟨some t,op,g,al⟩=fp:=by exact fI)(hc:eQ acc fp q=true:=by exact cI)(kB:Env.cE e (some t)=false:=by rfl)(hj:Env.cE ((t,.gW [])::e) (some t)=false:=by rfl)(hk:Nat.beq op.kind 5=false:=by rfl):
  fF T H b kk ((⟨some t,op,g,al⟩,q)::l) acc k ⟨e,ds⟩ s Q:=by
 subst hf;refine⟨Aj hc kB (fr1:=⟨(t,.gW [])::e,ds⟩) (s1:=s) ?_ hj hk h.out⟩;unfold oper;simp only [hw];rfl
theorem lP {d:D}{e:Env}{t:Nat}(h:(match d with | .lv _=>true | _=>false)=false):Env.cE (iq e (some t) d) (some t)=false:=by
 cases d <;> first
  | (cases h; done)
  | simp [iq,Env.cE,Env.ke,Env.get]
theorem Px {al:Nat}{x:Obj}(hs:s.Ok)(hg:s.get al=none)(hl:al < s.n):s.mk' (some al) x=some (al,s.bn al x):=by
 have:Nat.blt al s.n=true:=ax (pc hl);simp only [St.mk',hs.ro,hg,this]
theorem DI {fp:Fp}{r:Nat}{ty:Nat}{x:bO}{d:D}(h:fF T H b kk l (acc++ [fp]) k ⟨(t,.ptr (b+r) 0)::e,ds⟩ (s.bn (b+r) (.var ty d)) Q)(hw:aJ e g=some true:=by rfl)(hx:x.ev e=some d:=by rfl)(hd:(d.st && Nat.blt 0 d.flat.length)=true:=by rfl)(hs:s.Ok:=by exact oI)(hg:s.get (b+r)=none:=by exact nI)(hl:b+r < s.n:=by first | assumption | omega | (simp only [St.ck,St.ej,St.iK]; omega))(hf:cl b e ⟨some t,.box ty x,g,some r⟩=fp:=by exact fI)(hc:eQ acc fp q=true:=by exact cI)(kB:Env.cE e (some t)=false:=by rfl)(hk:Nat.beq (bz.op ⟨some t,.box ty x,g,some r⟩).kind 5=false:=by rfl):fF T H b kk ((⟨some t,.box ty x,g,some r⟩,q)::l) acc k ⟨e,ds⟩ s Q:=by
 subst hf;exact fk hc kB (lP rfl) h hw (by simp only [cg,hx,hd,Px hs hg hl]) hk
theorem qw {fp:Fp}{r:Nat}{sz bytes ty:Nat}{z dl dc:D}{ln cp:bO}{l1 c1:Nat}(sS:idx dl=some l1)(xr:idx dc=some c1)(h1:l1<=c1)(h2:c1 * bytes<=140737488355328)(h3:c1<=aM)(h:fF T H b kk l (acc++ [fp]) k ⟨(t,.sl (b+r) 0 l1 l1)::e,ds⟩ (s.bn (b+r) (.arr sz ty (List.replicate l1 z) 0)) Q)(hw:aJ e g=some true:=by rfl)(hx:ln.ev e=some dl:=by rfl)(hy:cp.ev e=some dc:=by rfl)(hz:eC sz [z]=true:=by rfl)(hs:s.Ok:=by exact oI)(hg:s.get (b+r)=none:=by exact nI)(hl:b+r < s.n:=by first | assumption | omega | (simp only [St.ck,St.ej,St.iK]; omega))(hf:cl b e ⟨some t,.nN sz bytes ty z ln cp,g,some r⟩=fp:=by exact fI)(hc:eQ acc fp q=true:=by exact cI)(kB:Env.cE e (some t)=false:=by rfl)(hk:Nat.beq (bz.op ⟨some t,.nN sz bytes ty z ln cp,g,some r⟩).kind 5=false:=by rfl):fF T H b kk ((⟨some t,.nN sz bytes ty z ln cp,g,some r⟩,q)::l) acc k ⟨e,ds⟩ s Q:=by
 subst hf;have e1:Nat.ble l1 c1=true:=ax h1;have e2:Nat.ble (c1 * bytes) 140737488355328=true:=ax h2;have e3:Nat.ble c1 aM=true:=ax h3;exact fk hc kB (lP rfl) h hw (by simp only [cg,hx,hy,sS,xr,e1,e2,e3,hz,dS,Px hs hg hl]) hk
theorem wQ {fp:Fp}{r:Nat}{sz bytes ty:Nat}{x y:bO}{o off len cp st:Nat}{nl:Bool}{es m:List D}(h:fF T H b kk l (acc++ [fp]) k ⟨(t,.sl o off (len+m.length) (len+m.length))::e,ds⟩ (s.bn o (.arr sz ty (es++m) st)) Q)(hw:aJ e g=some true:=by rfl)(hx:x.ev e=some (.sl o off len cp):=by rfl)(hy:y.ev e=some (.vs nl sz m):=by rfl)(hs:s.Ok:=by exact oI)(hg:s.get o=some (.arr sz ty es st):=by exact gI)(hb:Nat.ble bytes 4096=true:=by rfl)(ha:eC sz m=true:=by rfl)(hn:m≠ []:=by simp)(he:off+len=es.length:=by exact sI)(cG:st<=es.length:=by exact sI)(hm:len+m.length<=aM:=by exact sI)(hf:cl b e ⟨some t,.append sz bytes ty x y,g,some r⟩=fp:=by exact fI)(hc:eQ acc fp q=true:=by exact cI)(kB:Env.cE e (some t)=false:=by rfl)(hk:Nat.beq (bz.op ⟨some t,.append sz bytes ty x y,g,some r⟩).kind 5=false:=by rfl):fF T H b kk ((⟨some t,.append sz bytes ty x y,g,some r⟩,q)::l) acc k ⟨e,ds⟩ s Q:=by
 subst hf;refine fk hc kB (lP rfl) h hw ?_ hk;simp only [cg,hx,hy,items,aA,eG,hb,ha,si hs hg he cG hm hn]
theorem DH {fp:Fp}{r:Nat}{sz bytes ty:Nat}{x y:bO}{o off len cp st:Nat}{o2 off2 len2 cp2 ty2 xh:Nat}{es es2 m:List D}(ha:eC sz m=true)(hn:m≠ [])(UG:(es2.drop off2).take len2=m)(h:fF T H b kk l (acc++ [fp]) k ⟨(t,.sl o off (len+m.length) (len+m.length))::e,ds⟩ (s.bn o (.arr sz ty (es++m) st)) Q)(hw:aJ e g=some true:=by rfl)(hx:x.ev e=some (.sl o off len cp):=by rfl)(hy:y.ev e=some (.sl o2 off2 len2 cp2):=by rfl)(hs:s.Ok:=by exact oI)(hg:s.get o=some (.arr sz ty es st):=by exact gI)(C8:s.get o2=some (.arr sz ty2 es2 xh):=by exact gI)(h21:off2+len2<=es2.length:=by exact sI)(h22:xh<=off2+cp2:=by exact sI)(hb:Nat.ble bytes 4096=true:=by rfl)(he:off+len=es.length:=by exact sI)(cG:st<=es.length:=by exact sI)(hm:len+m.length<=aM:=by exact sI)(hf:cl b e ⟨some t,.append sz bytes ty x y,g,some r⟩=fp:=by exact fI)(hc:eQ acc fp q=true:=by exact cI)(kB:Env.cE e (some t)=false:=by rfl)(hk:Nat.beq (bz.op ⟨some t,.append sz bytes ty x y,g,some r⟩).kind 5=false:=by rfl):fF T H b kk ((⟨some t,.append sz bytes ty x y,g,some r⟩,q)::l) acc k ⟨e,ds⟩ s Q:=by
 subst hf;have e1:Nat.ble (off2+len2) es2.length=true:=ax h21;have e2:Nat.ble xh (off2+cp2)=true:=ax h22;refine fk hc kB (lP rfl) h hw ?_ hk;simp only [cg,hx,hy,items,C8,e1,e2,UG,aA,eG,hb,ha,si hs hg he cG hm hn]
theorem Av {al sz ty z:Nat}{es m:List D}(hs:s.Ok)(hg:s.get al=none)(hl:al < s.n)(hm:m.length<=aM)(hn:m≠ []):
  ff s (some al) sz ty (.vs true z es) m=some (.sl al 0 m.length m.length,s.bn al (.arr sz ty m 0)):=by
 cases m with
 | nil=>exact absurd rfl hn
 | cons x m=>
  have e3:Nat.ble (x::m).length aM=true:=ax hm;simp only [ff,e3,Px hs hg hl]
theorem wP {fp:Fp}{r:Nat}{sz bytes ty z:Nat}{x y:bO}{nl:Bool}{es m:List D}(h:fF T H b kk l (acc++ [fp]) k ⟨(t,.sl (b+r) 0 m.length m.length)::e,ds⟩ (s.bn (b+r) (.arr sz ty m 0)) Q)(hw:aJ e g=some true:=by rfl)(hx:x.ev e=some (.vs true z es):=by rfl)(hy:y.ev e=some (.vs nl sz m):=by rfl)(hs:s.Ok:=by exact oI)(hg:s.get (b+r)=none:=by exact nI)(hl:b+r < s.n:=by first | assumption | omega | (simp only [St.ck,St.ej,St.iK]; omega))(hb:Nat.ble bytes 4096=true:=by rfl)(ha:eC sz m=true:=by rfl)(hn:m≠ []:=by simp)(hm:m.length<=aM:=by exact sI)(hf:cl b e ⟨some t,.append sz bytes ty x y,g,some r⟩=fp:=by exact fI)(hc:eQ acc fp q=true:=by exact cI)(kB:Env.cE e (some t)=false:=by rfl)(hk:Nat.beq (bz.op ⟨some t,.append sz bytes ty x y,g,some r⟩).kind 5=false:=by rfl):fF T H b kk ((⟨some t,.append sz bytes ty x y,g,some r⟩,q)::l) acc k ⟨e,ds⟩ s Q:=by
 subst hf;refine fk hc kB (lP rfl) h hw ?_ hk;simp only [cg,hx,hy,items,aA,eG,hb,ha,Av hs hg hl hm hn]
theorem aV {fp:Fp}{f:Nat}{args:List bO}{x:List D}{R:D->St->Prop}(hE:bY T H f x s R)(h:∀d s1,R d s1->Env.cE ((t,d)::e) (some t)=false/\lost acc s s1 ⟨some t,.call false f args,g,none⟩ q=false/\fF T H b kk l (acc++ [ZA fp s s1]) k ⟨(t,d)::e,ds⟩ s1 Q)
  (hw:aJ e g=some true:=by rfl)(hx:tF e args=some x:=by rfl)(hf:cl b e ⟨some t,.call false f args,g,none⟩=fp:=by exact fI)(hc:eQ acc fp q=true:=by exact cI)(kB:Env.cE e (some t)=false:=by rfl)(hs:s.Ok:=by exact oI):
  fF T H b kk ((⟨some t,.call false f args,g,none⟩,q)::l) acc k ⟨e,ds⟩ s Q:=by
 subst hf;obtain⟨d,s1,h1,h2⟩:=hE;obtain⟨h3,h4,h5⟩:=h d s1 h2;exact⟨sd (r:=(d,s1)) hc kB ⟨s,h1,fun C hC=>gG (o:=⟨some t,.call false f args,g,none⟩) (fr:=⟨e,ds⟩) hw (by simp only [cg,hx]; exact Gn hs.ro hC)⟩ h3 h4 h5.out⟩
theorem qv {fp:Fp}{f:Nat}{args:List bO}{x:List D}{R:D->St->Prop}(hE:bY T H f x { s with ro:=true} R)(h:∀d s1,R d s1->Env.cE ((t,d)::e) (some t)=false/\fF T H b 0 l (acc++ [fp]) k ⟨(t,d)::e,ds⟩ s Q)
  (hw:aJ e g=some true:=by rfl)(hx:tF e args=some x:=by rfl)(hf:cl b e ⟨some t,.call true f args,g,none⟩=fp:=by exact fI)(hc:eQ acc fp q=true:=by exact cI)(kB:Env.cE e (some t)=false:=by rfl):
  fF T H b 0 ((⟨some t,.call true f args,g,none⟩,q)::l) acc k ⟨e,ds⟩ s Q:=by
 subst hf;obtain⟨d,s1,h1,h2⟩:=hE;obtain⟨h3,h5⟩:=h d s1 h2;exact⟨sd (r:=(d,s1)) hc kB ⟨_,h1,fun C hC=>gG (o:=⟨some t,.call true f args,g,none⟩) (fr:=⟨e,ds⟩) hw (by simp only [cg,hx,lA,hC])⟩ h3 (by rfl) h5.out⟩
theorem mq {fp:Fp}{f:Nat}{args:List bO}{x:List D}{R:D->St->Prop}(hE:bY T H f x { s with ro:=true,h:=pT (kk+1) b s.h} R)(h:∀d s1,R d s1->Env.cE ((t,d)::e) (some t)=false/\fF T H b (kk+1) l (acc++ [fp]) k ⟨(t,d)::e,ds⟩ s Q)
  (hw:aJ e g=some true:=by rfl)(hx:tF e args=some x:=by rfl)(hf:cl b e ⟨some t,.call true f args,g,none⟩=fp:=by exact fI)(hc:eQ acc fp q=true:=by exact cI)(kB:Env.cE e (some t)=false:=by rfl):
  fF T H b (kk+1) ((⟨some t,.call true f args,g,none⟩,q)::l) acc k ⟨e,ds⟩ s Q:=by
 subst hf;obtain⟨d,s1,h1,h2⟩:=hE;obtain⟨h3,h5⟩:=h d s1 h2;exact⟨sd (r:=(d,s1)) hc kB ⟨_,h1,fun C hC=>gG (o:=⟨some t,.call true f args,g,none⟩) (fr:=⟨e,ds⟩) hw (by simp only [cg,hx,lA,hC])⟩ h3 (by rfl) h5.out⟩
end
end Go.Ab.Sm
namespace Go.Ab.Sm
structure aaY (g:Prop):Prop where
 out:g
theorem go {g P:Prop}(h:g)(f:aaY g->P:=by intro Ay; (first | refine run_seq ?_ | refine IX ?_ | refine BO ?_ | refine wx ?_ | refine wv ?_ | refine BP ?_ | refine E9 ?_ | refine IY ?_ | refine Fb ?_ | refine Fa ?_ | refine zT ?_ | refine uZ ?_ | refine E8 ?_ | refine zQ ?_ | refine zR ?_ | refine zS ?_ | refine qJ ?_ | refine BM ?_ | refine wq ?_ | refine zP ?_ | refine zO ?_ | refine BL ?_ | refine ret_callR0 ?_ | refine BK ?_ | refine ret_callN0 ?_ | refine CG ?_ | refine ER ?_ | refine IG ?_ | refine IE ?_ | refine IC ?_ | refine IB ?_ | refine Iz ?_ | refine Iy ?_ | refine IF ?_ | refine ops_stv ?_ | refine EU ?_ | refine ops_sta ?_ | refine ES ?_ | refine IA ?_ | refine BC ?_ | refine ops_mkmapn ?_ | refine zE ?_ | refine EP ?_ | refine dO ?_ | refine ops_lstore ?_ | refine ops_lenm ?_ | refine ops_lk0 ?_ | refine IH ?_ | refine IL ?_ | refine ops_ass ?_ | refine ops_asn ?_ | refine IK ?_ | refine ID ?_ | refine P3 ?_ | refine P2 ?_ | refine P5 ?_ | refine P4 ?_ | refine lR ?_ | refine qF ?_ | refine ops_skip0 ?_ | refine DM ?_ | refine A5 ?_ | refine yE ?_ | refine yD ?_ | refine DJ ?_ | refine yC ?_ | refine dops_aps ?_ | refine wQ ?_ | refine wP ?_ | refine DK ?_ | refine dops_stv ?_ | refine sw ?_ | refine dops_sta ?_ | refine vE ?_ | refine DI ?_ | refine dops_bslice ?_ | refine dops_mkmap ?_ | refine DO ?_ | refine A4 ?_ | refine DL ?_ | refine dops_lk1 ?_ | refine DP ?_ | refine lM ?_ | refine dops_op0 ?_ | refine EO ?_ | refine ops_call0 ?_ | refine BB ?_ | refine ops_callv0 ?_ | refine iY ?_ | refine ops_invoke0 ?_); (repeat' first | refine run_seq ?_ | refine IX ?_ | refine BO ?_ | refine wx ?_ | refine wv ?_ | refine BP ?_ | refine E9 ?_ | refine IY ?_ | refine Fb ?_ | refine Fa ?_ | refine zT ?_ | refine uZ ?_ | refine E8 ?_ | refine zQ ?_ | refine zR ?_ | refine zS ?_ | refine qJ ?_ | refine BM ?_ | refine wq ?_ | refine zP ?_ | refine zO ?_ | refine BL ?_ | refine ret_callR0 ?_ | refine BK ?_ | refine ret_callN0 ?_ | refine CG ?_ | refine ER ?_ | refine IG ?_ | refine IE ?_ | refine IC ?_ | refine IB ?_ | refine Iz ?_ | refine Iy ?_ | refine IF ?_ | refine ops_stv ?_ | refine EU ?_ | refine ops_sta ?_ | refine ES ?_ | refine IA ?_ | refine BC ?_ | refine ops_mkmapn ?_ | refine zE ?_ | refine EP ?_ | refine dO ?_ | refine ops_lstore ?_ | refine ops_lenm ?_ | refine ops_lk0 ?_ | refine IH ?_ | refine IL ?_ | refine ops_ass ?_ | refine ops_asn ?_ | refine IK ?_ | refine ID ?_ | refine P3 ?_ | refine P2 ?_ | refine P5 ?_ | refine P4 ?_ | refine lR ?_ | refine qF ?_ | refine ops_skip0 ?_ | refine DM ?_ | refine A5 ?_ | refine yE ?_ | refine yD ?_ | refine DJ ?_ | refine yC ?_ | refine dops_aps ?_ | refine wQ ?_ | refine wP ?_ | refine DK ?_ | refine dops_stv ?_ | refine sw ?_ | refine dops_sta ?_ | refine vE ?_ | refine DI ?_ | refine dops_bslice ?_ | refine dops_mkmap ?_ | refine DO ?_ | refine A4 ?_ | refine DL ?_ | refine dops_lk1 ?_ | refine DP ?_ | refine lM ?_ | refine dops_op0 ?_ | refine EO ?_ | refine ops_call0 ?_ | refine BB ?_ | refine ops_callv0 ?_ | refine iY ?_ | refine ops_invoke0 ?_); exact Ay.out):P:=f ⟨h⟩
end Go.Ab.Sm
namespace Go.Ab
theorem ur (p:Prop) [Decidable p](h:p:=by omega):decide p=true:=du h
theorem qV (p:Prop) [Decidable p](h: ¬p:=by omega):decide p=false:=cP h
abbrev o (d:Nat)(x:eE):bz:=⟨some d,x,none,none⟩
abbrev w (d:Nat)(x:eE)(g:Nat×Bool):bz:=⟨some d,x,some g,none⟩
abbrev m (d x:Nat):bz:=⟨some d,.mv (.t x),none,none⟩
namespace Sm
open Go Go.Ab
variable {T:Nat->Option dJ}{H:au}{b:Nat}{k:List iI}{s:St}{Q:QP}{l:List bz}{t:Nat}{e:Env}{ds:List (D×List D)}{g:Option (Nat×Bool)}
theorem Tu {sz z:Nat}{x:bO}{nl:Bool}{L:List D}{lo hi:Option bO} {a b' :Option D} {lo' hi' :Nat}(hz:z=sz\/L=[])(Q4:mN 0 a=some lo')(kv:mN L.length b' =some hi')(h1:lo' <=hi')(h2:hi' <=L.length)
  (h:iN T H b l k ⟨(t,.vs nl z ((L.take hi').drop lo'))::e,ds⟩ s Q)(hw:aJ e g=some true:=by rfl)(hx:x.ev e=some (.vs nl z L):=by rfl)(ha:wT e lo=some a:=by rfl)(hb:wT e hi=some b' :=by rfl):iN T H b (⟨some t,.KT sz x lo hi none,g,none⟩::l) k ⟨e,ds⟩ s Q:=by
 have e3:Nat.ble lo' hi' =true:=ax h1;have e4:Nat.ble hi' L.length=true:=ax h2;have Zy :Nat.ble L.length L.length=true:=ax (aq _);have e5:wT e none=some none:=rfl;have e6:mN 0 none=some 0:=rfl;refine dM h hw ?_;cases b' with
 | none=>
  simp only [mN,aa]at kv; subst kv;rcases hz with rfl | rfl
  ·simp only [cg,hx,ha,hb,e5,Q4,e6,items,aA,eG,gD,yr,Option.getD,e3,e4,Zy,pw]
  ·simp only [cg,hx,ha,hb,e5,Q4,e6,items,Bool.or_true,gD,yr,Option.getD,e3,e4,Zy,pw]
 | some d=>
  have jb:mN 0 (some d)=some hi' :=kv;rcases hz with rfl | rfl
  ·simp only [cg,hx,ha,hb,e5,Q4,e6,jb,items,aA,eG,gD,yr,Option.getD,e3,e4,Zy,pw]
  ·simp only [cg,hx,ha,hb,e5,Q4,e6,jb,items,Bool.or_true,gD,yr,Option.getD,e3,e4,Zy,pw]
theorem uP {sz z bytes ty:Nat}{x y:bO}{yd:D}{o off len cp st:Nat}{es m:List D}(hi:items s yd=some (z,m))(hz:z=sz)(hn:m≠ [])(ha:eC sz m=true)(hm:len+m.length<=aM)(h:iN T H b l k ⟨(t,.sl o off (len+m.length) (len+m.length))::e,ds⟩ (s.bn o (.arr sz ty (es++m) st)) Q)(hw:aJ e g=some true:=by rfl)(hx:x.ev e=some (.sl o off len cp):=by rfl)(hy:y.ev e=some yd:=by rfl)(hs:s.Ok:=by exact oI)(hg:s.get o=some (.arr sz ty es st):=by exact gI)(hb:Nat.ble bytes 4096=true:=by rfl)(he:off+len=es.length:=by exact sI)(cG:st<=es.length:=by exact sI):iN T H b (⟨some t,.append sz bytes ty x y,g,none⟩::l) k ⟨e,ds⟩ s Q:=by
 subst hz;refine dM h hw ?_;cases yd <;> simp only [items]at hi <;> first | (cases hi; done) | skip
 all_goals simp only [cg,hx,hy,items,hi,aA,eG,hb,ha,si hs hg he cG hm hn]
theorem P1 {sz z z0 bytes ty:Nat}{x y:bO}{yd:D}{es m:List D}(hi:items s yd=some (z,m))(hz:z=sz)(hn:m≠ [])(ha:eC sz m=true)(hm:m.length<=aM)(h:iN T H b l k ⟨(t,.sl s.n 0 m.length m.length)::e,ds⟩ (s.aZ (.arr sz ty m 0)) Q)(hw:aJ e g=some true:=by rfl)(hx:x.ev e=some (.vs true z0 es):=by rfl)(hy:y.ev e=some yd:=by rfl)(hs:s.Ok:=by exact oI)(hb:Nat.ble bytes 4096=true:=by rfl):iN T H b (⟨some t,.append sz bytes ty x y,g,none⟩::l) k ⟨e,ds⟩ s Q:=by
 subst hz;refine dM h hw ?_;cases yd <;> simp only [items]at hi <;> first | (cases hi; done) | skip
 all_goals simp only [cg,hx,hy,items,hi,aA,eG,hb,ha,append_nil hs hm hn]
theorem Ix {sz z z' ty' bytes ty:Nat}{x y:bO}{yd:D}{o off len cp st:Nat}{es:List D}(hi:items s yd=some (z,[]))(h:iN T H b l k ⟨(t,.sl o off len cp)::e,ds⟩ s Q)(hw:aJ e g=some true:=by rfl)(hx:x.ev e=some (.sl o off len cp):=by rfl)(hy:y.ev e=some yd:=by rfl)(hg:s.get o=some (.arr z' ty' es st):=by exact gI)(hb:Nat.ble bytes 4096=true:=by rfl):iN T H b (⟨some t,.append sz bytes ty x y,g,none⟩::l) k ⟨e,ds⟩ s Q:=by
 refine dM h hw ?_;have ha:eC sz []=true:=rfl;cases yd <;> simp only [items]at hi <;> first | (cases hi; done) | skip
 all_goals simp only [cg,hx,hy,items,hi,Bool.or_true,hb,ha,ff,hg]
theorem fW {kk:Nat}{fp:Fp}{acc:List Fp}{q:List Nat}{dl:List (bz×List Nat)}{a sz c:Nat}{x v:bO}{d w w1:D}(h:fF T H b kk dl (acc++ [fp]) k ⟨(a,.lv w1)::e,ds⟩ s Q)(hw:aJ e g=some true:=by rfl)(hx:x.A9 e=some (.iE a c):=by rfl)(hv:v.ev e=some d:=by rfl)(ha:e.get a=some (.lv w):=by rfl)(hz:Nat.beq d.flat.length sz=true:=by rfl)(hp:w.over c d=some w1:=by rfl)
  (hf:cl b e ⟨none,.iX a sz x v,g,none⟩=fp:=by exact fI)(hc:eQ acc fp q=true:=by exact cI):fF T H b kk ((⟨none,.iX a sz x v,g,none⟩,q)::dl) acc k ⟨e,ds⟩ s Q:=by
 subst hf;refine⟨Aj (o:=⟨none,.iX a sz x v,g,none⟩) (fr1:=⟨(a,.lv w1)::e,ds⟩) hc rfl ?_ rfl rfl h.out⟩;unfold oper;simp only [hw,hx,hv,aA,ha,hz,hp,iq]
theorem tV {fr:Fr}{bM:List Nat}{gg:bO}{ps:List Nat}{a c:AC}{gf:Nat}{caps:List D}
  (h:∀Y,mF T H s.n ps (fr.env.bM bM) a c Y->bY T Y gf (.yl s.n::caps) ((s.aZ .dead).aZ (.loop s.n .ready)) fun _ s2=>
   ∃st x s3,s2.get (s.n+1)=some (.loop s.n st)/\Ch st=some x/\s2.set (s.n+1) .dead=some s3/\lB T H x k { fr with defers:=(.lX,[])::fr.defers} s3 Q)
  (hg:gg.ev fr.env=some (.fn (.func gf) [] caps))(qZ:s.ro=false)(hp:(fr.env.bM bM).plain=true):dR T H (.iF bM gg ps a c) k fr s Q:=by
 refine⟨K4 hg qZ hp fun Y hY=> ?_⟩;obtain⟨d,s2,h1,st,x,s3,h2,h3,h4,h5⟩:=h Y hY;exact⟨d,s2,h1,st,x,s3,h2,h3,h4,h5.out⟩
theorem se {y:Nat}{ps:List Nat}{env e:Env}{a c:AC}{Y:au}{xs:List D}(hY:mF T H y ps env a c Y)(R:Bool->St->Prop)(hb:pF ps xs env=some e)(hl:s.get (y+1)=some (.loop y .ready))(hs:s.Ok)
  (h:dR T H a [] ⟨e,[]⟩ s fun x f1 s1=>x= .normal/\s1=s/\dR T H c [] f1 (s.bn (y+1) (.loop y .busy)) fun x f2 s3=>f2.defers=[]/\s3.get (y+1)=some (.loop y .busy)/\s3.Ok/\R (pX x) (s3.bn (y+1) (.loop y (TM x)))):
  ∃c s',Y 0 (.lv (.yl y)::xs) s=some (.bool c,s')/\R c s' :=by
 refine hY.2 xs s e R hb (by simp [St.nf,hl]) (Wp.mono h.out ?_);rintro x f1 s1 ⟨rfl,rfl,h2⟩;refine⟨rfl,by simp [St.nf,hl],_,hs.set _ _,Wp.mono h2.out ?_⟩;rintro x f2 s3 ⟨h3,h4,h5,h6⟩;exact⟨h3,by simp [St.nf,h4],_,h5.set _ _,h6⟩
theorem Jg {s:St}{e:Env}{x:bO}{o n ty:Nat}{v:D}(hs:s.Ok)(hx:x.ev e=some (.ptr o 0))(hg:s.get o=some (.var ty v))(hn:Nat.beq v.flat.length n=true):cg fm e s none (.yj n x)=some (.sl s.n 0 n n,(s.bn o .dead).aZ (.arr 1 ty v.flat 0)):=by
 have l:=hs.lt hg;simp only [cg,hx,hg,hn,hs.set,(hs.bn .dead l).XJ];rfl
end Sm
end Go.Ab
namespace Go.Ab
abbrev RK (a:Option dJ):= {c:dJ // a=some c}
abbrev RK.mk {a:Option dJ}(h:RK a:=by apply Subtype.mk; conv=>lhs; reduce; try simp only [Int.reduceOfNat,Int.reduceNegSucc]):RK a:=h
open Go
def LM:List (Nat×mT)->Nat->mT
 | [],_=>⟨[],[],[],[],0⟩
 | (k,a)::r,n=>bif Nat.beq k n then a else LM r n
def cfT (P:Program)(G:Gl)(X:ig)(A:List (Nat×mT))(n:Nat):Option dJ:=match P.funcs[n]? with
 | some f => match f.name == "runtime.NumGoroutine" with
  | true=>none
  | false=>nS P G X f (LM A n)
 | none=>none
theorem Wz {P:Program}{G:Gl}{X:ig}{A:List (Nat×mT)} [eh]:nD P G X (cfT P G X A):=⟨fun f fn hf=>by
 unfold cfT at hf;split at hf
 ·rename_i g hg;split at hf
  ·cases hf
  ·rename_i hn;exact⟨g,_,hg,hn,hf⟩
 ·cases hf⟩
end Go.Ab
namespace Go.Proofs.Tab
open Go Go.Ab
def Ck:List D:=(List.range 256).map fun c=> .int .u8 (Lib.firstT c:Nat)
def B5:List D:=(List.range 16).flatMap fun i=> [.int .u8 (Lib.accLo i:Nat),.int .u8 (Lib.accHi i:Nat)]
@[reducible] def N5:D:= .agg Ck
@[reducible] def B4:D:= .agg B5
open Go Go.Ab Go.Proofs
def gl:Gl:=fun g=>bif Nat.beq g 0 then some N5 else bif Nat.beq g 1 then some B4 else none
def exts:ig:=fun n=>bif Nat.beq n 225 then some (Ext.idp) else (none)
def YU:List (Nat×mT):=[(3,⟨[46,49,57,69,18],[],[(188,18),(184,18)],[[0,1,3,9,10,11,12,13],[0,1,3,15,17,18,19]],0⟩),(4,⟨[24],[],[],[],0⟩),(7,⟨[4,9,94],[],[(151,9),(138,9),(130,9),(125,9),(92,9),(83,9)],[[0,1,4,5]],0⟩),
 (10,⟨[2],[],[(40,2),(33,2),(28,2),(23,2),(18,2),(13,2),(9,2)],[[6,51,52,53]],0⟩),(11,⟨[2],[],[],[],0⟩),(12,⟨[10,49,12],[],[(75,12)],[[0,1,6,24,25],[0,1,6,35,36,37],[0,6,54,55,56],[0,6,13,54,55,56,76,77,78]],0⟩),
 (15,⟨[],[],[],[[0,7,8,9]],0⟩),(21,⟨[1,2],[],[(5,1),(3,1)],[],0⟩),(22,⟨[3,4],[],[],[],0⟩),(24,⟨[10],[],[],[],0⟩),(26,⟨[],[],[],[[3,9,10,11]],0⟩),(27,⟨[21,27],[],[],[],0⟩),(28,⟨[5],[],[(27,5),(23,5),(14,5)],[],0⟩),
 (29,⟨[3],[],[(101,3),(95,3),(79,3),(77,3),(45,3),(43,3),(33,3),(23,3),(14,3),(8,3)],[],0⟩),(32,⟨[],[14],[],[],0⟩),(33,⟨[1,2],[],[(3,1)],[],0⟩),(36,⟨[1,2],[],[(3,1)],[],0⟩),(38,⟨[7,8],[],[],[],0⟩),(39,⟨[6],[],[],[],0⟩),
 (40,⟨[7,8],[],[(13,7)],[],0⟩),(42,⟨[1,2],[],[],[],0⟩),(45,⟨[5],[],[(95,5),(86,5),(77,5),(68,5),(59,5),(27,5),(19,5)],[[0,2,4,5,6,28,29,30],[0,4,5,43,44,45]],0⟩),(47,⟨[5],[],[(35,5),(26,5),(20,5),(16,5)],[[0,6,41,42,43]],0⟩),
 (49,⟨[3],[],[],[],0⟩),(50,⟨[1,2],[],[],[],0⟩),(53,⟨[3],[],[(46,3),(39,3),(15,3)],[[0,3,5,6,32,33,34]],0⟩),(57,⟨[10],[],[(11,10)],[],0⟩),(58,⟨[9,11,13],[],[],[],0⟩),(59,⟨[5,6],[],[],[],0⟩),(60,⟨[2,3],[],[(8,2)],[],0⟩),
 (61,⟨[2],[],[],[],0⟩),(62,⟨[6,7],[],[(28,7),(27,7),(22,6)],[],0⟩),(64,⟨[10],[],[],[],0⟩),(65,⟨[8],[],[],[],0⟩),(66,⟨[4,5],[16],[],[],0⟩),(67,⟨[4,6,7],[],[(21,7),(14,6)],[],0⟩),(68,⟨[1],[],[(12,1),(6,1)],[],0⟩),(69,⟨[6],[],[(15,6)],[],0⟩),
 (70,⟨[],[],[],[[0,3,6,7]],0⟩),(71,⟨[2,17],[],[],[],0⟩),(72,⟨[6,10],[],[(79,10)],[],0⟩),(73,⟨[11],[],[],[],0⟩),(74,⟨[6,7,8],[],[(29,8),(27,8),(25,8),(17,8),(11,8)],[],0⟩),(75,⟨[2,5],[57],[(138,5),(124,5)],[[0,2]],0⟩),
 (76,⟨[4,5],[],[(7,4)],[],0⟩),(78,⟨[4],[],[],[],0⟩),(81,⟨[1,27],[],[(22,1),(15,1),(10,1),(5,1)],[[1,3,4]],0⟩),(82,⟨[1],[],[(19,1),(16,1),(12,1),(7,1),(3,1)],[],0⟩),(84,⟨[],[],[],[[3,5]],0⟩),
 (85,⟨[5],[],[(29,5),(23,5),(19,5),(13,5)],[],0⟩),(87,⟨[1,2,3],[],[(9,3),(6,3)],[],0⟩),(88,⟨[2],[],[],[],0⟩),(90,⟨[9],[],[(36,9),(28,9)],[[0,2,8,9]],0⟩),(95,⟨[2,3],[],[(22,3),(20,2)],[],0⟩),(103,⟨[8],[],[],[],0⟩),
 (105,⟨[2],[],[(31,2),(15,2)],[[3,6,8]],0⟩),(108,⟨[4],[],[],[],0⟩),(112,⟨[2,3],[13],[(11,2)],[],0⟩),(118,⟨[],[16,17],[],[],0⟩),(119,⟨[4,5],[],[],[],0⟩),(120,⟨[],[],[],[[0,6]],0⟩),(121,⟨[3,4],[],[],[],0⟩),(122,⟨[4],[],[],[],0⟩),
 (124,⟨[1,43],[],[(57,1),(12,1)],[[1,2,3,4,9],[1,2,3,4,5,6,9],[7,9]],0⟩),(127,⟨[1,2],[],[(5,1),(3,1)],[],0⟩),(129,⟨[5],[58],[(30,5),(28,5),(23,5),(15,5)],[],0⟩),(132,⟨[1],[],[(10,1),(4,1)],[],0⟩),(133,⟨[],[],[],[[0,1,5]],0⟩),
 (145,⟨[7,8],[],[],[],0⟩),(146,⟨[3,4],[],[(5,3)],[],0⟩),(150,⟨[],[],[],[[0]],0⟩),(159,⟨[5,6],[],[],[],0⟩),(160,⟨[3,4],[],[(5,3)],[],0⟩),(161,⟨[5,6],[],[],[],0⟩),(166,⟨[2],[],[],[],0⟩),(167,⟨[2],[9],[],[],0⟩),(168,⟨[56],[],[],[],0⟩),
 (178,⟨[2,3],[],[(14,3)],[[0,2,3,5]],0⟩),(192,⟨[],[],[],[[0,1,3]],0⟩),(193,⟨[],[],[],[[2,8,9,10,11,13,14,15,16],[2,8,9,10,14,15,16,17,18]],0⟩),(199,⟨[],[],[],[[0,2,3]],0⟩),(201,⟨[4],[],[(15,4)],[[0,2,8,9,10]],0⟩),
 (202,⟨[],[],[],[[0,7,8]],0⟩),(203,⟨[],[],[],[[2,3,4]],0⟩),(208,⟨[],[],[],[[0,1,3]],0⟩),(213,⟨[],[],[],[[4,21,22]],0⟩),(221,⟨[],[],[],[[0,4,5,6,23,24]],0⟩),(268,⟨[1],[],[(3,1)],[],0⟩),(269,⟨[3,4],[],[],[],0⟩),(276,⟨[1],[],[],[],0⟩),
 (277,⟨[1],[],[],[],0⟩),(278,⟨[1],[],[],[],0⟩),(287,⟨[1],[],[],[],0⟩),(288,⟨[1],[],[],[],0⟩),(305,⟨[2],[],[(5,2)],[],0⟩),(306,⟨[1],[],[(3,1)],[],0⟩),(307,⟨[3],[],[(6,3)],[],0⟩),(309,⟨[2],[],[(5,2)],[],0⟩),(310,⟨[1],[],[(3,1)],[],0⟩),
 (311,⟨[3],[],[(6,3)],[],0⟩)]
noncomputable abbrev cf (f:Func)(n:Nat):Option dJ:=nS Tryz.prog gl exts f (LM YU n)
noncomputable def Qz:Nat->Option dJ:=cfT Tryz.prog gl exts YU
end Go.Proofs.Tab
