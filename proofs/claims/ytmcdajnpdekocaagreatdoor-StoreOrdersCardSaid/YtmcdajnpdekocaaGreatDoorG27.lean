/- Part. -/
import Derived.Test.YtmcdajnpdekocaaGreatDoorG26
set_option linter.unusedSectionVars false
set_option linter.unusedSimpArgs false
set_option linter.unusedVariables false
set_option maxRecDepth 100000
namespace Go.Ab.Sm
open Go Go.Ab
variable {T:Nat→Option AFn}{H:zAa}{b kk:Nat}{k:List Kont}{fr:Fr}{s:St}{Q:QP}{l:List (zPk×List Nat)}{acc:List Fp}{q:List Nat}
structure DOps (T:Nat→Option AFn)(H:zAa)(b kk:Nat)(l:List (zPk×List Nat))(acc:List Fp)(k:List Kont)(fr:Fr)(s:St)(Q:QP):Prop where
 out:WpD T H b kk l acc fr s (Post T H Q k .normal)
theorem chk_nil {acc:List Fp}{y:Fp}:ckA acc y []=true:=rfl
theorem zOy (h:DOps T H s.n 0 l [] k fr s Q):Run T H (.dreg 0 l) k fr s Q:=by
 refine⟨zUw (by simp [Nat.blt,Nat.ble]) ?_⟩
 have e: { s with n:=s.n+0}=s:=by cases s; rfl
 rw [e]; exact h.out
theorem zVg {j:Nat}(h:DOps T H s.n j l [] k fr (s.up j) Q)(hs:s.Ok:=by exact oI):Run T H (.dreg j l) k fr s Q:=⟨zUw (by rw [hs.ro]; rfl) h.out⟩
theorem zWm (h:Ret T H .normal k fr s Q):DOps T H b kk [] acc k fr s Q:=⟨wpd_nil h.out⟩
section
variable {t:Nat}{e:Env}{ds:List (D×List D)}{g:Option (Nat×Bool)}
theorem zAl {dst:Option Nat}{op:AOp}{al:Option Nat}{d:D}{s1:St}(hc:ckA acc (fpOf b e ⟨dst,op,g,al⟩) q=true)(hv0:e.isLvo dst=false)(hj:(putD e dst d).isLvo dst=false)(h:DOps T H b kk l (acc++ [fpOf b e ⟨dst,op,g,al⟩]) k ⟨putD e dst d,ds⟩ s1 Q)
  (hw:wtD e g=some true)(ho:opF zAq e s (match (generalizing:=false) al with | some r=>some (b+r) | none=>none) op=some (d,s1))(hk:Nat.beq op.kind 5=false):DOps T H b kk ((⟨dst,op,g,al⟩,q)::l) acc k ⟨e,ds⟩ s Q:=
 ⟨zNi hc hv0 (zBa (o:=⟨dst,op,g,al⟩) (fr:=⟨e,ds⟩) hw ho) hj hk h.out⟩
theorem zTp {fp:Fp}{op:AOp}{d:D}{s1:St}(h:DOps T H b kk l (acc++ [fp]) k ⟨(t,d)::e,ds⟩ s1 Q)(hw:wtD e g=some true:=by rfl)(ho:opF zAq e s none op=some (d,s1):=by rfl)(hf:fpOf b e ⟨(some t),op,g,none⟩=fp:=by exact fI)(hc:ckA acc fp q=true:=by exact cI)(hv0:Env.isLvo e (some t)=false:=by rfl)(hv1:Env.isLvo ((t,d)::e) (some t)=false:=by rfl)(hk:Nat.beq (zPk.op ⟨(some t),op,g,none⟩).kind 5=false:=by rfl):DOps T H b kk ((⟨(some t),op,g,none⟩,q)::l) acc k ⟨e,ds⟩ s Q:=by
 subst hf
 exact zAl hc hv0 hv1 h hw ho hk
theorem zNu {fp:Fp}{sz:Option Nat}{x:Opd}{o c ty:Nat}{v d:D}(h:DOps T H b kk l (acc++ [fp]) k ⟨(t,d)::e,ds⟩ s Q)(hw:wtD e g=some true:=by rfl)(hx:x.ev e=some (.ptr o c):=by rfl)(hg:s.get o=some (.var ty v):=by exact gI)(hp:part v.flat c sz=some d:=by rfl)(hf:fpOf b e ⟨(some t),.load sz x,g,none⟩=fp:=by exact fI)(hc:ckA acc fp q=true:=by exact cI)(hv0:Env.isLvo e (some t)=false:=by rfl)(hv1:Env.isLvo ((t,d)::e) (some t)=false:=by rfl)(hk:Nat.beq (zPk.op ⟨(some t),.load sz x,g,none⟩).kind 5=false:=by rfl):DOps T H b kk ((⟨(some t),.load sz x,g,none⟩,q)::l) acc k ⟨e,ds⟩ s Q:=by
 subst hf
 exact
 zAl hc hv0 hv1 h hw (by simp only [opF,hx,zPr,hg,hp,ofO]) hk
theorem zWo {fp:Fp}{sz:Option Nat}{x:Opd}{c:Nat}{z d:D}(h:DOps T H b kk l (acc++ [fp]) k ⟨(t,d)::e,ds⟩ s Q)(hw:wtD e g=some true:=by rfl)(hx:x.ev e=some (.vptr z c):=by rfl)(hp:part z.flat c sz=some d:=by rfl)(hf:fpOf b e ⟨(some t),.load sz x,g,none⟩=fp:=by exact fI)(hc:ckA acc fp q=true:=by exact cI)(hv0:Env.isLvo e (some t)=false:=by rfl)(hv1:Env.isLvo ((t,d)::e) (some t)=false:=by rfl)(hk:Nat.beq (zPk.op ⟨(some t),.load sz x,g,none⟩).kind 5=false:=by rfl):DOps T H b kk ((⟨(some t),.load sz x,g,none⟩,q)::l) acc k ⟨e,ds⟩ s Q:=by
 subst hf
 exact
 zAl hc hv0 hv1 h hw (by simp only [opF,hx,zPr,hp,ofO]) hk
theorem zKj {fp:Fp}{sz:Nat}{x v:Opd}{o c ty:Nat}{d w w1:D}(h:DOps T H b kk l (acc++ [fp]) k ⟨e,ds⟩ (s.set0 o (.var ty w1)) Q)(hw:wtD e g=some true:=by rfl)(hx:x.ev e=some (.ptr o c):=by rfl)(hv:v.ev e=some d:=by rfl)(hs:s.Ok:=by exact oI)(hg:s.get o=some (.var ty w):=by exact gI)(hz:Nat.beq d.flat.length sz=true:=by rfl)(hp:w.over c d=some w1:=by rfl)(hf:fpOf b e ⟨none,.store sz x v,g,none⟩=fp:=by exact fI)(hc:ckA acc fp q=true:=by exact cI)(hv0:Env.isLvo e none=false:=by rfl)(hv1:Env.isLvo (e) none=false:=by rfl)(hk:Nat.beq (zPk.op ⟨none,.store sz x v,g,none⟩).kind 5=false:=by rfl):DOps T H b kk ((⟨none,.store sz x v,g,none⟩,q)::l) acc k ⟨e,ds⟩ s Q:=by
 subst hf
 exact
 zAl (d:= .tup []) hc hv0 hv1 h hw (by simp only [opF,hx,hv,zCd,hz,hg,hp,hs.set,ofS]) hk
theorem zWp {fp:Fp}{sz:Nat}{x i:Opd}{n:D}{j:Nat}{nl:Bool}{es:List D}{z:D}(h:DOps T H b kk l (acc++ [fp]) k ⟨(t,.vptr z 0)::e,ds⟩ s Q)(hw:wtD e g=some true:=by rfl)(hx:x.ev e=some (.vs nl sz es):=by rfl)(hi:i.ev e=some n:=by rfl)(hj:idx n=some j:=by first | exact zPz | rfl | exact zBo (by omega))(he:es[j]? =some z:=by first | assumption | rfl)(hf:fpOf b e ⟨some t,.iaddr sz x i,g,none⟩=fp:=by exact fI)(hc:ckA acc fp q=true:=by exact cI)(hv0:Env.isLvo e (some t)=false:=by rfl)(hv1:Env.isLvo ((t,.vptr z 0)::e) (some t)=false:=by rfl)(hk:Nat.beq (zPk.op ⟨some t,.iaddr sz x i,g,none⟩).kind 5=false:=by rfl):DOps T H b kk ((⟨some t,.iaddr sz x i,g,none⟩,q)::l) acc k ⟨e,ds⟩ s Q:=by
 subst hf
 exact
 zAl hc hv0 hv1 h hw (by simp only [opF,hx,hi,hj,zEz,Nat.beq_refl,he,ofO]) hk
theorem zNw {fp:Fp}{sz:Nat}{x i:Opd}{n:D}{j o off len cp ty st:Nat}{es:List D}(h:DOps T H b kk l (acc++ [fp]) k ⟨(t,.eptr o (off+j) 0 (off+cp))::e,ds⟩ s Q)(hw:wtD e g=some true:=by rfl)(hx:x.ev e=some (.sl o off len cp):=by rfl)(hi:i.ev e=some n:=by rfl)(hg:s.get o=some (.arr sz ty es st):=by exact gI)(hj:idx n=some j:=by first | exact zPz | rfl | exact zBo (by omega))(hl:j < len:=by exact sI)(h1:off+len≤es.length:=by exact sI)(h2:st≤off+cp:=by exact sI)(hf:fpOf b e ⟨some t,.iaddr sz x i,g,none⟩=fp:=by exact fI)(hc:ckA acc fp q=true:=by exact cI)(hv0:Env.isLvo e (some t)=false:=by rfl)(hv1:Env.isLvo ((t,.eptr o (off+j) 0 (off+cp))::e) (some t)=false:=by rfl)(hk:Nat.beq (zPk.op ⟨some t,.iaddr sz x i,g,none⟩).kind 5=false:=by rfl):DOps T H b kk ((⟨some t,.iaddr sz x i,g,none⟩,q)::l) acc k ⟨e,ds⟩ s Q:=by
 subst hf
 have e1:Nat.blt j len=true:=Nat.ble_eq_true_of_le (Nat.succ_le_of_lt hl)
 have e2:Nat.ble (off+len) es.length=true:=Nat.ble_eq_true_of_le h1
 have e3:Nat.ble st (off+cp)=true:=Nat.ble_eq_true_of_le h2
 exact zAl hc hv0 hv1 h hw (by simp only [opF,hx,hi,hj,zEz,hg,Nat.beq_refl,e1,e2,e3,ofO]) hk
theorem zNv {fp:Fp}{sz:Option Nat}{x:Opd}{o i c en z ty st:Nat}{es:List D}{v d:D}(h:DOps T H b kk l (acc++ [fp]) k ⟨(t,d)::e,ds⟩ s Q)(hw:wtD e g=some true:=by rfl)(hx:x.ev e=some (.eptr o i c en):=by rfl)(hg:s.get o=some (.arr z ty es st):=by exact gI)(hi:es[i]? =some v:=by first | assumption | rfl)(hst:st≤en:=by exact sI)(hp:part v.flat c sz=some d:=by rfl)(hf:fpOf b e ⟨some t,.load sz x,g,none⟩=fp:=by exact fI)(hc:ckA acc fp q=true:=by exact cI)(hv0:Env.isLvo e (some t)=false:=by rfl)(hv1:Env.isLvo ((t,d)::e) (some t)=false:=by rfl)(hk:Nat.beq (zPk.op ⟨some t,.load sz x,g,none⟩).kind 5=false:=by rfl):DOps T H b kk ((⟨some t,.load sz x,g,none⟩,q)::l) acc k ⟨e,ds⟩ s Q:=by
 subst hf
 have e1:Nat.ble st en=true:=Nat.ble_eq_true_of_le hst
 exact zAl hc hv0 hv1 h hw (by simp only [opF,hx,zPr,hg,e1,hi,hp,ofO]) hk
theorem zRz {fp:Fp}{sz:Nat}{x v:Opd}{o i c en z ty st:Nat}{es:List D}{d w w1:D}(h:DOps T H b kk l (acc++ [fp]) k ⟨e,ds⟩ (s.set0 o (.arr z ty (es.set i w1) es.length)) Q)(hw:wtD e g=some true:=by rfl)(hx:x.ev e=some (.eptr o i c en):=by rfl)(hv:v.ev e=some d:=by rfl)(hs:s.Ok:=by exact oI)(hg:s.get o=some (.arr z ty es st):=by exact gI)(hi:es[i]? =some w:=by first | assumption | rfl)(he:en=es.length:=by exact sI)(hz:Nat.beq d.flat.length sz=true:=by rfl)(hp:w.over c d=some w1:=by rfl)(hf:fpOf b e ⟨none,.store sz x v,g,none⟩=fp:=by exact fI)(hc:ckA acc fp q=true:=by exact cI)(hv0:Env.isLvo e none=false:=by rfl)(hv1:Env.isLvo (e) none=false:=by rfl)(hk:Nat.beq (zPk.op ⟨none,.store sz x v,g,none⟩).kind 5=false:=by rfl):DOps T H b kk ((⟨none,.store sz x v,g,none⟩,q)::l) acc k ⟨e,ds⟩ s Q:=by
 subst hf
 subst he
 exact zAl (d:= .tup []) hc hv0 hv1 h hw (by simp only [opF,hx,hv,zCd,hz,hg,Nat.beq_refl,hi,hp,hs.set,ofS]) hk
theorem zWk {fp:Fp}{sz:Nat}{z d:D}{x:Opd}(h:DOps T H b kk l (acc++ [fp]) k ⟨(t,.vs false sz [d])::e,ds⟩ s Q)(hw:wtD e g=some true:=by rfl)(hx:x.ev e=some d:=by rfl)(hz:allSz sz [z]=true:=by rfl)(h1:Nat.beq d.flat.length sz=true:=by rfl)(h2:d.st=true:=by rfl)(hf:fpOf b e ⟨some t,.vslice sz z 1 [(0,x)],g,none⟩=fp:=by exact fI)(hc:ckA acc fp q=true:=by exact cI)(hv0:Env.isLvo e (some t)=false:=by rfl)(hv1:Env.isLvo ((t,.vs false sz [d])::e) (some t)=false:=by rfl)(hk:Nat.beq (zPk.op ⟨some t,.vslice sz z 1 [(0,x)],g,none⟩).kind 5=false:=by rfl):DOps T H b kk ((⟨some t,.vslice sz z 1 [(0,x)],g,none⟩,q)::l) acc k ⟨e,ds⟩ s Q:=by
 subst hf
 exact
 zAl hc hv0 hv1 h hw (by simp only [opF,zBw,hx,hz,zQy,h1,h2,List.replicate,List.length_cons,List.length_nil,Nat.blt,Nat.ble,List.set_cons_zero]) hk
theorem zWl {fp:Fp}{sz ty:Nat}{x:Opd}{lo hi:Option Opd} {a b' :Option D}{lo' hi' o off len cp st:Nat}{es:List D}(h:DOps T H b kk l (acc++ [fp]) k ⟨(t,.sl o (off+lo') (hi' - lo') (cp - lo'))::e,ds⟩ s Q)(hw:wtD e g=some true:=by rfl)(hx:x.ev e=some (.sl o off len cp):=by rfl)(ha:evo e lo=some a:=by rfl) (hb' :evo e hi=some b' :=by rfl)(ha1:idxo 0 a=some lo' :=by first | rfl | exact zPz | exact zBo (by omega))(hb1:(match b' with | none=>some len | some d=>idx d)=some hi' :=by first | rfl | exact zPz | exact zBo (by omega))(hg:s.get o=some (.arr sz ty es st):=by exact gI)(h1:off+len≤es.length:=by exact sI)(h2:st≤off+cp:=by exact sI)(h3:lo' ≤hi' :=by exact sI)(h4:hi' ≤cp:=by exact sI)(hf:fpOf b e ⟨some t,.ssl sz x lo hi none,g,none⟩=fp:=by exact fI)(hc:ckA acc fp q=true:=by exact cI)(hv0:Env.isLvo e (some t)=false:=by rfl)(hv1:Env.isLvo ((t,.sl o (off+lo') (hi' - lo') (cp - lo'))::e) (some t)=false:=by rfl)(hk:Nat.beq (zPk.op ⟨some t,.ssl sz x lo hi none,g,none⟩).kind 5=false:=by rfl):DOps T H b kk ((⟨some t,.ssl sz x lo hi none,g,none⟩,q)::l) acc k ⟨e,ds⟩ s Q:=by
 subst hf
 have e1:Nat.ble (off+len) es.length=true:=Nat.ble_eq_true_of_le h1
 have e2:Nat.ble st (off+cp)=true:=Nat.ble_eq_true_of_le h2
 have e3:Nat.ble lo' hi' =true:=Nat.ble_eq_true_of_le h3
 have e4:Nat.ble hi' cp=true:=Nat.ble_eq_true_of_le h4
 have e5:evo e none=some none:=rfl
 have e6:idxo 0 none=some 0:=rfl
 refine zAl hc hv0 hv1 h hw ?_ hk
 cases b' with
 | none=>
  simp only [Option.some.injEq]at hb1; subst hb1
  simp only [opF,hx,ha,hb',e5,ha1,e6,items,hg,e1,e2,Nat.beq_refl,Bool.true_or,zBe,cutD,Option.getD,e3,e4,ofO]
 | some d=>
  simp only at hb1
  have hb2:idxo 0 (some d)=some hi' :=hb1
  simp only [opF,hx,ha,hb',e5,ha1,e6,hb2,items,hg,e1,e2,Nat.beq_refl,Bool.true_or,zBe,cutD,Option.getD,e3,e4,ofO]
theorem zSb {fp:Fp}{x:Opd}{o c:Nat}{es:List (Nat×D×D)}(h:DOps T H b kk l (acc++ [fp]) k ⟨(t,.int .i64 (es.length:Nat))::e,ds⟩ s Q)(hw:wtD e g=some true:=by rfl)(hx:x.ev e=some (.mp o):=by rfl)(hg:s.get o=some (.map es c):=by exact gI)(hf:fpOf b e ⟨some t,.len 2 x,g,none⟩=fp:=by exact fI)(hc:ckA acc fp q=true:=by exact cI)(hv0:Env.isLvo e (some t)=false:=by rfl)(hv1:Env.isLvo ((t,.int .i64 (es.length:Nat))::e) (some t)=false:=by rfl)(hk:Nat.beq (zPk.op ⟨some t,.len 2 x,g,none⟩).kind 5=false:=by rfl):DOps T H b kk ((⟨some t,.len 2 x,g,none⟩,q)::l) acc k ⟨e,ds⟩ s Q:=by
 subst hf
 exact
 zAl hc hv0 hv1 h hw (by simp only [opF,hx,lenD,hg,goI]) hk
theorem zWn {fp:Fp}{et:ET}{z kd:D}{ok:Bool}{m ky:Opd}{o c:Nat}{es:List (Nat×D×D)}(h:DOps T H b kk l (acc++ [fp]) k ⟨(t,okD ok z false)::e,ds⟩ s Q)(hw:wtD e g=some true:=by rfl)(hm:m.ev e=some (.mp o):=by rfl)(hky:ky.ev e=some kd:=by rfl)(hkd:keyD et kd=true:=by rfl)(hg:s.get o=some (.map es c):=by exact gI)(hf:findKey et kd es 0=some none:=by rfl)(hf:fpOf b e ⟨some t,.lookup et z ok m ky,g,none⟩=fp:=by exact fI)(hc:ckA acc fp q=true:=by exact cI)(hv0:Env.isLvo e (some t)=false:=by rfl)(hv1:Env.isLvo ((t,okD ok z false)::e) (some t)=false:=by rfl)(hk:Nat.beq (zPk.op ⟨some t,.lookup et z ok m ky,g,none⟩).kind 5=false:=by rfl):DOps T H b kk ((⟨some t,.lookup et z ok m ky,g,none⟩,q)::l) acc k ⟨e,ds⟩ s Q:=by
 subst hf
 exact
 zAl hc hv0 hv1 h hw (by simp only [opF,hm,hky,hkd,hg,hf]) hk
theorem zSa {fp:Fp}{op:AOp}{al:Option Nat}(h:DOps T H b kk l (acc++ [fp]) k ⟨(t,.tup [])::e,ds⟩ s Q)(hw:wtD e g=some false:=by rfl)(hf:fpOf b e ⟨some t,op,g,al⟩=fp:=by exact fI)(hc:ckA acc fp q=true:=by exact cI)(hv0:Env.isLvo e (some t)=false:=by rfl)(hj:Env.isLvo ((t,.tup [])::e) (some t)=false:=by rfl)(hk:Nat.beq op.kind 5=false:=by rfl):
  DOps T H b kk ((⟨some t,op,g,al⟩,q)::l) acc k ⟨e,ds⟩ s Q:=by
 subst hf
 refine⟨zNi hc hv0 (fr1:=⟨(t,.tup [])::e,ds⟩) (s1:=s) ?_ hj hk h.out⟩
 unfold oper
 simp only [hw]
 rfl
theorem zCp {d:D}{e:Env}{t:Nat}(h:(match d with | .lv _=>true | _=>false)=false):Env.isLvo (putD e (some t) d) (some t)=false:=by
 cases d <;> first
  | (cases h; done)
  | simp [putD,Env.isLvo,Env.isLv,Env.get]
theorem mk_at {al:Nat}{x:Obj}(hs:s.Ok)(hg:s.get al=none)(hl:al < s.n):s.mk' (some al) x=some (al,s.set0 al x):=by
 have:Nat.blt al s.n=true:=Nat.ble_eq_true_of_le (Nat.succ_le_of_lt hl)
 simp only [St.mk',hs.ro,hg,this]
theorem zWq {fp:Fp}{r:Nat}{ty:Nat}{x:Opd}{d:D}(h:DOps T H b kk l (acc++ [fp]) k ⟨(t,.ptr (b+r) 0)::e,ds⟩ (s.set0 (b+r) (.var ty d)) Q)(hw:wtD e g=some true:=by rfl)(hx:x.ev e=some d:=by rfl)(hd:(d.st && Nat.blt 0 d.flat.length)=true:=by rfl)(hs:s.Ok:=by exact oI)(hg:s.get (b+r)=none:=by exact nI)(hl:b+r < s.n:=by first | assumption | omega | (simp only [St.nP0,St.nS0,St.n_up]; omega))(hf:fpOf b e ⟨some t,.box ty x,g,some r⟩=fp:=by exact fI)(hc:ckA acc fp q=true:=by exact cI)(hv0:Env.isLvo e (some t)=false:=by rfl)(hk:Nat.beq (zPk.op ⟨some t,.box ty x,g,some r⟩).kind 5=false:=by rfl):DOps T H b kk ((⟨some t,.box ty x,g,some r⟩,q)::l) acc k ⟨e,ds⟩ s Q:=by
 subst hf
 exact zAl hc hv0 (zCp rfl) h hw (by simp only [opF,hx,hd,mk_at hs hg hl]) hk
theorem zDs {fp:Fp}{r:Nat}{sz bytes ty:Nat}{z dl dc:D}{ln cp:Opd}{l1 c1:Nat}(hl1:idx dl=some l1)(hc1:idx dc=some c1)(h1:l1≤c1)(h2:c1 * bytes≤140737488355328)(h3:c1≤mxE)(h:DOps T H b kk l (acc++ [fp]) k ⟨(t,.sl (b+r) 0 l1 l1)::e,ds⟩ (s.set0 (b+r) (.arr sz ty (List.replicate l1 z) 0)) Q)(hw:wtD e g=some true:=by rfl)(hx:ln.ev e=some dl:=by rfl)(hy:cp.ev e=some dc:=by rfl)(hz:allSz sz [z]=true:=by rfl)(hs:s.Ok:=by exact oI)(hg:s.get (b+r)=none:=by exact nI)(hl:b+r < s.n:=by first | assumption | omega | (simp only [St.nP0,St.nS0,St.n_up]; omega))(hf:fpOf b e ⟨some t,.mkslice sz bytes ty z ln cp,g,some r⟩=fp:=by exact fI)(hc:ckA acc fp q=true:=by exact cI)(hv0:Env.isLvo e (some t)=false:=by rfl)(hk:Nat.beq (zPk.op ⟨some t,.mkslice sz bytes ty z ln cp,g,some r⟩).kind 5=false:=by rfl):DOps T H b kk ((⟨some t,.mkslice sz bytes ty z ln cp,g,some r⟩,q)::l) acc k ⟨e,ds⟩ s Q:=by
 subst hf
 have e1:Nat.ble l1 c1=true:=Nat.ble_eq_true_of_le h1
 have e2:Nat.ble (c1 * bytes) 140737488355328=true:=Nat.ble_eq_true_of_le h2
 have e3:Nat.ble c1 mxE=true:=Nat.ble_eq_true_of_le h3
 exact zAl hc hv0 (zCp rfl) h hw (by simp only [opF,hx,hy,hl1,hc1,e1,e2,e3,hz,Bool.and_self,mk_at hs hg hl]) hk
theorem zLa {fp:Fp}{r:Nat}{sz bytes ty:Nat}{x y:Opd}{o off len cp st:Nat}{nl:Bool}{es m:List D}(h:DOps T H b kk l (acc++ [fp]) k ⟨(t,.sl o off (len+m.length) (len+m.length))::e,ds⟩ (s.set0 o (.arr sz ty (es++m) st)) Q)(hw:wtD e g=some true:=by rfl)(hx:x.ev e=some (.sl o off len cp):=by rfl)(hy:y.ev e=some (.vs nl sz m):=by rfl)(hs:s.Ok:=by exact oI)(hg:s.get o=some (.arr sz ty es st):=by exact gI)(hb:Nat.ble bytes 4096=true:=by rfl)(ha:allSz sz m=true:=by rfl)(hn:m≠ []:=by simp)(he:off+len=es.length:=by exact sI)(hst:st≤es.length:=by exact sI)(hm:len+m.length≤mxE:=by exact sI)(hf:fpOf b e ⟨some t,.append sz bytes ty x y,g,some r⟩=fp:=by exact fI)(hc:ckA acc fp q=true:=by exact cI)(hv0:Env.isLvo e (some t)=false:=by rfl)(hk:Nat.beq (zPk.op ⟨some t,.append sz bytes ty x y,g,some r⟩).kind 5=false:=by rfl):DOps T H b kk ((⟨some t,.append sz bytes ty x y,g,some r⟩,q)::l) acc k ⟨e,ds⟩ s Q:=by
 subst hf
 refine zAl hc hv0 (zCp rfl) h hw ?_ hk
 simp only [opF,hx,hy,items,Nat.beq_refl,Bool.true_or,hb,ha,zHl hs hg he hst hm hn]
theorem zUl {fp:Fp}{r:Nat}{sz bytes ty:Nat}{x y:Opd}{o off len cp st:Nat}{o2 off2 len2 cp2 ty2 st2:Nat}{es es2 m:List D}(ha:allSz sz m=true)(hn:m≠ [])(he2:(es2.drop off2).take len2=m)(h:DOps T H b kk l (acc++ [fp]) k ⟨(t,.sl o off (len+m.length) (len+m.length))::e,ds⟩ (s.set0 o (.arr sz ty (es++m) st)) Q)(hw:wtD e g=some true:=by rfl)(hx:x.ev e=some (.sl o off len cp):=by rfl)(hy:y.ev e=some (.sl o2 off2 len2 cp2):=by rfl)(hs:s.Ok:=by exact oI)(hg:s.get o=some (.arr sz ty es st):=by exact gI)(hg2:s.get o2=some (.arr sz ty2 es2 st2):=by exact gI)(h21:off2+len2≤es2.length:=by exact sI)(h22:st2≤off2+cp2:=by exact sI)(hb:Nat.ble bytes 4096=true:=by rfl)(he:off+len=es.length:=by exact sI)(hst:st≤es.length:=by exact sI)(hm:len+m.length≤mxE:=by exact sI)(hf:fpOf b e ⟨some t,.append sz bytes ty x y,g,some r⟩=fp:=by exact fI)(hc:ckA acc fp q=true:=by exact cI)(hv0:Env.isLvo e (some t)=false:=by rfl)(hk:Nat.beq (zPk.op ⟨some t,.append sz bytes ty x y,g,some r⟩).kind 5=false:=by rfl):DOps T H b kk ((⟨some t,.append sz bytes ty x y,g,some r⟩,q)::l) acc k ⟨e,ds⟩ s Q:=by
 subst hf
 have e1:Nat.ble (off2+len2) es2.length=true:=Nat.ble_eq_true_of_le h21
 have e2:Nat.ble st2 (off2+cp2)=true:=Nat.ble_eq_true_of_le h22
 refine zAl hc hv0 (zCp rfl) h hw ?_ hk
 simp only [opF,hx,hy,items,hg2,e1,e2,he2,Nat.beq_refl,Bool.true_or,hb,ha,zHl hs hg he hst hm hn]
theorem zOi {al sz ty z:Nat}{es m:List D}(hs:s.Ok)(hg:s.get al=none)(hl:al < s.n)(hm:m.length≤mxE)(hn:m≠ []):
  zAn s (some al) sz ty (.vs true z es) m=some (.sl al 0 m.length m.length,s.set0 al (.arr sz ty m 0)):=by
 cases m with
 | nil=>exact absurd rfl hn
 | cons x m=>
  have e3:Nat.ble (x::m).length mxE=true:=Nat.ble_eq_true_of_le hm
  simp only [zAn,e3,mk_at hs hg hl]
theorem zLb {fp:Fp}{r:Nat}{sz bytes ty z:Nat}{x y:Opd}{nl:Bool}{es m:List D}(h:DOps T H b kk l (acc++ [fp]) k ⟨(t,.sl (b+r) 0 m.length m.length)::e,ds⟩ (s.set0 (b+r) (.arr sz ty m 0)) Q)(hw:wtD e g=some true:=by rfl)(hx:x.ev e=some (.vs true z es):=by rfl)(hy:y.ev e=some (.vs nl sz m):=by rfl)(hs:s.Ok:=by exact oI)(hg:s.get (b+r)=none:=by exact nI)(hl:b+r < s.n:=by first | assumption | omega | (simp only [St.nP0,St.nS0,St.n_up]; omega))(hb:Nat.ble bytes 4096=true:=by rfl)(ha:allSz sz m=true:=by rfl)(hn:m≠ []:=by simp)(hm:m.length≤mxE:=by exact sI)(hf:fpOf b e ⟨some t,.append sz bytes ty x y,g,some r⟩=fp:=by exact fI)(hc:ckA acc fp q=true:=by exact cI)(hv0:Env.isLvo e (some t)=false:=by rfl)(hk:Nat.beq (zPk.op ⟨some t,.append sz bytes ty x y,g,some r⟩).kind 5=false:=by rfl):DOps T H b kk ((⟨some t,.append sz bytes ty x y,g,some r⟩,q)::l) acc k ⟨e,ds⟩ s Q:=by
 subst hf
 refine zAl hc hv0 (zCp rfl) h hw ?_ hk
 simp only [opF,hx,hy,items,Nat.beq_refl,Bool.true_or,hb,ha,zOi hs hg hl hm hn]
theorem dpC {fp:Fp}{f:Nat}{args:List Opd}{x:List D}{R:D→St→Prop}(hE:EvP T H f x s R)(h:∀d s1,R d s1→Env.isLvo ((t,d)::e) (some t)=false∧lost acc s s1 ⟨some t,.call false f args,g,none⟩ q=false∧DOps T H b kk l (acc++ [fpC fp s s1]) k ⟨(t,d)::e,ds⟩ s1 Q)
  (hw:wtD e g=some true:=by rfl)(hx:evs e args=some x:=by rfl)(hf:fpOf b e ⟨some t,.call false f args,g,none⟩=fp:=by exact fI)(hc:ckA acc fp q=true:=by exact cI)(hv0:Env.isLvo e (some t)=false:=by rfl)(hs:s.Ok:=by exact oI):
  DOps T H b kk ((⟨some t,.call false f args,g,none⟩,q)::l) acc k ⟨e,ds⟩ s Q:=by
 subst hf
 obtain⟨d,s1,h1,h2⟩:=hE
 obtain⟨h3,h4,h5⟩:=h d s1 h2
 exact⟨zIu (r:=(d,s1)) hc hv0 ⟨s,h1,fun C hC=>zBa (o:=⟨some t,.call false f args,g,none⟩) (fr:=⟨e,ds⟩) hw (by simp only [opF,hx]; exact cutC_w hs.ro hC)⟩ h3 h4 h5.out⟩
theorem zId {fp:Fp}{f:Nat}{args:List Opd}{x:List D}{R:D→St→Prop}(hE:EvP T H f x { s with ro:=true} R)(h:∀d s1,R d s1→Env.isLvo ((t,d)::e) (some t)=false∧DOps T H b 0 l (acc++ [fp]) k ⟨(t,d)::e,ds⟩ s Q)
  (hw:wtD e g=some true:=by rfl)(hx:evs e args=some x:=by rfl)(hf:fpOf b e ⟨some t,.call true f args,g,none⟩=fp:=by exact fI)(hc:ckA acc fp q=true:=by exact cI)(hv0:Env.isLvo e (some t)=false:=by rfl):
  DOps T H b 0 ((⟨some t,.call true f args,g,none⟩,q)::l) acc k ⟨e,ds⟩ s Q:=by
 subst hf
 obtain⟨d,s1,h1,h2⟩:=hE
 obtain⟨h3,h5⟩:=h d s1 h2
 exact⟨zIu (r:=(d,s1)) hc hv0 ⟨_,h1,fun C hC=>zBa (o:=⟨some t,.call true f args,g,none⟩) (fr:=⟨e,ds⟩) hw (by simp only [opF,hx,cutC,hC])⟩ h3 (by rfl) h5.out⟩
theorem zIe {fp:Fp}{f:Nat}{args:List Opd}{x:List D}{R:D→St→Prop}(hE:EvP T H f x { s with ro:=true,h:=cutN (kk+1) b s.h} R)(h:∀d s1,R d s1→Env.isLvo ((t,d)::e) (some t)=false∧DOps T H b (kk+1) l (acc++ [fp]) k ⟨(t,d)::e,ds⟩ s Q)
  (hw:wtD e g=some true:=by rfl)(hx:evs e args=some x:=by rfl)(hf:fpOf b e ⟨some t,.call true f args,g,none⟩=fp:=by exact fI)(hc:ckA acc fp q=true:=by exact cI)(hv0:Env.isLvo e (some t)=false:=by rfl):
  DOps T H b (kk+1) ((⟨some t,.call true f args,g,none⟩,q)::l) acc k ⟨e,ds⟩ s Q:=by
 subst hf
 obtain⟨d,s1,h1,h2⟩:=hE
 obtain⟨h3,h5⟩:=h d s1 h2
 exact⟨zIu (r:=(d,s1)) hc hv0 ⟨_,h1,fun C hC=>zBa (o:=⟨some t,.call true f args,g,none⟩) (fr:=⟨e,ds⟩) hw (by simp only [opF,hx,cutC,hC])⟩ h3 (by rfl) h5.out⟩
end
end Go.Ab.Sm
namespace Go.Ab.Sm
structure Hold (g:Prop):Prop where
 out:g
theorem go {g P:Prop}(h:g)(f:Hold g→P:=by intro hgo; (first | refine zJl ?_ | refine yAc ?_ | refine zOz ?_ | refine zJx ?_ | refine zJy ?_ | refine zOy ?_ | refine zVg ?_ | refine yAb ?_ | refine zVe ?_ | refine zVf ?_ | refine zNl ?_ | refine zVi ?_ | refine zVh ?_ | refine zMd ?_ | refine zMb ?_ | refine zMa ?_ | refine zMc ?_ | refine zPb ?_ | refine zPc ?_ | refine zMe ?_ | refine zMf ?_ | refine zPd ?_ | refine ret_callR0 ?_ | refine zPe ?_ | refine ret_callN0 ?_ | refine zTe ?_ | refine zVn ?_ | refine yAo ?_ | refine yAq ?_ | refine yAs ?_ | refine yAt ?_ | refine yAw ?_ | refine yAx ?_ | refine yAp ?_ | refine ops_stv ?_ | refine zVk ?_ | refine ops_sta ?_ | refine zVm ?_ | refine yAv ?_ | refine zRf ?_ | refine ops_mkmapn ?_ | refine zMh ?_ | refine zVo ?_ | refine opL ?_ | refine ops_lstore ?_ | refine ops_lenm ?_ | refine ops_lk0 ?_ | refine yAn ?_ | refine yAi ?_ | refine ops_ass ?_ | refine ops_asn ?_ | refine yAk ?_ | refine yAr ?_ | refine ops_bT ?_ | refine ops_bF ?_ | refine ops_cT ?_ | refine ops_cF ?_ | refine zDp ?_ | refine zGh ?_ | refine ops_skip0 ?_ | refine zWm ?_ | refine zSa ?_ | refine zNu ?_ | refine zNv ?_ | refine zWp ?_ | refine zNw ?_ | refine dops_aps ?_ | refine zLa ?_ | refine zLb ?_ | refine zWo ?_ | refine dops_stv ?_ | refine zKj ?_ | refine dops_sta ?_ | refine zRz ?_ | refine zWq ?_ | refine dops_bslice ?_ | refine dops_mkmap ?_ | refine zWl ?_ | refine zSb ?_ | refine zWn ?_ | refine dops_lk1 ?_ | refine zWk ?_ | refine zTp ?_ | refine dops_op0 ?_ | refine zVp ?_ | refine ops_call0 ?_ | refine zRg ?_ | refine ops_callv0 ?_ | refine zCc ?_ | refine ops_invoke0 ?_); (repeat' first | refine zJl ?_ | refine yAc ?_ | refine zOz ?_ | refine zJx ?_ | refine zJy ?_ | refine zOy ?_ | refine zVg ?_ | refine yAb ?_ | refine zVe ?_ | refine zVf ?_ | refine zNl ?_ | refine zVi ?_ | refine zVh ?_ | refine zMd ?_ | refine zMb ?_ | refine zMa ?_ | refine zMc ?_ | refine zPb ?_ | refine zPc ?_ | refine zMe ?_ | refine zMf ?_ | refine zPd ?_ | refine ret_callR0 ?_ | refine zPe ?_ | refine ret_callN0 ?_ | refine zTe ?_ | refine zVn ?_ | refine yAo ?_ | refine yAq ?_ | refine yAs ?_ | refine yAt ?_ | refine yAw ?_ | refine yAx ?_ | refine yAp ?_ | refine ops_stv ?_ | refine zVk ?_ | refine ops_sta ?_ | refine zVm ?_ | refine yAv ?_ | refine zRf ?_ | refine ops_mkmapn ?_ | refine zMh ?_ | refine zVo ?_ | refine opL ?_ | refine ops_lstore ?_ | refine ops_lenm ?_ | refine ops_lk0 ?_ | refine yAn ?_ | refine yAi ?_ | refine ops_ass ?_ | refine ops_asn ?_ | refine yAk ?_ | refine yAr ?_ | refine ops_bT ?_ | refine ops_bF ?_ | refine ops_cT ?_ | refine ops_cF ?_ | refine zDp ?_ | refine zGh ?_ | refine ops_skip0 ?_ | refine zWm ?_ | refine zSa ?_ | refine zNu ?_ | refine zNv ?_ | refine zWp ?_ | refine zNw ?_ | refine dops_aps ?_ | refine zLa ?_ | refine zLb ?_ | refine zWo ?_ | refine dops_stv ?_ | refine zKj ?_ | refine dops_sta ?_ | refine zRz ?_ | refine zWq ?_ | refine dops_bslice ?_ | refine dops_mkmap ?_ | refine zWl ?_ | refine zSb ?_ | refine zWn ?_ | refine dops_lk1 ?_ | refine zWk ?_ | refine zTp ?_ | refine dops_op0 ?_ | refine zVp ?_ | refine ops_call0 ?_ | refine zRg ?_ | refine ops_callv0 ?_ | refine zCc ?_ | refine ops_invoke0 ?_); exact hgo.out):P:=f ⟨h⟩
end Go.Ab.Sm
namespace Go.Ab
abbrev o (d:Nat)(x:AOp):zPk:=⟨some d,x,none,none⟩
abbrev w (d:Nat)(x:AOp)(g:Nat×Bool):zPk:=⟨some d,x,some g,none⟩
abbrev m (d x:Nat):zPk:=⟨some d,.mv (.t x),none,none⟩
namespace Sm
open Go Go.Ab
variable {T:Nat→Option AFn}{H:zAa}{b:Nat}{k:List Kont}{s:St}{Q:QP}{l:List zPk}{t:Nat}{e:Env}{ds:List (D×List D)}{g:Option (Nat×Bool)}
theorem ops_svs {sz z:Nat}{x:Opd}{nl:Bool}{L:List D}{lo hi:Option Opd} {a b' :Option D} {lo' hi' :Nat}(hz:z=sz∨L=[])(ha1:idxo 0 a=some lo')(hb1:idxo L.length b' =some hi')(h1:lo' ≤hi')(h2:hi' ≤L.length)
  (h:Ops T H b l k ⟨(t,.vs nl z ((L.take hi').drop lo'))::e,ds⟩ s Q)(hw:wtD e g=some true:=by rfl)(hx:x.ev e=some (.vs nl z L):=by rfl)(ha:evo e lo=some a:=by rfl)(hb:evo e hi=some b' :=by rfl):Ops T H b (⟨some t,.ssl sz x lo hi none,g,none⟩::l) k ⟨e,ds⟩ s Q:=by
 have e3:Nat.ble lo' hi' =true:=Nat.ble_eq_true_of_le h1
 have e4:Nat.ble hi' L.length=true:=Nat.ble_eq_true_of_le h2
 have e4' :Nat.ble L.length L.length=true:=Nat.ble_eq_true_of_le (Nat.le_refl _)
 have e5:evo e none=some none:=rfl
 have e6:idxo 0 none=some 0:=rfl
 refine opA h hw ?_
 cases b' with
 | none=>
  simp only [idxo,Option.some.injEq]at hb1; subst hb1
  rcases hz with rfl | rfl
  ·simp only [opF,hx,ha,hb,e5,ha1,e6,items,Nat.beq_refl,Bool.true_or,zBe,cutD,Option.getD,e3,e4,e4',ofO]
  ·simp only [opF,hx,ha,hb,e5,ha1,e6,items,Bool.or_true,zBe,cutD,Option.getD,e3,e4,e4',ofO]
 | some d=>
  have hb2:idxo 0 (some d)=some hi' :=hb1
  rcases hz with rfl | rfl
  ·simp only [opF,hx,ha,hb,e5,ha1,e6,hb2,items,Nat.beq_refl,Bool.true_or,zBe,cutD,Option.getD,e3,e4,e4',ofO]
  ·simp only [opF,hx,ha,hb,e5,ha1,e6,hb2,items,Bool.or_true,zBe,cutD,Option.getD,e3,e4,e4',ofO]
theorem zJn {sz z bytes ty:Nat}{x y:Opd}{yd:D}{o off len cp st:Nat}{es m:List D}(hi:items s yd=some (z,m))(hz:z=sz)(hn:m≠ [])(ha:allSz sz m=true)(hm:len+m.length≤mxE)(h:Ops T H b l k ⟨(t,.sl o off (len+m.length) (len+m.length))::e,ds⟩ (s.set0 o (.arr sz ty (es++m) st)) Q)(hw:wtD e g=some true:=by rfl)(hx:x.ev e=some (.sl o off len cp):=by rfl)(hy:y.ev e=some yd:=by rfl)(hs:s.Ok:=by exact oI)(hg:s.get o=some (.arr sz ty es st):=by exact gI)(hb:Nat.ble bytes 4096=true:=by rfl)(he:off+len=es.length:=by exact sI)(hst:st≤es.length:=by exact sI):Ops T H b (⟨some t,.append sz bytes ty x y,g,none⟩::l) k ⟨e,ds⟩ s Q:=by
 subst hz
 refine opA h hw ?_
 cases yd <;> simp only [items]at hi <;> first | (cases hi; done) | skip
 all_goals simp only [opF,hx,hy,items,hi,Nat.beq_refl,Bool.true_or,hb,ha,zHl hs hg he hst hm hn]
theorem ops_apin {sz z z0 bytes ty:Nat}{x y:Opd}{yd:D}{es m:List D}(hi:items s yd=some (z,m))(hz:z=sz)(hn:m≠ [])(ha:allSz sz m=true)(hm:m.length≤mxE)(h:Ops T H b l k ⟨(t,.sl s.n 0 m.length m.length)::e,ds⟩ (s.push0 (.arr sz ty m 0)) Q)(hw:wtD e g=some true:=by rfl)(hx:x.ev e=some (.vs true z0 es):=by rfl)(hy:y.ev e=some yd:=by rfl)(hs:s.Ok:=by exact oI)(hb:Nat.ble bytes 4096=true:=by rfl):Ops T H b (⟨some t,.append sz bytes ty x y,g,none⟩::l) k ⟨e,ds⟩ s Q:=by
 subst hz
 refine opA h hw ?_
 cases yd <;> simp only [items]at hi <;> first | (cases hi; done) | skip
 all_goals simp only [opF,hx,hy,items,hi,Nat.beq_refl,Bool.true_or,hb,ha,append_nil hs hm hn]
theorem yAy {sz z z' ty' bytes ty:Nat}{x y:Opd}{yd:D}{o off len cp st:Nat}{es:List D}(hi:items s yd=some (z,[]))(h:Ops T H b l k ⟨(t,.sl o off len cp)::e,ds⟩ s Q)(hw:wtD e g=some true:=by rfl)(hx:x.ev e=some (.sl o off len cp):=by rfl)(hy:y.ev e=some yd:=by rfl)(hg:s.get o=some (.arr z' ty' es st):=by exact gI)(hb:Nat.ble bytes 4096=true:=by rfl):Ops T H b (⟨some t,.append sz bytes ty x y,g,none⟩::l) k ⟨e,ds⟩ s Q:=by
 refine opA h hw ?_
 have ha:allSz sz []=true:=rfl
 cases yd <;> simp only [items]at hi <;> first | (cases hi; done) | skip
 all_goals simp only [opF,hx,hy,items,hi,Bool.or_true,hb,ha,zAn,hg]
theorem zFi {kk:Nat}{fp:Fp}{acc:List Fp}{q:List Nat}{dl:List (zPk×List Nat)}{a sz c:Nat}{x v:Opd}{d w w1:D}(h:DOps T H b kk dl (acc++ [fp]) k ⟨(a,.lv w1)::e,ds⟩ s Q)(hw:wtD e g=some true:=by rfl)(hx:x.evp e=some (.lptr a c):=by rfl)(hv:v.ev e=some d:=by rfl)(ha:e.get a=some (.lv w):=by rfl)(hz:Nat.beq d.flat.length sz=true:=by rfl)(hp:w.over c d=some w1:=by rfl)
  (hf:fpOf b e ⟨none,.lstore a sz x v,g,none⟩=fp:=by exact fI)(hc:ckA acc fp q=true:=by exact cI):DOps T H b kk ((⟨none,.lstore a sz x v,g,none⟩,q)::dl) acc k ⟨e,ds⟩ s Q:=by
 subst hf
 refine⟨zNi (o:=⟨none,.lstore a sz x v,g,none⟩) (fr1:=⟨(a,.lv w1)::e,ds⟩) hc rfl ?_ rfl rfl h.out⟩
 unfold oper
 simp only [hw,hx,hv,Nat.beq_refl,ha,hz,hp,putD]
theorem zHx {fr:Fr}{keep:List Nat}{gg:Opd}{ps:List Nat}{a c:AC}{gf:Nat}{caps:List D}
  (h:∀Y,zDw T H s.n ps (fr.env.keep keep) a c Y→EvP T Y gf (.yl s.n::caps) ((s.push0 .dead).push0 (.loop s.n .ready)) fun _ s2=>
   ∃st x s3,s2.get (s.n+1)=some (.loop s.n st)∧exOf st=some x∧s2.set (s.n+1) .dead=some s3∧Ret T H x k { fr with defers:=(.nilf,[])::fr.defers} s3 Q)
  (hg:gg.ev fr.env=some (.fn (.func gf) [] caps))(hro:s.ro=false)(hp:(fr.env.keep keep).plain=true):Run T H (.rangef keep gg ps a c) k fr s Q:=by
 refine⟨yEp hg hro hp fun Y hY=> ?_⟩
 obtain⟨d,s2,h1,st,x,s3,h2,h3,h4,h5⟩:=h Y hY
 exact⟨d,s2,h1,st,x,s3,h2,h3,h4,h5.out⟩
theorem zGm {y:Nat}{ps:List Nat}{env e:Env}{a c:AC}{Y:zAa}{xs:List D}(hY:zDw T H y ps env a c Y)(R:Bool→St→Prop)(hb:zGb ps xs env=some e)(hl:s.get (y+1)=some (.loop y .ready))(hs:s.Ok)
  (h:Run T H a [] ⟨e,[]⟩ s fun x f1 s1=>x= .normal∧s1=s∧Run T H c [] f1 (s.set0 (y+1) (.loop y .busy)) fun x f2 s3=>f2.defers=[]∧s3.get (y+1)=some (.loop y .busy)∧s3.Ok∧R (zFn x) (s3.set0 (y+1) (.loop y (stOf x)))):
  ∃c s',Y 0 (.lv (.yl y)::xs) s=some (.bool c,s')∧R c s' :=by
 refine hY.2 xs s e R hb (by simp [St.loopAt,hl]) (Wp.mono h.out ?_)
 rintro x f1 s1 ⟨rfl,rfl,h2⟩
 refine⟨rfl,by simp [St.loopAt,hl],_,hs.set _ _,Wp.mono h2.out ?_⟩
 rintro x f2 s3 ⟨h3,h4,h5,h6⟩
 exact⟨h3,by simp [St.loopAt,h4],_,h5.set _ _,h6⟩
theorem yHl {s:St}{e:Env}{x:Opd}{o n ty:Nat}{v:D}(hs:s.Ok)(hx:x.ev e=some (.ptr o 0))(hg:s.get o=some (.var ty v))(hn:Nat.beq v.flat.length n=true):opF zAq e s none (.aslice n x)=some (.sl s.n 0 n n,(s.set0 o .dead).push0 (.arr 1 ty v.flat 0)):=by
 have l:=hs.lt hg
 simp only [opF,hx,hg,hn,hs.set,(hs.set0 .dead l).mkN]
 rfl
end Sm
end Go.Ab
namespace Go.Proofs.YtmcdajnpdekocaaGreatDoor.Tab
open Go Go.Ab
def zOo:List D:=[240,240,240,240,240,240,240,240,240,240,240,240,240,240,240,240,240,240,240,240,240,240,240,240,240,240,240,240,240,240,240,240,240,240,240,240,240,240,240,240,240,240,240,240,240,240,240,240,240,240,240,240,240,240,240,240,240,240,240,240,240,240,240,240,240,240,240,240,240,240,240,240,240,240,240,240,240,240,240,240,240,240,240,240,240,240,240,240,240,240,240,240,240,240,240,240,240,240,240,240,240,240,240,240,240,240,240,240,240,240,240,240,240,240,240,240,240,240,240,240,240,240,240,240,240,240,240,240,241,241,241,241,241,241,241,241,241,241,241,241,241,241,241,241,241,241,241,241,241,241,241,241,241,241,241,241,241,241,241,241,241,241,241,241,241,241,241,241,241,241,241,241,241,241,241,241,241,241,241,241,241,241,241,241,241,241,241,241,241,241,241,241,241,241,2,2,2,2,2,2,2,2,2,2,2,2,2,2,2,2,2,2,2,2,2,2,2,2,2,2,2,2,2,2,19,3,3,3,3,3,3,3,3,3,3,3,3,35,3,3,52,4,4,4,68,241,241,241,241,241,241,241,241,241,241,241].map fun n:Int=> .int .u8 n
def zGj:List D:=[128,191,160,191,128,159,144,191,128,143,0,0,0,0,0,0,0,0,0,0,0,0,0,0,0,0,0,0,0,0,0,0].map fun n:Int=> .int .u8 n
@[reducible] def firstD:D:= .agg zOo
@[reducible] def acceptD:D:= .agg zGj
def u8of:Option D→Option Nat
 | some (.int .u8 (.ofNat v))=>some v
 | _=>none
theorem zSy {x:Option D}{v:Nat}(h:u8of x=some v):x=some (.int .u8 (v:Int)):=by
 unfold u8of at h
 split at h
 ·simp only [Option.some.injEq]at h
  subst h; rfl
 ·cases h
theorem first_at (n:Nat)(hn:n < 256):∃v:Nat,zOo[n]? =some (.int .u8 (v:Int))∧v < 256:=by
 have h:((List.range 256).all fun n=>match u8of (zOo[n]?) with | some v=>Nat.blt v 256 | none=>false)=true:=by decide+kernel
 rw [List.all_eq_true]at h
 have:=h n (List.mem_range.2 hn)
 split at this
 ·rename_i v hv
  exact⟨v,zSy hv,by simpa [Nat.blt_eq] using this⟩
 ·cases this
theorem yHo (n:Nat)(hn:n < 16):∃a b:Nat,zGj[2 * n]? =some (.int .u8 (a:Int))∧zGj[2 * n+1]? =some (.int .u8 (b:Int)):=by
 have h:((List.range 16).all fun n=>match u8of (zGj[2 * n]?),u8of (zGj[2 * n+1]?) with | some _,some _=>true | _,_=>false)=true:=by decide+kernel
 rw [List.all_eq_true]at h
 have:=h n (List.mem_range.2 hn)
 split at this
 ·rename_i v w hv hw
  exact⟨v,w,zSy hv,zSy hw⟩
 ·cases this
end Go.Proofs.YtmcdajnpdekocaaGreatDoor.Tab
