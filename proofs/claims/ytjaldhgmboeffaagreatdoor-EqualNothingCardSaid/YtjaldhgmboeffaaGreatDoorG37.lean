/- Part. -/
import Derived.Test.YtjaldhgmboeffaaGreatDoorG32
set_option linter.unusedSimpArgs false
set_option linter.unusedVariables false
set_option linter.unusedSectionVars false
set_option maxRecDepth 100000
set_option maxHeartbeats 4000000
namespace Go.Ab.Sm
open Go Go.Ab
inductive Row (s:St)(sz:Nat):D->List D->Prop
 | vs (nl:Bool) (z:Nat) (L:List D) (hz:z=sz\/L=[]):Row s sz (.vs nl z L) L
 | sl (o off cp ty st:Nat) (es L:List D) (hg:s.get o=some (.arr sz ty es st)) (hL:(es.drop off).take L.length=L) (h1:off+L.length<=es.length) (h2:st<=off+cp) (h3:L.length<=cp):Row s sz (.sl o off L.length cp) L
def New (s:St)(d:D):Prop:=∀o a l c,d= .sl o a l c->s.n<=o
variable {T:Nat->Option dU}{H:ay}{b kk:Nat}{k:List iT}{s:St}{Q:QP}{t sz:Nat}{e:Env}{ds:List (D×List D)}{g:Option (Nat×Bool)}{d:D}{L:List D}
theorem Row.items (h:Row s sz d L):∃z,items s d=some (z,L)/\(z=sz\/L=[]/\∃nl,d= .vs nl z []):=by
 rcases h with ⟨nl,z,L,hz⟩ | ⟨o,off,cp,ty,st,es,L,hg,hL,h1,h2,h3⟩
 ·exact⟨z,rfl,by rcases hz with hz | rfl; exact .inl hz; exact .inr ⟨rfl,nl,rfl⟩⟩
 ·refine⟨sz, ?_,.inl rfl⟩;have e1:Nat.ble (off+L.length) es.length=true:=au h1;have e2:Nat.ble st (off+cp)=true:=au h2;simp only [Ab.items,hg,e1,e2,hL]
theorem Row.sh (h:Row s sz d L):(∃nl z,d= .vs nl z L)\/∃o off cp,d= .sl o off L.length cp:=by
 rcases h with ⟨nl,z,L,hz⟩ | ⟨o,off,cp,ty,st,es,L,hg,hL,h1,h2,h3⟩
 ·exact .inl ⟨nl,z,rfl⟩
 ·exact .inr ⟨o,off,cp,rfl⟩
theorem Row.yS (h:Row s sz d L)(r:List D):yS (d::r)=false:=by
 rcases h.sh with ⟨nl,z,rfl⟩ | ⟨o,off,cp,rfl⟩ <;> rfl
theorem Row.len (h:Row s sz d L):o8 s 1 d=some L.length:=by
 rcases h with ⟨nl,z,L,hz⟩ | ⟨o,off,cp,ty,st,es,L,hg,hL,h1,h2,h3⟩ <;> rfl
theorem Row.at (h:Row s sz d L){j:Nat}{v:D}(hv:L[j]? =some v):∃p,ke s sz d j=some p/\∀n,iP s n p=part v.flat 0 n:=by
 have hj:=(aj.mp hv).1;rcases h with ⟨nl,z,L,hz⟩ | ⟨o,off,cp,ty,st,es,L,hg,hL,h1,h2,h3⟩
 ·rcases hz with rfl | rfl
  ·exact⟨.jD v 0,by simp only [ke,aA,hv],fun n=>rfl⟩
  ·simp at hv
 ·have e0:Nat.blt j L.length=true:=au (mn hj);have e1:Nat.ble (off+L.length) es.length=true:=au h1;have e2:Nat.ble st (off+cp)=true:=au h2;have e3:es[off+j]? =some v:=by
   rw [← hL,de,bT (by omega),cX]at hv;exact hv
  exact⟨.jI o (off+j) 0 (off+cp),by simp only [ke,hg,aA,e0,e1,e2],fun n=>by simp only [iP,hg,e2,e3]⟩
theorem Row.at' (h:Row s sz d L){j:Nat}{v:D}(hv:L[j]? =some v):∃p,ke s sz d j=some p/\(∀n,iP s n p=part v.flat 0 n)/\(∀(e:Env) t,(bP.t t).ev ((t,p)::e)=some p)/\(match p with | .lv _=>true | _=>false)=false:=by
 obtain⟨p,h1,h2⟩:=h.at hv;refine⟨p,h1,h2, ?_⟩;rcases h with ⟨nl,z',L,hz⟩ | ⟨o,off,cp,ty,st,es,L,hg,hL,_,_,_⟩
 ·simp only [ke]at h1;split at h1
  ·split at h1
   ·cases h1; exact ⟨fun e t=>by simp [bP.ev,Env.get],rfl⟩
   ·cases h1
  ·cases h1
 ·simp only [ke,hg]at h1;split at h1
  ·cases h1; exact ⟨fun e t=>by simp [bP.ev,Env.get],rfl⟩
  ·cases h1
theorem Row.take (h:Row s sz d L){n:Nat}(hn:n<=L.length):∃d',uG d 0 (some n) none=some d' /\Row s sz d' (L.take n)/\∀o a l c,d' = .sl o a l c->∃l' c',d= .sl o a l' c' :=by
 have e0:Nat.ble 0 n=true:=au (aS _);rcases h with ⟨nl,z,L,hz⟩ | ⟨o,off,cp,ty,st,es,L,hg,hL,h1,h2,h3⟩
 ·have e1:Nat.ble n L.length=true:=au hn;have e2:Nat.ble L.length L.length=true:=au (aq _);refine⟨.vs nl z (L.take n),by simp only [uG,Option.getD,e0,e1,e2,gz],.vs nl z _ ?_,fun o a l c h=>by cases h⟩;rcases hz with hz | rfl
  ·exact .inl hz
  ·exact .inr (by simp)
 ·have e1:Nat.ble n cp=true:=au (by omega);have hl:(L.take n).length=n:=by rw [cM]; omega
  refine⟨.sl o off n cp,by simp only [uG,Option.getD,e0,e1,fP,Nat.sub_zero], ?_,fun o' a l c h=>by cases h; exact ⟨_,_,rfl⟩⟩;have:=Row.sl (s:=s) (sz:=sz) o off cp ty st es (L.take n) hg (by rw [hl]; rw [← hL,List.take_take]; congr 1; omega) (by omega) h2 (by omega);rwa [hl]at this
theorem Row.dK {W:Nat->Prop}{s1:St}(h:Row s sz d L)(hs:s.Ok)(hb:aF W s s1)(hw:∀o a l c,d= .sl o a l c-> ¬ W o):Row s1 sz d L:=by
 rcases h with ⟨nl,z,L,hz⟩ | ⟨o,off,cp,ty,st,es,L,hg,hL,h1,h2,h3⟩
 ·exact .vs nl z L hz
 ·exact .sl o off cp ty st es L (hb.get hs hg (hw _ _ _ _ rfl)) hL h1 h2 h3
theorem Row.ev {i:Nat}(h:Row s sz d L)(hg:e.get i=some d):(bP.t i).ev e=some d:=by
 rcases h.sh with ⟨nl,z,rfl⟩ | ⟨o,off,cp,rfl⟩ <;> simp only [bP.ev,hg]
theorem Row.lv (h:Row s sz d L):(match (generalizing:=false) d with | .lv _=>true | _=>false)=false:=by
 rcases h.sh with ⟨nl,z,rfl⟩ | ⟨o,off,cp,rfl⟩ <;> rfl
theorem HD {i:Nat}{l:List bg}(h:gG T H b l k ⟨(t,d)::e,ds⟩ s Q)(hw:aI e g=some true:=by rfl)(hg:e.get i=some d:=by rfl)(hR:Row s sz d L:=by assumption):gG T H b (⟨some t,.mv (.t i),g,none⟩::l) k ⟨e,ds⟩ s Q:=
 du h hw (by rcases hR.sh with ⟨nl,z,rfl⟩ | ⟨o,off,cp,rfl⟩ <;> simp only [cC,bP.yP,hg,nj])
theorem Dj {i:Nat}{l:List bg}(h:gG T H b l k ⟨(t,.int .i64 (L.length:Nat))::e,ds⟩ s Q)(hw:aI e g=some true:=by rfl)(hg:e.get i=some d:=by rfl)(hR:Row s sz d L:=by assumption):gG T H b (⟨some t,.len 1 (.t i),g,none⟩::l) k ⟨e,ds⟩ s Q:=
 du h hw (by have hx:=hR.ev hg; rcases hR with ⟨nl,z,L,hz⟩ | ⟨o,off,cp,ty,st,es,L,hg,hL,h1,h2,h3⟩ <;> simp only [cC,hx,o8,Fq])
theorem B0 {x:Nat}{i:bP}{l:List bg}{n v w:D}{j t1 t2:Nat}{m:Option Nat}{g1 g2:Option (Nat×Bool)}(hR:Row s sz d L)(he:L[j]? =some v)(h:∀p,gG T H b l k ⟨(t2,w)::(t1,p)::e,ds⟩ s Q)(hp:part v.flat 0 m=some w:=by rfl)(hw:aI e g1=some true:=by rfl)(hg:e.get x=some d:=by rfl)(hi:i.ev e=some n:=by rfl)(hj:idx n=some j:=by first | exact jz | rfl | exact gY (by omega))(Nw:∀p,aI ((t1,p)::e) g2=some true:=by intro p; rfl):gG T H b (⟨some t1,.jY sz (.t x) i,g1,none⟩::⟨some t2,.load m (.t t1),g2,none⟩::l) k ⟨e,ds⟩ s Q:=by
 have hx:=hR.ev hg;obtain⟨p,h1,h2,h3,_⟩:=hR.at' he;refine du (d:=p) (s1:=s) ?_ hw (by simp only [cC,hx,hi,hj,h1,nj]);exact du (h p) (Nw p) (by simp only [cC,ij,h3,h2,hp,nj])
theorem DX {x:Nat}{hi:bP}{l:List bg}{n:D}{m:Nat}(hR:Row s sz d L)(hm:m<=L.length)(h:∀d',Row s sz d' (L.take m)->(∀o a l c,d' = .sl o a l c->∃l' c',d= .sl o a l' c')->gG T H b l k ⟨(t,d')::e,ds⟩ s Q)(hw:aI e g=some true:=by rfl)(hg:e.get x=some d:=by rfl)(W8:hi.ev e=some n:=by rfl)(hj:idx n=some m:=by first | exact jz | rfl | exact gY (by omega)):gG T H b (⟨some t,.HE sz (.t x) none (some hi) none,g,none⟩::l) k ⟨e,ds⟩ s Q:=by
 have hx:=hR.ev hg;obtain⟨d',h1,h2,h3⟩:=hR.take hm;obtain⟨z,h4,h5⟩:=hR.items;refine du (h d' h2 h3) hw ?_;have e1:sJ e none=some none:=rfl;have e2:sJ e (some hi)=some (some n):=by simp [sJ,W8]
 have e3:lH 0 none=some 0:=rfl;have e4:lH 0 (some n)=some m:=hj;rcases h5 with rfl | ⟨rfl,nl,rfl⟩
 ·simp only [cC,hx,e1,e2,e3,e4,h4,aA,eP,fZ,h1,nj]
 ·simp only [cC,hx,e1,e2,e3,e4,h4,kU,fZ,h1,nj]
theorem Q3 {x:bP}{y:Nat}{l:List bg}{bytes ty z0:Nat}{es:List D}(hR:Row s sz d L)(ha:eI sz L=true)(hm:L.length<=aL)(h0:L=[]->gG T H b l k ⟨(t,.vs true z0 es)::e,ds⟩ s Q)(h1:L≠ []->gG T H b l k ⟨(t,.sl s.n 0 L.length L.length)::e,ds⟩ (s.bz (.arr sz ty L 0)) Q)
  (hw:aI e g=some true:=by rfl)(hx:x.ev e=some (.vs true z0 es):=by rfl)(hgy:e.get y=some d:=by rfl)(hs:s.Ok:=by exact oI)(hb:Nat.ble bytes 4096=true:=by rfl):gG T H b (⟨some t,.append sz bytes ty x (.t y),g,none⟩::l) k ⟨e,ds⟩ s Q:=by
 have hy:=hR.ev hgy;obtain⟨z,h4,h5⟩:=hR.items;by_cases hL:L=[]
 ·subst hL;exact NK h4 (h0 rfl) hw hx hy hb
 ·rcases h5 with rfl | ⟨h5,_⟩
  ·exact EA h4 rfl hL ha hm (h1 hL) hw hx hy hs hb
  ·exact absurd h5 hL
theorem Dx {x:bP}{r:List bP}{l:List D}(h1:x.ev e=some d)(h2:sg e r=some l:=by rfl):sg e (x::r)=some (d::l):=by simp only [sg,h1,h2]
theorem Ky {f:Nat}{args:List bP}{x:List D}{l:List bg}(hx:sg e args=some x)(h:Call T H f x (some t) b l k ⟨e,ds⟩ s Q)(hw:aI e g=some true:=by rfl):gG T H b (⟨some t,.call false f args,g,none⟩::l) k ⟨e,ds⟩ s Q:=zh h hw hx
theorem j8 {x:bP}{l:List bg}(dN:d.st=true)(h:gG T H b l k ⟨(t,.lv d)::e,ds⟩ s Q)(hw:aI e g=some true:=by rfl)(hx:x.ev e=some d:=by rfl)(hL:e.tQ t=true:=by rfl):gG T H b (⟨some t,.nv x,g,none⟩::l) k ⟨e,ds⟩ s Q:=xG h hw hx (by rw [hL,dN]; rfl)
theorem fJ {a z c:Nat}{x v:bP}{cs l1:List D}{l:List bg}(dN:d.st=true)(h:gG T H b l k ⟨(a,.lv (.agg l1))::e,ds⟩ s Q)(hw:aI e g=some true:=by rfl)(hx:x.yP e=some (.iG a c):=by rfl)(hv:v.ev e=some d:=by rfl)(ha:e.get a=some (.lv (.agg cs)):=by rfl)(hz:Nat.beq d.flat.length z=true:=by rfl)(hb:Nat.ble (c+d.flat.length) cs.length=true:=by rfl)(ho:over cs c d.flat=l1:=by rfl):gG T H b (⟨none,.iX a z x v,g,none⟩::l) k ⟨e,ds⟩ s Q:=
 dW h hw hx hv ha hz (by simp only [D.over,dN,hb,ho])
theorem G7 {x:Nat}{l:List bg}{bs:List UInt8}(hR:Row s 1 d L)(hc:mf L=some bs)(h:gG T H b l k ⟨(t,.str bs)::e,ds⟩ s Q)(hw:aI e g=some true:=by rfl)(hg:e.get x=some d:=by rfl):gG T H b (⟨some t,.kB (.t x),g,none⟩::l) k ⟨e,ds⟩ s Q:=by
 have hx:=hR.ev hg;obtain⟨z,h4,h5⟩:=hR.items;refine du h hw ?_;rcases h5 with rfl | ⟨rfl,nl,rfl⟩
 ·simp only [cC,hx,h4,aA,eP,hc]
 ·simp only [cC,hx,h4,kU,hc]
theorem jL {f:Nat}{x:List D}{dst:Option Nat}{l:List bg}{fr:Fr}(P:St->Prop)(hP:P s)(h:∀p,P p->Call T H f x dst b l k fr p Q):Call T H f x dst b l k fr s Q:=h s hP
theorem BO {ex:Ex}{fr:Fr}(P:St->Prop)(hP:P s)(h:∀p,P p->lg T H ex k fr p Q):lg T H ex k fr s Q:=h s hP
theorem Lt {a:AC}{fr:Fr}(P:St->Prop)(hP:P s)(h:∀p,P p->eH T H a k fr p Q):eH T H a k fr s Q:=h s hP
theorem Ci {l:List (bg×List Nat)}{acc:List Fp}{fr:Fr}(P:St->Prop)(hP:P s)(h:∀p,P p->fU T H b kk l acc k fr p Q):fU T H b kk l acc k fr s Q:=h s hP
theorem Row.sc (h:Row s sz d L):d.sc=true:=by
 rcases h.sh with ⟨nl,z,rfl⟩ | ⟨o,off,cp,rfl⟩ <;> rfl
def dnI (N:Nat)(F:Nat->Env)(I:Nat->St->Prop):Nat->Env->St->Prop:=fun m env s=>m<=N/\env=F m/\I m s
theorem Wf {bV:List Nat}{a:AC}{fr:Fr}{x y:D}(N:Nat)(F:D->D->Nat->Env)(I:Nat->St->Prop)(hI:I N s)(h:∀m s,m<=N->I m s->eH T H a (.loop (dnI N (F x y) I) bV m::k) ⟨F x y m,[]⟩ s Q)(hd:fr.defers=[]:=by rfl)(hF:fr.env.bV bV=F x y N:=by rfl)(hb:a.ig=false:=by rfl):eH T H (.loop bV a) k fr s Q:=by
 refine cg (dnI N (F x y) I) N hd ⟨aq _,hF,hI⟩ ?_ hb;rintro m env s ⟨hm,rfl,hI⟩;exact h m s hm hI
theorem XB {N:Nat}{F:Nat->Env}{I:Nat->St->Prop}{bV:List Nat}{fr:Fr}{m:Nat}(hm:m+1<=N)(hI:I m s)(hd:fr.defers=[]:=by rfl)(hF:fr.env.bV bV=F m:=by rfl):lg T H .normal (.loop (dnI N F I) bV (m+1)::k) fr s Q:=
 bf m (by omega) hd ⟨by omega,hF,hI⟩
section
variable {fp:Fp}{acc:List Fp}{q:List Nat}{l:List (bg×List Nat)}
theorem uJ {x:Nat}{i:bP}{n v w:D}{j t1 t2:Nat}{m:Option Nat}{g1 g2:Option (Nat×Bool)}{q2:List Nat}(hR:Row s sz d L)(he:L[j]? =some v)
  (h:∀p fp fp',fU T H b kk l (acc++ [fp]++ [fp']) k ⟨(t2,w)::(t1,p)::e,ds⟩ s Q)(hq:q=[]:=by rfl)(zW:q2=[]:=by rfl)(hp:part v.flat 0 m=some w:=by rfl)(hw:aI e g1=some true:=by rfl)(hg:e.get x=some d:=by rfl)(hi:i.ev e=some n:=by rfl)(hj:idx n=some j:=by first | exact jz | rfl | exact gY (by omega))(Nw:∀p,aI ((t1,p)::e) g2=some true:=by intro p; rfl)
  (kz:Env.cY e (some t1)=false:=by rfl)(qq:∀p,Env.cY ((t1,p)::e) (some t2)=false:=by intro p; rfl)(P0:(match (generalizing:=false) w with | .lv _=>true | _=>false)=false:=by rfl):fU T H b kk ((⟨some t1,.jY sz (.t x) i,g1,none⟩,q)::(⟨some t2,.load m (.t t1),g2,none⟩,q2)::l) acc k ⟨e,ds⟩ s Q:=by
 have hx:=hR.ev hg;subst hq zW;obtain⟨p,h1,h2,h3,h4⟩:=hR.at' he;refine fj (d:=p) (s1:=s) (BL) kz (kI h4) ?_ hw (by simp only [cC,hx,hi,hj,h1,nj]) rfl;exact fj (d:=w) (s1:=s) BL (qq p) (kI P0) (h p _ _) (Nw p) (by simp only [cC,ij,h3,h2,hp,nj]) rfl
theorem E1 {i:Nat}(h:fU T H b kk l (acc++ [fp]) k ⟨(t,d)::e,ds⟩ s Q)(hw:aI e g=some true:=by rfl)(hg:e.get i=some d:=by rfl)(hR:Row s sz d L:=by assumption)
  (hf:cF b e ⟨some t,.mv (.t i),g,none⟩=fp:=by exact fI)(hc:fh acc fp q=true:=by exact cI)(kz:Env.cY e (some t)=false:=by rfl):fU T H b kk ((⟨some t,.mv (.t i),g,none⟩,q)::l) acc k ⟨e,ds⟩ s Q:=by
 subst hf;exact fj hc kz (kI hR.lv) h hw (by rcases hR.sh with ⟨nl,z,rfl⟩ | ⟨o,off,cp,rfl⟩ <;> simp only [cC,bP.yP,hg,nj]) rfl
theorem tw {g P:Prop}(h:g)(f:aaN g->P:=by intro xo; (first | refine Go.Ab.Sm.go ?_ | refine HD ?_ | refine Dj ?_ | refine E1 ?_); (repeat' first | refine Go.Ab.Sm.go ?_ | refine HD ?_ | refine Dj ?_ | refine E1 ?_); exact xo.out):P:=f ⟨h⟩
end
end Go.Ab.Sm
namespace Go.Proofs.Tab
open Go Go.Ab Go.Ab.Sm
open Go Go.Ab
noncomputable section
def Za:=RK.mk (a:=cf Tryz.f36 36)
def KH:=RK.mk (a:=cf Tryz.f37 37)
def aaQ:=RK.mk (a:=cf Tryz.f69 69)
def RM:=RK.mk (a:=cf Tryz.f70 70)
def Nr:=RK.mk (a:=cf Tryz.f124 124)
def Va:=RK.mk (a:=cf Tryz.f125 125)
def UO:=RK.mk (a:=cf Tryz.f126 126)
def UZ:=RK.mk (a:=cf Tryz.f127 127)
def VE:=RK.mk (a:=cf Tryz.f128 128)
def Vz:=RK.mk (a:=cf Tryz.f129 129)
def VH:=RK.mk (a:=cf Tryz.f130 130)
def Sr:=RK.mk (a:=cf Tryz.f131 131)
def VJ:=RK.mk (a:=cf Tryz.f132 132)
def TH:=RK.mk (a:=cf Tryz.f133 133)
def T3:=RK.mk (a:=cf Tryz.f183 183)
def SL:=RK.mk (a:=cf Tryz.f184 184)
def SO:=RK.mk (a:=cf Tryz.f190 190)
def Vg:=RK.mk (a:=cf Tryz.f196 196)
def Ty:=RK.mk (a:=cf Tryz.f243 243)
def Vd:=RK.mk (a:=cf Tryz.f244 244)
def U2:=RK.mk (a:=cf Tryz.f245 245)
end
structure mz (T:Nat->Option dU):Prop where
 t36:T 36=some Za.1
 t37:T 37=some KH.1
 t69:T 69=some aaQ.1
 t70:T 70=some RM.1
 t124:T 124=some Nr.1
 t125:T 125=some Va.1
 t126:T 126=some UO.1
 t127:T 127=some UZ.1
 t128:T 128=some VE.1
 t129:T 129=some Vz.1
 t130:T 130=some VH.1
 t131:T 131=some Sr.1
 t132:T 132=some VJ.1
 t133:T 133=some TH.1
 t183:T 183=some T3.1
 t184:T 184=some SL.1
 t190:T 190=some SO.1
 t196:T 196=some Vg.1
 t243:T 243=some Ty.1
 t244:T 244=some Vd.1
 t245:T 245=some U2.1
noncomputable section
def Sn:=RK.mk (a:=cf Tryz.f185 185)
def Ue:=RK.mk (a:=cf Tryz.f186 186)
def S4:=RK.mk (a:=cf Tryz.f187 187)
def Tu:=RK.mk (a:=cf Tryz.f193 193)
def SG:=RK.mk (a:=cf Tryz.f194 194)
def Tn:=RK.mk (a:=cf Tryz.f195 195)
def Su:=RK.mk (a:=cf Tryz.f236 236)
def TL:=RK.mk (a:=cf Tryz.f239 239)
def Tj:=RK.mk (a:=cf Tryz.f240 240)
def Ut:=RK.mk (a:=cf Tryz.f241 241)
def Ur:=RK.mk (a:=cf Tryz.f242 242)
def Vt:=RK.mk (a:=cf Tryz.f272 272)
def UQ:=RK.mk (a:=cf Tryz.f273 273)
def Uj:=RK.mk (a:=cf Tryz.f274 274)
def Uv:=RK.mk (a:=cf Tryz.f276 276)
def T8:=RK.mk (a:=cf Tryz.f277 277)
def TZ:=RK.mk (a:=cf Tryz.f278 278)
def SW:=RK.mk (a:=cf Tryz.f279 279)
def UR:=RK.mk (a:=cf Tryz.f293 293)
def Tp:=RK.mk (a:=cf Tryz.f294 294)
def Uw:=RK.mk (a:=cf Tryz.f295 295)
def Iy:=RK.mk (a:=cf Tryz.f296 296)
def SB:=RK.mk (a:=cf Tryz.f297 297)
end
structure nK (T:Nat->Option dU):Prop where
 t185:T 185=some Sn.1
 t186:T 186=some Ue.1
 t187:T 187=some S4.1
 t193:T 193=some Tu.1
 t194:T 194=some SG.1
 t195:T 195=some Tn.1
 t236:T 236=some Su.1
 t239:T 239=some TL.1
 t240:T 240=some Tj.1
 t241:T 241=some Ut.1
 t242:T 242=some Ur.1
 t272:T 272=some Vt.1
 t273:T 273=some UQ.1
 t274:T 274=some Uj.1
 t276:T 276=some Uv.1
 t277:T 277=some T8.1
 t278:T 278=some TZ.1
 t279:T 279=some SW.1
 t293:T 293=some UR.1
 t294:T 294=some Tp.1
 t295:T 295=some Uw.1
 t296:T 296=some Iy.1
 t297:T 297=some SB.1
noncomputable section
def T9:=RK.mk (a:=cf Tryz.f121 121)
def VN:=RK.mk (a:=cf Tryz.f122 122)
def Sx:=RK.mk (a:=cf Tryz.f123 123)
def UA:=RK.mk (a:=cf Tryz.f181 181)
def Ui:=RK.mk (a:=cf Tryz.f182 182)
def Td:=RK.mk (a:=cf Tryz.f188 188)
def Vy:=RK.mk (a:=cf Tryz.f189 189)
def S3:=RK.mk (a:=cf Tryz.f191 191)
def Te:=RK.mk (a:=cf Tryz.f192 192)
def MK:=RK.mk (a:=cf Tryz.f234 234)
def TD:=RK.mk (a:=cf Tryz.f235 235)
def TM:=RK.mk (a:=cf Tryz.f237 237)
def VD:=RK.mk (a:=cf Tryz.f238 238)
def Tt:=RK.mk (a:=cf Tryz.f271 271)
end
structure nB (T:Nat->Option dU):Prop where
 t121:T 121=some T9.1
 t122:T 122=some VN.1
 t123:T 123=some Sx.1
 t181:T 181=some UA.1
 t182:T 182=some Ui.1
 t188:T 188=some Td.1
 t189:T 189=some Vy.1
 t191:T 191=some S3.1
 t192:T 192=some Te.1
 t234:T 234=some MK.1
 t235:T 235=some TD.1
 t237:T 237=some TM.1
 t238:T 238=some VD.1
 t271:T 271=some Tt.1
theorem Ws.row {s:St}{x:D}{V:List Nat}(h:Ws s x V):Row s 1 x (dz V):=by
 rcases h with ⟨nl,V,hn⟩ | _ | ⟨o,cp,V,R,hg,hc⟩
 ·exact .vs nl 1 _ (.inl rfl)
 ·exact .vs true 0 _ (.inr rfl)
 ·have:=Row.sl (s:=s) (sz:=1) o 0 cp _ 0 _ (dz V) hg (by simp) (by simp) (aS _) (by rw [cQ]; exact hc);rwa [cQ]at this
theorem Ws.new {s:St}{V:List Nat}(cE:V≠ []):Ws (s.bz (.arr 1 194 (dz V) 0)) (.sl s.n 0 (dz V).length (dz V).length) V:=by
 rw [cQ];exact .sl s.n V.length V [] (by rw [dZ]; exact St.bu) (aq _)
theorem Jc (ng:Bool)(V:List Nat):eh ng V=(ng && decide (0 < (bU V).length),bU V):=by
 unfold eh;split <;> rename_i h <;> simp [h]
theorem abg {s:St}{nl:Bool}{z:Nat}{L:List D}:New s (.vs nl z L):=fun o a l c h=>by cases h
theorem abh {s:St}{n m:Nat}:New s (.sl s.n 0 n m):=fun o a l c h=>by cases h; exact aq _
section
variable {T:Nat->Option dU}{H:ay}{s:St}
theorem LQ (hT:nB T){x:D}{V:List Nat}(hs:s.Ok)(hx:Row s 1 x (dz V))(hV:V.length<=aL):cu T H 234 [x] s fun d s1=>Ws s1 d (bU V)/\New s d/\aF Nil s s1:=by
 have lZ:aL=2147483648:=rfl;have e0:decide (((0:Nat):Int) > 0)=false:=rfl;have hl:(dz V).length=V.length:=cQ V;have fin:∀ {E:Env} {d' :D} {q:Nat} {x:D},bU V=V.take q->Row s 1 d' ((dz V).take q)->gG T H 0 [⟨some 23,.append 1 4 194 (.t 19) (.t 22),none,none⟩,m 2 23] [.seq (.ret)] ⟨(22,d')::(21,.int .i64 (q:Nat))::(20,x)::(19,.vs true 0 [])::E,[]⟩ s (QF MK.1.results fun d s1=>Ws s1 d (bU V)/\New s d/\aF Nil s s1):=by
  intro E d' q x h1 h2;rw [← List.map_take,← h1]at h2;refine Q3 h2 (pg _) (by rw [cQ,h1,cM]; omega) (fun h3=> ?_) (fun h3=> ?_)
  ·try refine go ?_
   refine ai ⟨?_,abg,aF.refl hs⟩;rw [nX]at h3;rw [h3]; exact .nil
  ·try refine go ?_
   refine ai ⟨?_,abh,(aF.refl hs).push _⟩;exact Ws.new (by simpa using h3)
 refine ax hT.t234 ?_ (hx.yS _);try refine tw ?_
 refine cg (fun m env s' =>s' =s/\m<=(dz V).length/\env=[(0,x),(2,.vs true 0 []),(3,.int .i64 (m:Nat))]/\bU (V.take m)=bU V) (dz V).length rfl ⟨rfl,aq _,rfl,by rw [hl,eE]⟩ ?_;rintro m env s' ⟨rfl,hm,rfl,ht⟩;rw [hl]at hm;cases m with
 | zero=>
  try refine tw ?_
  refine DX hx (m:=0) (aS _) fun d' h1 h2=> ?_;exact fin (q:=0) (by rw [← ht]; rfl) h1
 | succ m=>
  have dM:m < V.length:=by omega
  have hd:=eJ (((m+1:Nat):Int) > 0);have hw:IntKind.wrap .i64 (((m+1:Nat):Int) - 1)=(m:Nat):=by rw [wrap_small (by omega) (by omega)]; omega
  have he:(dz V)[m]? =some (.int .u32 (V[m]:Nat)):=pH dM;by_cases h0:V[m]=0
  ·have hb:((V[m]:Int)==0)=true:=by simpa using h0
   try refine tw ?_
   simp only [hw];refine B0 hx he fun p=> ?_;try refine tw ?_
   simp only [hw];refine bf m (by omega) rfl ⟨rfl,by omega,rfl, ?_⟩;rw [← ht,oG V dM,h0,lR]
  ·have hb:((V[m]:Int)==0)=false:=by simpa using h0
   have e1:bU V=V.take (m+1):=by rw [← ht,oG V dM,lO h0]
   try refine tw ?_
   simp only [hw];refine B0 hx he fun p=> ?_;try refine tw ?_
   refine DX hx (m:=m+1) (by rw [hl]; omega) fun d' h1 h2=> ?_;exact fin (q:=m+1) e1 h1
theorem uY (hT:nB T){x:D}{V:List Nat}{ng:Bool}(hs:s.Ok)(hx:Row s 1 x (dz V))(hV:V.length<=aL):cu T H 182 [.bool ng,x] s fun d s1=>qD s1 d (eh ng V)/\aF Nil s s1:=by
 have ht:=LQ (H:=H) hT hs hx hV;have fin:∀d s1,Ws s1 d (bU V)->∀c,c=(ng && decide (0 < (bU V).length))->qD s1 (.agg [.bool c,d]) (eh ng V):=fun d s1 h c hc=>by rw [Jc,hc]; exact ⟨_,rfl,h⟩
 have hl:=cQ (bU V);rcases hx.sh with ⟨nl,z,rfl⟩ | ⟨o,off,cp,rfl⟩
 all_goals
  refine ax hT.t182 ?_;try refine go ?_
  refine ak ht ?_;rintro d s1 ⟨h1,h2,h3⟩;rcases h1.row.sh with ⟨nl,z,rfl⟩ | ⟨o,off,cp,rfl⟩ <;> cases ng
  all_goals
   try refine go ?_
   refine ai ⟨fin _ _ h1 _ ?_,h3⟩;simp [hl]
theorem uB (hT:nB T){d:D}{n:Bool×List Nat}(hs:s.Ok)(hx:qD s d n)(hV:n.2.length<=aL):cu T H 123 [d] s fun d s1=>qD s1 d (eh n.1 n.2)/\aF Nil s s1:=by
 obtain⟨y,rfl,hy⟩:=hx;have hm:=uY (H:=H) (ng:=n.1) hT hs hy.row hV;rcases hy.row.sh with ⟨nl,z,rfl⟩ | ⟨o,off,cp,rfl⟩
 all_goals
  refine ax hT.t123 ?_;try refine go ?_
  refine ak hm ?_;rintro d s1 ⟨⟨y2,rfl,h1⟩,h2⟩;rcases h1.row.sh with ⟨nl,z,rfl⟩ | ⟨o,off,cp,rfl⟩
  all_goals
   try refine go ?_
   exact ai ⟨⟨_,rfl,h1⟩,h2⟩
theorem Hc (hT:nB T){v:Int}(hs:s.Ok)(hv:v=0\/v=1\/v= -7):cu T H 189 [.int .i64 v] s fun d s1=>(∃n,qD s1 d n/\n.2.length<=2)/\aF Nil s s1:=by
 have le:∀(ng:Bool) (a b:Nat),(eh ng [a,b]).2.length<=2:=fun ng a b=>mh ng [a,b];have lZ:2<=aL:=by decide
 refine ax hT.t189 ?_;rcases hv with rfl | rfl | rfl
 ·try refine go ?_
  refine ak (uY (V:=[0,0]) hT hs (.vs false 1 _ (.inl rfl)) lZ) ?_;rintro d s1 ⟨⟨y2,rfl,h1⟩,h2⟩;rcases h1.row.sh with ⟨nl,z,rfl⟩ | ⟨o,off,cp,rfl⟩
  all_goals
   try refine go ?_
   exact ai ⟨⟨_,⟨_,rfl,h1⟩,le _ _ _⟩,h2⟩
 ·try refine go ?_
  refine ak (uY (V:=[1,0]) hT hs (.vs false 1 _ (.inl rfl)) lZ) ?_;rintro d s1 ⟨⟨y2,rfl,h1⟩,h2⟩;rcases h1.row.sh with ⟨nl,z,rfl⟩ | ⟨o,off,cp,rfl⟩
  all_goals
   try refine go ?_
   exact ai ⟨⟨_,⟨_,rfl,h1⟩,le _ _ _⟩,h2⟩
 ·try refine go ?_
  refine ak (uY (V:=[7,0]) hT hs (.vs false 1 _ (.inl rfl)) lZ) ?_;rintro d s1 ⟨⟨y2,rfl,h1⟩,h2⟩;rcases h1.row.sh with ⟨nl,z,rfl⟩ | ⟨o,off,cp,rfl⟩
  all_goals
   try refine go ?_
   exact ai ⟨⟨_,⟨_,rfl,h1⟩,le _ _ _⟩,h2⟩
end
end Go.Proofs.Tab
