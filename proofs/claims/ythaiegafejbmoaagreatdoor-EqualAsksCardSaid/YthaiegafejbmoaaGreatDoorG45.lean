/- Part. -/
import Derived.Test.YthaiegafejbmoaaGreatDoorChecked
import Derived.Test.YthaiegafejbmoaaGreatDoorG42
import Derived.Shelf.Unicode.ValidAny
import Derived.Shelf.Strconv.Itoa3
import Derived.Below
set_option linter.unusedSectionVars false
set_option maxRecDepth 100000
set_option linter.unusedSimpArgs false
set_option linter.unusedVariables false
namespace Go.Proofs.Tab
open Go Go.Ab Go.Proofs
variable [Go.Ab.eh]
theorem Yl:lZ Tryz.prog 225 (.idp):=⟨⟨Tryz.f225,Extern.AbiNoEscape.same,Tryz.func225,by kernel_rfl,by kernel_rfl,by kernel_rfl,by kernel_rfl,rfl⟩⟩
theorem Hp:nD Tryz.prog gl exts Qz:=Wz
theorem Ci:∀f k,exts f=some k->lZ Tryz.prog f k:=by
 intro f k h;unfold exts at h;cases hb:Nat.beq f 225
 case true=>
  obtain rfl:=ay hb;simp only [hb,cond,aa]at h; subst h;exact Yl
 simp only [hb,cond]at h;cases h
theorem mixed:Tryz.prog.follows .mixedOrders=true:=by kernel_rfl
end Go.Proofs.Tab
namespace Go.Proofs.Tab
open Go Go.Ab
noncomputable def wA:Nat->Option dJ:=qP Qz [4,83,125]
theorem fz {n:Nat}{a:Option dJ}(c:RK a)(h:wA n=a:=by kernel_rfl):wA n=some c.1:=h.trans c.2
theorem ab6:TW wA:=⟨fz VZ,fz Wo,fz Mn,fz Mx,fz MF,fz MZ⟩
theorem ab5:TV wA:=⟨fz Wd,fz Wf,fz Wg,fz Wy,fz HL,fz Ml,fz Mm,fz Mo,fz MC,fz pS,fz ME,fz MG,fz MH,fz MI,fz M4,fz yn,fz Nh,fz Nn⟩
theorem ab3:TT wA:=⟨fz Ms,fz HM,fz Mv,fz MA,fz MN,fz MR,fz MS,fz MT,fz MU,fz MV,fz MW,fz MX,fz MY,fz M0,fz M1,fz M5,fz M6,fz M7,fz M8,fz M9,fz HN,fz Na,fz HP,fz Nb,fz Nc,fz Nd,fz Nf,fz Ng,fz Ni,fz Nj,fz Nk,fz Nl,fz Nw,fz Nx,fz Ny,fz Nz,fz NA,fz NB⟩
theorem ab0:TP wA:=⟨fz Wh,fz RT,fz Wi,fz Wu,fz Mq,fz Mr,fz Mt,fz Mu,fz MD,fz MJ,fz MK,fz ML,fz MO,fz MP,fz MQ⟩
theorem ab2:TS wA:=⟨fz VM,fz RR,fz VN,fz RS,fz VO,fz VP,fz VQ,fz VR,fz VS,fz VT,fz VU,fz lV,fz VV,fz VW,fz VX,fz VY,fz V0,fz V5,fz V6,fz V7,fz V8,fz V9,fz Wa,fz Wb,fz Wc,fz We,fz Wj,fz Wk,fz Wl,fz Wm,fz Wn,fz Wq,fz Wr,fz Wt,fz Wv,fz Ww,fz Wx,fz Mj,fz Mp,fz Mw,fz My,fz Mz,fz MB,fz M3,fz No,fz Np,fz Nq,fz Nr,fz Ns,fz Nt,fz Nu,fz Nv⟩
theorem ab7:TX wA:=⟨fz DA,fz Ul,fz Um,fz Un,fz Uo,fz Up,fz Uq,fz Ur⟩
theorem ab1:TQ wA:=⟨fz Jn,fz cd5,fz Y3⟩
noncomputable def u9:Nat->Option dJ:=qP Qz [4,5,83,125]
theorem ez {n:Nat}{a:Option dJ}(c:RK a)(h:u9 n=a:=by kernel_rfl):u9 n=some c.1:=h.trans c.2
theorem abY:TW u9:=⟨ez VZ,ez Wo,ez Mn,ez Mx,ez MF,ez MZ⟩
theorem abX:TV u9:=⟨ez Wd,ez Wf,ez Wg,ez Wy,ez HL,ez Ml,ez Mm,ez Mo,ez MC,ez pS,ez ME,ez MG,ez MH,ez MI,ez M4,ez yn,ez Nh,ez Nn⟩
theorem abW:TT u9:=⟨ez Ms,ez HM,ez Mv,ez MA,ez MN,ez MR,ez MS,ez MT,ez MU,ez MV,ez MW,ez MX,ez MY,ez M0,ez M1,ez M5,ez M6,ez M7,ez M8,ez M9,ez HN,ez Na,ez HP,ez Nb,ez Nc,ez Nd,ez Nf,ez Ng,ez Ni,ez Nj,ez Nk,ez Nl,ez Nw,ez Nx,ez Ny,ez Nz,ez NA,ez NB⟩
theorem abU:TP u9:=⟨ez Wh,ez RT,ez Wi,ez Wu,ez Mq,ez Mr,ez Mt,ez Mu,ez MD,ez MJ,ez MK,ez ML,ez MO,ez MP,ez MQ⟩
theorem abV:TS u9:=⟨ez VM,ez RR,ez VN,ez RS,ez VO,ez VP,ez VQ,ez VR,ez VS,ez VT,ez VU,ez lV,ez VV,ez VW,ez VX,ez VY,ez V0,ez V5,ez V6,ez V7,ez V8,ez V9,ez Wa,ez Wb,ez Wc,ez We,ez Wj,ez Wk,ez Wl,ez Wm,ez Wn,ez Wq,ez Wr,ez Wt,ez Wv,ez Ww,ez Wx,ez Mj,ez Mp,ez Mw,ez My,ez Mz,ez MB,ez M3,ez No,ez Np,ez Nq,ez Nr,ez Ns,ez Nt,ez Nu,ez Nv⟩
theorem aaE:lC u9:=⟨ez cd6,ez NC,ez cd8,ez cd9,ez Y4,ez Y5,ez Y6,ez Y7,ez Y8,ez Y9,ez Za,ez Zb,ez Zc,ez Zd,ez Ze,ez Zf,ez Zg,ez Zh,ez Zi,ez Zj,ez Zk,ez Zl,ez Zm,ez Zn,ez Zo,ez Zp,ez Zq,ez Zr,ez Zs,ez Zt,ez Zu,ez Uk,ez Us,ez Ut,ez Uu⟩
theorem ez3:u9 3=some Jn.1:=ez Jn
end Go.Proofs.Tab
namespace Go.Ab
open Go
variable [eh]
theorem IU {ρ:Gh}{w:World}{sz b:Nat}(h0:0 < sz):∀ {l:List D} {x:Nat},(∀i d,l[i]? =some d->LB ρ w sz b (x+i * sz) d/\d.st=true)->fJ ρ w sz b x l
 | [],x,_=>by simp only [fJ]
 | d::l,x,h=>by
  simp only [fJ];obtain⟨⟨v,h1,h2,h3⟩,h4⟩:=h 0 d rfl;rw [nF,fu]at h3;refine⟨⟨v,h1,h2,h0,h3,h4⟩,IU h0 fun i e he=> ?_⟩;have:=h (i+1) e he;rw [show x+sz+i * sz=x+(i+1) * sz by rw [bJ]; omega];exact this
theorem freeze {ρ0 ρ:Gh}{s0 s:St}{w:World}{o sz ty st:Nat}{es:List D}(h0:bK ρ0 s0 w)(ho0:s0.get o=some (.arr sz ty es st))(hs:bK ρ s w)(ho:s.get o=some (.arr sz ty es st))
  (kA:∀b,ρ.own b= .obj o↔ρ0.own b= .obj o)(Cn:ρ.ext=ρ0.ext)(iC:ρ.sh=ρ0.sh){f:D->D}(hf:∀d v,aR ρ0 w d v->aR ρ w (f d) v)(cG:∀d,d.st=true->(f d).st=true)(dn:es≠ []):
  ∃ρ',Kp ρ w ρ' w/\bK ρ' (s.bn o .dead) w/\(∀b q,q≠o->(ρ'.own b= .obj q↔ρ.own b= .obj q))/\ρ'.ext=ρ.ext/\ρ'.sh=ρ.sh/\∀v,aR ρ0 w (.sl o 0 es.length es.length) v->aR ρ' w (.vs false sz (es.map f)) v:=by
 obtain⟨z1,z2,z3,⟨cur,z4,z5,z6⟩,z7,z8⟩:=h0.ok _ _ ho0;have z2' :∃z,ρ.kd o= .live z:=by obtain ⟨_,q,_⟩:=hs.ok _ _ ho; exact ⟨_,q⟩
 obtain⟨z,z2'⟩:=z2';have Z3:ρ.own cur= .obj o:=(kA cur).2 z4;let ρ1:Gh:= { ρ with own:=fun b=>if b=cur then .za else ρ.own b,kd:=fun q=>if q=o then .dead else ρ.kd q}
 have kM:∀q,q≠o->ρ1.kd q=ρ.kd q:=fun q hq=>by simp [ρ1,hq]
 have OP:∀b,b≠cur->ρ1.own b=ρ.own b:=fun b hb=>by simp [ρ1,hb]
 have hoq:∀b q,q≠o->(ρ1.own b= .obj q↔ρ.own b= .obj q):=fun b q hq=>by
  by_cases hb:b=cur
  ·subst hb;simp only [ρ1,ei,Z3,Own.obj.injEq];constructor
   ·intro h; cases h
   ·intro h; exact absurd h.symm hq
  ·rw [OP b hb]
 have hK:Kp ρ w ρ1 w:=by
  refine⟨rfl,rfl,rfl,aq _,fun b hb hn=>⟨rfl,OP b fun e=>hn o (e ▸ Z3)⟩,fun q hq=> ?_,fun q z' hq=> ?_⟩
  ·have:q≠o:=by rintro rfl; rw [z2']at hq; cases hq
   exact⟨(kM q this).trans hq,rfl⟩
  ·by_cases SD:q=o
   ·exact .inl (by simp [ρ1,SD])
   ·exact .inr ⟨by rw [kM q SD]; exact hq,fun b hb=>⟨(hoq b q SD).2 hb,rfl,aq _,rfl⟩⟩
 refine⟨ρ1,hK,hs.QM hK o .dead (fun b q hq _=>hoq b q hq) kM (fun b q hq _ hb=>⟨rfl,rfl,rfl,rfl⟩) (by simp [oC,ρ1]) (fun b hb=> ?_) (hs.lt _ _ ho) (aq _) (St.eS s o _),hoq,rfl,rfl,fun v hv=> ?_⟩
 ·by_cases hbc:b=cur
  ·simp [ρ1,hbc]
  ·rw [OP b hbc]; exact hs.size b hb
 ·simp only [aR,Gh.at,z2]at hv;obtain⟨b,b1,b2,b3,b4,x,cap,rfl,b6,b7,b8⟩:=hv;have hB:=z7 b b1;have Yx:ρ0.ext b=es.length:=by have:=hB.ext; omega
  obtain rfl:=z6 b b1 Yx;have hl:0 < es.length:=fh.2 dn;have hx:x=0:=by
   rcases b7 with q | q
   ·omega
   ·have:ρ0.sh b=0:=by omega
    rw [q]; simp
  subst hx;have abL:ρ0.sh b=0:=by omega
  simp only [aR];refine .inr ⟨trivial,⟨b,0,none⟩,cap,by rw [aY],by rw [aY]; omega,.inr ⟨b,0,rfl,by simp [ρ1], ?_⟩⟩;refine IU z1 fun i d hd=> ?_;rw [aO]at hd;obtain⟨e,he,rfl⟩:=aW.1 hd;have hi:=(aj.mp he).1;obtain⟨u,u1,u2,u3⟩:=hB.elems (by omega) i e (by omega) (by omega) he;rw [abL,Nat.sub_zero]at u3;rw [aU];exact⟨⟨u,(hf e u u1).mono hK,u2,u3⟩,cG e (gL.1 z8 e (bG he)).2⟩
def nz:D->D
 | .vs true _ []=> .vs true 1 []
 | d=>d
def kz (ko:Nat)(ks:List D):D->D
 | .sl o 0 n m=>bif Nat.beq o ko && (Nat.beq n ks.length && Nat.beq m ks.length) then .vs false 1 ks else .sl o 0 n m
 | d=>nz d
def K8 (ko:Nat)(ks:List D):D->D
 | .agg [a,b,c,m,t,k,h,e]=> .agg [a,b,c,nz m,t,kz ko ks k,h,e]
 | d=>d
theorem PD {ρ:Gh}{w:World}{d:D}{v:Value}(h:aR ρ w d v):aR ρ w (nz d) v:=by
 unfold nz;split
 ·simp only [aR]at h ⊢;rcases h with ⟨_,_,h⟩ | ⟨h,_⟩
  ·exact .inl ⟨trivial,trivial,h⟩
  ·cases h
 ·exact h
theorem PE {d:D}(h:d.sc=true):(nz d).sc=true:=by unfold nz; split <;> first | rfl | exact h
theorem XF {ρ ρ' :Gh}{w:World}{ko:Nat}{ks:List D}(hk:Kp ρ w ρ' w)(GH:∀v,aR ρ w (.sl ko 0 ks.length ks.length) v->aR ρ' w (.vs false 1 ks) v){d:D}{v:Value}(h:aR ρ w d v):aR ρ' w (kz ko ks d) v:=by
 unfold kz;split
 ·rename_i o n m;cases hb:(Nat.beq o ko && (Nat.beq n ks.length && Nat.beq m ks.length))
  ·exact h.mono hk
  ·simp only [aB]at hb;obtain⟨h1,h2,h3⟩:=hb;rw [ay h1,ay h2,ay h3]at h;exact GH v h
 ·exact PD (h.mono hk)
theorem UY {ko:Nat}{ks:List D}{d:D}(h:d.sc=true):(kz ko ks d).sc=true:=by
 unfold kz;split
 ·cases (Nat.beq _ ko && (Nat.beq _ ks.length && Nat.beq _ ks.length)) <;> rfl
 ·exact PE h
theorem H0 {ρ ρ' :Gh}{w:World}{ko:Nat}{ks:List D}(hk:Kp ρ w ρ' w)(GH:∀v,aR ρ w (.sl ko 0 ks.length ks.length) v->aR ρ' w (.vs false 1 ks) v)(d:D)(v:Value)(h:aR ρ w d v):aR ρ' w (K8 ko ks d) v:=by
 unfold K8;split
 ·simp only [aR]at h;obtain⟨vs,rfl,h1,h2⟩:=h;simp only [aR];refine⟨vs,rfl, ?_, ?_⟩
  ·simp only [bu]at h1 ⊢;obtain⟨v1,r1,e1,q1,v2,r2,e2,q2,v3,r3,e3,q3,v4,r4,e4,q4,v5,r5,e5,q5,v6,r6,e6,q6,v7,r7,e7,q7,v8,r8,e8,q8,e9⟩:=h1;exact⟨v1,r1,e1,q1.mono hk,v2,r2,e2,q2.mono hk,v3,r3,e3,q3.mono hk,v4,r4,e4,PD (q4.mono hk),v5,r5,e5,q5.mono hk,v6,r6,e6,XF hk GH q6,v7,r7,e7,q7.mono hk,v8,r8,e8,q8.mono hk,e9⟩
  ·simp only [h9,List.all_nil,aB]at h2 ⊢;obtain⟨p1,p2,p3,p4,p5,p6,p7,p8,p9⟩:=h2;exact⟨p1,p2,p3,PE p4,p5,UY p6,p7,p8,p9⟩
 ·exact h.mono hk
theorem Oh {ko:Nat}{ks:List D}(d:D)(h:d.st=true):(K8 ko ks d).st=true:=by
 unfold K8;split
 ·simp only [D.st,h9,List.all_nil,aB]at h ⊢;obtain⟨p1,p2,p3,p4,p5,p6,p7,p8,p9⟩:=h;exact⟨p1,p2,p3,PE p4,p5,UY p6,p7,p8,p9⟩
 ·exact h
def Bo:List D->Option Nat
 | []=>none
 | .agg [_,_,_,_,_,.sl o 0 _ _,_,_]::_=>some o
 | _::r=>Bo r
def K7 (l:List D)(s:St):Option (List D×St):=
 match s.ro with
 | true=>none
 | false=>match l with
  | [.sl lo 0 n m]=>match s.get lo with
   | some (.arr sz ty (e::es) st)=>bif Nat.beq n (e::es).length && Nat.beq m (e::es).length then
    match Bo (e::es) with
    | none=>some ([.vs false sz ((e::es).map (K8 0 []))],s.bn lo .dead)
    | some ko=>match s.get ko with
     | some (.arr 1 ty' (k::ks) st')=>bif Nat.beq ko lo then none else some ([.vs false sz ((e::es).map (K8 ko (k::ks)))],(s.bn ko .dead).bn lo .dead)
     | _=>none
    else none
   | _=>none
  | _=>none
theorem WT {ρ:Gh} {s s' :St}{w:World} {l l' :List D}{vs:List Value}(h:K7 l s=some (l',s'))(hs:bK ρ s w)(hr:bu ρ w l vs):∃ρ',Kp ρ w ρ' w/\bK ρ' s' w/\bu ρ' w l' vs:=by
 unfold K7 at h;split at h
 ·cases h
 ·split at h
  ·rename_i lo n m;simp only [bu]at hr;obtain⟨v,r,rfl,hv,rfl⟩:=hr;split at h
   ·rename_i sz ty e es st Sw;cases hb:(Nat.beq n (e::es).length && Nat.beq m (e::es).length) <;> rw [hb]at h <;> simp only [cond]at h
    ·cases h
    simp only [aB]at hb;rw [ay hb.1,ay hb.2]at hv;split at h
    ·cases h;have hz:∀v,aR ρ w (.sl 0 0 ([]:List D).length ([]:List D).length) v->aR ρ w (.vs false 1 []) v:=by
      intro v hv;simp only [aR,Gh.at]at hv ⊢;split at hv
      ·exact hv.elim
      ·obtain⟨a,cap,rfl⟩:=hv;exact .inr ⟨trivial,a,cap,rfl,cH _,.inl trivial⟩
      ·obtain⟨b,_,_,_,_,x,cap,rfl,_⟩:=hv;exact .inr ⟨trivial,_,cap,rfl,cH _,.inl trivial⟩
     obtain⟨ρ',k1,k2,_,_,_,k3⟩:=freeze hs Sw hs Sw (fun _=>kN) rfl rfl (f:=K8 0 []) (H0 (Kp.refl _ _) hz) Oh (by simp);exact⟨ρ',k1,k2,by simp only [bu]; exact ⟨v,[],rfl,k3 v hv,rfl⟩⟩
    ·rename_i ko _;split at h
     ·rename_i ty' k ks st' GH;cases jb:Nat.beq ko lo <;> rw [jb]at h <;> simp only [cond]at h
      ·have dn:lo≠ko:=by rintro rfl; rw [aA]at jb; cases jb
       cases h;obtain⟨ρ1,k1,k2,k3,k4,k5,k6⟩:=freeze hs GH hs GH (fun _=>kN) rfl rfl (f:=id) (fun _ _ h=>h) (fun _ h=>h) (by simp);rw [List.map_id]at k6;have aby:(s.bn ko .dead).get lo=some (.arr sz ty (e::es) st):=by rw [St.eS,aI dn]; exact Sw
       obtain⟨ρ2,q1,q2,_,_,_,q6⟩:=freeze hs Sw k2 aby (fun b=>k3 b lo dn) k4 k5 (f:=K8 ko (k::ks)) (H0 k1 k6) Oh (by simp);exact⟨ρ2,k1.trans q1,q2,by simp only [bu]; exact ⟨v,[],rfl,q6 v hv,rfl⟩⟩
      ·cases h
     ·cases h
   ·cases h
  ·cases h
def Uv (f0:Nat)(C H:au):au:=fun f l s=>bif Nat.beq f f0 then (match K7 l s with | some (l',s')=>C f l' s' | none=>none) else H f l s
omit [eh] in
theorem vL {f0:Nat}{C H:au}{f:Nat}(h:Nat.beq f f0=false):Uv f0 C H f=H f:=by
 funext l s; unfold Uv; rw [h]; rfl
omit [eh] in
theorem WR {f0:Nat}{C H:au} {l l' :List D} {s s' :St}(h:K7 l s=some (l',s')):Uv f0 C H f0 l s=C f0 l' s' :=by
 unfold Uv; rw [aA,h]; rfl
omit [eh] in
theorem uw {f0:Nat}{C H:au}{l:List D}{s:St}{r:D×St}(h:Uv f0 C H f0 l s=some r):∃l' s',K7 l s=some (l',s')/\C f0 l' s' =some r:=by
 unfold Uv at h;rw [aA]at h;simp only [cond]at h;split at h
 ·rename_i l' s' he;exact⟨l',s',he,h⟩
 ·cases h
omit [eh] in
theorem Og {l:List D}{s:St}(h:s.ro=true):K7 l s=none:=by unfold K7; rw [h]
theorem WS {pn:gY}{P:Program}{G:Gl}{f0:Nat}{C H:au}(hC:cm pn P G C)(hH:cm pn P G H)(h0:Nat.beq 0 f0=false):cm pn P G (Uv f0 C H):=by
 refine⟨fun f l s r h hy args w=> ?_,fun f l s d s' ρ w vs h hs hg hr=> ?_,fun f l s d s' qZ h=> ?_,fun y l s d s' ρ w u vs h=> ?_,fun f l s d s' s1 hs h=> ?_⟩
 ·cases hf:Nat.beq f f0
  ·rw [vL hf]at h; exact hH.enter f l s r h hy args w
  ·obtain rfl:=ay hf;obtain⟨l',s',_,h2⟩:=uw h;exact hC.enter f l' s' r h2 (.inl fun e=>by subst e; rw [aA]at h0; cases h0) args w
 ·cases hf:Nat.beq f f0
  ·rw [vL hf]at h; exact hH.calls f l s d s' ρ w vs h hs hg hr
  ·obtain rfl:=ay hf;obtain⟨l',s1,h1,h2⟩:=uw h;obtain⟨ρ',k1,k2,k3⟩:=WT h1 hs hr;refine (hC.calls f l' s1 d s' ρ' w vs h2 k2 (hg.mono k1) k3).mono fun e w' he=> ?_;cases e with
   | panicked _=>exact he
   | outgrown=>exact he
   | returned v=>
    obtain⟨ρ2,q1,q2,q3⟩:=he;exact⟨ρ2,k1.trans q1,q2,q3⟩
 ·cases hf:Nat.beq f f0
  ·rw [vL hf]at h; exact hH.ro f l s d s' qZ h
  ·obtain rfl:=ay hf;obtain⟨l',s1,h1,_⟩:=uw h;rw [Og qZ]at h1; cases h1
 ·rw [vL h0]at h; exact hH.sf y l s d s' ρ w u vs h
 ·cases hf:Nat.beq f f0
  ·rw [vL hf]at h ⊢; exact hH.Ls f l s d s' s1 hs h
  ·obtain rfl:=ay hf;obtain⟨l',s2,h1,_⟩:=uw h;rw [Og hs.ro]at h1; cases h1
end Go.Ab
namespace Go.Ab
open Go
variable {T:Nat->Option dJ}{H:au}{f n:Nat}{l:List D}{s:St}{r:D×St}
open Classical in
noncomputable def Kl (T:Nat->Option dJ)(H:au):au:=fun f l s=>if h:∃r n,cV T H n f l s=some r then some h.choose else none
theorem pZ (h:Kl T H f l s=some r):∃n,cV T H n f l s=some r:=by
 unfold Kl at h;split at h
 ·rename_i hx;cases h;exact hx.choose_spec
 ·cases h
theorem Im (h:cV T H n f l s=some r):Kl T H f l s=some r:=by
 have hx:∃r n,cV T H n f l s=some r:=⟨r,n,h⟩;unfold Kl;rw [dif_pos hx];obtain⟨m,hm⟩:=hx.choose_spec;have h1:=(fV (cO n m)).1 _ _ _ _ h;have h2:=(fV (cU n m)).1 _ _ _ _ hm;rw [← h2,h1]
theorem SX [eh]{pn:gY}{P:Program}{G:Gl}(h:∀n,cm pn P G (cV T H n)):cm pn P G (Kl T H):=by
 refine⟨fun f l s r hr hy args w=> ?_,fun f l s d s' ρ w vs hr h2 h3 h4=> ?_,fun f l s d s' qZ hr=> ?_,fun y l s d s' ρ w u vs hr h2 h3 h4 h5=> ?_,fun f l s d s' s1 hs hr=> ?_⟩
 ·obtain⟨n,hn⟩:=pZ hr;exact (h n).enter f l s r hn hy args w
 ·obtain⟨n,hn⟩:=pZ hr;exact (h n).calls f l s d s' ρ w vs hn h2 h3 h4
 ·obtain⟨n,hn⟩:=pZ hr;exact (h n).ro f l s d s' qZ hn
 ·obtain⟨n,hn⟩:=pZ hr;exact (h n).sf y l s d s' ρ w u vs hn h2 h3 h4 h5
 ·obtain⟨n,hn⟩:=pZ hr;obtain⟨h1,h2⟩:=(h n).Ls f l s d s' s1 hs hn;exact⟨h1,Im h2⟩
end Go.Ab
namespace Go.Proofs.Tab
open Go Go.Ab Go.Ab.Sm Go.RowKit Go.Proofs Go.Shelf
def AE:Go.Shelf.Ren:=⟨fun | 196=>83 | 259=>123 | n=>n,fun | 9=>9 | 4=>4 | 3=>3 | 5=>5 | 12=>12 | 119=>240 | 0=>0 | 46=>27 | 139=>243 | 138=>242 | 53=>23 | n=>n,fun | 3=>0 | 4=>1 | n=>n⟩
theorem laysValid:Go.Proofs.Lays.n196 Tryz.prog AE where
 mixed:=by kernel_rfl
 f196:=Tryz.func83.trans (congrArg some (by kernel_rfl))
 f259:=Tryz.func123.trans (congrArg some (by kernel_rfl))
 t0:=Tryz.underlying0
 a0:=Tryz.isAgg0
 z0:=Tryz.sizeOf0
 v0:=Tryz.zeroValue0
 t3:=Tryz.underlying3
 a3:=Tryz.isAgg3
 z3:=Tryz.sizeOf3
 v3:=Tryz.zeroValue3
 t4:=Tryz.underlying4
 a4:=Tryz.isAgg4
 z4:=Tryz.sizeOf4
 v4:=Tryz.zeroValue4
 t5:=Tryz.underlying5
 a5:=Tryz.isAgg5
 z5:=Tryz.sizeOf5
 v5:=Tryz.zeroValue5
 t9:=Tryz.underlying9
 a9:=Tryz.isAgg9
 z9:=Tryz.sizeOf9
 v9:=Tryz.zeroValue9
 t12:=Tryz.underlying12
 a12:=Tryz.isAgg12
 z12:=Tryz.sizeOf12
 v12:=Tryz.zeroValue12
 t46:=Tryz.underlying27
 a46:=Tryz.isAgg27
 z46:=Tryz.sizeOf27
 v46:=Tryz.zeroValue27
 t53:=Tryz.underlying23
 a53:=Tryz.isAgg23
 z53:=Tryz.sizeOf23
 v53:=Tryz.zeroValue23
 t119:=Tryz.underlying240
 a119:=Tryz.isAgg240
 z119:=Tryz.sizeOf240
 t138:=Tryz.underlying242
 a138:=Tryz.isAgg242
 z138:=Tryz.sizeOf242
 v138:=Tryz.zeroValue242
 t139:=Tryz.underlying243
 a139:=Tryz.isAgg243
 z139:=Tryz.sizeOf243
 v139:=Tryz.zeroValue243
 g3:=by kernel_rfl
 g4:=by kernel_rfl
def Cv:Go.Shelf.Ren:=⟨fun | 171=>125 | 243=>182 | 246=>212 | 283=>229 | 284=>230 | 285=>231 | 286=>232 | 129=>234 | 317=>238 | 318=>239 | 319=>240 | 320=>241 | 337=>246 | 338=>247 | n=>n,fun | 3=>3 | 9=>9 | 2=>2 | 4=>4 | 171=>342 | 0=>0 | 53=>23 | 37=>285 | 5=>5 | 173=>344 | 212=>351 | 51=>26 | 20=>20 | 213=>352 | 46=>27 | 232=>367 | 233=>368 | n=>n,fun | 17=>4 | 18=>6 | 19=>7 | n=>n⟩
theorem laysItoa:Go.Proofs.LaysM.n171 Tryz.prog Cv where
 mixed:=by kernel_rfl
 f129:=Tryz.func234.trans (congrArg some (by kernel_rfl))
 f171:=Tryz.func125.trans (congrArg some (by kernel_rfl))
 f243:=Tryz.func182.trans (congrArg some (by kernel_rfl))
 f246:=Tryz.func212.trans (congrArg some (by kernel_rfl))
 f283:=Tryz.func229.trans (congrArg some (by kernel_rfl))
 f284:=Tryz.func230.trans (congrArg some (by kernel_rfl))
 f285:=Tryz.func231.trans (congrArg some (by kernel_rfl))
 f286:=Tryz.func232.trans (congrArg some (by kernel_rfl))
 f317:=Tryz.func238.trans (congrArg some (by kernel_rfl))
 f318:=Tryz.func239.trans (congrArg some (by kernel_rfl))
 f319:=Tryz.func240.trans (congrArg some (by kernel_rfl))
 f320:=Tryz.func241.trans (congrArg some (by kernel_rfl))
 f337:=Tryz.func246.trans (congrArg some (by kernel_rfl))
 f338:=Tryz.func247.trans (congrArg some (by kernel_rfl))
 t0:=Tryz.underlying0
 a0:=Tryz.isAgg0
 z0:=Tryz.sizeOf0
 v0:=Tryz.zeroValue0
 t2:=Tryz.underlying2
 a2:=Tryz.isAgg2
 z2:=Tryz.sizeOf2
 v2:=Tryz.zeroValue2
 t3:=Tryz.underlying3
 a3:=Tryz.isAgg3
 z3:=Tryz.sizeOf3
 v3:=Tryz.zeroValue3
 t4:=Tryz.underlying4
 a4:=Tryz.isAgg4
 z4:=Tryz.sizeOf4
 v4:=Tryz.zeroValue4
 t5:=Tryz.underlying5
 a5:=Tryz.isAgg5
 z5:=Tryz.sizeOf5
 v5:=Tryz.zeroValue5
 t9:=Tryz.underlying9
 a9:=Tryz.isAgg9
 z9:=Tryz.sizeOf9
 v9:=Tryz.zeroValue9
 t20:=Tryz.underlying20
 a20:=Tryz.isAgg20
 z20:=Tryz.sizeOf20
 v20:=Tryz.zeroValue20
 t37:=Tryz.underlying285
 a37:=Tryz.isAgg285
 z37:=Tryz.sizeOf285
 v37:=Tryz.zeroValue285
 t46:=Tryz.underlying27
 a46:=Tryz.isAgg27
 z46:=Tryz.sizeOf27
 v46:=Tryz.zeroValue27
 t51:=Tryz.underlying26
 a51:=Tryz.isAgg26
 z51:=Tryz.sizeOf26
 v51:=Tryz.zeroValue26
 t53:=Tryz.underlying23
 a53:=Tryz.isAgg23
 z53:=Tryz.sizeOf23
 v53:=Tryz.zeroValue23
 t171:=Tryz.underlying342
 a171:=Tryz.isAgg342
 z171:=Tryz.sizeOf342
 v171:=Tryz.zeroValue342
 t173:=Tryz.underlying344
 a173:=Tryz.isAgg344
 z173:=Tryz.sizeOf344
 v173:=Tryz.zeroValue344
 t212:=Tryz.underlying351
 a212:=Tryz.isAgg351
 z212:=Tryz.sizeOf351
 v212:=Tryz.zeroValue351
 t213:=Tryz.underlying352
 a213:=Tryz.isAgg352
 z213:=Tryz.sizeOf352
 t232:=Tryz.underlying367
 a232:=Tryz.isAgg367
 z232:=Tryz.sizeOf367
 v232:=Tryz.zeroValue367
 t233:=Tryz.underlying368
 a233:=Tryz.isAgg368
 z233:=Tryz.sizeOf368
 v233:=Tryz.zeroValue368
 g17:=by kernel_rfl
 g18:=by kernel_rfl
 g19:=by kernel_rfl
 i0:=by kernel_rfl
 i2:=by kernel_rfl
 i3:=by kernel_rfl
 i4:=by kernel_rfl
 i5:=by kernel_rfl
 i9:=by kernel_rfl
 i20:=by kernel_rfl
 i37:=by kernel_rfl
 i46:=by kernel_rfl
 i51:=by kernel_rfl
 i53:=by kernel_rfl
 i171:=by kernel_rfl
 i173:=by kernel_rfl
 i212:=by kernel_rfl
 i232:=by kernel_rfl
 i233:=by kernel_rfl
 m17:=by kernel_rfl
 m18:=by kernel_rfl
 m19:=by kernel_rfl
theorem yL {α:Type}(f g:Nat->α):∀n i,i < n->((List.range n).flatMap fun i=> [f i,g i])[2 * i]? =some (f i)/\((List.range n).flatMap fun i=> [f i,g i])[2 * i+1]? =some (g i)
 | 0,i,h=>absurd h (Nat.not_lt_zero i)
 | n+1,i,h=>by
  have hl:∀n,((List.range n).flatMap fun i=> [f i,g i]).length=2 * n:=fun n=>by
   induction n with
   | zero=>rfl
   | succ n ih=>rw [List.range_succ,List.flatMap_append,List.length_append,ih]; simp; omega
  have qx:=hl n;rw [List.range_succ,List.flatMap_append];by_cases hi:i < n
  ·obtain⟨h1,h2⟩:=yL f g n i hi;rw [List.getElem?_append_left (by omega),List.getElem?_append_left (by omega)];exact⟨h1,h2⟩
  ·obtain rfl:i=n:=by omega
   rw [List.getElem?_append_right (by omega),List.getElem?_append_right (by omega),qx,Nat.sub_self,show 2 * i+1 - 2 * i=1 by omega];exact⟨rfl,rfl⟩
theorem E7 {ρ:Gh}{w:World}{k:IntKind}{n:Int} [Go.Ab.eh]:∀ {L:List D} {vs:List Value} {j:Nat},bu ρ w L vs->L[j]? =some (.int k n)->vs[j]? =some (.int k n)
 | [],_,_,_,h=>by simp at h
 | d::L,vs,j,hr,h=>by
  simp only [bu]at hr;obtain⟨v,r,rfl,h1,h2⟩:=hr
  match j with
  | 0=>
   simp only [List.getElem?_cons_zero,Option.some.injEq]at h ⊢;subst h;simpa only [aR] using h1
  | j+1=>exact E7 (L:=L) (vs:=r) (j:=j) h2 (by simpa only [List.getElem?_cons_succ] using h)
theorem Ho {ρ:Gh}{w:World}{g j:Nat}{L:List D}{k:IntKind}{n:Int} [Go.Ab.eh](h:aR ρ w (.jJ (.agg L) 0) (.pointer (some ⟨g,0,none⟩)))(hj:L[j]? =some (.int k n)):w.cell? ⟨g,j,none⟩=some (.int k n):=by
 simp only [aR]at h;obtain⟨b,x,u,_,⟨vs,rfl,hr,_⟩,hc,_,he⟩:=h;have hx:g=b/\0=x:=by
  injection he with he;injection he with he;injection he with e1 e2;exact⟨e1,by omega⟩
 obtain⟨rfl,rfl⟩:=hx;have hv:=E7 hr hj;rw [Array.getElem?_toList]at hv;have:=hc j (Array.getElem?_eq_some_iff.mp hv).1;rw [Nat.zero_add]at this;exact this.trans hv
theorem T0 {ρ:Gh}{w:World}{pn:gY} [Go.Ab.eh](hg:gn pn gl ρ w):Lib.Utf8Tabs 0 1 w:=
 ⟨fun c hc=>Ho (hg.1 0 N5 rfl) (by simp [Ck,hc]),fun i hi=>⟨Ho (hg.1 1 B4 rfl) (yL _ _ 16 i hi).1,Ho (hg.1 1 B4 rfl) (yL _ _ 16 i hi).2⟩⟩
theorem zG {ρ:Gh} {w w' :World}{s:St} [Go.Ab.eh](hs:bK ρ s w)(h:Below w.heap.size w w'){d:D}{v:Value}(hd:∀ρ w,aR ρ w d v):jg ρ w s d (.returned v) w' :=by
 let ρ2:Gh:= { ρ with own:=fun b=>if b < w.heap.size then ρ.own b else .za}
 have kA:∀b,b < w.heap.size->ρ2.own b=ρ.own b:=fun b hb=>if_pos hb;have Ei :∀b, ¬ b < w.heap.size->ρ2.own b= .za:=fun b hb=>if_neg hb;have hK:Kp ρ w ρ2 w' :=by
  refine⟨h.os,h.tape,h.output,h.size,fun b hb _=>⟨h.block b hb,kA b hb⟩,fun _ h=>⟨h,rfl⟩,fun o sz ho=> .inr ⟨ho,fun b hb=>⟨?_,rfl,Nat.le_refl _,rfl⟩⟩⟩;rw [kA b (hs.jG hb)]; exact hb
 refine⟨ρ2,hK,hs.bM hK.r (fun b o=> ?_) rfl (fun b o hb=>⟨h.block b (hs.jG hb),rfl,rfl,rfl⟩) (fun b hb=>Ei b (by have:=h.size; omega)),hd _ _⟩;by_cases hb:b < w.heap.size
 ·rw [kA b hb]
 ·rw [Ei b hb,hs.size b (by omega)]
def Am (f0:Nat)(g:List D->Option D)(aw:au):au:=fun f l s=>bif Nat.beq f f0 then (g l).map fun d=>(d,s) else aw f l s
theorem rJ {f0:Nat}{g:List D->Option D}{aw:au}{f:Nat}(h:Nat.beq f f0=false):Am f0 g aw f=aw f:=by
 funext l s; unfold Am; rw [h]; rfl
theorem yR {f0:Nat}{g:List D->Option D}{aw:au}{l:List D}{s:St}:Am f0 g aw f0 l s=(g l).map fun d=>(d,s):=by
 unfold Am; rw [Nat.beq_refl]; rfl
theorem OE [Go.Ab.eh]{pn:gY}{P:Program}{G:Gl}{f0:Nat}{g:List D->Option D}{aw:au}(ha:cm pn P G aw)(h0:Nat.beq 0 f0=false)(he:∀args w,(callFunc f0 args).run P w= .ok (.enter f0 args) w)
  (hc:∀l d ρ w vs s,g l=some d->bK ρ s w->gn pn G ρ w->bu ρ w l vs->Calls P f0 vs.toArray w (jg ρ w s d)):cm pn P G (Am f0 g aw):=by
 refine⟨fun f l s r h hy args w=> ?_,fun f l s d s' ρ w vs h hs hg hr=> ?_,fun f l s d s' qZ h=> ?_,fun y l s d s' ρ w u vs h=> ?_,fun f l s d s' s1 hs h=> ?_⟩
 ·cases hf:Nat.beq f f0
  ·rw [rJ hf]at h; exact ha.enter f l s r h hy args w
  ·obtain rfl:=Nat.eq_of_beq_eq_true hf;exact he args w
 ·cases hf:Nat.beq f f0
  ·rw [rJ hf]at h; exact ha.calls f l s d s' ρ w vs h hs hg hr
  ·obtain rfl:=Nat.eq_of_beq_eq_true hf;rw [yR]at h;obtain⟨r,Lk,e⟩:=Option.map_eq_some_iff.1 h;cases e;exact hc l _ ρ w vs s Lk hs hg hr
 ·cases hf:Nat.beq f f0
  ·rw [rJ hf]at h; exact ha.ro f l s d s' qZ h
  ·obtain rfl:=Nat.eq_of_beq_eq_true hf;rw [yR]at h;obtain⟨r,Lk,e⟩:=Option.map_eq_some_iff.1 h;cases e; rfl
 ·rw [rJ h0]at h; exact ha.sf y l s d s' ρ w u vs h
 ·cases hf:Nat.beq f f0
  ·rw [rJ hf]at h ⊢; exact ha.Ls f l s d s' s1 hs h
  ·obtain rfl:=Nat.eq_of_beq_eq_true hf;rw [yR]at h ⊢;obtain⟨r,Lk,e⟩:=Option.map_eq_some_iff.1 h;cases e;exact⟨rfl,by rw [Lk]; rfl⟩
theorem Xh {f0:Nat}{g:List D->Option D}{aw:au}{T:Nat->Option dJ}{l:List D}{s:St}{d:D}(hT:T f0=none)(hg:g l=some d){R:D->St->Prop}(hR:R d s):bY T (Am f0 g aw) f0 l s R:=by
 refine⟨d,s,⟨1, ?_⟩,hR⟩;unfold cV;rw [hT];have h:Am f0 g aw f0 l s=some (d,s):=by rw [yR,hg]; rfl
 split <;> exact h
noncomputable def gV:List D->Option D:=fun l=>match l with
 | [.str t]=>bif Nat.ble t.length 1000000000 then some (.bool (Lib.validD t)) else none
 | _=>none
noncomputable def gI:List D->Option D:=fun l=>match l with
 | [.int .i64 (.ofNat n)]=>bif Nat.ble n 999999 then some (.str (Lib.itoa (n:Nat))) else none
 | _=>none
theorem ZE {l:List UInt8}(h:l.length<=1000000000):gV [.str l]=some (.bool (Lib.validD l)):=by
 have e:=Nat.ble_eq_true_of_le h;unfold gV;simp only [e,cond]
theorem ZD {n:Nat}(h:n < 1000000):gI [.int .i64 (n:Nat)]=some (.str (Lib.itoa (n:Nat))):=by
 have e:Nat.ble n 999999=true:=Nat.ble_eq_true_of_le (by omega);show (bif Nat.ble n 999999 then some (D.str (Lib.itoa (n:Nat))) else none)=_;rw [e]; rfl
theorem Sf {l:List D}{d:D}(h:gV l=some d):∃t:List UInt8,l=[.str t]/\t.length<=1000000000/\d= .bool (Lib.validD t):=by
 unfold gV at h;split at h
 ·rename_i t;cases hb:Nat.ble t.length 1000000000 <;> rw [hb]at h <;> simp only [cond]at h
  ·cases h
  ·cases h; exact ⟨t,rfl,Nat.le_of_ble_eq_true hb,rfl⟩
 ·cases h
theorem Se {l:List D}{d:D}(h:gI l=some d):∃n:Nat,l=[.int .i64 (n:Nat)]/\n<=999999/\d= .str (Lib.itoa (n:Nat)):=by
 unfold gI at h;split at h
 ·rename_i n;cases hb:Nat.ble n 999999 <;> rw [hb]at h <;> simp only [cond]at h
  ·cases h
  ·cases h; exact ⟨n,rfl,Nat.le_of_ble_eq_true hb,rfl⟩
 ·cases h
def Tz : gY := ⟨fun ρ w => ρ.own 4 = .za ∧ Lib.TabIs Tryz.prog w "internal/strconv.uint64pow10" .u64 Lib.pow10Tab, fun {ρ ρ' w w'} h ⟨h1, h2⟩ => by
 have hg : Tryz.prog.globalNamed "internal/strconv.uint64pow10" = some 4 := by kernel_rfl
 unfold Lib.TabIs World.var? at h2 ⊢;rw [hg]at h2 ⊢;simp only [Option.bind_some]at h2 ⊢;have eW:4 < w.heap.size:=by
  rcases Nat.lt_or_ge 4 w.heap.size with hl | hl
  ·exact hl
  ·rw [Array.getElem?_eq_none hl]at h2; cases h2
 obtain⟨e1,e2⟩:=h.kept 4 eW (fun o=>by rw [h1]; simp);exact⟨e2.trans h1,by rw [e1]; exact h2⟩⟩
theorem aaT [Go.Ab.eh]{P:Program}{G:Gl}{C:au}{pn:gY}(h:cm .none P G C):cm pn P G C:=
 ⟨h.enter,fun f l s d s' ρ w vs h1 h2 h3 h4=>h.calls f l s d s' ρ w vs h1 h2 ⟨h3.1,trivial⟩ h4,h.ro,fun y l s d s' ρ w u vs h1 h2 h3 h4 h5=>h.sf y l s d s' ρ w u vs h1 h2 ⟨h3.1,trivial⟩ h4 h5,h.Ls⟩
theorem Xi [Go.Ab.eh]{aw:au}(ha:cm .none Tryz.prog gl aw):cm Tz Tryz.prog gl (Am 125 gI aw):=
 OE (aaT ha) rfl (enters_of Tryz.func125 (by kernel_rfl) rfl) fun l d ρ w vs s hd hs hg hr=>by
  obtain⟨n,rfl,h2,rfl⟩:=Se hd;simp only [bu,aR]at hr;obtain⟨v,r,rfl,rfl,rfl⟩:=hr;refine (Any.strconv_Itoa laysItoa (n:Nat) (by omega) (by omega) w hg.2.2).mono fun e w' he=> ?_;obtain⟨rfl,k,os,rfl⟩:=he;refine zG hs ?_ ?_;rotate_left
  ·intro _ _;simp [aR]
  refine⟨rfl,rfl,rfl, ?_,fun i hi=> ?_⟩
  ·show w.heap.size<=(w.heap++os).size;rw [Array.size_append]; omega
  ·show (w.heap++os)[i]? =_;rw [Array.getElem?_append_left hi]
noncomputable def hk (aw:au):au:=Am 83 gV (Am 125 gI aw)
theorem UK [Go.Ab.eh]{aw:au}(ha:cm .none Tryz.prog gl aw):cm Tz Tryz.prog gl (hk aw):=
 OE (Xi ha) rfl (enters_of Tryz.func83 (by kernel_rfl) rfl) fun l d ρ w vs s hd hs hg hr=>by
  obtain⟨t,rfl,ht,rfl⟩:=Sf hd;simp only [bu,aR]at hr;obtain⟨v,r,rfl,rfl,rfl⟩:=hr;refine (Any.utf8_ValidString laysValid ⟨⟨t⟩⟩ w (by show t.length<=_; omega) (T0 hg)).mono fun e w' he=> ?_;obtain⟨rfl,hb⟩:=he;exact zG hs hb fun _ _=>by simp [aR]
theorem aaj {aw:au}{f:Nat}(h:Nat.beq f 83=false)(h2:Nat.beq f 125=false):hk aw f=aw f:=by
 rw [hk,rJ h,rJ h2]
theorem abu {aw:au}{T:Nat->Option dJ}(hT:T 83=none)(s:St){l:List UInt8}(hl:l.length<=1000000000):bY T (hk aw) 83 [.str l] s fun d s1=>d= .bool (Lib.validD l)/\s1=s:=by
 unfold hk;exact Xh hT (ZE hl) ⟨rfl,rfl⟩
theorem abt {aw:au}{T:Nat->Option dJ}(hI:T 125=none)(s:St){n:Nat}(hn:n < 1000000):bY T (hk aw) 125 [.int .i64 (n:Nat)] s fun d s1=>s1=s/\d= .str (Lib.itoa (n:Nat)):=by
 refine⟨.str (Lib.itoa (n:Nat)),s,⟨1, ?_⟩,rfl,rfl⟩;have h:hk aw 125 [.int .i64 (n:Nat)] s=some (.str (Lib.itoa (n:Nat)),s):=by
  rw [hk,rJ rfl,yR,ZD hn]; rfl
 unfold cV;rw [hI];split <;> exact h
theorem aah {aw:au}{T:Nat->Option dJ}(hT:T 83=none)(hI:T 125=none):TU T (hk aw):=
 ⟨fun s _ hl=>abu hT s hl,fun s _ hn=>abt hI s hn⟩
end Go.Proofs.Tab
