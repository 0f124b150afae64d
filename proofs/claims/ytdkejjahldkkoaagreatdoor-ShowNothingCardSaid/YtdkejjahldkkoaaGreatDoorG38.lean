/- Part. -/
import Derived.Test.YtdkejjahldkkoaaGreatDoorG37
set_option linter.unusedSectionVars false
set_option maxRecDepth 100000
set_option maxHeartbeats 2000000
set_option linter.unusedSimpArgs false
set_option linter.unusedVariables false
namespace Go.Proofs.Tab
open Go Go.Ab Go.Ab.Sm
section
variable {T:Nat->Option dS}{H:au}{s:St}{wo oL cm P Sh i N dv:Nat}{last:Int}{L:List D}{tms:List Tm}{nz:Bool}{t:Tm}{x:D}{R:List Nat}
def DcI (tms:List Tm)(nz:Bool)(t:Tm)(x:D)(v S wo oL cm P Sh N dv:Nat)(last:Int)(L:List D)(s:St)(m:Nat)(env:Env) (s' :St):Prop:=
 ∃(j n:Nat),env=[(0,.ptr wo 0),(1,.vs nz 8 (tms.map Tm.d)),(2,x),(9,.lv t.d),(13,.int .i64 (v:Nat)),(14,.int .i64 (S:Nat)),(15,.int .i64 (j:Nat))]/\jT s' wo oL cm P Sh last L/\l8 s' N cm dv (fun k=>∃i:Nat,k=(i:Int)/\i < L.length) n/\aC (fun j=>N<=j\/j=cm) s s' /\n<=j/\j<=t.kids.length/\m=t.kids.length - j
theorem JU (hT:nB T)(hR:nH T)(hS:mw T){Ev:Env}{k:List je}{Q:QP}{o v:Nat}{kd num:Int}{b ng hh ss:Bool}{mag items fo sp:D}{tx:List UInt8} {cls base of' :Int}(hs:s.Ok)(h:jT s wo oL cm P Sh last L)(fK:∀u∈tms,u.Ok)
  (hv:L[v]? =some (rv kd num b ng mag tx items (.ptr dv 0) cls base fo sp of' hh ss))(hD:l8 s N cm dv (fun k=>∃i:Nat,k=(i:Int)/\i < L.length) 0)(h1:wo < N)(h2:oL < N)(hm:∀d∈L,AK N d)(hN:N<=s.n)
  (g:s.get o=some (.arr 1 3 (ints (R.map Int.ofNat)) 0))(hoN:o < N)(PM:∀r∈R,r < L.length)(UM:R.length<=tms.length)(j6:t.kids.length<=20000)(jh:∀k∈t.kids,∃y:Nat,k=(y:Int)/\y < R.length)
  (C4:Ev.bR [0,1,2,9,13,14,15]=[(0,.ptr wo 0),(1,.vs nz 8 (tms.map Tm.d)),(2,.sl o 0 R.length R.length),(9,.lv t.d),(13,.int .i64 (v:Nat)),(14,.int .i64 1),(15,.int .i64 0)])
  (h0:∀z1 z2 z3 z4 z5 (j:Int) s1,jT s1 wo oL cm P Sh last L->aC (fun j=>N<=j\/j=cm) s s1->kZ T H (.exit 3) k ⟨[(117,z1),(116,z2),(115,z3),(114,z4),(113,z5),(0,.ptr wo 0),(1,.vs nz 8 (tms.map Tm.d)),(2,.sl o 0 R.length R.length),(9,.lv t.d),(13,.int .i64 (v:Nat)),(14,.int .i64 1),(15,.int .i64 j)],[]⟩ s1 Q):
  eI T H (match Qq.1.body with
   | .seq _ (.seq _ (.seq (.seq _ (.block _ c)) _))=>match c with
    | .seq _ (.cond _ _ (.seq _ (.cond _ _ (.seq _ (.cond _ _ (.seq _ (.cond _ _ (.seq _ (.cond _ _ (.seq _ (.cond _ _ (.seq _ (.cond _ _ (.seq _ (.cond _ (.seq _ (.seq _ (.seq _ (.seq (.seq _ (.block _ l)) _)))) _)))))))))))))))=>l
    | _=> .skip
   | _=> .skip) k ⟨Ev,[]⟩ s Q:=by
 have vk:=ir R;have DA:(ints t.kids).length=t.kids.length:=by simp [ints]
 obtain⟨kd',b',ng',n1,mag',tx',n2,kids,P8,sm⟩:=t;simp only at j6 jh DA;show eI T H (.loop _ _) k ⟨Ev,[]⟩ s Q;refine cg (DcI tms nz ⟨kd',b',ng',n1,mag',tx',n2,kids,P8,sm⟩ (.sl o 0 R.length R.length) v 1 wo oL cm P Sh N dv last L s) kids.length rfl ⟨0,0,C4,h,hD,aC.refl hs,an _,aR _,rfl⟩ ?_;rintro m env s1 ⟨j,n,rfl,hr,HH,b1,hnj,hj,rfl⟩;simp only at hj;have ok1:=b1.ok
 have gx:=b1.get hs g (by rintro (h' | rfl); · omega
                          ·exact h.ni g (.inr (.inr rfl)))
 have gw:=hr.go;by_cases dQ:j < kids.length
 ·have hd:=eR ((j:Int) < ((ints kids).length:Nat));obtain⟨y,hy,Lr⟩:=jh kids[j] (bH dQ);have Ll:kids[j]? =some (y:Int):=by rw [ae dQ,hy]
  have nO:(ints kids)[j]? =some (.int .i64 (y:Nat)):=by simp only [ints,aE,Ll]; rfl
  have oP:(ints (R.map Int.ofNat))[0+y]? =some (.int .i64 (R[y]:Nat)):=by simp only [ints,aM,aE,ae Lr,dn]; rfl
  have Lb:=PM R[y] (bH Lr);generalize R[y]=r at oP Lb;have hu:tms[y]? =some tms[y]:=ae (by omega);have tz :=ee hu;have Zo:=fK _ (aK hu);generalize tms[y]=u at hu tz Zo;have rM:IntKind.wrap .i64 ((j:Int)+((1:Nat):Int))=((j+1:Nat):Int):=by rw [wrap_small (by omega) (by omega)]; rfl
  have Xd:=Ao (H:=H) hT hS ok1 hr Zo Lb;try refine go ?_
  refine bf Xd ?_;rintro d s2 ⟨⟨q,c,rfl⟩,b2⟩;have ok2:=b2.ok;have VT:=b2.get ok1 gx id;have xe:=hr.nil ok1 b2;have gw2:=xe.go;refine⟨rfl,by simp [lost,eN.kind,cJ,dE,cE,aI,bz,bz.cV,fZ,bP.ev,Env.get,cP,D.flat,D.isAgg,cL,D.fv,D.beq,az,Obj.aV,bC,bu,D.bV,D.aV,gx,VT], ?_⟩;try refine go ?_
  refine ak (IE hR hT hS ok2 xe hv (HH.dU ok1 b2 (fun _ _=>id) xe.ct) Lb (by omega) h1 h2 hm (by have:=b1.n; have:=b2.n; omega)) ?_;rintro d s3 ⟨XH,IP,b3⟩;try refine go ?_
  rw [rM];exact bg (kids.length - (j+1)) (by show kids.length - (j+1) < kids.length - j; omega) rfl ⟨j+1,n+1,rfl,XH,IP,(b1.trans (b2.mono fun _ h=>h.elim)).trans b3,by omega,by show j+1<=kids.length; omega,rfl⟩
 ·have hd:=cM ((j:Int) < ((ints kids).length:Nat));try refine go ?_
  exact h0 _ _ _ _ _ _ s1 hr b1
end
section
variable {T:Nat->Option dS}{H:au}{s:St}{wo oL cm P Sh i:Nat}{last:Int}{L:List D}{tms:List Tm}{nz:Bool}{t:Tm}{x:D}{R:List Nat}
theorem KP (hT:nB T)(hR:nH T)(hS:mw T)(hs:s.Ok)(h:jT s wo oL cm P Sh last L)(hi:tms[i]? =some t)(fK:∀u∈tms,u.Ok)(hk:t.kd=8\/t.kd=9)(hP:P<=65536)(hL:L.length<=900000){o:Nat}
  (g:s.get o=some (.arr 1 3 (ints (R.map Int.ofNat)) 0))(PM:∀r∈R,r < L.length)(UM:R.length<=tms.length)(j6:t.kids.length<=20000)(jh:∀k∈t.kids,∃y:Nat,k=(y:Int)/\y < R.length):
  cu T H 24 [.ptr wo 0,.vs nz 8 (tms.map Tm.d),.sl o 0 R.length R.length,.int .i64 (i:Nat)] s (fun d s1=>∃(last' :Int) (v:D),d= .int .i64 (L.length:Nat)/\jT s1 wo oL cm P Sh last' (L++ [v])/\aC (fun j=>yZ wo oL cm j\/s.n<=j) s s1):=by
 have hi' :=ee hi;obtain⟨l1,l2,l3⟩:=h.lt hs;have lo:=hs.lt g;have Fz:=fun kd=>yY (H:=H) (kd:=kd) hR hS (fun k=>∃i:Nat,k=(i:Int)/\i < L.length+1) hs h hP (by omega);have zP:∀u,u=t->u.kids.length<=20000/\∀k∈u.kids,∃y:Nat,k=(y:Int)/\y < R.length:=fun u e=>by subst e; exact ⟨j6,jh⟩
 obtain⟨kd,b,ng,n1,mag,tx,n2,kids,hh,sm⟩:=t;simp only at hk;have mu:(Tm.mk kd b ng n1 mag tx n2 kids hh sm).d.st=true:=rfl;rcases hk with rfl | rfl
 all_goals
  refine ay hS.t24 ?_;try refine go ?_
  refine ak (Fz _) ?_;rintro d s1 ⟨rfl,⟨la,num,dv,h1,hD⟩,b1,Rt⟩;have ok1:=b1.ok;have SB:∀v:D,(L++ [v])[L.length]? =some v:=fun v=>by simp
  have Fs :∀v:D,(L++ [v]).length=L.length+1:=fun v=>by simp
  try refine go ?_
  refine JU (N:=s.n) hT hR hS ok1 h1 fK (v:=L.length) (SB _) (by rw [Fs]; exact hD) l1 l2 ?_ Rt (b1.get hs g (h.ni g)) lo (fun r hr=>by rw [Fs]; have:=PM r hr; omega) UM (zP _ rfl).1 (zP _ rfl).2 rfl ?_
  ·intro d hd;rw [bK,cG]at hd;rcases hd with hd | rfl
   ·exact (h.vs d hd).mag hs
   ·intro o a n c h; cases h
  ·intro z1 z2 z3 z4 z5 j s2 h2 b2;try refine go ?_
   exact ai ⟨la,_,rfl,h2,(b1.mono fun j hj=> .inl hj).trans (b2.mono fun j hj=>by
    rcases hj with hj | hj
    ·exact .inr hj
    ·exact .inl (.inr (.inr hj)))⟩
end
section
variable {T:Nat->Option dS}{H:au}{s:St}{wo oL cm P Sh i:Nat}{last:Int}{L:List D}{tms:List Tm}{nz:Bool}{t:Tm}
theorem FV (hR:nH T)(hS:mw T)(hs:s.Ok)(h:jT s wo oL cm P Sh last L)(hi:tms[i]? =some t)(hk:t.kd=7\/t.kd=8\/t.kd=9)(hP:P<=65536)(hL:L.length<=900000)(jh:t.kids=[]):
  cu T H 24 [.ptr wo 0,.vs nz 8 (tms.map Tm.d),.vs true 0 [],.int .i64 (i:Nat)] s (fun d s1=>∃(last' :Int) (v:D),d= .int .i64 (L.length:Nat)/\jT s1 wo oL cm P Sh last' (L++ [v])/\aC (fun j=>yZ wo oL cm j\/s.n<=j) s s1):=by
 have hi' :=ee hi;have Fz:=fun kd=>yY (H:=H) (kd:=kd) hR hS (fun k=>∃i:Nat,k=(i:Int)/\i < L.length+1) hs h hP (by omega);obtain⟨kd,b,ng,n1,mag,tx,n2,kids,hh,sm⟩:=t;simp only at hk jh;subst jh;have mu:(Tm.mk kd b ng n1 mag tx n2 [] hh sm).d.st=true:=rfl;rcases hk with rfl | rfl | rfl
 all_goals
  refine ay hS.t24 ?_;try refine go ?_
  refine ak (Fz _) ?_;rintro d s1 ⟨rfl,⟨la,num,dv,h1,hD⟩,b1,Rt⟩;have ok1:=b1.ok;try refine go ?_
  refine eT 0 (fun j=>_) (fun j s' =>s' =s1) rfl ?_;rintro j s2 hj rfl;try refine go ?_
  exact ai ⟨la,_,rfl,h1,b1.mono fun j hj=> .inl hj⟩
end
section
variable {T:Nat->Option dS}{H:au}{s:St}{wo oL cm P Sh i N dv:Nat}{last:Int}{L:List D}{tms:List Tm}{nz:Bool}{t:Tm}{x:D}{R:List Nat}
def DdI (tms:List Tm)(nz:Bool)(t:Tm)(x:D)(v wo oL cm P Sh N dv:Nat)(last:Int)(L:List D)(s:St)(m:Nat)(env:Env) (s' :St):Prop:=
 ∃(j n:Nat),env=[(0,.ptr wo 0),(1,.vs nz 8 (tms.map Tm.d)),(2,x),(9,.lv t.d),(13,.int .i64 (v:Nat)),(14,.int .i64 (2:Nat)),(15,.int .i64 (j:Nat))]/\jT s' wo oL cm P Sh last L/\l8 s' N cm dv (fun k=>∃i:Nat,k=(i:Int)/\i < L.length) n/\aC (fun j=>N<=j\/j=cm) s s' /\n<=j/\j<=t.kids.length/\j % 2=0/\m=t.kids.length - j
theorem Ku (hT:nB T)(hR:nH T)(hS:mw T){Ev:Env}{k:List je}{Q:QP}{o v:Nat}{kd num:Int}{b ng hh ss:Bool}{mag items fo sp:D}{tx:List UInt8} {cls base of' :Int}(hs:s.Ok)(h:jT s wo oL cm P Sh last L)(fK:∀u∈tms,u.Ok)
  (hv:L[v]? =some (rv kd num b ng mag tx items (.ptr dv 0) cls base fo sp of' hh ss))(hD:l8 s N cm dv (fun k=>∃i:Nat,k=(i:Int)/\i < L.length) 0)(h1:wo < N)(h2:oL < N)(hm:∀d∈L,AK N d)(hN:N<=s.n)
  (g:s.get o=some (.arr 1 3 (ints (R.map Int.ofNat)) 0))(hoN:o < N)(PM:∀r∈R,r < L.length)(UM:R.length<=tms.length)(j6:t.kids.length<=20000)(QT:t.kids.length % 2=0)(jh:∀k∈t.kids,∃y:Nat,k=(y:Int)/\y < R.length)
  (C4:Ev.bR [0,1,2,9,13,14,15]=[(0,.ptr wo 0),(1,.vs nz 8 (tms.map Tm.d)),(2,.sl o 0 R.length R.length),(9,.lv t.d),(13,.int .i64 (v:Nat)),(14,.int .i64 2),(15,.int .i64 0)])
  (h0:∀z1 z2 z3 z4 z5 (j:Int) s1,jT s1 wo oL cm P Sh last L->aC (fun j=>N<=j\/j=cm) s s1->kZ T H (.exit 3) k ⟨[(117,z1),(116,z2),(115,z3),(114,z4),(113,z5),(0,.ptr wo 0),(1,.vs nz 8 (tms.map Tm.d)),(2,.sl o 0 R.length R.length),(9,.lv t.d),(13,.int .i64 (v:Nat)),(14,.int .i64 2),(15,.int .i64 j)],[]⟩ s1 Q):
  eI T H (match Qq.1.body with
   | .seq _ (.seq _ (.seq (.seq _ (.block _ c)) _))=>match c with
    | .seq _ (.cond _ _ (.seq _ (.cond _ _ (.seq _ (.cond _ _ (.seq _ (.cond _ _ (.seq _ (.cond _ _ (.seq _ (.cond _ _ (.seq _ (.cond _ _ (.seq _ (.cond _ (.seq _ (.seq _ (.seq _ (.seq (.seq _ (.block _ l)) _)))) _)))))))))))))))=>l
    | _=> .skip
   | _=> .skip) k ⟨Ev,[]⟩ s Q:=by
 have vk:=ir R;have DA:(ints t.kids).length=t.kids.length:=by simp [ints]
 obtain⟨kd',b',ng',n1,mag',tx',n2,kids,P8,sm⟩:=t;simp only at j6 jh DA QT;show eI T H (.loop _ _) k ⟨Ev,[]⟩ s Q;refine cg (DdI tms nz ⟨kd',b',ng',n1,mag',tx',n2,kids,P8,sm⟩ (.sl o 0 R.length R.length) v wo oL cm P Sh N dv last L s) kids.length rfl ⟨0,0,C4,h,hD,aC.refl hs,an _,aR _,rfl,rfl⟩ ?_;rintro m env s1 ⟨j,n,rfl,hr,HH,b1,hnj,hj,Rc,rfl⟩;simp only at hj;have ok1:=b1.ok
 have gx:=b1.get hs g (by rintro (h' | rfl); · omega
                          ·exact h.ni g (.inr (.inr rfl)))
 have gw:=hr.go;by_cases dQ:j < kids.length
 ·have F4:j+1 < kids.length:=by omega
  have hd:=eR ((j:Int) < ((ints kids).length:Nat));obtain⟨y,hy,Lr⟩:=jh kids[j] (bH dQ);have Ll:kids[j]? =some (y:Int):=by rw [ae dQ,hy]
  have nO:(ints kids)[j]? =some (.int .i64 (y:Nat)):=by simp only [ints,aE,Ll]; rfl
  obtain⟨y',JS,acu⟩:=jh kids[j+1] (bH F4);have abt :kids[j+1]? =some (y' :Int):=by rw [ae F4,JS]
  have Yw :(ints kids)[j+1]? =some (.int .i64 (y' :Nat)):=by simp only [ints,aE,abt]; rfl
  have oP:(ints (R.map Int.ofNat))[0+y]? =some (.int .i64 (R[y]:Nat)):=by simp only [ints,aM,aE,ae Lr,dn]; rfl
  have P3 :(ints (R.map Int.ofNat))[0+y']? =some (.int .i64 (R[y']:Nat)):=by simp only [ints,aM,aE,ae acu,dn]; rfl
  have Lb:=PM R[y] (bH Lr);generalize R[y]=r at oP Lb;generalize R[y']=r' at P3;have hu:tms[y]? =some tms[y]:=ae (by omega);have tz :=ee hu;have Zo:=fK _ (aK hu);generalize tms[y]=u at hu tz Zo;have rM:IntKind.wrap .i64 ((j:Int)+((2:Nat):Int))=((j+2:Nat):Int):=by rw [wrap_small (by omega) (by omega)]; rfl
  have acQ:IntKind.wrap .i64 ((j:Int)+1)=((j+1:Nat):Int):=by rw [wrap_small (by omega) (by omega)]; rfl
  have Xd:=Ao (H:=H) hT hS ok1 hr Zo Lb;try refine go ?_
  refine bf Xd ?_;rintro d s2 ⟨⟨q,c,rfl⟩,b2⟩;have ok2:=b2.ok;have VT:=b2.get ok1 gx id;have xe:=hr.nil ok1 b2;have gw2:=xe.go;refine⟨rfl,by simp [lost,eN.kind,cJ,dE,cE,aI,bz,bz.cV,fZ,bP.ev,Env.get,cP,D.flat,D.isAgg,cL,D.fv,D.beq,az,Obj.aV,bC,bu,D.bV,D.aV,gx,VT], ?_⟩;try refine go ?_
  refine ak (IE hR hT hS ok2 xe hv (HH.dU ok1 b2 (fun _ _=>id) xe.ct) Lb (by omega) h1 h2 hm (by have:=b1.n; have:=b2.n; omega)) ?_;rintro d s3 ⟨XH,IP,b3⟩;try refine go ?_
  rw [rM];exact bg (kids.length - (j+2)) (by show kids.length - (j+2) < kids.length - j; omega) rfl ⟨j+2,n+1,rfl,XH,IP,(b1.trans (b2.mono fun _ h=>h.elim)).trans b3,by omega,by show j+2<=kids.length; omega,by omega,rfl⟩
 ·have hd:=cM ((j:Int) < ((ints kids).length:Nat));try refine go ?_
  exact h0 _ _ _ _ _ _ s1 hr b1
end
section
variable {T:Nat->Option dS}{H:au}{s:St}{wo oL cm P Sh i:Nat}{last:Int}{L:List D}{tms:List Tm}{nz:Bool}{t:Tm}{x:D}{R:List Nat}
theorem Hk (hT:nB T)(hR:nH T)(hS:mw T)(hs:s.Ok)(h:jT s wo oL cm P Sh last L)(hi:tms[i]? =some t)(fK:∀u∈tms,u.Ok)(hk:t.kd=7)(QT:t.kids.length % 2=0)(hP:P<=65536)(hL:L.length<=900000){o:Nat}
  (g:s.get o=some (.arr 1 3 (ints (R.map Int.ofNat)) 0))(PM:∀r∈R,r < L.length)(UM:R.length<=tms.length)(j6:t.kids.length<=20000)(jh:∀k∈t.kids,∃y:Nat,k=(y:Int)/\y < R.length):
  cu T H 24 [.ptr wo 0,.vs nz 8 (tms.map Tm.d),.sl o 0 R.length R.length,.int .i64 (i:Nat)] s (fun d s1=>∃(last' :Int) (v:D),d= .int .i64 (L.length:Nat)/\jT s1 wo oL cm P Sh last' (L++ [v])/\aC (fun j=>yZ wo oL cm j\/s.n<=j) s s1):=by
 have hi' :=ee hi;obtain⟨l1,l2,l3⟩:=h.lt hs;have lo:=hs.lt g;have Fz:=fun kd=>yY (H:=H) (kd:=kd) hR hS (fun k=>∃i:Nat,k=(i:Int)/\i < L.length+1) hs h hP (by omega);have zP:∀u,u=t->u.kids.length<=20000/\(∀k∈u.kids,∃y:Nat,k=(y:Int)/\y < R.length)/\u.kids.length % 2=0:=fun u e=>by subst e; exact ⟨j6,jh,QT⟩
 obtain⟨kd,b,ng,n1,mag,tx,n2,kids,hh,sm⟩:=t;simp only at hk;have mu:(Tm.mk kd b ng n1 mag tx n2 kids hh sm).d.st=true:=rfl;subst hk;refine ay hS.t24 ?_;try refine go ?_
 refine ak (Fz _) ?_;rintro d s1 ⟨rfl,⟨la,num,dv,h1,hD⟩,b1,Rt⟩;have ok1:=b1.ok;have SB:∀v:D,(L++ [v])[L.length]? =some v:=fun v=>by simp
 have Fs :∀v:D,(L++ [v]).length=L.length+1:=fun v=>by simp
 try refine go ?_
 refine Ku (N:=s.n) hT hR hS ok1 h1 fK (v:=L.length) (SB _) (by rw [Fs]; exact hD) l1 l2 ?_ Rt (b1.get hs g (h.ni g)) lo (fun r hr=>by rw [Fs]; have:=PM r hr; omega) UM (zP _ rfl).1 (zP _ rfl).2.2 (zP _ rfl).2.1 rfl ?_
 ·intro d hd;rw [bK,cG]at hd;rcases hd with hd | rfl
  ·exact (h.vs d hd).mag hs
  ·intro o a n c h; cases h
 ·intro z1 z2 z3 z4 z5 j s2 h2 b2;try refine go ?_
  exact ai ⟨la,_,rfl,h2,(b1.mono fun j hj=> .inl hj).trans (b2.mono fun j hj=>by
   rcases hj with hj | hj
   ·exact .inr hj
   ·exact .inl (.inr (.inr hj)))⟩
end
def TpI (s:St)(V:List Int)(l:D) (s' :St):Prop:=(V=[]/\l= .vs true 0 []/\s' =s)\/(V≠ []/\l= .sl s.n 0 V.length V.length/\s'.get s.n=some (.arr 1 3 (ints V) 0)/\aC Nil s s')
theorem TpI.dU {s s' :St}{V:List Int}{l:D}(hs:s.Ok)(h:TpI s V l s'):aC Nil s s' :=by
 rcases h with ⟨_,_,rfl⟩ | ⟨_,_,_,h⟩
 ·exact aC.refl hs
 ·exact h
theorem TpI.sc {s s' :St}{V:List Int}{l:D}(h:TpI s V l s'):l.sc=true:=by
 rcases h with ⟨_,rfl,_⟩ | ⟨_,rfl,_,_⟩ <;> rfl
section
variable {T:Nat->Option dS}{H:au}{s:St}{wo oL cm P Sh i:Nat}{last:Int}{L:List D}{tms:List Tm}{nz:Bool}{t:Tm}{x:D}{R:List Nat}
def TpL (tms:List Tm)(nz:Bool)(wo:Nat)(x:D)(t:Tm)(s:St)(m:Nat)(env:Env) (s' :St):Prop:=
 ∃V l,env=[(0,.ptr wo 0),(2,x),(9,.lv t.d),(10,l),(11,.int .i64 (V.length:Nat))]/\V.length<=t.kids.length/\m=t.kids.length - V.length/\TpI s V l s'
theorem Dg (hS:mw T)(hs:s.Ok)(h:jT s wo oL cm P Sh last L)(hi:tms[i]? =some t)(ho:t.Ok)(hk:t.kd=5)(jh:∀k∈t.kids,∃y:Nat,k=(y:Int)/\y < R.length)(hx:Refs s x R)(hL:L.length<=1000000):
  cu T H 24 [.ptr wo 0,.vs nz 8 (tms.map Tm.d),x,.int .i64 (i:Nat)] s (IY s wo oL cm P Sh L t.kd):=by
 have hi' :=ee hi;have vk:=ir R;have rP:=ho.kids;have lF:=fun (p:St) (okp:p.Ok) (hp:jT p wo oL cm P Sh last L) (l:D) (hl:l.sc=true)=>mD (H:=H) (kd:=5) (num:=0) (b:=false) (ng:=false) (hh:=false) (ss:=false) (mag:= .vs true 0 []) (items:=l) (dd:= .cT) (fo:= .cT) (sp:= .cT) (tx:=[]) (cls:=0) (base:=0) (of' :=0) hS okp hp (fun num=>kK (h3:=hl) .nil (aR _)) hL;obtain⟨kd,b,ng,n1,mag,tx,n2,kids,hh,sm⟩:=t;simp only at hk jh rP;subst hk;have j6:(ints kids).length=kids.length:=by simp [ints]
 have mu:(Tm.mk 5 b ng n1 mag tx n2 kids hh sm).d.st=true:=rfl;rcases hx with _ | ⟨g,hn⟩
 ·obtain rfl:kids=[]:=by
   cases kids with
   | nil=>rfl
   | cons k r=>obtain ⟨y,_,hy⟩:=jh k (by simp); cases hy
  refine ay hS.t24 ?_;try refine go ?_
  refine cg (TpL tms nz wo (.vs true 0 []) ⟨5,b,ng,n1,mag,tx,n2,[],hh,sm⟩ s) 0 rfl ⟨[],_,rfl,an _,rfl,.inl ⟨rfl,rfl,rfl⟩⟩ ?_;rintro m env s1 ⟨V,l,rfl,hV,rfl,hI⟩;simp only [bL,Nat.le_zero]at hV;obtain rfl:V=[]:=ib.1 hV;rcases hI with ⟨_,rfl,rfl⟩ | ⟨cC,_⟩
  ·try refine go ?_
   refine ak (lF _ hs h _ rfl) ?_;rintro d s1 ⟨rfl,⟨l1,num,h1⟩,b1,n1⟩;try refine go ?_
   exact ai ⟨L.length,l1,[_],rfl,h1,by simp,by simp,fun h=>by simp at h,b1⟩
  ·exact absurd rfl cC
 ·rename_i o;have lo:=hs.lt g;refine ay hS.t24 ?_;try refine go ?_
  refine cg (TpL tms nz wo (.sl o 0 R.length R.length) ⟨5,b,ng,n1,mag,tx,n2,kids,hh,sm⟩ s) kids.length rfl ⟨[],_,rfl,aR _,rfl,.inl ⟨rfl,rfl,rfl⟩⟩ ?_;rintro m env s1 ⟨V,l,rfl,hV,rfl,hI⟩;simp only at hV;have b1:=hI.dU hs;have ok1:=b1.ok;have g1:=b1.get hs g id;by_cases dQ:V.length < kids.length
  ·have hd:=eR ((V.length:Int) < ((ints kids).length:Nat));obtain⟨y,hy,Lr⟩:=jh kids[V.length] (bH dQ);have Ll:kids[V.length]? =some (y:Int):=by rw [ae dQ,hy]
   have nO:(ints kids)[V.length]? =some (.int .i64 (y:Nat)):=by simp only [ints,aE,Ll]; rfl
   have oP:(ints (R.map Int.ofNat))[0+y]? =some (.int .i64 (R[y]:Nat)):=by simp only [ints,aM,aE,ae Lr,dn]; rfl
   have hVl:(ints V).length=V.length:=by simp [ints]
   have hVs:ints (V++ [(R[y]:Int)])=ints V++ [.int .i64 (R[y]:Nat)]:=by simp [ints]
   have Ns:(V++ [(R[y]:Int)]).length=V.length+1:=by simp
   generalize R[y]=r at oP hVs Ns;rcases hI with ⟨rfl,rfl,rfl⟩ | ⟨QX,rfl,gq,bq⟩
   ·try refine go ?_
    refine bg (kids.length - 1) (by show kids.length - 1 < kids.length - 0; simp only [bL]at dQ; omega) rfl ⟨[(r:Int)],_,rfl,by simp only [bL]at dQ; show 1<=kids.length; omega,rfl,.inr ⟨by simp,rfl, ?_,(aC.refl hs).push _⟩⟩;rw [St.ba]; rfl
   ·have ln:=ok1.lt gq;try refine go ?_
    refine bg (kids.length - (V.length+1)) (by show kids.length - (V.length+1) < kids.length - V.length; omega) rfl ⟨V++ [(r:Int)],_,by rw [Ns]; rfl,by rw [Ns]; show V.length+1<=kids.length; omega,by rw [Ns],.inr ⟨by simp,by rw [Ns]; rfl, ?_,aC.set bq _ ln (fun h=>by omega)⟩⟩;rw [St.aN,hVs]
  ·have hd:=cM ((V.length:Int) < ((ints kids).length:Nat));have HY:=hI.sc;rcases hI with ⟨rfl,rfl,rfl⟩ | ⟨QX,rfl,gq,bq⟩
   all_goals
    try refine go ?_
    refine ak (lF _ ok1 (h.nil hs b1) _ HY) ?_;rintro d s2 ⟨rfl,⟨l1,num,h1⟩,b2,n1⟩;try refine go ?_
    exact ai ⟨L.length,l1,[_],rfl,h1,by simp,by simp,fun h=>by simp at h,(b1.mono fun _ h=>h.elim).trans b2⟩
end
section
variable {T:Nat->Option dS}{H:au}{s:St}{wo oL cm P Sh i:Nat}{last:Int}{L:List D}{tms:List Tm}{nz:Bool}{t:Tm}{x:D}{R:List Nat}
theorem GJ (hT:nH T)(hS:mw T)(hs:s.Ok)(h:jT s wo oL cm P Sh last L)(hi:tms[i]? =some t)(hk:t.kd=14)(hP:P<=65536)(Lk:Sh<=256)(hL:L.length<=900000)(hx:x= .vs true 0 []\/∃o n,x= .sl o 0 n n):
  cu T H 24 [.ptr wo 0,.vs nz 8 (tms.map Tm.d),x,.int .i64 (i:Nat)] s (IY s wo oL cm P Sh L t.kd):=by
 have hi' :=ee hi;obtain⟨kd,b,ng,n1,mag,tx,n2,kids,hh,sm⟩:=t;simp only at hk;subst hk;have mu:(Tm.mk 14 b ng n1 mag tx n2 kids hh sm).d.st=true:=rfl;have zf:=JV (H:=H) (nm:=[67]) (bs:= -1) hT hS hs h hP Lk (by omega);rcases hx with rfl | ⟨o,n,rfl⟩
 all_goals
  refine ay hS.t24 ?_;try refine go ?_
  refine ak zf ?_;rintro d s1 ⟨rfl,⟨l1,num,dv,fo,h1⟩,b1⟩;have ok1:=b1.ok;have gw:=h1.go;obtain⟨st,gl,dT⟩:=h1.gl;obtain⟨e1,e2,e3⟩:=h1.ne;obtain⟨k1,k2,k3⟩:=h1.lt ok1;have gL:∀a b:D,(L++ [a]).set (0+L.length) b=L++ [b]:=fun a b=>by simp
  have pQ:(L++ [rv 13 num false false (.vs true 0 []) [67] (.vs true 0 []) (.ptr dv 0) 0 (-1) (.ptr fo 0) .cT 0 false false]).length=L.length+1:=by simp
  have oP:(L++ [rv 13 num false false (.vs true 0 []) [67] (.vs true 0 []) (.ptr dv 0) 0 (-1) (.ptr fo 0) .cT 0 false false])[0+L.length]? =some (rv 13 num false false (.vs true 0 []) [67] (.vs true 0 []) (.ptr dv 0) 0 (-1) (.ptr fo 0) .cT 0 false false):=by simp
  have P3 :∀a:D,(L++ [a])[0+L.length]? =some a:=fun a=>by simp
  try refine go ?_
  simp only [gL];obtain⟨a1,a2,a3,a4,gc⟩:=h1.ct;refine Cs (fun p=>p.get wo=some (.var 88 (.agg [.sl oL 0 (L.length+1) (L.length+1),.int .i64 l1,.int .i64 0,.int .i64 (P:Nat),.int .i64 (Sh:Nat),.vs true 0 [],.vs true 0 [],.ptr cm 0]))/\p.get oL=some (.arr 22 94 (L++ [(rv 13 num false false (.vs true 0 []) [67] (.vs true 0 []) (.ptr dv 0) 0 (-1) (.ptr fo 0) .cT 0 hh false)]) (L.length+1))/\jF p cm/\aC (yZ wo oL cm) s1 p/\p.n=s1.n) ⟨by rw [← pQ]; exact gI,by rw [St.aN,pQ]; rfl,⟨a1,a2,a3,a4,gI⟩,aC.set (aC.refl ok1) _ k2 (fun _=> .inr (.inl rfl)),rfl⟩ ?_;rintro p ⟨gwp,glp,ctp,bp,np⟩;have okp:=bp.ok;have hlp:(L++ [(rv 13 num false false (.vs true 0 []) [67] (.vs true 0 []) (.ptr dv 0) 0 (-1) (.ptr fo 0) .cT 0 hh false)]).length=L.length+1:=by simp
  have acY:=P3 (rv 13 num false false (.vs true 0 []) [67] (.vs true 0 []) (.ptr dv 0) 0 (-1) (.ptr fo 0) .cT 0 hh false);obtain⟨c1,c2,c3,c4,gcp⟩:=ctp;try refine go ?_
  simp only [gL];refine pD (fun q=>q.get wo=some (.var 88 (.agg [.sl oL 0 (L.length+1) (L.length+1),.int .i64 l1,.int .i64 0,.int .i64 (P:Nat),.int .i64 (Sh:Nat),.vs true 0 [],.vs true 0 [],.ptr cm 0]))/\q.get oL=some (.arr 22 94 (L++ [(rv 13 num false false (.vs true 0 []) [67] (.vs true 0 []) (.ptr dv 0) 0 (-1) (.ptr fo 0) .cT 0 hh sm)]) (L.length+1))/\jF q cm/\aC (yZ wo oL cm) p q) ⟨gI,by rw [St.aN,hlp]; rfl,⟨c1,c2,c3,c4,gI⟩,aC.set (aC.refl okp) _ (by omega) (fun _=> .inr (.inl rfl))⟩ ?_;rintro q ⟨gwq,glq,ctq,bq⟩;have okq:=bq.ok;have b1q:=bp.trans bq;have hlq:(L++ [(rv 13 num false false (.vs true 0 []) [67] (.vs true 0 []) (.ptr dv 0) 0 (-1) (.ptr fo 0) .cT 0 hh sm)]).length=L.length+1:=by simp
  have hq:jT q wo oL cm P Sh l1 (L++ [(rv 13 num false false (.vs true 0 []) [67] (.vs true 0 []) (.ptr dv 0) 0 (-1) (.ptr fo 0) .cT 0 hh sm)]):=⟨by rw [hlq]; exact gwq,⟨_,glq,by omega⟩,fun d hd=>by
   rw [bK,cG]at hd;rcases hd with hd | rfl
   ·exact (h1.vs d (by simp [hd])).dU ok1 b1q h1.nu
   ·exact kK .nil (aR _),ctq,by simp⟩
  have hcq:(L++ [(rv 13 num false false (.vs true 0 []) [67] (.vs true 0 []) (.ptr dv 0) 0 (-1) (.ptr fo 0) .cT 0 hh sm)])[L.length]? =some (rv 13 num false false (.vs true 0 []) [67] (.vs true 0 []) (.ptr dv 0) 0 (-1) (.ptr fo 0) .cT 0 hh sm):=by simp
  refine ak (BX hT hS okq hq hcq (by omega)) ?_;rintro d s2 ⟨hd,⟨l2,v,h2⟩,b2⟩;rw [hlq]at hd;subst hd;try refine go ?_
  exact ai ⟨L.length+1,l2,[(rv 13 num false false (.vs true 0 []) [67] (.vs true 0 []) (.ptr dv 0) 0 (-1) (.ptr fo 0) .cT 0 hh sm),v],rfl,by simpa using h2,by simp,by simp,fun h=>by simp at h,(b1.trans b1q).trans b2⟩
end
section
variable {T:Nat->Option dS}{H:au}{s:St}{wo oL cm P Sh:Nat}{last:Int}{L:List D}{tms:List Tm}{nz:Bool}{t:Tm}{x:D}{R:List Nat}
theorem IY.of {s1:St}{kd:Int}{d:D}(h6:kd≠6)(h:∃(last' :Int) (v:D),d= .int .i64 (L.length:Nat)/\jT s1 wo oL cm P Sh last' (L++ [v])/\aC (fun j=>yZ wo oL cm j\/s.n<=j) s s1):IY s wo oL cm P Sh L kd d s1:=by
 obtain⟨la,v,rfl,h1,b1⟩:=h;exact⟨L.length,la,[v],rfl,h1,by simp,by simp,fun h=>absurd h h6,b1.n,b1.ok,fun o ho hn=>b1.same o ho (by rintro (h | h); exact hn h; omega)⟩
theorem Refs.form (h:Refs s x R):x= .vs true 0 []\/∃o n,x= .sl o 0 n n:=by
 rcases h with _ | ⟨g,hn⟩
 ·exact .inl rfl
 ·exact .inr ⟨_,_,rfl⟩
theorem Eu (hT:nB T)(hR:nH T)(hS:mw T)(hs:s.Ok)(h:jT s wo oL cm P Sh last L)(hi:tms[R.length]? =some t)(fK:∀u∈tms,u.Ok)(hg:lg tms R.length t)(j6:t.kids.length<=20000)(hP:P<=65536)(Lk:Sh<=256)(PU:3<=L.length)(hL:L.length<=900000)(hx:Refs s x R)(PM:∀r∈R,r < L.length):
  cu T H 24 [.ptr wo 0,.vs nz 8 (tms.map Tm.d),x,.int .i64 (R.length:Nat)] s (IY s wo oL cm P Sh L t.kd):=by
 have ho:=fK t (aK hi);have UM:R.length<=tms.length:=Nat.le_of_lt (af.mp hi).1;have hf:=hx.form
 have jh:t.kd≠6->∀k∈t.kids,∃y:Nat,k=(y:Int)/\y < R.length:=fun h6 k hk=>by
  have h1:=hg.kids k hk;rw [aJ h6]at h1;exact⟨k.toNat,by omega,by omega⟩
 have gW:=hg.kind;by_cases k1:t.kd=1
 ·exact Hu hT hR hS hs h hi ho k1 PU (by omega) hf
 by_cases k2:t.kd=2
 ·exact GZ hT hR hS hs h hi ho k2 PU (by omega) hf
 by_cases k3:t.kd=3
 ·exact Kn hT hR hS hs h hi ho k3 PU (by omega) hf
 by_cases k4:t.kd=4
 ·exact JT hT hR hS hs h hi ho k4 PU (by omega) hf
 by_cases k5:t.kd=5
 ·exact Dg hS hs h hi ho k5 (jh (by omega)) hx (by omega)
 by_cases k6:t.kd=6
 ·exact F6 hT hR hS hs h hi ho k6 PU (by omega) hf
 by_cases Xt:t.kd=14
 ·exact GJ hR hS hs h hi Xt hP Lk hL hf
 by_cases kv:t.kd=15\/t.kd=16\/t.kd=17
 ·obtain⟨k,hk⟩:∃k,t.kids=[k]:=by
   have h1:=hg.view (by omega)
   match hh:t.kids,h1 with
   | [k],_=>exact ⟨k,rfl⟩
  obtain⟨y,hy,Lr⟩:=jh (by omega) k (by rw [hk]; exact cG.2 rfl);subst hy;exact Hj hS hs h hi kv hk hx (ae Lr) (by omega)
 have acf:t.kd=7\/t.kd=8\/t.kd=9:=by omega
 rcases hx with _ | ⟨g,hn⟩
 ·have Nb:t.kids=[]:=by
   cases hh:t.kids with
   | nil=>rfl
   | cons k r=>obtain ⟨y,_,hy⟩:=jh (by omega) k (by rw [hh]; simp); cases hy
  exact (FV hR hS hs h hi acf hP hL Nb).mono fun d s1 h=>IY.of (by omega) h
 ·by_cases k7:t.kd=7
  ·exact (Hk hT hR hS hs h hi fK k7 (hg.even k7) hP hL g PM UM j6 (jh (by omega))).mono fun d s1 h=>IY.of (by omega) h
  ·exact (KP hT hR hS hs h hi fK (by omega) hP hL g PM UM j6 (jh (by omega))).mono fun d s1 h=>IY.of (by omega) h
end
section
variable {T:Nat->Option dS}{H:au}{s:St}{tms:List Tm}{nz:Bool}
theorem RJ {A:List Int}{n:Nat}(h:A.Nodup)(hA:∀a∈A,∃x:Nat,a=(x:Int)/\x < n):A.length<=n:=by
 have:=yW A ((List.range n).map Int.ofNat) h (fun a ha=>by
  obtain⟨x,rfl,hx⟩:=hA a ha;exact jO.2 ⟨x,mg.2 hx,rfl⟩)
 simpa using this
theorem Fh {S j k:Nat}(hS:S=1\/S=2)(h1:S ∣ j)(h2:S ∣ k)(h:k < j):k+S<=j:=by
 rcases hS with rfl | rfl <;> omega
def PrI (tms:List Tm)(nz:Bool)(td:Tm)(S:Nat)(s:St)(m:Nat)(env:Env) (s' :St):Prop:=
 ∃(j:Nat) (A:List Int),env=[(0,.vs nz 8 (tms.map Tm.d)),(3,.lv td.d),(5,.int .i64 (S:Nat)),(6,.int .i64 (A.length:Nat)),(7,.int .i64 (j:Nat))]/\aC Nil s s' /\A.Nodup/\S ∣ j/\j<=td.kids.length+1/\m=td.kids.length+1 - j/\∀a∈A,∃i,i < j/\S ∣ i/\td.kids[i]? =some a
def PrJ (tms:List Tm)(nz:Bool)(td:Tm)(S n j:Nat)(s:St)(m:Nat)(env:Env) (s' :St):Prop:=
 ∃(f:Bool) (i:Nat),env=[(0,.vs nz 8 (tms.map Tm.d)),(3,.lv td.d),(5,.int .i64 (S:Nat)),(6,.int .i64 (n:Nat)),(7,.int .i64 (j:Nat)),(8,.bool f),(9,.int .i64 (i:Nat))]/\aC Nil s s' /\S ∣ i/\i<=j/\m=j - i/\(f=true->∀x,x < i->S ∣ x->td.kids[x]? ≠td.kids[j]?)
theorem wv (hT:nB T)(hS:mw T){td:Tm}{S:Nat}{Ev:Env}{k:List je}{Q:QP}(hs:s.Ok)(hSt:S=1\/S=2)(ho:∀u∈tms,u.Ok)(j6:td.kids.length<=60000)(hN:tms.length<=60000)
  (mr:∀k∈td.kids,∃x:Nat,k=(x:Int)/\x < tms.length)(C4:Ev.bR [0,3,5,6,7]=[(0,.vs nz 8 (tms.map Tm.d)),(3,.lv td.d),(5,.int .i64 (S:Nat)),(6,.int .i64 0),(7,.int .i64 0)])
  (h:∀(n j:Nat) z1 z2 z3 z4 z5 s1,n<=tms.length->aC Nil s s1->kZ T H (.exit 0) k ⟨[(17,z1),(16,z2),(15,z3),(14,z4),(13,z5),(0,.vs nz 8 (tms.map Tm.d)),(3,.lv td.d),(5,.int .i64 (S:Nat)),(6,.int .i64 (n:Nat)),(7,.int .i64 (j:Nat))],[]⟩ s1 Q):
  eI T H (match WH.1.body with | .seq _ (.seq _ (.seq _ (.seq _ (.seq (.seq _ (.block _ l)) _))))=>l | _=> .skip) k ⟨Ev,[]⟩ s Q:=by
 obtain⟨kd,b,ng,n1,mag,tx,n2,kids,hh,sm⟩:=td;simp only at j6 mr;have jg:(ints kids).length=kids.length:=by simp [ints]
 show eI T H (.loop _ _) k ⟨Ev,[]⟩ s Q;refine cg (PrI tms nz ⟨kd,b,ng,n1,mag,tx,n2,kids,hh,sm⟩ S s) (kids.length+1) rfl ⟨0,[],C4,aC.refl hs,fN,Nat.dvd_zero _,aR _,rfl,fun _ h=>by cases h⟩ ?_;rintro m env s1 ⟨j,A,rfl,b1,hA,hdj,hj,rfl,hAm⟩;simp only at hj hAm
 have hAl:A.length<=tms.length:=RJ hA fun a ha=>by
  obtain⟨i,_,_,h3⟩:=hAm a ha;exact mr a (aK h3)
 by_cases dQ:j < kids.length
 ·have hd:=eR ((j:Int) < ((ints kids).length:Nat));obtain⟨x,hx,hxl⟩:=mr kids[j] (bH dQ);have Ll:kids[j]? =some (x:Int):=by rw [ae dQ,hx]
  have nO:(ints kids)[j]? =some (.int .i64 (x:Nat)):=by simp only [ints,aE,Ll]; rfl
  have hwA:IntKind.wrap .i64 ((A.length:Int)+1)=((A.length+1:Nat):Int):=by rw [wrap_small (by omega) (by omega)]; rfl
  have rM:IntKind.wrap .i64 ((j:Int)+(S:Nat))=((j+S:Nat):Int):=by rw [wrap_small (by omega) (by omega)]; rfl
  try refine go ?_
  refine cg (PrJ tms nz ⟨kd,b,ng,n1,mag,tx,n2,kids,hh,sm⟩ S A.length j s1) j rfl ⟨true,0,rfl,aC.refl b1.ok,Nat.dvd_zero _,aR _,rfl,fun _ x hx=>by omega⟩ ?_;rintro m env s2 ⟨f,i,rfl,b2,hdi,hi,rfl,hf⟩;simp only at hf;have ok2:=b2.ok;by_cases F4:i < j/\f=true
  ·obtain⟨F4,rfl⟩:=F4;have Gn:=eR ((i:Int) < (j:Nat));have Qd:i < kids.length:=by omega
   obtain⟨y,hy,Z4⟩:=mr kids[i] (bH Qd);have Co:kids[i]? =some (y:Int):=by rw [ae Qd,hy]
   have hii:(ints kids)[i]? =some (.int .i64 (y:Nat)):=by simp only [ints,aE,Co]; rfl
   have hwi:IntKind.wrap .i64 ((i:Int)+(S:Nat))=((i+S:Nat):Int):=by rw [wrap_small (by omega) (by omega)]; rfl
   try refine go ?_
   refine bf (Lv hT hS ok2 (ae Z4) (ae hxl) (ho _ (bH Z4)) (ho _ (bH hxl))) ?_;rintro d s3 ⟨⟨c,rfl,hc⟩,b3⟩;have ok3:=b3.ok;refine⟨rfl,by simp [lost,eN.kind,cJ,dE,cE,aI,bz,bz.cV,fZ,bP.ev,Env.get,cP,D.flat,D.isAgg,cL,D.fv,D.beq,az,Obj.aV,bC,bu,D.bV,D.aV,cA], ?_⟩;try refine go ?_
   rw [hwi];have hn:=Fh hSt hdj hdi F4;refine bg (j - (i+S)) (by omega) rfl ⟨!c,i+S,rfl,b2.trans b3,Nat.dvd_add hdi (Nat.dvd_refl _),hn,rfl,fun Zm z hz hdz=> ?_⟩;simp only;by_cases hzi:z < i
   ·exact hf rfl z hzi hdz
   ·have:z=i:=by
     rcases aG i z with h | h
     ·have:=Fh hSt hdz hdi h; omega
     ·omega
    subst this;rw [Co,Ll];intro e;have:y=x:=by have:=Option.some.inj e; omega
    have:=hc this;subst this; simp at Zm
  ·have hjn:j+S<=kids.length+1+S:=by omega
   have hjm:j+S<=kids.length+1\/kids.length+1 < j+S:=by omega
   have iX:∀(A' :List Int),A'.Nodup->(∀a∈A',∃i,i < j+S/\S ∣ i/\kids[i]? =some a)->PrI tms nz ⟨kd,b,ng,n1,mag,tx,n2,kids,hh,sm⟩ S s (kids.length+1 - (j+S)) [(0,.vs nz 8 (tms.map Tm.d)),(3,.lv (Tm.d ⟨kd,b,ng,n1,mag,tx,n2,kids,hh,sm⟩)),(5,.int .i64 (S:Nat)),(6,.int .i64 (A'.length:Nat)),(7,.int .i64 ((j+S:Nat):Int))] s2:=fun A' h1 h2=>
    ⟨j+S,A',rfl,b1.trans b2,h1,Nat.dvd_add hdj (Nat.dvd_refl _),by show j+S<=kids.length+1; omega,rfl,h2⟩
   have hold:∀a∈A,∃i,i < j+S/\S ∣ i/\kids[i]? =some a:=fun a ha=>by
    obtain⟨i,h1,h2,h3⟩:=hAm a ha;exact⟨i,by omega,h2,h3⟩
   cases f
   ·have Gn:∃c,decide ((i:Int) < (j:Nat))=c:=⟨_,rfl⟩;obtain⟨c,Gn⟩:=Gn;cases c
    all_goals
     try refine go ?_
     rw [rM];exact bg (kids.length+1 - (j+S)) (by show kids.length+1 - (j+S) < kids.length+1 - j; omega) rfl (iX A hA hold)
   ·have Yw :i=j:=by
     have: ¬ i < j:=fun h=>F4 ⟨h,rfl⟩;omega
    subst Yw;have Gn:decide ((i:Int) < (i:Nat))=false:=by simp
    have Y0:(x:Int) ∉ A:=fun ha=>by
     obtain⟨z,h1,h2,h3⟩:=hAm _ ha;exact hf rfl z h1 h2 (by rw [h3,Ll])
    have hAx:(A++ [(x:Int)]).length=A.length+1:=by simp
    have hA' :(A++ [(x:Int)]).Nodup:=by
     rw [List.nodup_append];exact⟨hA,by simp,fun a ha b hb=>by simp at hb; subst hb; exact fun e=>Y0 (e ▸ ha)⟩
    have jr:=iX _ hA' fun a ha=>by
     rw [bK,cG]at ha;rcases ha with ha | rfl
     ·exact hold a ha
     ·exact⟨i,by omega,hdj,Ll⟩
    rw [hAx]at jr;try refine go ?_
    rw [rM];exact bg (kids.length+1 - (i+S)) (by show kids.length+1 - (i+S) < kids.length+1 - i; omega) rfl jr
 ·have hd:=cM ((j:Int) < ((ints kids).length:Nat));try refine go ?_
  exact h _ _ _ _ _ _ _ s1 hAl b1
theorem iG (hT:nB T)(hS:mw T){td:Tm}(hs:s.Ok)(pw:td.Ok)(ho:∀u∈tms,u.Ok)(hN:tms.length<=60000)(mr:∀k∈td.kids,∃x:Nat,k=(x:Int)/\x < tms.length):
  cu T H 46 [.vs nz 8 (tms.map Tm.d),td.d] s fun d s1=>(∃n:Nat,d= .int .i64 n/\n<=tms.length)/\aC Nil s s1:=by
 have GQ:=td.st;have hk:=pw.kids;refine ay hS.t46 ?_;refine run_seq ?_;refine ma ?_;refine j7 GQ ?_;cases h7:(td.kd==7)
 ·try refine go ?_
  refine wv hT hS hs (.inl rfl) ho (by omega) hN mr rfl ?_;intro n j z1 z2 z3 z4 z5 s1 hn b1;try refine go ?_
  exact ai ⟨⟨n,rfl,hn⟩,b1⟩
 ·try refine go ?_
  refine wv hT hS hs (.inr rfl) ho (by omega) hN mr rfl ?_;intro n j z1 z2 z3 z4 z5 s1 hn b1;try refine go ?_
  exact ai ⟨⟨n,rfl,hn⟩,b1⟩
end
def er (kd:Int):Bool:=decide (15<=kd) && decide (kd<=17)
def eV (kd:Int):Bool:=decide (kd=7)
def isSet (kd:Int):Bool:=decide (kd=8) || decide (kd=9)
def isRow (kd:Int):Bool:=decide (kd=5) || decide (kd=6)
def cr (tms:List Tm)(i:Nat)(t:Tm)(j:Nat)(k:Int):Prop:=0<=k/\k < (tms.length:Nat)/\(k < (i:Nat)\/t.kd=6)/\∃u,tms[k.toNat]? =some u/\(er t.kd=true->u.kd=7)/\(isSet t.kd=true\/eV t.kd=true/\j % 2=0->IsKey u)
def cO (t:Tm):Prop:=(0 < t.kids.length->eV t.kd=true\/isSet t.kd=true\/isRow t.kd=true\/er t.kd=true)/\(eV t.kd=true->t.kids.length % 2=0)/\(er t.kd=true->t.kids.length=1)
theorem EA {tms:List Tm}{i:Nat}{t:Tm}(hi:i < tms.length)(hk:dX t.kd):(cO t/\∀j k,t.kids[j]? =some k->cr tms i t j k)↔mP tms i t:=by
 unfold cO cr mP rF uZ er eV isSet isRow;unfold dX at hk;simp only [aA,eC,aX];constructor
 ·rintro⟨⟨h1,h2,h3⟩,h4⟩;refine⟨fun k hm=> ?_,fun k hm=> ?_, ?_⟩
  ·obtain⟨j,hj⟩:=cH hm;obtain⟨a1,a2,a3,_⟩:=h4 j k hj;refine⟨a1, ?_⟩;split <;> omega
  ·unfold eU at hm;split at hm
   ·rename_i hs;obtain⟨j,hj⟩:=cH hm;obtain⟨_,_,_,u,a4,_,a5⟩:=h4 j k hj;exact⟨u,a4,a5 (.inl hs)⟩
   ·split at hm
    ·rename_i hs hd;obtain⟨j,hj⟩:=cH hm;rw [uQ]at hj;obtain⟨_,_,_,u,a4,_,a5⟩:=h4 (2 * j) k hj;exact⟨u,a4,a5 (.inr ⟨hd,by omega⟩)⟩
    ·cases hm
  ·split
   ·trivial
   ·rename_i n1;split
    ·rename_i hd;exact h2 hd
    ·rename_i n2;split
     ·rename_i hv;have hl:=h3 (by omega)
      obtain⟨k,vm⟩:∃k,t.kids=[k]:=by
       match t.kids,hl with
       | [k],_=>exact ⟨k,rfl⟩
      obtain⟨_,_,_,u,a4,a5,_⟩:=h4 0 k (by rw [vm]; rfl);exact⟨k,u,vm,a4,a5 (by omega)⟩
     ·rename_i n3;rcases ec t.kids.length with h0 | h0
      ·exact ib.mp h0
      ·exfalso;have:=h1 h0;omega
 ·rintro⟨h1,h2,h3⟩;refine⟨⟨fun h0=> ?_,fun hd=> ?_,fun hv=> ?_⟩,fun j k hj=> ?_⟩
  ·by_cases a1:t.kd=5\/t.kd=6\/t.kd=8\/t.kd=9
   ·omega
   rw [aJ a1]at h3;by_cases a2:t.kd=7
   ·omega
   rw [aJ a2]at h3;by_cases a3:t.kd=15\/t.kd=16\/t.kd=17
   ·omega
   rw [aJ a3]at h3;rw [h3]at h0; cases h0
  ·rw [aJ (by omega),bJ hd]at h3; exact h3
  ·rw [aJ (by omega),aJ (by omega),bJ (by omega)]at h3;obtain⟨k,u,e1,_⟩:=h3;rw [e1]; rfl
  ·have hm:=aK hj;obtain⟨b1,b2⟩:=h1 k hm;have b3:k < (tms.length:Nat)/\(k < (i:Nat)\/t.kd=6):=by split at b2 <;> omega
   obtain⟨u,hu⟩:∃u,tms[k.toNat]? =some u:=⟨_,ae (by omega)⟩;refine⟨b1,b3.1,b3.2,u,hu,fun hv=> ?_,fun hs=> ?_⟩
   ·rw [aJ (by omega),aJ (by omega),bJ (by omega)]at h3;obtain⟨k',u',e1,e2,e3⟩:=h3;rw [e1,cG]at hm;subst hm;rw [hu]at e2; cases e2; exact e3
   ·have Kj:k∈eU t:=by
     unfold eU;rcases hs with hs | ⟨hd,Rc⟩
     ·rw [bJ hs]; exact hm
     ·rw [aJ (by omega),bJ hd];have:(iW t.kids)[j / 2]? =some k:=by rw [uQ,show 2 * (j / 2)=j by omega]; exact hj
      exact aK this
    obtain⟨u',e1,e2⟩:=h2 k Kj;rw [hu]at e1; cases e1; exact e2
section
variable {T:Nat->Option dS}{H:au}{s:St}{tms:List Tm}{nz:Bool}{i P:Nat}
theorem Dw {t:Tm}(h: ¬ dX t.kd):bM tms i t=12:=by unfold bM; rw [bJ h]
theorem da {t:Tm}(hi:i < tms.length)(hk:dX t.kd)(h: ¬ cO t\/∃j k,t.kids[j]? =some k/\ ¬ cr tms i t j k):bM tms i t=1:=by
 unfold bM
 have: ¬ mP tms i t:=fun h' =>by
  obtain⟨h1,h2⟩:=(EA hi hk).2 h';rcases h with h | ⟨j,k,hj,h⟩
  ·exact h h1
  ·exact h (h2 j k hj)
 rw [aJ (fun h=>h hk),bJ this]
theorem D5 {t:Tm}(hk:dX t.kd)(h4:t.kd=4)(h:Lib.validD t.tx=false):bM tms i t=1:=by
 unfold bM;rw [aJ (fun h=>h hk)];by_cases hK:mP tms i t
 ·rw [aJ (fun h=>h hK),bJ ⟨h4,h⟩]
 ·rw [bJ hK]
theorem fS {t:Tm}(hi:i < tms.length)(hk:dX t.kd)(h1:cO t)(h2:∀j k,t.kids[j]? =some k->cr tms i t j k)(h3:t.kd=4->Lib.validD t.tx=true):bM tms i t=if mn t=true then 3 else 0:=by
 unfold bM;rw [aJ (fun h=>h hk),aJ (fun h=>h ((EA hi hk).1 ⟨h1,h2⟩)),aJ];rintro⟨h4,h5⟩;rw [h3 h4]at h5; cases h5
def CN (tms:List Tm)(nz:Bool)(t:Tm)(i P:Nat)(v d z r:Bool)(s:St)(m:Nat)(env:Env) (s' :St):Prop:=
 ∃j:Nat,env=[(0,.vs nz 8 (tms.map Tm.d)),(1,.int .i64 (i:Nat)),(2,.int .i64 (P:Nat)),(7,.lv t.d),(8,.bool v),(9,.bool d),(10,.bool z),(11,.bool r),(12,.int .i64 (j:Nat))]/\aC Nil s s' /\j<=t.kids.length/\m=t.kids.length - j/\∀x k,x < j->t.kids[x]? =some k->cr tms i t x k
theorem Fg {t:Tm}(hS:mw T)(hs:s.Ok)(hi:tms[i]? =some t)(hk: ¬ dX t.kd):cu T H 23 [.vs nz 8 (tms.map Tm.d),.int .i64 (i:Nat),.int .i64 (P:Nat)] s fun d s1=>d= .int .i64 (bM tms i t)/\aC Nil s s1:=by
 have hi' :=ee hi;rw [Dw hk];obtain⟨kd,b,ng,n1,mag,tx,n2,kids,hh,sm⟩:=t;unfold dX at hk;simp only at hk;refine ay hS.t23 ?_;have g14:(kd==14)=false:=by simp only [bQ]; omega
 by_cases c1:kd < 1
 ·have d1:=cM (kd >= 1);have d2:=cM (kd >= 15);try refine go ?_
  exact ai ⟨rfl,aC.refl hs⟩
 have d1:=eR (kd >= 1);have d3:=cM (kd<=9);by_cases c2:kd < 15
 ·have d2:=cM (kd >= 15);try refine go ?_
  exact ai ⟨rfl,aC.refl hs⟩
 have d2:=eR (kd >= 15);have d4:=cM (kd<=17);try refine go ?_
 exact ai ⟨rfl,aC.refl hs⟩
theorem vp (u:Tm):u.kd < 1\/(1<=u.kd/\u.kd<=4)\/u.kd=14\/(4 < u.kd/\u.kd≠14):=by omega
end
end Go.Proofs.Tab
