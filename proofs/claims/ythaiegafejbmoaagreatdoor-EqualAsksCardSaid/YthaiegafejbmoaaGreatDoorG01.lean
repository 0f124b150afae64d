/- Part. -/
import Derived.Calls
set_option linter.unusedSectionVars false
set_option linter.unusedSimpArgs false
set_option linter.unusedVariables false
namespace Go.Ab
abbrev aa.{u}:= @Option.some.injEq.{u}
abbrev ab.{u,v}:= @Prod.mk.injEq.{u,v}
abbrev ae.{u,v}:= @Option.bind_eq_some_iff.{u,v}
abbrev aj.{u}:= @List.getElem?_eq_some_iff.{u}
abbrev ak.{u}:= @List.getElem?_eq_getElem.{u}
abbrev an.{u}:= @List.length_append.{u}
abbrev aq:= @Nat.le_refl
abbrev ax:= @Nat.ble_eq_true_of_le
abbrev ay:= @Nat.eq_of_beq_eq_true
abbrev az:= @Nat.le_of_ble_eq_true
abbrev aA:= @Nat.beq_refl
abbrev aB:= @Bool.and_eq_true
abbrev aC.{u}:= @List.length_singleton.{u}
abbrev aE.{u}:= @Option.bind_eq_bind.{u}
abbrev aF.{u}:= @List.getElem?_append_right.{u}
abbrev aI.{u}:= @if_neg.{u}
abbrev aK.{u}:= @List.getElem?_append_left.{u}
abbrev aL.{u}:= @Option.pure_def.{u}
abbrev aN.{u}:= @List.mem_cons.{u}
abbrev aO.{u,v}:= @List.getElem?_map.{u,v}
abbrev aP:= @Nat.lt_or_ge
abbrev aQ:= @Int.toNat_natCast
abbrev aS.{u}:= @List.getElem?_cons_zero.{u}
abbrev aT.{u}:= @List.length_cons.{u}
abbrev aU:= @Nat.zero_add
abbrev aW.{u,v}:= @Option.map_eq_some_iff.{u,v}
abbrev aY.{u,v}:= @List.length_map.{u,v}
abbrev bf:= @decide_eq_true_eq
abbrev bA.{u}:= @List.mem_nil_iff.{u}
abbrev bE.{u}:= @Ne.symm.{u}
abbrev bF:= @decide_eq_false_iff_not
abbrev bG.{u}:= @List.mem_of_getElem?.{u}
abbrev bJ:= @Nat.add_mul
abbrev bL:= @of_decide_eq_true
abbrev bP.{u}:= @List.getElem?_cons_succ.{u}
abbrev bQ.{u}:= @if_pos.{u}
abbrev bR.{u}:= @Array.getD_eq_getD_getElem?.{u}
abbrev bT.{u,v}:= @List.map_cons.{u,v}
abbrev bW:= @Nat.le_trans
abbrev bZ.{u}:= @List.getD_eq_getElem?_getD.{u}
abbrev b9.{u}:= @List.length_nil.{u}
abbrev cq.{u}:= @Array.getElem?_eq_none.{u}
abbrev cw.{u}:= @Array.getElem?_eq_getElem.{u}
abbrev cA.{u}:= @List.getElem_mem.{u}
abbrev cC:= @Nat.lt_of_lt_of_le
abbrev cH:= @Nat.zero_le
abbrev cJ:= @or_false
abbrev cM.{u}:= @List.length_replicate.{u}
abbrev cN.{u}:= @List.mem_append.{u}
abbrev cO:= @Nat.le_max_left
abbrev cP:= @decide_eq_false
abbrev cR:= @Bool.false_eq_true
abbrev cS.{u}:= @List.getElem?_drop.{u}
abbrev cT:= @not_false_eq_true
abbrev cU:= @Nat.le_max_right
abbrev cW.{u}:= @List.mem_cons_of_mem.{u}
abbrev cX:= @Nat.mul_le_mul_right
abbrev cZ.{u}:= @Array.ext'.{u}
abbrev c9.{u}:= @List.all_eq_true.{u}
abbrev da.{u}:= @List.getElem?_take.{u}
abbrev de.{u}:= @List.append_nil.{u}
abbrev dh.{u,v}:= @Option.map_some.{u,v}
abbrev du:= @decide_eq_true
abbrev dB.{u}:= @List.length_take.{u}
abbrev dE.{u}:= @Array.getElem?_setIfInBounds.{u}
abbrev dF.{u}:= @List.nil_append.{u}
abbrev dH.{u}:= @List.drop_of_length_le.{u}
abbrev dK.{u}:= @List.getElem?_eq_none.{u}
abbrev dS:= @Bool.and_self
abbrev dZ.{u}:= @List.nodup_cons.{u}
abbrev ed.{u}:= @List.getElem?_of_mem.{u}
abbrev ee:= @Nat.pow_le_pow_right
abbrev ef:= @Nat.sub_self
abbrev ei.{u}:= @if_true.{u}
abbrev eu.{u}:= @beq_eq_false_iff_ne.{u}
abbrev ey:= @Bool.or_eq_true
abbrev eB.{u}:= @Option.getD_some.{u}
abbrev eG:= @Bool.true_or
abbrev eH.{u,v}:= @List.map_nil.{u,v}
abbrev eI.{u}:= @List.mem_singleton.{u}
abbrev eN.{u}:= @List.cons.injEq.{u}
abbrev eO.{u}:= @Array.length_toList.{u}
abbrev eR:= @Bool.not_eq_true'
abbrev eU:= @Int.tmod_eq_emod_of_nonneg
abbrev eV:= @Nat.eq_zero_or_pos
abbrev eX.{u,v}:= @List.map_append.{u,v}
abbrev eY.{u,v}:= @List.map_toArray.{u,v}
abbrev eZ.{u}:= @List.not_mem_nil.{u}
abbrev fb.{u}:= @List.take_length.{u}
abbrev fc.{u}:= @List.take_of_length_le.{u}
abbrev fg.{u}:= @List.drop_eq_getElem_cons.{u}
abbrev fh.{u}:= @List.length_pos_iff.{u}
abbrev fj.{u}:= @List.nodup_nil.{u}
abbrev fu:= @Nat.add_zero
abbrev fG.{u}:= @List.mem_of_mem_take.{u}
abbrev fO:= @Bool.true_and
abbrev fP:= @Nat.lt_irrefl
abbrev fR.{u}:= @Array.getElem?_eq_some_iff.{u}
abbrev fS.{u}:= @List.append_assoc.{u}
abbrev fZ.{u}:= @List.take_succ_cons.{u}
abbrev gz.{u}:= @List.cons_append.{u}
abbrev gA.{u}:= @beq_iff_eq.{u}
abbrev gE:= @Nat.mul_assoc
abbrev gH.{u}:= @List.take_add_one.{u}
abbrev gJ:= @Nat.lt_trichotomy
abbrev gQ.{u}:= @List.length_reverse.{u}
abbrev gS.{u}:= @if_false.{u}
abbrev h9.{u}:= @List.all_cons.{u}
abbrev ia:= @Nat.add_assoc
abbrev ir:= @Int.tdiv_eq_ediv_of_nonneg
abbrev iu.{u}:= @List.drop_zero.{u}
abbrev iw:= @Nat.beq_eq
abbrev ix:= @and_true
abbrev iy:= @decide_eq_true_iff
abbrev iL.{u}:= @List.length_set.{u}
abbrev iM:= @Nat.two_pow_pos
abbrev iQ.{u}:= @List.ext_getElem?.{u}
abbrev iR.{u,v}:= @List.flatMap_cons.{u,v}
abbrev iU:= @not_true_eq_false
abbrev iW.{u}:= @Option.isSome_iff_exists.{u}
abbrev jd.{u}:= @Array.getElem?_push.{u}
abbrev je.{u}:= @List.replicate_succ.{u}
abbrev jf.{u,v}:= @Array.toList_map.{u,v}
abbrev jh.{u,v,w}:= @List.mapM_cons.{u,v,w}
abbrev jr:= @not_or
abbrev jB:= @Int.lt_or_le
abbrev jC.{u,v}:= @List.mem_filterMap.{u,v}
abbrev jD.{u}:= @List.set_cons_zero.{u}
abbrev jE:= @Nat.pow_succ
abbrev jK.{u}:= @List.mem_zipIdx_iff_getElem?.{u}
abbrev jM:= @Nat.not_lt_zero
abbrev jR.{u}:= @Array.getElem?_toList.{u}
abbrev jU.{u}:= @Array.size_append.{u}
abbrev jV.{u}:= @List.size_toArray.{u}
abbrev j6:= @Int.fdiv_eq_ediv_of_nonneg
abbrev j7.{u}:= @List.replicate_succ'.{u}
abbrev km.{u}:= @List.length_drop.{u}
abbrev kq:= @Nat.mod_eq_of_lt
abbrev kr:= @Nat.mul_comm
abbrev ku:= @Nat.succ_pos
abbrev kH.{u}:= @Array.getElem?_replicate.{u}
abbrev kN:= @Iff.rfl
abbrev kO:= @List.range_succ
abbrev kR.{u,v}:= @List.map_replicate.{u,v}
abbrev k9.{u}:= @List.getElem?_replicate.{u}
abbrev lf:= @Nat.mul_one
abbrev lF.{u}:= @List.dropWhile_sublist.{u}
abbrev lG.{u}:= @List.getElem?_set.{u}
abbrev lH:= @List.length_range
abbrev lI.{u,v}:= @List.mem_map.{u,v}
abbrev lY.{u}:= @Array.getElem?_modify.{u}
abbrev l7.{u}:= @List.set_append_right.{u}
abbrev l8.{u}:= @List.take_append_drop.{u}
abbrev me.{u}:= @List.countP_cons.{u}
abbrev mf:= @Nat.lt_succ_self
abbrev mh.{u,v}:= @Option.bind_some.{u,v}
abbrev mD:= @Bool.and_true
abbrev mE:= @Bool.false_or
abbrev mI.{u}:= @List.getElem?_append.{u}
abbrev mJ.{u}:= @List.mem_of_mem_drop.{u}
abbrev mU.{u,v}:= @List.foldl_cons.{u,v}
abbrev nv.{u}:= @Array.toList_modify.{u}
abbrev nA.{u}:= @List.drop_succ_cons.{u}
abbrev nB.{u,v}:= @List.flatMap_append.{u,v}
abbrev nF:= @Nat.zero_mul
abbrev og:= @And.left
abbrev oh:= @Bool.false_and
abbrev om:= @Bool.not_false
abbrev oy:= @List.mem_range
abbrev oz.{u}:= @List.take_zero.{u}
abbrev pc:= @Nat.succ_le_of_lt
class eh where
 vi:Nat->Int
 vs:Nat->List UInt8
 vb:Nat->Bool
inductive Sym where
 | i (n:Nat) | len (n:Nat) | lin (m c:Int) (a:Sym)
 deriving DecidableEq
def Sym.val [eh]:Sym->Int
 | .i n=>eh.vi n
 | .len n=>((eh.vs n).length:Nat)
 | .lin m c a=>m * a.val+c
inductive D where
 | bool (b:Bool)
 | int (k:IntKind) (n:Int)
 | str (s:List UInt8)
 | dU
 | ptr (o c:Nat)
 | jN (o i c e:Nat)
 | jJ (e:D) (c:Nat)
 | vs (nl:Bool) (sz:Nat) (l:List D)
 | sl (o off len cp:Nat)
 | qD
 | mp (o:Nat)
 | fn (f:Fn) (first cap:List D)
 | lX
 | eM (t:Nat) (v:D)
 | jc
 | agg (cs:List D)
 | gW (l:List D)
 | lv (v:D)
 | iE (a c:Nat)
 | sint (k:IntKind) (a:Sym) (lo hi:Int)
 | pa (i:Nat) (ex:List (List UInt8)) (lo hi:Nat)
 | rY (i:Nat)
 | yl (o:Nat)
 deriving Inhabited
def D.flat:D->List D
 | .agg cs=>cs
 | d=> [d]
def D.sc:D->Bool
 | .agg _=>false
 | .gW _=>false
 | .lv _=>false
 | .iE _ _=>false
 | _=>true
def D.st:D->Bool
 | .agg l=>l.all D.sc
 | d=>d.sc
inductive Rq where
 | ready | busy | exit (id:Nat) | ret
 deriving DecidableEq
inductive Obj where
 | var (ty:Nat) (v:D)
 | arr (sz ty:Nat) (elems:List D) (stable:Nat)
 | map (es:List (Nat×D×D)) (clock:Nat)
 | oW (s:List UInt8) (pos:Nat)
 | dead
 | loop (k:Nat) (st:Rq)
 deriving Inhabited
mutual
def D.beq:D->D->Bool
 | .bool a,.bool b=>a==b
 | .int k a,.int j b=>decide (k=j) && decide (a=b)
 | .str a,.str b=>a==b
 | .dU,.dU=>true
 | .ptr o c,.ptr o' c' =>Nat.beq o o' && Nat.beq c c'
 | .jN o i c e,.jN o' i' c' e' =>Nat.beq o o' && (Nat.beq i i' && (Nat.beq c c' && Nat.beq e e'))
 | .jJ e c,.jJ e' c' =>Nat.beq c c' && D.beq e e'
 | .vs n z l,.vs n' z' l' =>n==n' && (Nat.beq z z' && D.fC l l')
 | .sl o a b c,.sl o' a' b' c' =>Nat.beq o o' && (Nat.beq a a' && (Nat.beq b b' && Nat.beq c c'))
 | .qD,.qD=>true
 | .mp o,.mp o' =>Nat.beq o o'
 | .fn f x y,.fn f' x' y' =>decide (f=f') && (D.fC x x' && D.fC y y')
 | .lX,.lX=>true
 | .eM t d,.eM t' d' =>Nat.beq t t' && D.beq d d'
 | .jc,.jc=>true
 | .agg l,.agg l' =>D.fC l l'
 | .gW l,.gW l' =>D.fC l l'
 | .sint k a lo hi,.sint k' a' lo' hi' =>decide (k=k') && (decide (a=a') && (decide (lo=lo') && decide (hi=hi')))
 | .pa i ex lo hi,.pa i' ex' lo' hi' =>Nat.beq i i' && (ex==ex' && (Nat.beq lo lo' && Nat.beq hi hi'))
 | .rY i,.rY i' =>Nat.beq i i'
 | .yl i,.yl i' =>Nat.beq i i'
 | .lv a,.lv b=>D.beq a b
 | .iE a c,.iE a' c' =>Nat.beq a a' && Nat.beq c c'
 | _,_=>false
def D.fC:List D->List D->Bool
 | [],[]=>true
 | a::l,b::r=>D.beq a b && D.fC l r
 | _,_=>false
end
mutual
theorem D.beq_eq:∀(a b:D),D.beq a b=true->a=b:=by
 intro a b h
 cases a <;> cases b <;> simp only [D.beq,aB,bf,gA,iw]at h <;> first
  | (cases h; done)
  | rfl
  | (subst h; rfl)
  | (obtain ⟨rfl,rfl⟩:=h; rfl)
  | (obtain ⟨rfl,rfl,rfl⟩:=h; rfl)
  | (obtain ⟨rfl,rfl,rfl,rfl⟩:=h; rfl)
  | (obtain ⟨rfl,h⟩:=h; rw [D.beq_eq _ _ h])
  | (obtain ⟨rfl,rfl,h⟩:=h; rw [D.pd _ _ h])
  | (obtain ⟨rfl,h1,h2⟩:=h; rw [D.pd _ _ h1,D.pd _ _ h2])
  | (rw [D.pd _ _ h])
  | (rw [D.beq_eq _ _ h])
theorem D.pd:∀(a b:List D),D.fC a b=true->a=b
 | [],[],_=>rfl
 | x::l,y::r,h=>by
  simp only [D.fC,aB]at h;rw [D.beq_eq _ _ h.1,D.pd _ _ h.2]
 | [],_::_,h=>by simp [D.fC]at h
 | _::_,[],h=>by simp [D.fC]at h
end
def wS:List (Nat×D×D)->List (Nat×D×D)->Bool
 | [],[]=>true
 | (n,k,v)::l,(n',k',v')::r=>Nat.beq n n' && (D.beq k k' && (D.beq v v' && wS l r))
 | _,_=>false
theorem DV:∀(a b:List (Nat×D×D)),wS a b=true->a=b
 | [],[],_=>rfl
 | (n,k,v)::l,(n',k',v')::r,h=>by
  simp only [wS,aB,iw]at h;obtain⟨rfl,h1,h2,h3⟩:=h;rw [D.beq_eq _ _ h1,D.beq_eq _ _ h2,DV _ _ h3]
 | [],_::_,h=>by simp [wS]at h
 | _::_,[],h=>by simp [wS]at h
def Obj.beq:Obj->Obj->Bool
 | .var t v,.var t' v' =>Nat.beq t t' && D.beq v v'
 | .arr z t l s,.arr z' t' l' s' =>Nat.beq z z' && (Nat.beq t t' && (Nat.beq s s' && D.fC l l'))
 | .map l c,.map l' c' =>Nat.beq c c' && wS l l'
 | .oW l p,.oW l' p' =>Nat.beq p p' && l==l'
 | .dead,.dead=>true
 | .loop k st,.loop k' st' =>Nat.beq k k' && decide (st=st')
 | _,_=>false
theorem Obj.beq_eq (a b:Obj)(h:Obj.beq a b=true):a=b:=by
 cases a <;> cases b <;> simp only [Obj.beq,aB,iw,gA,bf]at h <;> first
  | (cases h; done)
  | rfl
  | (rw [D.beq_eq _ _ h])
  | (obtain ⟨rfl,rfl⟩:=h; rfl)
  | (obtain ⟨rfl,h⟩:=h; rw [D.beq_eq _ _ h])
  | (obtain ⟨rfl,rfl,rfl,h⟩:=h; rw [D.pd _ _ h])
  | (obtain ⟨rfl,h⟩:=h; rw [DV _ _ h])
inductive T (α:Type) where
 | nil
 | node (o:Option α) (l r:T α)
namespace T
variable {α:Type}
def get:T α->Nat->Option α
 | .nil,_=>none
 | .node o l r,k=>match Nat.beq k 0 with
  | true=>o
  | false=>match Nat.beq (k % 2) 1 with
   | true=>get l (k / 2)
   | false=>get r (k / 2 - 1)
def put:Nat->T α->Nat->Option α->T α
 | 0,t,_,_=>t
 | f+1,t,k,v=>match t with
  | .nil=>match Nat.beq k 0 with
   | true=> .node v .nil .nil
   | false=>match Nat.beq (k % 2) 1 with
    | true=> .node none (put f .nil (k / 2) v) .nil
    | false=> .node none .nil (put f .nil (k / 2 - 1) v)
  | .node o l r=>match Nat.beq k 0 with
   | true=> .node v l r
   | false=>match Nat.beq (k % 2) 1 with
    | true=> .node o (put f l (k / 2) v) r
    | false=> .node o l (put f r (k / 2 - 1) v)
def set (t:T α)(k:Nat)(v:Option α):T α:=put (k+1) t k v
theorem Mc {a b:Nat}(h:a=b):Nat.beq a b=true:=by subst h; exact aA a
theorem ui {a b:Nat}(h:a≠b):Nat.beq a b=false:=by
 cases hb:Nat.beq a b with
 | true=>exact absurd (ay hb) h
 | false=>rfl
theorem jm (o:Option α)(l r:T α):get (.node o l r) 0=o:=rfl
theorem iO (o:Option α)(l r:T α){j:Nat}(h0:j≠0)(h:j % 2=1):get (.node o l r) j=get l (j / 2):=by
 simp only [get,ui h0,Mc h]
theorem iP (o:Option α)(l r:T α){j:Nat}(h0:j≠0)(h:j % 2≠1):get (.node o l r) j=get r (j / 2 - 1):=by
 simp only [get,ui h0,ui h]
theorem Qe (f:Nat)(t:T α)(k:Nat)(v:Option α):
  ∃o l r,(∀j,get t j=get (.node o l r) j)/\put (f+1) t k v=match Nat.beq k 0 with
   | true=> .node v l r
   | false=>match Nat.beq (k % 2) 1 with
    | true=> .node o (put f l (k / 2) v) r
    | false=> .node o l (put f r (k / 2 - 1) v):=by
 cases t with
 | nil=>
  refine⟨none,.nil,.nil,fun j=> ?_,by simp only [put]⟩;simp only [get]; split
  ·rfl
  ·split <;> rfl
 | node o l r=>exact ⟨o,l,r,fun _=>rfl,by simp only [put]⟩
theorem xJ (f:Nat):∀(t:T α) (k j:Nat) (v:Option α),k < f->get (put f t k v) j=if j=k then v else get t j:=by
 induction f with
 | zero=>intro t k j v h; omega
 | succ f ih=>
  intro t k j v h;obtain⟨o,l,r,hg,hp⟩:=Qe f t k v;rw [hg,hp];by_cases hk:k=0
  ·subst hk;by_cases hj:j=0
   ·subst hj; simp [jm]
   ·simp only [aI hj];by_cases g:j % 2=1
    ·rw [iO _ _ _ hj g,iO _ _ _ hj g]
    ·rw [iP _ _ _ hj g,iP _ _ _ hj g]
  ·simp only [ui hk];by_cases g:k % 2=1
   ·simp only [Mc g];by_cases hj:j=0
    ·subst hj; rw [jm,jm,aI (bE hk)]
    ·by_cases q:j % 2=1
     ·rw [iO _ _ _ hj q,iO _ _ _ hj q,ih _ _ _ _ (by omega)];by_cases e:j / 2=k / 2
      ·rw [bQ e,bQ (by omega)]
      ·rw [aI e,aI (fun e' =>e (by rw [e']))]
     ·rw [iP _ _ _ hj q,iP _ _ _ hj q,aI (fun e' =>q (by rw [e']; exact g))]
   ·simp only [ui g];by_cases hj:j=0
    ·subst hj; rw [jm,jm,aI (bE hk)]
    ·by_cases q:j % 2=1
     ·rw [iO _ _ _ hj q,iO _ _ _ hj q,aI (fun e' =>g (by rw [← e']; exact q))]
     ·rw [iP _ _ _ hj q,iP _ _ _ hj q,ih _ _ _ _ (by omega)];by_cases e:j / 2 - 1=k / 2 - 1
      ·rw [bQ e,bQ (by omega)]
      ·rw [aI e,aI (fun e' =>e (by rw [e']))]
theorem pj (t:T α)(k j:Nat)(v:Option α):get (set t k v) j=if j=k then v else get t j:=xJ (k+1) t k j v (by omega)
end T
structure St where
 n:Nat
 h:T Obj
 lk:List Nat
 ro:Bool
def pM (o:Nat):List Nat->Bool
 | []=>false
 | x::r=>match Nat.beq x o with
  | true=>true
  | false=>pM o r
def St.get (s:St)(o:Nat):Option Obj:=s.h.get o
def St.bn (s:St)(o:Nat)(x:Obj):St:= { s with h:=s.h.set o (some x)}
def St.set (s:St)(o:Nat)(x:Obj):Option St:=
 match s.ro with
 | true=>none
 | false=>match pM o s.lk with
  | true=>none
  | false=>some (s.bn o x)
def St.aZ (s:St)(x:Obj):St:= { s with n:=s.n+1,h:=s.h.set s.n (some x)}
def St.mk' (s:St)(al:Option Nat)(x:Obj):Option (Nat×St):=
 match s.ro with
 | true=>none
 | false=>match al with
  | none=>some (s.n,s.aZ x)
  | some k=>match s.get k with
   | none=>match Nat.blt k s.n with
    | true=>some (k,s.bn k x)
    | false=>none
   | some _=>none
inductive bO where
 | t (n:Nat)
 | c (d:D)
mutual
inductive ET where
 | bool | int | str | ptr | slice | map | func | iface
 | st (l:Vq)
inductive Vq where
 | nil
 | cons (off:Nat) (s:Option Nat) (e:ET) (r:Vq)
end
inductive Ext where
 | nop | race | idp | Uh (k:IntKind) | L7 | YT (k:IntKind) | YS (k:IntKind)
 deriving DecidableEq
inductive Recv where
 | self | load (off:Nat) (s:Option Nat) | addr (off:Nat) | part (off:Nat) (s:Option Nat)
inductive eE where
 | mv (x:bO)
 | pick (c a b:bO)
 | box (ty:Nat) (x:bO)
 | mZ (x:bO)
 | pP (sz:Nat) (z:D) (len:Nat) (parts:List (Nat×bO))
 | build (z:List D) (parts:List (Nat×Nat×bO))
 | tw (sz ty:Nat) (z:D) (len:Nat) (parts:List (Nat×bO))
 | load (s:Option Nat) (x:bO)
 | store (sz:Nat) (x v:bO)
 | tf (a:Nat) (s:Option Nat) (x:bO)
 | iX (a:Nat) (sz:Nat) (x v:bO)
 | rU (x:bO)
 | Bx (name:String) (pC:List (Nat×Nat×Recv)) (x:bO)
 | bin (op:BinOp) (x y:bO)
 | eq (et:ET) (neg oneConst:Bool) (x y:bO)
 | un (op:UnOp) (x:bO)
 | toInt (k:IntKind) (x:bO)
 | rO (x:bO)
 | Fm (x:bO)
 | oZ (ty:Nat) (x:bO)
 | kS (x:bO)
 | Py (t:Nat) (x:bO)
 | Kq (f:Fn) (first cap:List bO)
 | zr (r:Option bO)
 | nN (sz bytes ty:Nat) (z:D) (len cap:bO)
 | pa (x:bO) (lo hi:Option bO)
 | KT (sz:Nat) (x:bO) (lo hi mx:Option bO)
 | yj (n:Nat) (x:bO)
 | wU (off:Nat) (x:bO)
 | field (off:Nat) (s:Option Nat) (x:bO)
 | oP (sz:Nat) (x i:bO)
 | rM (len sz:Nat) (x i:bO)
 | KR (x i:bO)
 | LO (len sz:Nat) (s:Bool) (x i:bO)
 | lookup (et:ET) (z:D) (ok:Bool) (m k:bO)
 | AF (et:ET) (m k v:bO)
 | tS (et:ET) (z:D) (m k:bO)
 | pt (m s v:bO)
 | range (x:bO)
 | uO (x:bO)
 | sO (t:Nat) (z:D) (ok:Bool) (x:bO)
 | r9 (n:Nat) (ts:List Nat) (ok:Bool) (x:bO)
 | extract (i:Nat) (x:bO)
 | call (ro:Bool) (f:Nat) (args:List bO)
 | oG (f:bO) (args:List bO)
 | invoke (pC:List (Nat×Nat×Recv)) (x:bO) (args:List bO)
 | len (k:Nat) (x:bO)
 | append (sz bytes ty:Nat) (x y:bO)
 | copy (sz:Nat) (x y:bO)
 | clear (sz:Nat) (z:D) (x:bO)
 | kW (x:bO)
 | uk (x:bO)
 | Fz (x:bO)
 | upto (l:List (Nat×Nat×Nat)) (x:bO)
 | qM (x:bO)
 | CW (ty:Nat) (x y:bO)
 | ext (k:Ext) (l:List bO)
 | delete (et:ET) (m k:bO)
 | tT (mx:Bool) (x:List bO)
 | defer (f:bO) (args:List bO)
 | bad
structure bz where
 dst:Option Nat
 op:eE
 guard:Option (Nat×Bool)
 al:Option Nat
inductive AC where
 | skip
 | AL (ops:List bz)
 | yF (k:Nat) (ops:List (bz×List Nat))
 | seq (a b:AC)
 | cond (c:bO) (a b:AC)
 | block (id:Nat) (a:AC)
 | loop (bM:List Nat) (a:AC)
 | exit (id:Nat)
 | ret
 | bad
 | iF (bM:List Nat) (g:bO) (ps:List Nat) (a b:AC)
inductive xl where
 | tmp (t:Nat)
 | cell (a:Nat) (s:Option Nat)
structure dJ where
 results:List xl
 body:AC
def bO.sl:bO->List Nat
 | .t n=> [n]
 | .c _=> []
def XT:Option bO->List Nat
 | some x=>x.sl
 | none=> []
def Pb (l:List bO):List Nat:=l.flatMap bO.sl
def eE.sl:eE->List Nat
 | .mv x | .box _ x | .mZ x | .load _ x | .rU x | .Bx _ _ x | .un _ x | .toInt _ x | .rO x | .Fm x | .oZ _ x | .kS x | .Py _ x | .wU _ x | .field _ _ x | .range x | .uO x | .sO _ _ _ x | .r9 _ _ _ x | .extract _ x | .len _ x | .clear _ _ x | .kW x | .uk x | .Fz x | .upto _ x | .qM x | .yj _ x=>x.sl
 | .pick a b c=>a.sl++b.sl++c.sl
 | .pP _ _ _ p | .tw _ _ _ _ p=>p.flatMap fun q=>q.2.sl
 | .build _ p=>p.flatMap fun q=>q.2.2.sl
 | .store _ x v=>x.sl++v.sl
 | .tf a _ x=>a::x.sl
 | .iX a _ x v=>a::x.sl++v.sl
 | .bin _ x y | .eq _ _ _ x y | .oP _ x y | .rM _ _ x y | .KR x y | .LO _ _ _ x y | .append _ _ _ x y | .copy _ x y | .delete _ x y | .CW _ x y=>x.sl++y.sl
 | .Kq _ a b=>Pb a++Pb b
 | .zr r=>XT r
 | .nN _ _ _ _ x y=>x.sl++y.sl
 | .pa x a b=>x.sl++XT a++XT b
 | .KT _ x a b c=>x.sl++XT a++XT b++XT c
 | .lookup _ _ _ x y | .tS _ _ x y=>x.sl++y.sl
 | .AF _ x y z | .pt x y z=>x.sl++y.sl++z.sl
 | .call _ _ l=>Pb l
 | .oG f l=>f.sl++Pb l
 | .invoke _ x l=>x.sl++Pb l
 | .ext _ l=>Pb l
 | .tT _ l=>Pb l
 | .defer f l=>f.sl++Pb l
 | .bad=> []
abbrev Env:=List (Nat×D)
def Env.get:Env->Nat->Option D
 | [],_=>none
 | (t,d)::r,s=>match Nat.beq t s with
  | true=>some d
  | false=>Env.get r s
def Env.bM (e:Env):List Nat->Env
 | []=> []
 | t::r=>match e.get t with
  | some d=>(t,d)::Env.bM e r
  | none=>Env.bM e r
structure Fr where
 env:Env
 defers:List (D×List D)
def Env.ke (e:Env)(a:Nat):Bool:=
 match e.get a with
 | some (.lv _)=>true
 | _=>false
def bO.ev (e:Env):bO->Option D
 | .t n=>match e.get n with
  | some (.lv _)=>none
  | some (.iE _ _)=>none
  | r=>r
 | .c d=>some d
def bO.A9 (e:Env):bO->Option D
 | .t n=>match e.get n with
  | some (.lv _)=>some (.iE n 0)
  | r=>r
 | .c d=>some d
def Env.vn (a:Nat):Env->Bool
 | []=>true
 | (_,d)::r=>match d with
  | .iE b _=>match Nat.beq a b with
   | true=>false
   | false=>Env.vn a r
  | _=>Env.vn a r
def tF (e:Env):List bO->Option (List D)
 | []=>some []
 | x::r=>match x.ev e with
  | some d=>match tF e r with
   | some l=>some (d::l)
   | none=>none
  | none=>none
def wT (e:Env):Option bO->Option (Option D)
 | none=>some none
 | some x=>match x.ev e with
  | some d=>some (some d)
  | none=>none
def over {α:Type}:List α->Nat->List α->List α
 | cs,0,vs=>vs++cs.drop vs.length
 | [],_,_=> []
 | c::cs,n+1,vs=>c::over cs n vs
def D.over (e:D)(c:Nat)(v:D):Option D:=
 match v.st with
 | false=>none
 | true=>match e with
  | .agg cs=>match Nat.ble (c+v.flat.length) cs.length with
   | true=>some (.agg (Ab.over cs c v.flat))
   | false=>none
  | _=>match Nat.beq c 0,v.sc with
   | true,true=>some v
   | _,_=>none
def D0:List D->List (Nat×Nat×D)->Option (List D)
 | cs,[]=>some cs
 | cs,(off,sz,v)::r=>match Nat.beq v.flat.length sz,v.st with
  | true,true=>match Nat.ble (off+sz) cs.length with
   | true=>D0 (over cs off v.flat) r
   | false=>none
  | _,_=>none
def ph (e:Env):List (Nat×Nat×bO)->Option (List (Nat×Nat×D))
 | []=>some []
 | (o,s,x)::r=>match x.ev e with
  | some d=>match ph e r with
   | some l=>some ((o,s,d)::l)
   | none=>none
  | none=>none
def sX (sz:Nat):List D->List (Nat×D)->Option (List D)
 | l,[]=>some l
 | l,(i,v)::r=>match Nat.beq v.flat.length sz,v.st with
  | true,true=>match Nat.blt i l.length with
   | true=>sX sz (l.set i v) r
   | false=>none
  | _,_=>none
def jk (e:Env):List (Nat×bO)->Option (List (Nat×D))
 | []=>some []
 | (i,x)::r=>match x.ev e with
  | some d=>match jk e r with
   | some l=>some ((i,d)::l)
   | none=>none
  | none=>none
def part (cs:List D)(c:Nat):Option Nat->Option D
 | some s=>match Nat.ble (c+s) cs.length with
  | true=>some (.agg ((cs.drop c).take s))
  | false=>none
 | none=>cs[c]?
def Tv (lo hi c:Int):Bool:=decide (c < lo) || decide (hi < c)
def Tw (ex:List (List UInt8))(lo hi:Nat)(c:List UInt8):Bool:=Nat.blt c.length lo || (Nat.blt hi c.length || ex.any (· ==c))
def lT (c:Bool)(b:Bool):Option Bool:=match c with
 | true=>some b
 | false=>none
def Yp:D->D->Option Bool
 | .int k a,.int j b=>lT (decide (k=j)) (a==b)
 | .sint k _ lo hi,.int j c=>lT (decide (k=j) && Tv lo hi c) false
 | .int j c,.sint k _ lo hi=>lT (decide (k=j) && Tv lo hi c) false
 | .sint k a _ _,.sint j b _ _=>lT (decide (k=j) && decide (a=b)) true
 | _,_=>none
def Yq:D->D->Option Bool
 | .str a,.str b=>some (a==b)
 | .pa _ ex lo hi,.str c=>lT (Tw ex lo hi c) false
 | .str c,.pa _ ex lo hi=>lT (Tw ex lo hi c) false
 | .pa i _ _ _,.pa j _ _ _=>lT (Nat.beq i j) true
 | _,_=>none
def N2:D->D->Option Bool
 | .bool a,.bool b=>some (a==b)
 | .rY i,.rY j=>lT (Nat.beq i j) true
 | _,_=>none
mutual
def sC (oc:Bool):ET->D->D->Option Bool
 | .bool,x,y=>N2 x y
 | .int,x,y=>Yp x y
 | .str,x,y=>Yq x y
 | .ptr,x,y=>match x,y with
  | .dU,.dU=>some true
  | .dU,.ptr .. =>some false
  | .ptr ..,.dU=>some false
  | .dU,.jN .. =>some false
  | .jN ..,.dU=>some false
  | .dU,.jJ .. =>some false
  | .jJ ..,.dU=>some false
  | _,_=>none
 | .slice,x,y=>match x,y with
  | .vs n _ _,.vs true _ _=>some n
  | .vs true _ _,.vs n _ _=>some n
  | .sl ..,.vs true _ _=>some false
  | .vs true _ _,.sl .. =>some false
  | _,_=>none
 | .map,x,y=>match x,y with
  | .qD,.qD=>some true
  | .qD,.mp _=>some false
  | .mp _,.qD=>some false
  | _,_=>none
 | .func,x,y=>match x,y with
  | .lX,.lX=>some true
  | .lX,.fn .. =>some false
  | .fn ..,.lX=>some false
  | _,_=>none
 | .iface,x,y=>match x,y with
  | .jc,.jc=>match oc with
   | true=>some true
   | false=>none
  | .jc,.eM .. =>some false
  | .eM ..,.jc=>some false
  | .eM t _,.eM u _=>match Nat.beq t u with
   | true=>none
   | false=>some false
  | _,_=>none
 | .st l,x,y=>match x,y with
  | .agg a,.agg b=>JG l a b
  | _,_=>none
def JG:Vq->List D->List D->Option Bool
 | .nil,_,_=>some true
 | .cons off s e r,a,b=>match part a off s,part b off s with
  | some x,some y=>match sC false e x y with
   | some true=>JG r a b
   | some false=>some false
   | none=>none
  | _,_=>none
end
def Q0 (s:St):D->D->Option Bool
 | .ptr o c,.ptr o' c' =>match s.get o,s.get o' with
  | some (.var _ _),some (.var _ _)=>some (Nat.beq o o' && Nat.beq c c')
  | _,_=>none
 | _,_=>none
def nQ:List UInt8->List UInt8->Bool
 | _,[]=>false
 | [],_::_=>true
 | a::x,b::y=>a < b || (a==b && nQ x y)
def vx (op:BinOp)(k:IntKind)(a b:Int):Option D:=
 match op with
 | .add=>some (.int k (k.wrap (a+b)))
 | .sub=>some (.int k (k.wrap (a - b)))
 | .mul=>some (.int k (k.wrap (a * b)))
 | .quo=>if b=0 then none else some (.int k (k.wrap (a.tdiv b)))
 | .rem=>if b=0 then none else some (.int k (a.tmod b))
 | .and=>some (.int k (k.wrap ((BitVec.ofInt k.bits a &&& BitVec.ofInt k.bits b).toNat)))
 | .or=>some (.int k (k.wrap ((BitVec.ofInt k.bits a ||| BitVec.ofInt k.bits b).toNat)))
 | .xor=>some (.int k (k.wrap ((BitVec.ofInt k.bits a ^^^ BitVec.ofInt k.bits b).toNat)))
 | .andNot=>some (.int k (k.wrap ((BitVec.ofInt k.bits a &&& ~~~(BitVec.ofInt k.bits b)).toNat)))
 | .eql=>some (.bool (a==b))
 | .neq=>some (.bool (a !=b))
 | .lss=>some (.bool (decide (a < b)))
 | .leq=>some (.bool (decide (a<=b)))
 | .gtr=>some (.bool (decide (a > b)))
 | .geq=>some (.bool (decide (a >= b)))
 | _=>none
def yk (op:BinOp)(a b:List UInt8):Option D:=
 match op with
 | .add=>match Nat.ble (a.length+b.length) 4611686018427387904 with
  | true=>some (.str (a++b))
  | false=>none
 | .eql=>some (.bool (a==b))
 | .neq=>some (.bool (!(a==b)))
 | .lss=>some (.bool (nQ a b))
 | .leq=>some (.bool (nQ a b || a==b))
 | .gtr=>some (.bool (!(nQ a b || a==b)))
 | .geq=>some (.bool (!(nQ a b)))
 | _=>none
def I2 (x y:D):Option D:=match Yp x y with
 | some b=>some (.bool b)
 | none=>match Yq x y with
  | some b=>some (.bool b)
  | none=>none
def BW:D->D->Option D
 | .sint k _ lo hi,.int j c=>match decide (k=j) with
  | true=>match decide (hi < c),decide (c<=lo) with
   | true,_=>some (.bool true)
   | _,true=>some (.bool false)
   | _,_=>none
  | false=>none
 | .int j c,.sint k _ lo hi=>match decide (k=j) with
  | true=>match decide (c < lo),decide (hi<=c) with
   | true,_=>some (.bool true)
   | _,true=>some (.bool false)
   | _,_=>none
  | false=>none
 | _,_=>none
def Pw (m c:Int):Sym->Sym
 | .lin m' c' a=> .lin (m * m') (m * c' +c) a
 | a=> .lin m c a
def wz (k:IntKind)(m c:Int)(a:Sym)(lo hi:Int):Option D:=
 match decide (k= .i64),decide (-9223372036854775808<=lo),decide (hi<=9223372036854775807) with
 | true,true,true=>some (.sint k (Pw m c a) lo hi)
 | _,_,_=>none
def Hm:D->D->Option D
 | .sint k a lo hi,.int j c=>match decide (k=j) with
  | true=>wz k 1 c a (lo+c) (hi+c)
  | false=>none
 | .int j c,.sint k a lo hi=>match decide (k=j) with
  | true=>wz k 1 c a (lo+c) (hi+c)
  | false=>none
 | _,_=>none
def Hn:D->D->Option D
 | .sint k a lo hi,.int j c=>match decide (k=j) with
  | true=>wz k 1 (-c) a (lo - c) (hi - c)
  | false=>none
 | .int j c,.sint k a lo hi=>match decide (k=j) with
  | true=>wz k (-1) c a (c - hi) (c - lo)
  | false=>none
 | _,_=>none
def CT:Option D->Option D
 | some (.bool b)=>some (.bool (!b))
 | _=>none
def Me (op:BinOp)(x y:D):Option D:=
 match op,x,y with
 | .shl,.int k a,.int _ b=>if b < 0 then none else some (.int k (k.wrap (a * 2 ^ (min b.toNat k.bits))))
 | .shr,.int k a,.int _ b=>if b < 0 then none else some (.int k (a.fdiv (2 ^ (min b.toNat k.bits))))
 | op,.int k a,.int j b=>match decide (k=j) with
  | true=>vx op k a b
  | false=>none
 | op,.str a,.str b=>yk op a b
 | .eql,x,y=>I2 x y
 | .neq,x,y=>match I2 x y with
  | some (.bool b)=>some (.bool (!b))
  | _=>none
 | .lss,x,y=>BW x y
 | .gtr,x,y=>BW y x
 | .geq,x,y=>CT (BW x y)
 | .leq,x,y=>CT (BW y x)
 | .add,x,y=>Hm x y
 | .sub,x,y=>Hn x y
 | _,_,_=>none
def unD (op:UnOp)(x:D):Option D:=
 match op,x with
 | .neg,.int k n=>some (.int k (k.wrap (0 - n)))
 | .xor,.int k n=>some (.int k (k.wrap ((BitVec.ofInt k.bits (if k.signed then -1 else k.max) ^^^ BitVec.ofInt k.bits n).toNat)))
 | .not,.bool b=>some (.bool (!b))
 | _,_=>none
def idx:D->Option Nat
 | .int _ n=>if 0<=n then some n.toNat else none
 | _=>none
def mN (d:Nat):Option D->Option Nat
 | none=>some d
 | some x=>idx x
def gD:Option D->Nat->Option Nat
 | none,_=>none
 | some _,n=>some n
def EC (ok:Bool)(v:D)(b:Bool):D:=match ok with
 | true=> .gW [v,.bool b]
 | false=>v
def Gy (n:Int):D:= .int .i64 n
def Bu (t c n:Nat):List (Nat×Nat×Nat)->Bool
 | []=>false
 | (t',c',n')::r=>match Nat.beq t t' && (Nat.beq c c' && Nat.beq n n') with
  | true=>true
  | false=>Bu t c n r
def iJ (s:St)(sz:Option Nat):D->Option D
 | .ptr o c=>match s.get o with
  | some (.var _ v)=>part v.flat c sz
  | _=>none
 | .jN o i c e=>match s.get o with
  | some (.arr _ _ es st)=>match Nat.ble st e with
   | true=>match es[i]? with
    | some d=>part d.flat c sz
    | none=>none
   | false=>none
  | _=>none
 | .jJ e c=>part e.flat c sz
 | _=>none
def R8 (off:Nat):D->Option D
 | .ptr o c=>some (.ptr o (c+off))
 | .jN o i c e=>some (.jN o i (c+off) e)
 | .jJ e c=>some (.jJ e (c+off))
 | _=>none
def qb (s:St)(v:D):Recv->Option D
 | .self=>some v
 | .load off sz=>match R8 off v with
  | some p=>iJ s sz p
  | none=>none
 | .addr off=>R8 off v
 | .part off sz=>match v with
  | .agg cs=>part cs off sz
  | _=>none
def xA:List (Nat×Nat×Recv)->Nat->Option (Nat×Recv)
 | [],_=>none
 | (t,r)::l,k=>match Nat.beq t k with
  | true=>some r
  | false=>xA l k
def jI (s:St)(sz:Nat)(p v:D):Option St:=
 match Nat.beq v.flat.length sz with
 | false=>none
 | true=>match p with
  | .ptr o c=>match s.get o with
   | some (.var t e)=>match e.over c v with
    | some e' =>s.set o (.var t e')
    | none=>none
   | _=>none
  | .jN o i c e=>match s.get o with
   | some (.arr z t es _)=>match Nat.beq e es.length with
    | true=>match es[i]? with
     | some d=>match d.over c v with
      | some d' =>s.set o (.arr z t (es.set i d') es.length)
      | none=>none
     | none=>none
    | false=>none
   | _=>none
  | _=>none
def items (s:St):D->Option (Nat×List D)
 | .vs _ sz l=>some (sz,l)
 | .sl o off len cp=>match s.get o with
  | some (.arr sz _ es st)=>match Nat.ble (off+len) es.length,Nat.ble st (off+cp) with
   | true,true=>some (sz,(es.drop off).take len)
   | _,_=>none
  | _=>none
 | _=>none
def pJ (s:St):Nat->D->Option Nat
 | 0,d=>match d with
  | .str l=>some l.length
  | _=>none
 | 1,d=>match d with
  | .vs _ _ l=>some l.length
  | .sl _ _ n _=>some n
  | _=>none
 | _,d=>match d with
  | .qD=>some 0
  | .mp o=>match s.get o with
   | some (.map es _)=>some es.length
   | _=>none
  | _=>none
def mY (s:St)(sz:Nat)(x:D)(i:Nat):Option D:=
 match x with
 | .vs _ z l=>match Nat.beq z sz with
  | true=>match l[i]? with
   | some e=>some (.jJ e 0)
   | none=>none
  | false=>none
 | .sl o off len cp=>match s.get o with
  | some (.arr z _ es st)=>match Nat.beq z sz,Nat.blt i len,Nat.ble (off+len) es.length,Nat.ble st (off+cp) with
   | true,true,true,true=>some (.jN o (off+i) 0 (off+cp))
   | _,_,_,_=>none
  | _=>none
 | _=>none
def yr (x:D)(lo:Nat)(hi mx:Option Nat):Option D:=
 match x with
 | .vs nl sz l=>
  let h:=hi.getD l.length
  let m:=mx.getD l.length
  match Nat.ble lo h,Nat.ble h m,Nat.ble m l.length with
  | true,true,true=>some (.vs nl sz ((l.take h).drop lo))
  | _,_,_=>none
 | .sl o off len cp=>
  let h:=hi.getD len
  match mx with
  | some m=>match Nat.ble lo h,Nat.ble h m,Nat.ble m cp with
   | true,true,true=>some (.sl o (off+lo) (h - lo) (m - lo))
   | _,_,_=>none
  | none=>match Nat.ble lo h,Nat.ble h cp with
   | true,true=>some (.sl o (off+lo) (h - lo) (cp - lo))
   | _,_=>none
 | _=>none
def aM:Nat:=2147483648
def ff (s:St)(al:Option Nat)(sz ty:Nat)(x:D)(l:List D):Option (D×St):=
 match l with
 | []=>match x with
  | .vs .. =>some (x,s)
  | .sl o _ _ _=>match s.get o with
   | some (.arr ..)=>some (x,s)
   | _=>none
  | _=>none
 | _=>match x with
  | .vs true _ _=>match Nat.ble l.length aM with
   | true=>match s.mk' al (.arr sz ty l 0) with
    | some (k,s')=>some (.sl k 0 l.length l.length,s')
    | none=>none
   | false=>none
  | .sl o off len _=>match s.get o with
   | some (.arr z t es st)=>match Nat.beq z sz && Nat.beq t ty,Nat.ble (off+len) es.length,Nat.ble st (off+len),Nat.ble (len+l.length) aM with
    | true,true,true,true=>match Nat.beq (off+len) es.length with
     | true=>match s.set o (.arr z t (es++l) st) with
      | some s' =>some (.sl o off (len+l.length) (len+l.length),s')
      | none=>none
     | false=>match s.set o .dead with
      | some s' =>match s'.mk' al (.arr z t (es.take (off+len)++l) 0) with
       | some (k,s'')=>some (.sl k off (len+l.length) (len+l.length),s'')
       | none=>none
      | none=>none
    | _,_,_,_=>none
   | _=>none
  | _=>none
def zZ:D->Bool
 | .bool _ | .int _ _ | .str _ | .dU | .qD | .lX | .jc=>true
 | _=>false
def CQ:D->Bool
 | .agg l=>l.all zZ
 | d=>zZ d
def iA (s:St)(sz:Nat)(x:D)(l:List D):Option St:=
 match x with
 | .sl o off len cp=>match s.get o with
  | some (.arr z t es st)=>match Nat.beq z sz,Nat.beq (off+len) es.length,Nat.ble l.length len with
   | true,true,true=>s.set o (.arr z t (over es off l) es.length)
   | true,false,true=>match (Nat.ble (off+len) es.length && Nat.ble st (off+cp)) && (l.all CQ && D.fC ((es.drop off).take l.length) l) with
    | true=>some s
    | false=>none
   | _,_,_=>none
  | _=>none
 | .vs _ _ []=>match l with
  | []=>some s
  | _=>none
 | _=>none
def eC (sz:Nat):List D->Bool
 | []=>true
 | d::r=>Nat.beq d.flat.length sz && d.st && eC sz r
def su (l:List D):Option (List UInt8):=
 match l with
 | []=>some []
 | .int .i32 n::r=>match su r with
  | some b=>some ((Utf8.encode n).data.toList++b)
  | none=>none
 | _=>none
mutual
def oT:ET->D->Bool
 | .bool,x=>match x with
  | .bool _=>true
  | .rY _=>true
  | _=>false
 | .int,x=>match x with
  | .int _ _=>true
  | .sint .. =>true
  | _=>false
 | .str,x=>match x with
  | .str _=>true
  | .pa .. =>true
  | _=>false
 | .st l,x=>match x with
  | .agg a=>Ik l a
  | _=>false
 | _,_=>false
def Ik:Vq->List D->Bool
 | .nil,_=>true
 | .cons off s e r,a=>match part a off s with
  | some x=>oT e x && Ik r a
  | none=>false
end
def Fc:D->D->Bool
 | .bool a,.bool b=>a==b
 | .int j a,.int k b=>decide (j=k) && a==b
 | .str a,.str b=>a==b
 | _,_=>false
def findKey (et:ET)(k:D):List (Nat×D×D)->Nat->Option (Option (Nat×D))
 | [],_=>some none
 | (_,k',v)::r,i=>match sC false et k k' with
  | some true=>some (some (i,v))
  | some false=>findKey et k r (i+1)
  | none=>none
def setAt {α:Type}:List α->Nat->(α->α)->List α
 | [],_,_=> []
 | a::r,0,f=>f a::r
 | a::r,n+1,f=>a::setAt r n f
def rC (b:Int):List (Nat×D×D)->Nat->Option Nat
 | [],_=>none
 | (n,_,_)::r,i=>if (n:Int)=b then some i else rC b r (i+1)
def QD:List (Nat×Nat)->Nat->Option Nat
 | [],_=>none
 | (t,f)::r,u=>match Nat.beq t u with
  | true=>some f
  | false=>QD r u
def bytesOf (l:List D):Option (List UInt8):=
 match l with
 | []=>some []
 | .int .u8 n::r=>match bytesOf r with
  | some b=>some (UInt8.ofNat n.toNat::b)
  | none=>none
 | _=>none
def Pt (mx:Bool):D->List D->Option D
 | d,[]=>some d
 | .int k a,.int j b::r=>match decide (k=j) with
  | true=>Pt mx (.int k (if mx then (if b > a then b else a) else (if b < a then b else a))) r
  | false=>none
 | _,_=>none
abbrev au:=Nat->List D->St->Option (D×St)
def pw (s:St):Option D->Option (D×St)
 | some d=>some (d,s)
 | none=>none
def nY (d:D):Option St->Option (D×St)
 | some s=>some (d,s)
 | none=>none
def DY (s:St)(k:Ext)(l:List D):Option (D×St):=
 match k,l with
 | .nop,_=>some (.gW [],s)
 | .race,[.ptr _ _]=>some (.gW [],s)
 | .idp,[.ptr o c]=>some (.ptr o c,s)
 | .idp,[.dU]=>some (.dU,s)
 | .Uh k,[.ptr o c]=>match iJ s none (.ptr o c) with
  | some (.int j n)=>match decide (k=j) with
   | true=>some (.int j n,s)
   | false=>none
  | _=>none
 | .L7,[.ptr o c,.int j v]=>nY (.gW []) (jI s 1 (.ptr o c) (.int j v))
 | .YT k,[.ptr o c,.int _ a,.int j b]=>match iJ s none (.ptr o c) with
  | some (.int j' x)=>match decide (k=j) && decide (k=j') with
   | true=>match x==a with
    | true=>nY (.bool true) (jI s 1 (.ptr o c) (.int j b))
    | false=>some (.bool false,s)
   | false=>none
  | _=>none
 | .YS k,[.ptr o c,.int _ b]=>match iJ s none (.ptr o c) with
  | some (.int j x)=>match decide (k=j) with
   | true=>nY (.int k (k.wrap (x+b))) (jI s 1 (.ptr o c) (.int k (k.wrap (x+b))))
   | false=>none
  | _=>none
 | _,_=>none
def cg (C:au)(e:Env)(s:St)(al:Option Nat):eE->Option (D×St)
 | .mv x=>pw s (x.A9 e)
 | .Fm x=>match x.ev e with
  | some (.str l)=>some (.str l,s)
  | _=>none
 | .pick c a b=>match c.ev e with
  | some (.bool t)=>match t with
   | true=>pw s (a.ev e)
   | false=>pw s (b.ev e)
  | _=>none
 | .box ty x=>match x.ev e with
  | some v=>match v.st && Nat.blt 0 v.flat.length with
   | true=>match s.mk' al (.var ty v) with
    | some (k,s')=>some (.ptr k 0,s')
    | none=>none
   | false=>none
  | none=>none
 | .build z parts=>match ph e parts,z.all D.sc with
  | some l,true=>match D0 z l with
   | some cs=>some (.agg cs,s)
   | none=>none
  | _,_=>none
 | .mZ _=>none
 | .pP sz z len parts=>match jk e parts,eC sz [z] with
  | some l,true=>match sX sz (List.replicate len z) l with
   | some es=>some (.vs false sz es,s)
   | none=>none
  | _,_=>none
 | .tw sz ty z len parts=>match jk e parts,eC sz [z] with
  | some l,true=>match sX sz (List.replicate len z) l with
   | some es=>match s.mk' al (.arr sz ty es 0) with
    | some (k,s')=>some (.sl k 0 len len,s')
    | none=>none
   | none=>none
  | _,_=>none
 | .tf a sz x=>match x.A9 e with
  | some (.iE a' c)=>match Nat.beq a a',e.get a with
   | true,some (.lv v)=>pw s (part v.flat c sz)
   | _,_=>none
  | _=>none
 | .iX .. =>none
 | .load sz x=>match x.ev e with
  | some p=>pw s (iJ s sz p)
  | none=>none
 | .store sz x v=>match x.ev e,v.ev e with
  | some p,some d=>nY (.gW []) (jI s sz p d)
  | _,_=>none
 | .rU x=>match x.A9 e with
  | some (.iE a c)=>match e.ke a with
   | true=>some (.iE a c,s)
   | false=>none
  | some (.ptr o c)=>some (.ptr o c,s)
  | some (.jN o i c z)=>some (.jN o i c z,s)
  | some (.jJ d c)=>some (.jJ d c,s)
  | some (.eM t v)=>some (.eM t v,s)
  | some (.fn (.func f) a b)=>some (.fn (.func f) a b,s)
  | _=>none
 | .Bx name pC x=>match x.ev e with
  | some (.fn (.method n) [.eM t v] y)=>match n==name,xA pC t with
   | true,some (_,.self)=>some (.fn (.method n) [.eM t v] y,s)
   | _,_=>none
  | _=>none
 | .bin op x y=>match x.ev e,y.ev e with
  | some a,some b=>pw s (Me op a b)
  | _,_=>none
 | .eq et neg oc x y=>match x.ev e,y.ev e with
  | some a,some b=>match sC oc et a b with
   | some r=>some (.bool (r !=neg),s)
   | none=>match et with
    | .ptr=>match Q0 s a b with
     | some r=>some (.bool (r !=neg),s)
     | none=>none
    | _=>none
  | _,_=>none
 | .un op x=>match x.ev e with
  | some a=>pw s (unD op a)
  | none=>none
 | .toInt k x=>match x.ev e with
  | some (.int _ n)=>some (.int k (k.wrap n),s)
  | _=>none
 | .rO x=>match x.ev e with
  | some (.int _ n)=>some (.str (Utf8.encode n).data.toList,s)
  | _=>none
 | .oZ ty x=>match x.ev e with
  | some (.str l)=>match Nat.ble l.length aM with
   | true=>match s.mk' al (.arr 1 ty (l.map fun b=> .int .u8 b.toNat) 0) with
    | some (k,s')=>some (.sl k 0 l.length l.length,s')
    | none=>none
   | false=>none
  | _=>none
 | .kS x=>match x.ev e with
  | some d=>match items s d with
   | some (z,l)=>match Nat.beq z 1 || (match l with | []=>true | _=>false),bytesOf l with
    | true,some b=>some (.str b,s)
    | _,_=>none
   | none=>none
  | none=>none
 | .Py t x=>match x.ev e with
  | some d=>some (.eM t d,s)
  | none=>none
 | .Kq f a b=>match tF e a,tF e b with
  | some x,some y=>some (.fn f x y,s)
  | _,_=>none
 | .zr r=>match (match wT e r with | some none=>true | some (some (.int _ _))=>true | _=>false) with
  | true=>match s.mk' al (.map [] 0) with
   | some (k,s')=>some (.mp k,s')
   | none=>none
  | false=>none
 | .nN sz bytes ty z len cap=>match len.ev e,cap.ev e with
  | some l,some c=>match idx l,idx c with
   | some l,some c=>match Nat.ble l c && eC sz [z],Nat.ble (c * bytes) 140737488355328,Nat.ble c aM with
    | true,true,true=>match s.mk' al (.arr sz ty (List.replicate l z) 0) with
     | some (k,s')=>some (.sl k 0 l l,s')
     | none=>none
    | _,_,_=>none
   | _,_=>none
  | _,_=>none
 | .pa x lo hi=>match x.ev e,wT e lo,wT e hi with
  | some (.str l),some a,some b=>match mN 0 a,mN l.length b with
   | some a,some b=>match Nat.ble a b,Nat.ble b l.length with
    | true,true=>some (.str ((l.take b).drop a),s)
    | _,_=>none
   | _,_=>none
  | _,_,_=>none
 | .KT sz x lo hi mx=>match x.ev e,wT e lo,wT e hi,wT e mx with
  | some d,some a,some b,some c=>match mN 0 a,mN 0 b,mN 0 c with
   | some a',some b',some c' =>
    match items s d with
    | some (z,l)=>match Nat.beq z sz || (match d,l with | .vs ..,[]=>true | _,_=>false) with
     | true=>pw s (yr d a' (gD b b') (gD c c'))
     | false=>none
    | none=>none
   | _,_,_=>none
  | _,_,_,_=>none
 | .wU off x=>match x.A9 e with
  | some (.iE a c)=>match e.ke a with
   | true=>some (.iE a (c+off),s)
   | false=>none
  | some (.ptr o c)=>some (.ptr o (c+off),s)
  | some (.jN o i c z)=>some (.jN o i (c+off) z,s)
  | some (.jJ d c)=>some (.jJ d (c+off),s)
  | _=>none
 | .field off sz x=>match x.ev e with
  | some (.agg cs)=>pw s (part cs off sz)
  | _=>none
 | .oP sz x i=>match x.ev e,i.ev e with
  | some d,some n=>match idx n with
   | some i=>pw s (mY s sz d i)
   | none=>none
  | _,_=>none
 | .rM len sz x i=>match x.A9 e,i.ev e with
  | some (.iE a c),some n=>match idx n with
   | some i=>match Nat.blt i len,e.ke a with
    | true,true=>some (.iE a (c+i * sz),s)
    | _,_=>none
   | none=>none
  | some (.ptr o c),some n=>match idx n with
   | some i=>match Nat.blt i len with
    | true=>some (.ptr o (c+i * sz),s)
    | false=>none
   | none=>none
  | some (.jN o j c z),some n=>match idx n with
   | some i=>match Nat.blt i len with
    | true=>some (.jN o j (c+i * sz) z,s)
    | false=>none
   | none=>none
  | some (.jJ d c),some n=>match idx n with
   | some i=>match Nat.blt i len with
    | true=>some (.jJ d (c+i * sz),s)
    | false=>none
   | none=>none
  | _,_=>none
 | .KR x i=>match x.ev e,i.ev e with
  | some (.str l),some n=>match idx n with
   | some i=>match l[i]? with
    | some b=>some (.int .u8 b.toNat,s)
    | none=>none
   | none=>none
  | _,_=>none
 | .LO len sz ag x i=>match x.ev e,i.ev e with
  | some (.agg cs),some n=>match idx n with
   | some i=>match Nat.blt i len with
    | true=>pw s (part cs (i * sz) (match ag with | true=>some sz | false=>none))
    | false=>none
   | none=>none
  | _,_=>none
 | .lookup et z ok m k=>match m.ev e,k.ev e with
  | some m,some k=>match oT et k with
   | false=>none
   | true=>match m with
    | .qD=>some (EC ok (z) false,s)
    | .mp o=>match s.get o with
     | some (.map es _)=>match findKey et k es 0 with
      | some (some (_,v))=>some (EC ok (v) true,s)
      | some none=>some (EC ok (z) false,s)
      | none=>none
     | _=>none
    | _=>none
  | _,_=>none
 | .AF et m k v=>match m.ev e,k.ev e,v.ev e with
  | some (.mp o),some k,some v=>match oT et k with
   | false=>none
   | true=>match s.get o with
    | some (.map es c)=>match findKey et k es 0 with
     | some (some (i,_))=>match es[i]? with
      | some (_,k',_)=>match Fc k' k with
       | true=>nY (.gW []) (s.set o (.map (setAt es i fun x=>(x.1,k,v)) c))
       | false=>none
      | none=>none
     | some none=>nY (.gW []) (s.set o (.map (es++ [(c,k,v)]) (c+1)))
     | none=>none
    | _=>none
  | _,_,_=>none
 | .tS et z m k=>match m.ev e,k.ev e with
  | some (.mp o),some k=>match oT et k with
   | false=>none
   | true=>match s.get o with
    | some (.map es c)=>match findKey et k es 0 with
     | some (some (i,v))=>match es[i]? with
      | some (b,k',_)=>match Fc k' k with
       | true=>nY (.gW [v,Gy b]) (s.set o (.map (setAt es i fun x=>(x.1,k,x.2.2)) c))
       | false=>none
      | none=>none
     | some none=>nY (.gW [z,Gy c]) (s.set o (.map (es++ [(c,k,z)]) (c+1)))
     | none=>none
    | _=>none
  | _,_=>none
 | .pt m b v=>match m.ev e,b.ev e,v.ev e with
  | some (.mp o),some (.int _ b),some v=>match s.get o with
   | some (.map es c)=>match rC b es 0 with
    | some i=>nY (.gW []) (s.set o (.map (setAt es i fun x=>(x.1,x.2.1,v)) c))
    | none=>none
   | _=>none
  | _,_,_=>none
 | .range x=>match x.ev e with
  | some (.str l)=>match s.mk' al (.oW l 0) with
   | some (k,s')=>some (.ptr k 0,s')
   | none=>none
  | _=>none
 | .uO x=>match x.ev e with
  | some (.ptr o 0)=>match s.get o with
   | some (.oW l pos)=>match Nat.blt pos l.length with
    | true=>
     let r:=Utf8.decode ⟨l.toArray⟩ pos
     nY (.gW [.bool true,Gy pos,.int .i32 r.1]) (s.set o (.oW l (pos+r.2)))
    | false=>some (.gW [.bool false],s)
   | _=>none
  | _=>none
 | .sO t z ok x=>match x.ev e with
  | some (.eM u v)=>match Nat.beq u t with
   | true=>some (EC ok (v) true,s)
   | false=>match ok with
    | true=>some (.gW [z,.bool false],s)
    | false=>none
  | some .jc=>match ok with
   | true=>some (.gW [z,.bool false],s)
   | false=>none
  | _=>none
 | .r9 n ts ok x=>match x.ev e with
  | some (.eM u v)=>match pM u ts with
   | true=>some (EC ok (.eM u v) true,s)
   | false=>match ok && Nat.blt u n with
    | true=>some (.gW [.jc,.bool false],s)
    | false=>none
  | some .jc=>match ok with
   | true=>some (.gW [.jc,.bool false],s)
   | false=>none
  | _=>none
 | .extract i x=>match x.ev e with
  | some (.gW l)=>pw s l[i]?
  | _=>none
 | .call ro f args=>match tF e args with
  | some l=>match ro with
   | false=>C f l s
   | true=>match C f l { s with ro:=true} with
    | some (d,_)=>some (d,s)
    | none=>none
  | none=>none
 | .oG f args=>match f.ev e,tF e args with
  | some (.fn (.func f) a b),some l=>C f (a++l++b) s
  | some (.yl o),some l=>C 0 (.lv (.yl o)::l) s
  | _,_=>none
 | .invoke pC x args=>match x.ev e,tF e args with
  | some (.eM t v),some l=>match xA pC t with
   | some (f,r)=>match qb s v r with
    | some u=>C f (u::l) s
    | none=>none
   | none=>none
  | _,_=>none
 | .len k x=>match x.ev e with
  | some (.pa i _ lo hi)=>match k with
   | 0=>some (.sint .i64 (.len i) lo hi,s)
   | _=>none
  | some d=>match pJ s k d with
   | some n=>some (Gy n,s)
   | none=>none
  | none=>none
 | .append sz bytes ty x y=>match x.ev e,y.ev e with
  | some a,some (.str l)=>match Nat.beq sz 1,Nat.ble bytes 4096 with
   | true,true=>ff s al sz ty a (l.map fun b=> .int .u8 b.toNat)
   | _,_=>none
  | some a,some b=>match items s b with
   | some (z,l)=>match Nat.beq z sz || (match l with | []=>true | _=>false),Nat.ble bytes 4096 with
    | true,true=>match eC sz l with
     | true=>ff s al sz ty a l
     | false=>none
    | _,_=>none
   | none=>none
  | _,_=>none
 | .copy sz x y=>match x.ev e,y.ev e with
  | some a,some (.str l)=>match Nat.beq sz 1,pJ s 1 a with
   | true,some n=>nY (Gy (min l.length n)) (iA s sz a ((l.take n).map fun b=> .int .u8 b.toNat))
   | _,_=>none
  | some a,some b=>match items s b,pJ s 1 a with
   | some (z,l),some n=>match Nat.beq z sz || (match l with | []=>true | _=>false),eC sz (l.take n) with
    | true,true=>nY (Gy (min l.length n)) (iA s sz a (l.take n))
    | _,_=>none
   | _,_=>none
  | _,_=>none
 | .clear sz z x=>match x.ev e with
  | some .qD=>some (.gW [],s)
  | some (.mp o)=>match s.get o with
   | some (.map _ c)=>nY (.gW []) (s.set o (.map [] c))
   | _=>none
  | some a=>match pJ s 1 a with
   | some n=>match eC sz [z] with
    | true=>nY (.gW []) (iA s sz a (List.replicate n z))
    | false=>none
   | none=>none
  | none=>none
 | .kW x=>match x.ev e with
  | some d=>match items s d with
   | some (z,l)=>match Nat.beq z 1 || (match l with | []=>true | _=>false),su l with
    | true,some b=>some (.str b,s)
    | _,_=>none
   | none=>none
  | none=>none
 | .uk x=>match x.ev e with
  | some (.sl o a b c)=>some (.sl o a b c,s)
  | _=>none
 | .Fz x=>match x.ev e with
  | some (.ptr o c)=>match s.get o with
   | some (.var _ v)=>match Nat.blt c v.flat.length with
    | true=>some (.ptr o c,s)
    | false=>none
   | _=>none
  | _=>none
 | .upto l x=>match x.ev e with
  | some .dU=>some (.dU,s)
  | some (.ptr o c)=>match s.get o with
   | some (.var t v)=>match Bu t c v.flat.length l with
    | true=>some (.ptr o c,s)
    | false=>none
   | _=>none
  | _=>none
 | .qM x=>match x.ev e with
  | some (.vs true _ _)=>some (.dU,s)
  | some (.sl o off _ cp)=>match s.get o with
   | some (.arr ..)=>match Nat.blt 0 cp with
    | true=>some (.jN o off 0 (off+cp),s)
    | false=>none
   | _=>none
  | _=>none
 | .CW ty x y=>match x.ev e,y.ev e with
  | some .dU,some (.int k n)=>match decide (k= .i64) && decide (n=0) with
   | true=>some (.str [],s)
   | false=>none
  | some (.jN o i c en),some (.int k n)=>match s.get o with
   | some (.arr z t es st)=>match Nat.beq z 1 && (Nat.beq t ty && Nat.beq c 0),decide (k= .i64) && (decide (0 < n) && Nat.ble n.toNat aM),Nat.ble (i+n.toNat) en && (Nat.ble en es.length && Nat.ble st en),bytesOf ((es.drop i).take n.toNat) with
    | true,true,true,some b=>nY (.str b) (s.set o .dead)
    | _,_,_,_=>none
   | _=>none
  | _,_=>none
 | .yj n x=>match x.ev e with
  | some (.ptr o 0)=>match s.get o with
   | some (.var t v)=>match Nat.beq v.flat.length n with
    | true=>match s.set o .dead with
     | some s' =>match s'.mk' none (.arr 1 t v.flat 0) with
      | some (k,s'')=>some (.sl k 0 n n,s'')
      | none=>none
     | none=>none
    | false=>none
   | _=>none
  | _=>none
 | .ext k l=>match tF e l with
  | some l=>DY s k l
  | none=>none
 | .delete et m k=>match m.ev e,k.ev e with
  | some m,some k=>match oT et k with
   | false=>none
   | true=>match m with
    | .qD=>some (.gW [],s)
    | .mp o=>match s.get o with
     | some (.map es c)=>match findKey et k es 0 with
      | some (some (i,_))=>nY (.gW []) (s.set o (.map (es.eraseIdx i) c))
      | some none=>nY (.gW []) (s.set o (.map es c))
      | none=>none
     | _=>none
    | _=>none
  | _,_=>none
 | .tT mx l=>match tF e l with
  | some (d::r)=>pw s (Pt mx d r)
  | _=>none
 | .defer .. =>none
 | .bad=>none
def iq (e:Env):Option Nat->D->Env
 | some t,d=>(t,d)::e
 | none,_=>e
def aJ (e:Env):Option (Nat×Bool)->Option Bool
 | none=>some true
 | some (t,b)=>match e.get t with
  | some (.bool c)=>some (c==b)
  | some (.gW [])=>some false
  | _=>none
def oper (C:au)(b:Nat)(o:bz)(fr:Fr)(s:St):Option (Fr×St):=
 match aJ fr.env o.guard with
 | some true=>match o.op with
  | .defer f args=>match f.ev fr.env,tF fr.env args with
   | some (.fn g x y),some l=>some ({ env:=iq fr.env o.dst (.gW []),defers:=(.fn g x y,l)::fr.defers},s)
   | _,_=>none
  | .mZ x=>match o.dst,x.ev fr.env with
   | some a,some d=>match fr.env.vn a && d.st with
    | true=>some ({ fr with env:=(a,.lv d)::fr.env},s)
    | false=>none
   | _,_=>none
  | .iX a sz x v=>match x.A9 fr.env,v.ev fr.env with
   | some (.iE a' c),some d=>match Nat.beq a a',fr.env.get a,Nat.beq d.flat.length sz with
    | true,some (.lv w),true=>match w.over c d with
     | some w' =>some ({ fr with env:=iq ((a,.lv w')::fr.env) o.dst (.gW [])},s)
     | none=>none
    | _,_,_=>none
   | _,_=>none
  | op=>match cg C fr.env s (match o.al with | some r=>some (b+r) | none=>none) op with
   | some (d,s')=>some ({ fr with env:=iq fr.env o.dst d},s')
   | none=>none
 | some false=>some ({ fr with env:=iq fr.env o.dst (.gW [])},s)
 | none=>none
def opers (C:au)(b:Nat):List bz->Fr->St->Option (Fr×St)
 | [],fr,s=>some (fr,s)
 | o::r,fr,s=>match oper C b o fr s with
  | some (fr',s')=>opers C b r fr' s'
  | none=>none
def bD.cL:Option D->List Nat
 | some (.ptr o _)=> [o]
 | some (.jN o _ _ _)=> [o]
 | some (.sl o _ _ _)=> [o]
 | some (.mp o)=> [o]
 | _=> []
def bD (e:Env):eE->List Nat
 | .load _ x=>bD.cL (x.ev e)
 | .Fz x=>bD.cL (x.ev e)
 | .upto _ x=>bD.cL (x.ev e)
 | .qM x=>bD.cL (x.ev e)
 | .eq _ _ _ x y=>bD.cL (x.ev e)++bD.cL (y.ev e)
 | .oP _ x _=>bD.cL (x.ev e)
 | .KT _ x _ _ _=>bD.cL (x.ev e)
 | .len _ x=>bD.cL (x.ev e)
 | .kS x=>bD.cL (x.ev e)
 | .kW x=>bD.cL (x.ev e)
 | .lookup _ _ _ m _=>bD.cL (m.ev e)
 | .append _ _ _ _ y=>bD.cL (y.ev e)
 | .copy _ _ y=>bD.cL (y.ev e)
 | _=> []
def mK (e:Env):eE->List Nat
 | .store _ x _=>bD.cL (x.ev e)
 | .append _ _ _ x _=>bD.cL (x.ev e)
 | .CW _ x _=>bD.cL (x.ev e)
 | .copy _ x _=>bD.cL (x.ev e)
 | .clear _ _ x=>bD.cL (x.ev e)
 | .AF _ m _ _=>bD.cL (m.ev e)
 | .tS _ _ m _=>bD.cL (m.ev e)
 | .pt m _ _=>bD.cL (m.ev e)
 | .delete _ m _=>bD.cL (m.ev e)
 | .uO x=>bD.cL (x.ev e)
 | _=> []
def eE.kind:eE->Nat
 | .mv _ | .Fm _ | .pick .. | .build .. | .pP .. | .rU _ | .Bx .. | .bin .. | .un .. | .toInt .. | .rO _ | .Py .. | .Kq .. | .pa .. | .wU .. | .field .. | .rM .. | .KR .. | .LO .. | .sO .. | .r9 .. | .extract .. | .tT .. | .uk _=>0
 | .tf .. =>6
 | .iX .. =>7
 | .mZ _=>8
 | .load .. | .Fz _ | .upto .. | .qM _ | .eq .. | .kS _ | .kW _ | .KT .. | .oP .. | .lookup .. | .len .. =>1
 | .store .. | .CW .. | .copy .. | .clear .. | .AF .. | .tS .. | .pt .. | .delete .. | .uO _=>2
 | .box .. | .tw .. | .oZ .. | .zr _ | .nN .. | .range _=>3
 | .call true _ _=>4
 | .append .. =>9
 | _=>5
def ry (a b:List Nat):Bool:=
 match a with
 | []=>true
 | x::r=>match pM x b with
  | true=>false
  | false=>ry r b
def gF (e:Env):eE->List (Nat×Nat×Nat)
 | .load sz x=>match x.ev e with
  | some (.ptr o c)=> [(o,c,sz.getD 1)]
  | _=> []
 | _=> []
abbrev Fp:=List Nat×List Nat×List (Nat×Nat×Nat)
def cl (b:Nat)(e:Env)(o:bz):Fp:=
 match aJ e o.guard with
 | some true=>(bD e o.op,(match o.al with
  | some r=>(b+r)::mK e o.op
  | none=>mK e o.op),gF e o.op)
 | _=>([],[],[])
def kF (x y:Fp):Bool:=ry x.2.1 y.2.1 && (ry x.2.1 y.1 && ry x.1 y.2.1)
def eQ (acc:List Fp)(y:Fp):List Nat->Bool
 | []=>true
 | i::r=>match acc[i]? with
  | some x=>match kF x y with
   | true=>eQ acc y r
   | false=>false
  | none=>false
def Env.cE (e:Env):Option Nat->Bool
 | some t=>e.ke t
 | none=>false
def D.isAgg:D->Bool
 | .agg _=>true
 | _=>false
def cK (l m:List D):List (Nat×Nat×Nat)->Bool
 | []=>true
 | (_,c,n)::r=>D.fC ((l.drop c).take n) ((m.drop c).take n) && cK l m r
def cQ (rg:List (Nat×Nat×Nat))(a b:Obj):Bool:=match rg,a,b with
 | r::rs,.var t v,.var t' v' =>Nat.beq t t' && (Nat.beq v.flat.length v'.flat.length && ((v.isAgg==v'.isAgg) && cK v.flat v'.flat (r::rs)))
 | _,a,b=>Obj.beq a b
def dG (rg:List (Nat×Nat×Nat)) (s s' :St):List Nat->Bool
 | []=>false
 | o::r=>match s.get o,s'.get o with
  | some x,some y=>match cQ rg x y with
   | true=>dG rg s s' r
   | false=>true
  | none,none=>dG rg s s' r
  | _,_=>true
def cF (acc:List Fp) (s s' :St):List Nat->Bool
 | []=>false
 | i::r=>match acc[i]? with
  | some x=>match dG x.2.2 s s' x.1 with
   | true=>true
   | false=>cF acc s s' r
  | none=>true
def lost (acc:List Fp) (s s' :St)(o:bz)(l:List Nat):Bool:=match Nat.beq o.op.kind 5 with
 | true=>cF acc s s' l
 | false=>false
def T.keys:T Obj->List Nat
 | .nil=> []
 | .node o l r=>(match o with
  | none=> []
  | some _=> [0])++((T.keys l).map (fun k=>2 * k+1)++(T.keys r).map (fun k=>2 * k+2))
def T.diff:T Obj->T Obj->List Nat
 | .nil,t=>T.keys t
 | .node o l r,t=>match t with
  | .nil=>T.keys (.node o l r)
  | .node o' l' r' =>(match o,o' with
   | none,none=> []
   | some x,some y=>(match Obj.beq x y with
    | true=> []
    | false=> [0])
   | _,_=> [0])++((T.diff l l').map (fun k=>2 * k+1)++(T.diff r r').map (fun k=>2 * k+2))
def JM (s s' :St)(b:Nat)(e:Env)(o:bz):Fp:=match Nat.beq o.op.kind 5 with
 | true=>((cl b e o).1,T.diff s.h s'.h++(cl b e o).2.1,(cl b e o).2.2)
 | false=>cl b e o
def gZ (C:au)(b:Nat):List (bz×List Nat)->List Fp->Fr->St->Option (Fr×St)
 | [],_,fr,s=>some (fr,s)
 | (o,l)::r,acc,fr,s=>match eQ acc (cl b fr.env o) l && !(fr.env.cE o.dst) with
  | true=>match oper C b o fr s with
   | some (fr',s')=>match fr'.env.cE o.dst || lost acc s s' o l with
    | false=>gZ C b r (acc++ [JM s s' b fr.env o]) fr' s'
    | true=>none
   | none=>none
  | false=>none
inductive Ex where
 | normal
 | exit (id:Nat)
 | ret
abbrev gO:=List Nat->AC->Fr->St->Option (Ex×Fr×St)
def pT:Nat->Nat->T Obj->T Obj
 | 0,_,h=>h
 | k+1,b,h=>pT k (b+1) (h.set b none)
def lA (b:Nat):Nat->au->au
 | 0,C=>C
 | k+1,C=>fun f l s=>match s.ro with
  | false=>C f l s
  | true=>match C f l { s with h:=pT (k+1) b s.h} with
   | some (d,_)=>some (d,s)
   | none=>none
def bN (C:au)(L:gO):AC->Fr->St->Option (Ex×Fr×St)
 | .skip,fr,s=>some (.normal,fr,s)
 | .AL ops,fr,s=>match opers C 0 ops fr s with
  | some (fr',s')=>some (.normal,fr',s')
  | none=>none
 | .yF k ops,fr,s=>match s.ro && Nat.blt 0 k with
  | true=>none
  | false=>match gZ (lA s.n k C) s.n ops [] fr { s with n:=s.n+k} with
   | some (fr',s')=>some (.normal,fr',s')
   | none=>none
 | .seq a b,fr,s=>match bN C L a fr s with
  | some (.normal,fr',s')=>bN C L b fr' s'
  | r=>r
 | .cond c a b,fr,s=>match c.ev fr.env with
  | some (.bool true)=>bN C L a fr s
  | some (.bool false)=>bN C L b fr s
  | _=>none
 | .block id a,fr,s=>match bN C L a fr s with
  | some (.exit i,fr',s')=>match Nat.beq i id with
   | true=>some (.normal,fr',s')
   | false=>some (.exit i,fr',s')
  | r=>r
 | .loop bM a,fr,s=>L bM a fr s
 | .iF bM g ps a b,fr,s=>L [] (.iF bM g ps a b) fr s
 | .exit id,fr,s=>some (.exit id,fr,s)
 | .ret,fr,s=>some (.ret,fr,s)
 | .bad,_,_=>none
def jH (e:Env)(s:St):List xl->Option (List D)
 | []=>some []
 | .tmp t::r=>match bO.ev e (.t t),jH e s r with
  | some d,some l=>some (d::l)
  | _,_=>none
 | .cell a sz::r=>match e.get a with
  | some (.lv v)=>match part v.flat 0 sz,jH e s r with
   | some d,some l=>some (d::l)
   | _,_=>none
  | some p=>match iJ s sz p,jH e s r with
   | some d,some l=>some (d::l)
   | _,_=>none
  | none=>none
def lW:Nat->List D->Env
 | _,[]=> []
 | i,d::r=>(i,d)::lW (i+1) r
def leave (C:au):List (D×List D)->St->Option St
 | [],s=>some s
 | (.fn (.func f) a b,l)::r,s=>match C f (a++l++b) s with
  | some (_,s')=>leave C r s'
  | none=>none
 | (.lX,_)::r,s=>leave C r s
 | _::_,_=>none
def single:List D->D
 | [d]=>d
 | l=> .gW l
def nE (C CD:au)(L:gO)(fn:dJ)(args:List D)(s:St):Option (D×St):=
 match bN C L fn.body { env:=lW 0 args,defers:=[]} s with
 | some (.exit _,_,_)=>none
 | some (_,fr,s')=>match leave CD fr.defers s' with
  | some s'' =>match jH fr.env s'' fn.results with
   | some l=>some (single l,s'')
   | none=>none
  | none=>none
 | none=>none
def wu (C:au)(L:gO)(fn:dJ)(args:List D)(s:St):Option (D×St):=
 match bN C L fn.body { env:=lW 0 args,defers:=[]} s with
 | some (.exit _,_,_)=>none
 | some (_,fr,s')=>match fr.defers with
  | []=>match jH fr.env s' fn.results with
   | some l=>some (single l,s')
   | none=>none
  | _=>none
 | none=>none
def oE (T:Nat->Option dJ)(C:au)(L:gO):au:=fun f args s=>match T f with
 | some fn=>wu C L fn args s
 | none=>none
def yS:List D->Bool
 | .lv _::_=>true
 | _=>false
def Env.plain:Env->Bool
 | []=>true
 | (_,d)::r=>match d with
  | .lv _=>false
  | .iE _ _=>false
  | _=>Env.plain r
def pF:List Nat->List D->Env->Option Env
 | [],[],e=>some e
 | t::ps,d::l,e=>pF ps l ((t,d)::e)
 | _,_,_=>none
def TM:Ex->Rq
 | .normal=> .ready
 | .exit i=> .exit i
 | .ret=> .ret
def pX:Ex->Bool
 | .normal=>true
 | _=>false
def St.nf (s:St)(o k:Nat)(st:Rq):Bool:=match s.get o with
 | some (.loop k' st')=>Nat.beq k k' && decide (st=st')
 | _=>false
def JE (k:Nat):Option (Ex×Fr×St)->Option (D×St)
 | some (e,fr,s)=>match fr.defers,s.nf (k+1) k .busy with
  | [],true=>nY (.bool (pX e)) (s.set (k+1) (.loop k (TM e)))
  | _,_=>none
 | none=>none
def CB (k:Nat)(b:Fr->St->Option (Ex×Fr×St)):Option (Ex×Fr×St)->Option (D×St)
 | some (.normal,fr,s)=>match s.nf (k+1) k .ready with
  | true=>match s.set (k+1) (.loop k .busy) with
   | some s' =>JE k (b fr s')
   | none=>none
  | false=>none
 | _=>none
def jP (k:Nat)(ps:List Nat)(env:Env)(a b:Fr->St->Option (Ex×Fr×St))(H:au):au:=fun f l s=>match f,l with
 | 0,.lv (.yl k')::xs=>match Nat.beq k k' with
  | true=>match s.nf (k+1) k .ready,pF ps xs env with
   | true,some e=>CB k b (a ⟨e,[]⟩ s)
   | _,_=>none
  | false=>H f l s
 | f,l=>H f l s
def Ch:Rq->Option Ex
 | .ready=>some .normal
 | .busy=>none
 | .exit i=>some (.exit i)
 | .ret=>some .ret
def A7 (k:Nat)(fr:Fr):Option (D×St)->Option (Ex×Fr×St)
 | some (_,s)=>match s.get (k+1) with
  | some (.loop k' st)=>match Nat.beq k k',Ch st,s.set (k+1) .dead with
   | true,some e,some s' =>some (e,{ fr with defers:=(.lX,[])::fr.defers},s')
   | _,_,_=>none
  | _=>none
 | none=>none
def nh (C' :Nat->Env->au)(bM:List Nat)(g:bO)(fr:Fr)(s:St):Option (Ex×Fr×St):=match g.ev fr.env,s.ro with
 | some (.fn (.func gf) [] caps),false=>match (fr.env.bM bM).plain with
  | true=>A7 s.n fr (C' s.n (fr.env.bM bM) gf (.yl s.n::caps) ((s.aZ .dead).aZ (.loop s.n .ready)))
  | false=>none
 | _,_=>none
mutual
def cV (T:Nat->Option dJ)(H:au):Nat->au
 | 0,_,_,_=>none
 | n+1,f,args,s=>match yS args with
  | true=>H f args s
  | false=>match T f with
   | some fn=>nE (cV T H n) (oE T (cV T H n) (eT T H n)) (eT T H n) fn args s
   | none=>H f args s
def eT (T:Nat->Option dJ)(H:au):Nat->gO
 | 0,_,_,_,_=>none
 | n+1,bM,a,fr,s=>match a with
  | .iF kp g ps x y=>nh (fun k e=>cV T (jP k ps e (bN (cV T H n) (eT T H n) x) (bN (cV T H n) (eT T H n) y) H) n) kp g fr s
  | a=>match bN (cV T H n) (eT T H n) a { fr with env:=fr.env.bM bM} s with
   | some (.normal,fr',s')=>eT T H n bM a fr' s'
   | r=>r
end
end Go.Ab
