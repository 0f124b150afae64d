/- Part. -/
import Derived.Calls
set_option linter.unusedSectionVars false
set_option linter.unusedSimpArgs false
set_option linter.unusedVariables false
namespace Go.Ab
abbrev aa.{u}:= @Option.some.injEq.{u}
abbrev ab.{u,v}:= @Prod.mk.injEq.{u,v}
abbrev ae.{u}:= @List.getElem?_eq_getElem.{u}
abbrev af.{u}:= @List.getElem?_eq_some_iff.{u}
abbrev aj.{u,v}:= @Option.bind_eq_some_iff.{u,v}
abbrev an:= @Nat.le_refl
abbrev aq:= @Nat.ble_eq_true_of_le
abbrev ax:= @Nat.le_of_ble_eq_true
abbrev az:= @Nat.beq_refl
abbrev aA:= @Bool.and_eq_true
abbrev aB.{u}:= @List.length_append.{u}
abbrev aD.{u}:= @Option.bind_eq_bind.{u}
abbrev aE.{u,v}:= @List.getElem?_map.{u,v}
abbrev aF:= @Nat.eq_of_beq_eq_true
abbrev aG:= @Nat.lt_or_ge
abbrev aH.{u,v}:= @List.length_map.{u,v}
abbrev aJ.{u}:= @if_neg.{u}
abbrev aK.{u}:= @List.mem_of_getElem?.{u}
abbrev aM:= @Nat.zero_add
abbrev aO.{u}:= @List.getElem?_append_left.{u}
abbrev aP.{u}:= @Option.pure_def.{u}
abbrev aQ.{u}:= @List.getElem?_cons_zero.{u}
abbrev aR:= @Nat.zero_le
abbrev aT.{u}:= @List.getElem?_append_right.{u}
abbrev aU.{u}:= @List.length_cons.{u}
abbrev aW.{u}:= @List.length_singleton.{u}
abbrev aX:= @decide_eq_true_eq
abbrev aY.{u,v}:= @Option.map_eq_some_iff.{u,v}
abbrev bk:= @decide_eq_false
abbrev bA:= @of_decide_eq_true
abbrev bF:= @decide_eq_false_iff_not
abbrev bG.{u,v}:= @List.map_cons.{u,v}
abbrev bH.{u}:= @List.getElem_mem.{u}
abbrev bJ.{u}:= @if_pos.{u}
abbrev bK.{u}:= @List.mem_append.{u}
abbrev bL.{u}:= @List.length_nil.{u}
abbrev bO.{u}:= @Ne.symm.{u}
abbrev bQ.{u}:= @beq_eq_false_iff_ne.{u}
abbrev bS.{u}:= @List.mem_cons.{u}
abbrev bT:= @Nat.add_mul
abbrev bX.{u}:= @List.getElem?_cons_succ.{u}
abbrev bY:= @Int.tmod_eq_emod_of_nonneg
abbrev ck.{u}:= @Array.getD_eq_getD_getElem?.{u}
abbrev cw.{u}:= @Array.getElem?_eq_none.{u}
abbrev cz.{u}:= @Array.getElem?_eq_getElem.{u}
abbrev cA.{u}:= @List.nil_append.{u}
abbrev cG.{u}:= @List.mem_singleton.{u}
abbrev cH.{u}:= @List.getElem?_of_mem.{u}
abbrev cK:= @decide_eq_true
abbrev cQ:= @Int.toNat_natCast
abbrev cR.{u}:= @List.length_take.{u}
abbrev cU:= @Nat.le_trans
abbrev cW.{u}:= @List.getElem?_drop.{u}
abbrev cZ:= @Nat.pow_le_pow_right
abbrev db:= @Bool.false_eq_true
abbrev de.{u}:= @List.getElem?_take.{u}
abbrev dh.{u}:= @List.all_eq_true.{u}
abbrev dn.{u,v}:= @Option.map_some.{u,v}
abbrev du:= @Nat.le_max_left
abbrev dw:= @Nat.mul_le_mul_right
abbrev dD:= @not_false_eq_true
abbrev dF:= @Nat.le_max_right
abbrev dG.{u}:= @Array.ext'.{u}
abbrev dI.{u}:= @List.drop_of_length_le.{u}
abbrev dJ.{u}:= @List.getD_eq_getElem?_getD.{u}
abbrev dR.{u}:= @Array.getElem?_setIfInBounds.{u}
abbrev dV.{u}:= @List.length_pos_iff.{u}
abbrev dY.{u}:= @List.append_nil.{u}
abbrev ec:= @Nat.eq_zero_or_pos
abbrev ed.{u,v}:= @List.map_nil.{u,v}
abbrev ef.{u}:= @List.eq_nil_of_length_eq_zero.{u}
abbrev ep.{u}:= @if_true.{u}
abbrev ey.{u}:= @List.cons.injEq.{u}
abbrev eB.{u}:= @List.length_drop.{u}
abbrev eC:= @Bool.or_eq_true
abbrev eD.{u}:= @List.take_length.{u}
abbrev eE.{u}:= @List.mem_cons_of_mem.{u}
abbrev eF:= @Nat.sub_self
abbrev eJ.{u}:= @List.getElem?_eq_none.{u}
abbrev eM:= @Bool.true_or
abbrev eQ.{u}:= @Option.getD_some.{u}
abbrev eX:= @Nat.lt_of_lt_of_le
abbrev eY.{u}:= @List.take_of_length_le.{u}
abbrev eZ.{u}:= @List.not_mem_nil.{u}
abbrev fa.{u}:= @Array.length_toList.{u}
abbrev fe:= @Bool.not_eq_true'
abbrev fj:= @Int.tdiv_eq_ediv_of_nonneg
abbrev fk:= @Bool.and_self
abbrev fm.{u}:= @List.nodup_cons.{u}
abbrev ft.{u,v}:= @List.map_toArray.{u,v}
abbrev fB.{u}:= @List.drop_eq_getElem_cons.{u}
abbrev fM:= @Bool.true_and
abbrev fN.{u}:= @List.nodup_nil.{u}
abbrev fP:= @Nat.add_zero
abbrev fV.{u}:= @List.mem_of_mem_take.{u}
abbrev gv.{u}:= @List.drop_zero.{u}
abbrev gy.{u}:= @Array.getElem?_eq_some_iff.{u}
abbrev gz.{u}:= @List.take_add_one.{u}
abbrev gC.{u}:= @List.take_succ_cons.{u}
abbrev gE.{u}:= @List.length_set.{u}
abbrev gK.{u}:= @List.take_append_drop.{u}
abbrev gQ.{u}:= @List.all_cons.{u}
abbrev gR:= @Nat.lt_irrefl
abbrev gS:= @Nat.mul_assoc
abbrev h9:= @Nat.lt_trichotomy
abbrev ia.{u}:= @List.append_assoc.{u}
abbrev ib.{u}:= @List.length_eq_zero_iff.{u}
abbrev ij.{u}:= @beq_iff_eq.{u}
abbrev iv:= @and_true
abbrev iw.{u}:= @if_false.{u}
abbrev ix.{u}:= @List.length_reverse.{u}
abbrev iF:= @Nat.add_assoc
abbrev iL.{u}:= @List.cons_append.{u}
abbrev iS:= @Nat.beq_eq
abbrev iT:= @decide_eq_true_iff
abbrev iU:= @Nat.mod_two_eq_zero_or_one
abbrev iV.{u}:= @List.length_replicate.{u}
abbrev jc.{u,v}:= @List.map_append.{u,v}
abbrev jd:= @Nat.two_pow_pos
abbrev ji.{u,v}:= @List.flatMap_cons.{u,v}
abbrev jj:= @not_true_eq_false
abbrev jk.{u,v}:= @List.map_set.{u,v}
abbrev jl:= @Nat.pow_succ
abbrev jo.{u}:= @Option.isSome_iff_exists.{u}
abbrev js.{u}:= @Array.getElem?_push.{u}
abbrev jC.{u,v,w}:= @List.mapM_cons.{u,v,w}
abbrev jD.{u,v}:= @Array.toList_map.{u,v}
abbrev jO.{u,v}:= @List.mem_map.{u,v}
abbrev jP.{u,v}:= @List.mem_filterMap.{u,v}
abbrev jQ:= @Nat.mul_comm
abbrev jR.{u}:= @List.set_cons_zero.{u}
abbrev jS.{u}:= @List.getElem?_set_self.{u}
abbrev jZ.{u}:= @List.mem_zipIdx_iff_getElem?.{u}
abbrev ke.{u}:= @Array.getElem?_toList.{u}
abbrev ki.{u}:= @List.ext_getElem?.{u}
abbrev kj.{u}:= @Array.size_append.{u}
abbrev km.{u}:= @List.size_toArray.{u}
abbrev kH:= @not_or
abbrev kI:= @or_false
abbrev kJ:= @Int.fdiv_eq_ediv_of_nonneg
abbrev kP:= @Nat.succ_pos
abbrev kQ:= @Nat.mod_eq_of_lt
abbrev kR:= @Bool.or_true
abbrev kS:= @Int.lt_or_le
abbrev lu.{u}:= @List.replicate_succ.{u}
abbrev lG:= @Bool.and_true
abbrev lH.{u}:= @Array.getElem?_replicate.{u}
abbrev lJ:= @Nat.not_lt_zero
abbrev lU:= @Nat.mul_one
abbrev mg:= @List.mem_range
abbrev mh.{u}:= @List.dropWhile_sublist.{u}
abbrev mi:= @Nat.succ_le_of_lt
abbrev mj.{u}:= @List.getElem?_set.{u}
abbrev mB.{u}:= @Array.getElem?_modify.{u}
abbrev mC.{u}:= @List.set_append_right.{u}
abbrev mR.{u,v}:= @Option.bind_some.{u,v}
abbrev mS.{u}:= @List.countP_cons.{u}
abbrev mT:= @Nat.lt_succ_self
abbrev mY:= @Bool.false_or
abbrev mZ:= @Iff.rfl
abbrev nD.{u}:= @List.replicate_succ'.{u}
abbrev nE.{u}:= @List.mem_of_mem_drop.{u}
abbrev nF.{u}:= @List.getElem?_set_ne.{u}
abbrev nG.{u}:= @List.getElem?_append.{u}
abbrev nP:= @List.range_succ
abbrev nQ.{u,v}:= @List.foldl_cons.{u,v}
abbrev nV.{u,v}:= @List.map_eq_nil_iff.{u,v}
abbrev nX.{u}:= @List.drop_succ_cons.{u}
abbrev nY.{u}:= @Array.toList_modify.{u}
abbrev nZ.{u,v}:= @List.flatMap_append.{u,v}
abbrev oy:= @Nat.zero_mul
abbrev ph.{u}:= @List.take_zero.{u}
abbrev pj:= @Bool.not_false
abbrev pk:= @And.left
abbrev pq:= @Bool.false_and
abbrev pt.{u,v}:= @List.map_replicate.{u,v}
abbrev pR:= @List.length_range
class eW where
 vi:Nat->Int
 vs:Nat->List UInt8
 vb:Nat->Bool
inductive Sym where
 | i (n:Nat) | len (n:Nat) | lin (m c:Int) (a:Sym)
 deriving DecidableEq
def Sym.val [eW]:Sym->Int
 | .i n=>eW.vi n
 | .len n=>((eW.vs n).length:Nat)
 | .lin m c a=>m * a.val+c
inductive D where
 | bool (b:Bool)
 | int (k:IntKind) (n:Int)
 | str (s:List UInt8)
 | cT
 | ptr (o c:Nat)
 | jK (o i c e:Nat)
 | jE (e:D) (c:Nat)
 | vs (nl:Bool) (sz:Nat) (l:List D)
 | sl (o off len cp:Nat)
 | qz
 | mp (o:Nat)
 | fn (f:Fn) (first cap:List D)
 | mf
 | ig (t:Nat) (v:D)
 | nv
 | agg (cs:List D)
 | gJ (l:List D)
 | lv (v:D)
 | iI (a c:Nat)
 | sint (k:IntKind) (a:Sym) (lo hi:Int)
 | pz (i:Nat) (ex:List (List UInt8)) (lo hi:Nat)
 | rN (i:Nat)
 | yl (o:Nat)
 deriving Inhabited
def D.flat:D->List D
 | .agg cs=>cs
 | d=> [d]
def D.sc:D->Bool
 | .agg _=>false
 | .gJ _=>false
 | .lv _=>false
 | .iI _ _=>false
 | _=>true
def D.st:D->Bool
 | .agg l=>l.all D.sc
 | d=>d.sc
inductive QC where
 | ready | busy | exit (id:Nat) | ret
 deriving DecidableEq
inductive Obj where
 | var (ty:Nat) (v:D)
 | arr (sz ty:Nat) (elems:List D) (stable:Nat)
 | map (es:List (Nat×D×D)) (clock:Nat)
 | lz (s:List UInt8) (pos:Nat)
 | dead
 | loop (k:Nat) (st:QC)
 deriving Inhabited
mutual
def D.beq:D->D->Bool
 | .bool a,.bool b=>a==b
 | .int k a,.int j b=>decide (k=j) && decide (a=b)
 | .str a,.str b=>a==b
 | .cT,.cT=>true
 | .ptr o c,.ptr o' c' =>Nat.beq o o' && Nat.beq c c'
 | .jK o i c e,.jK o' i' c' e' =>Nat.beq o o' && (Nat.beq i i' && (Nat.beq c c' && Nat.beq e e'))
 | .jE e c,.jE e' c' =>Nat.beq c c' && D.beq e e'
 | .vs n z l,.vs n' z' l' =>n==n' && (Nat.beq z z' && D.fv l l')
 | .sl o a b c,.sl o' a' b' c' =>Nat.beq o o' && (Nat.beq a a' && (Nat.beq b b' && Nat.beq c c'))
 | .qz,.qz=>true
 | .mp o,.mp o' =>Nat.beq o o'
 | .fn f x y,.fn f' x' y' =>decide (f=f') && (D.fv x x' && D.fv y y')
 | .mf,.mf=>true
 | .ig t d,.ig t' d' =>Nat.beq t t' && D.beq d d'
 | .nv,.nv=>true
 | .agg l,.agg l' =>D.fv l l'
 | .gJ l,.gJ l' =>D.fv l l'
 | .sint k a lo hi,.sint k' a' lo' hi' =>decide (k=k') && (decide (a=a') && (decide (lo=lo') && decide (hi=hi')))
 | .pz i ex lo hi,.pz i' ex' lo' hi' =>Nat.beq i i' && (ex==ex' && (Nat.beq lo lo' && Nat.beq hi hi'))
 | .rN i,.rN i' =>Nat.beq i i'
 | .yl i,.yl i' =>Nat.beq i i'
 | .lv a,.lv b=>D.beq a b
 | .iI a c,.iI a' c' =>Nat.beq a a' && Nat.beq c c'
 | _,_=>false
def D.fv:List D->List D->Bool
 | [],[]=>true
 | a::l,b::r=>D.beq a b && D.fv l r
 | _,_=>false
end
mutual
theorem D.beq_eq:∀(a b:D),D.beq a b=true->a=b:=by
 intro a b h
 cases a <;> cases b <;> simp only [D.beq,aA,aX,ij,iS]at h <;> first
  | (cases h; done)
  | rfl
  | (subst h; rfl)
  | (obtain ⟨rfl,rfl⟩:=h; rfl)
  | (obtain ⟨rfl,rfl,rfl⟩:=h; rfl)
  | (obtain ⟨rfl,rfl,rfl,rfl⟩:=h; rfl)
  | (obtain ⟨rfl,h⟩:=h; rw [D.beq_eq _ _ h])
  | (obtain ⟨rfl,rfl,h⟩:=h; rw [D.pK _ _ h])
  | (obtain ⟨rfl,h1,h2⟩:=h; rw [D.pK _ _ h1,D.pK _ _ h2])
  | (rw [D.pK _ _ h])
  | (rw [D.beq_eq _ _ h])
theorem D.pK:∀(a b:List D),D.fv a b=true->a=b
 | [],[],_=>rfl
 | x::l,y::r,h=>by
  simp only [D.fv,aA]at h;rw [D.beq_eq _ _ h.1,D.pK _ _ h.2]
 | [],_::_,h=>by simp [D.fv]at h
 | _::_,[],h=>by simp [D.fv]at h
end
def wE:List (Nat×D×D)->List (Nat×D×D)->Bool
 | [],[]=>true
 | (n,k,v)::l,(n',k',v')::r=>Nat.beq n n' && (D.beq k k' && (D.beq v v' && wE l r))
 | _,_=>false
theorem Di:∀(a b:List (Nat×D×D)),wE a b=true->a=b
 | [],[],_=>rfl
 | (n,k,v)::l,(n',k',v')::r,h=>by
  simp only [wE,aA,iS]at h;obtain⟨rfl,h1,h2,h3⟩:=h;rw [D.beq_eq _ _ h1,D.beq_eq _ _ h2,Di _ _ h3]
 | [],_::_,h=>by simp [wE]at h
 | _::_,[],h=>by simp [wE]at h
def Obj.beq:Obj->Obj->Bool
 | .var t v,.var t' v' =>Nat.beq t t' && D.beq v v'
 | .arr z t l s,.arr z' t' l' s' =>Nat.beq z z' && (Nat.beq t t' && (Nat.beq s s' && D.fv l l'))
 | .map l c,.map l' c' =>Nat.beq c c' && wE l l'
 | .lz l p,.lz l' p' =>Nat.beq p p' && l==l'
 | .dead,.dead=>true
 | .loop k st,.loop k' st' =>Nat.beq k k' && decide (st=st')
 | _,_=>false
theorem Obj.beq_eq (a b:Obj)(h:Obj.beq a b=true):a=b:=by
 cases a <;> cases b <;> simp only [Obj.beq,aA,iS,ij,aX]at h <;> first
  | (cases h; done)
  | rfl
  | (rw [D.beq_eq _ _ h])
  | (obtain ⟨rfl,rfl⟩:=h; rfl)
  | (obtain ⟨rfl,h⟩:=h; rw [D.beq_eq _ _ h])
  | (obtain ⟨rfl,rfl,rfl,h⟩:=h; rw [D.pK _ _ h])
  | (obtain ⟨rfl,h⟩:=h; rw [Di _ _ h])
inductive T (α:Type) where
 | nil
 | node (o:Option α) (l r:T α)
namespace T
variable {α:Type}
def get:T α->Nat->Option α
 | .nil,_=>none
 | .node o l r,k=>match Nat.beq k 0 with
  | true=>o
  | false=>match Nat.beq (k % 2) 1 with
   | true=>get l (k / 2)
   | false=>get r (k / 2 - 1)
def put:Nat->T α->Nat->Option α->T α
 | 0,t,_,_=>t
 | f+1,t,k,v=>match t with
  | .nil=>match Nat.beq k 0 with
   | true=> .node v .nil .nil
   | false=>match Nat.beq (k % 2) 1 with
    | true=> .node none (put f .nil (k / 2) v) .nil
    | false=> .node none .nil (put f .nil (k / 2 - 1) v)
  | .node o l r=>match Nat.beq k 0 with
   | true=> .node v l r
   | false=>match Nat.beq (k % 2) 1 with
    | true=> .node o (put f l (k / 2) v) r
    | false=> .node o l (put f r (k / 2 - 1) v)
def set (t:T α)(k:Nat)(v:Option α):T α:=put (k+1) t k v
theorem OU {a b:Nat}(h:a=b):Nat.beq a b=true:=by subst h; exact az a
theorem uq {a b:Nat}(h:a≠b):Nat.beq a b=false:=by
 cases hb:Nat.beq a b with
 | true=>exact absurd (aF hb) h
 | false=>rfl
theorem get_nil (j:Nat):get (.nil:T α) j=none:=rfl
theorem jB (o:Option α)(l r:T α):get (.node o l r) 0=o:=rfl
theorem jb (o:Option α)(l r:T α){j:Nat}(h0:j≠0)(h:j % 2=1):get (.node o l r) j=get l (j / 2):=by
 simp only [get,uq h0,OU h]
theorem ja (o:Option α)(l r:T α){j:Nat}(h0:j≠0)(h:j % 2≠1):get (.node o l r) j=get r (j / 2 - 1):=by
 simp only [get,uq h0,uq h]
theorem LC (f:Nat)(t:T α)(k:Nat)(v:Option α):
  ∃o l r,(∀j,get t j=get (.node o l r) j)/\put (f+1) t k v=match Nat.beq k 0 with
   | true=> .node v l r
   | false=>match Nat.beq (k % 2) 1 with
    | true=> .node o (put f l (k / 2) v) r
    | false=> .node o l (put f r (k / 2 - 1) v):=by
 cases t with
 | nil=>
  refine⟨none,.nil,.nil,fun j=> ?_,by simp only [put]⟩;simp only [get]; split
  ·rfl
  ·split <;> rfl
 | node o l r=>exact ⟨o,l,r,fun _=>rfl,by simp only [put]⟩
theorem xJ (f:Nat):∀(t:T α) (k j:Nat) (v:Option α),k < f->get (put f t k v) j=if j=k then v else get t j:=by
 induction f with
 | zero=>intro t k j v h; omega
 | succ f ih=>
  intro t k j v h;obtain⟨o,l,r,hg,hp⟩:=LC f t k v;rw [hg,hp];by_cases hk:k=0
  ·subst hk;by_cases hj:j=0
   ·subst hj; simp [jB]
   ·simp only [aJ hj];by_cases g:j % 2=1
    ·rw [jb _ _ _ hj g,jb _ _ _ hj g]
    ·rw [ja _ _ _ hj g,ja _ _ _ hj g]
  ·simp only [uq hk];by_cases g:k % 2=1
   ·simp only [OU g];by_cases hj:j=0
    ·subst hj; rw [jB,jB,aJ (bO hk)]
    ·by_cases q:j % 2=1
     ·rw [jb _ _ _ hj q,jb _ _ _ hj q,ih _ _ _ _ (by omega)];by_cases e:j / 2=k / 2
      ·rw [bJ e,bJ (by omega)]
      ·rw [aJ e,aJ (fun e' =>e (by rw [e']))]
     ·rw [ja _ _ _ hj q,ja _ _ _ hj q,aJ (fun e' =>q (by rw [e']; exact g))]
   ·simp only [uq g];by_cases hj:j=0
    ·subst hj; rw [jB,jB,aJ (bO hk)]
    ·by_cases q:j % 2=1
     ·rw [jb _ _ _ hj q,jb _ _ _ hj q,aJ (fun e' =>g (by rw [← e']; exact q))]
     ·rw [ja _ _ _ hj q,ja _ _ _ hj q,ih _ _ _ _ (by omega)];by_cases e:j / 2 - 1=k / 2 - 1
      ·rw [bJ e,bJ (by omega)]
      ·rw [aJ e,aJ (fun e' =>e (by rw [e']))]
theorem pI (t:T α)(k j:Nat)(v:Option α):get (set t k v) j=if j=k then v else get t j:=xJ (k+1) t k j v (by omega)
end T
structure St where
 n:Nat
 h:T Obj
 lk:List Nat
 ro:Bool
def pX (o:Nat):List Nat->Bool
 | []=>false
 | x::r=>match Nat.beq x o with
  | true=>true
  | false=>pX o r
def St.get (s:St)(o:Nat):Option Obj:=s.h.get o
def St.bD (s:St)(o:Nat)(x:Obj):St:= { s with h:=s.h.set o (some x)}
def St.set (s:St)(o:Nat)(x:Obj):Option St:=
 match s.ro with
 | true=>none
 | false=>match pX o s.lk with
  | true=>none
  | false=>some (s.bD o x)
def St.bc (s:St)(x:Obj):St:= { s with n:=s.n+1,h:=s.h.set s.n (some x)}
def St.mk' (s:St)(al:Option Nat)(x:Obj):Option (Nat×St):=
 match s.ro with
 | true=>none
 | false=>match al with
  | none=>some (s.n,s.bc x)
  | some k=>match s.get k with
   | none=>match Nat.blt k s.n with
    | true=>some (k,s.bD k x)
    | false=>none
   | some _=>none
inductive bP where
 | t (n:Nat)
 | c (d:D)
mutual
inductive ET where
 | bool | int | str | ptr | slice | map | func | iface
 | st (l:VC)
inductive VC where
 | nil
 | cons (off:Nat) (s:Option Nat) (e:ET) (r:VC)
end
inductive Ext where
 | nop | race | Zv | UD (k:IntKind) | Px | YJ (k:IntKind) | aai (k:IntKind)
 deriving DecidableEq
inductive Recv where
 | self | load (off:Nat) (s:Option Nat) | addr (off:Nat) | part (off:Nat) (s:Option Nat)
inductive eN where
 | mv (x:bP)
 | pick (c a b:bP)
 | box (ty:Nat) (x:bP)
 | nC (x:bP)
 | qe (sz:Nat) (z:D) (len:Nat) (parts:List (Nat×bP))
 | build (z:List D) (parts:List (Nat×Nat×bP))
 | tQ (sz ty:Nat) (z:D) (len:Nat) (parts:List (Nat×bP))
 | load (s:Option Nat) (x:bP)
 | store (sz:Nat) (x v:bP)
 | sW (a:Nat) (s:Option Nat) (x:bP)
 | iY (a:Nat) (sz:Nat) (x v:bP)
 | sg (x:bP)
 | Au (name:String) (tG:List (Nat×Nat×Recv)) (x:bP)
 | bin (op:BinOp) (x y:bP)
 | eq (et:ET) (neg oneConst:Bool) (x y:bP)
 | un (op:UnOp) (x:bP)
 | toInt (k:IntKind) (x:bP)
 | rQ (x:bP)
 | ER (x:bP)
 | oX (ty:Nat) (x:bP)
 | lK (x:bP)
 | Ni (t:Nat) (x:bP)
 | KY (f:Fn) (first cap:List bP)
 | zy (r:Option bP)
 | oq (sz bytes ty:Nat) (z:D) (len cap:bP)
 | pz (x:bP) (lo hi:Option bP)
 | H8 (sz:Nat) (x:bP) (lo hi mx:Option bP)
 | zq (n:Nat) (x:bP)
 | wG (off:Nat) (x:bP)
 | field (off:Nat) (s:Option Nat) (x:bP)
 | nA (sz:Nat) (x i:bP)
 | ry (len sz:Nat) (x i:bP)
 | Ja (x i:bP)
 | Oe (len sz:Nat) (s:Bool) (x i:bP)
 | lookup (et:ET) (z:D) (ok:Bool) (m k:bP)
 | Ac (et:ET) (m k v:bP)
 | tN (et:ET) (z:D) (m k:bP)
 | pE (m s v:bP)
 | range (x:bP)
 | uF (x:bP)
 | sF (t:Nat) (z:D) (ok:Bool) (x:bP)
 | rS (n:Nat) (ts:List Nat) (ok:Bool) (x:bP)
 | extract (i:Nat) (x:bP)
 | call (ro:Bool) (f:Nat) (args:List bP)
 | pe (f:bP) (args:List bP)
 | invoke (tG:List (Nat×Nat×Recv)) (x:bP) (args:List bP)
 | len (k:Nat) (x:bP)
 | append (sz bytes ty:Nat) (x y:bP)
 | copy (sz:Nat) (x y:bP)
 | clear (sz:Nat) (z:D) (x:bP)
 | kE (x:bP)
 | uy (x:bP)
 | Dv (x:bP)
 | upto (l:List (Nat×Nat×Nat)) (x:bP)
 | qL (x:bP)
 | Cr (ty:Nat) (x y:bP)
 | ext (k:Ext) (l:List bP)
 | delete (et:ET) (m k:bP)
 | tS (mx:Bool) (x:List bP)
 | defer (f:bP) (args:List bP)
 | bad
structure bj where
 dst:Option Nat
 op:eN
 guard:Option (Nat×Bool)
 al:Option Nat
inductive AC where
 | skip
 | Aa (ops:List bj)
 | yO (k:Nat) (ops:List (bj×List Nat))
 | seq (a b:AC)
 | cond (c:bP) (a b:AC)
 | block (id:Nat) (a:AC)
 | loop (bR:List Nat) (a:AC)
 | exit (id:Nat)
 | ret
 | bad
 | iA (bR:List Nat) (g:bP) (ps:List Nat) (a b:AC)
inductive xb where
 | tmp (t:Nat)
 | cell (a:Nat) (s:Option Nat)
structure dS where
 results:List xb
 body:AC
def bP.sl:bP->List Nat
 | .t n=> [n]
 | .c _=> []
def VO:Option bP->List Nat
 | some x=>x.sl
 | none=> []
def N0 (l:List bP):List Nat:=l.flatMap bP.sl
def eN.sl:eN->List Nat
 | .mv x | .box _ x | .nC x | .load _ x | .sg x | .Au _ _ x | .un _ x | .toInt _ x | .rQ x | .ER x | .oX _ x | .lK x | .Ni _ x | .wG _ x | .field _ _ x | .range x | .uF x | .sF _ _ _ x | .rS _ _ _ x | .extract _ x | .len _ x | .clear _ _ x | .kE x | .uy x | .Dv x | .upto _ x | .qL x | .zq _ x=>x.sl
 | .pick a b c=>a.sl++b.sl++c.sl
 | .qe _ _ _ p | .tQ _ _ _ _ p=>p.flatMap fun q=>q.2.sl
 | .build _ p=>p.flatMap fun q=>q.2.2.sl
 | .store _ x v=>x.sl++v.sl
 | .sW a _ x=>a::x.sl
 | .iY a _ x v=>a::x.sl++v.sl
 | .bin _ x y | .eq _ _ _ x y | .nA _ x y | .ry _ _ x y | .Ja x y | .Oe _ _ _ x y | .append _ _ _ x y | .copy _ x y | .delete _ x y | .Cr _ x y=>x.sl++y.sl
 | .KY _ a b=>N0 a++N0 b
 | .zy r=>VO r
 | .oq _ _ _ _ x y=>x.sl++y.sl
 | .pz x a b=>x.sl++VO a++VO b
 | .H8 _ x a b c=>x.sl++VO a++VO b++VO c
 | .lookup _ _ _ x y | .tN _ _ x y=>x.sl++y.sl
 | .Ac _ x y z | .pE x y z=>x.sl++y.sl++z.sl
 | .call _ _ l=>N0 l
 | .pe f l=>f.sl++N0 l
 | .invoke _ x l=>x.sl++N0 l
 | .ext _ l=>N0 l
 | .tS _ l=>N0 l
 | .defer f l=>f.sl++N0 l
 | .bad=> []
abbrev Env:=List (Nat×D)
def Env.get:Env->Nat->Option D
 | [],_=>none
 | (t,d)::r,s=>match Nat.beq t s with
  | true=>some d
  | false=>Env.get r s
def Env.bR (e:Env):List Nat->Env
 | []=> []
 | t::r=>match e.get t with
  | some d=>(t,d)::Env.bR e r
  | none=>Env.bR e r
structure Fr where
 env:Env
 defers:List (D×List D)
def Env.kG (e:Env)(a:Nat):Bool:=
 match e.get a with
 | some (.lv _)=>true
 | _=>false
def bP.ev (e:Env):bP->Option D
 | .t n=>match e.get n with
  | some (.lv _)=>none
  | some (.iI _ _)=>none
  | r=>r
 | .c d=>some d
def bP.zb (e:Env):bP->Option D
 | .t n=>match e.get n with
  | some (.lv _)=>some (.iI n 0)
  | r=>r
 | .c d=>some d
def Env.tU (a:Nat):Env->Bool
 | []=>true
 | (_,d)::r=>match d with
  | .iI b _=>match Nat.beq a b with
   | true=>false
   | false=>Env.tU a r
  | _=>Env.tU a r
def sK (e:Env):List bP->Option (List D)
 | []=>some []
 | x::r=>match x.ev e with
  | some d=>match sK e r with
   | some l=>some (d::l)
   | none=>none
  | none=>none
def uz (e:Env):Option bP->Option (Option D)
 | none=>some none
 | some x=>match x.ev e with
  | some d=>some (some d)
  | none=>none
def over {α:Type}:List α->Nat->List α->List α
 | cs,0,vs=>vs++cs.drop vs.length
 | [],_,_=> []
 | c::cs,n+1,vs=>c::over cs n vs
def D.over (e:D)(c:Nat)(v:D):Option D:=
 match v.st with
 | false=>none
 | true=>match e with
  | .agg cs=>match Nat.ble (c+v.flat.length) cs.length with
   | true=>some (.agg (Ab.over cs c v.flat))
   | false=>none
  | _=>match Nat.beq c 0,v.sc with
   | true,true=>some v
   | _,_=>none
def Da:List D->List (Nat×Nat×D)->Option (List D)
 | cs,[]=>some cs
 | cs,(off,sz,v)::r=>match Nat.beq v.flat.length sz,v.st with
  | true,true=>match Nat.ble (off+sz) cs.length with
   | true=>Da (over cs off v.flat) r
   | false=>none
  | _,_=>none
def pJ (e:Env):List (Nat×Nat×bP)->Option (List (Nat×Nat×D))
 | []=>some []
 | (o,s,x)::r=>match x.ev e with
  | some d=>match pJ e r with
   | some l=>some ((o,s,d)::l)
   | none=>none
  | none=>none
def sY (sz:Nat):List D->List (Nat×D)->Option (List D)
 | l,[]=>some l
 | l,(i,v)::r=>match Nat.beq v.flat.length sz,v.st with
  | true,true=>match Nat.blt i l.length with
   | true=>sY sz (l.set i v) r
   | false=>none
  | _,_=>none
def jx (e:Env):List (Nat×bP)->Option (List (Nat×D))
 | []=>some []
 | (i,x)::r=>match x.ev e with
  | some d=>match jx e r with
   | some l=>some ((i,d)::l)
   | none=>none
  | none=>none
def part (cs:List D)(c:Nat):Option Nat->Option D
 | some s=>match Nat.ble (c+s) cs.length with
  | true=>some (.agg ((cs.drop c).take s))
  | false=>none
 | none=>cs[c]?
def Qu (lo hi c:Int):Bool:=decide (c < lo) || decide (hi < c)
def Ry (ex:List (List UInt8))(lo hi:Nat)(c:List UInt8):Bool:=Nat.blt c.length lo || (Nat.blt hi c.length || ex.any (· ==c))
def mV (c:Bool)(b:Bool):Option Bool:=match c with
 | true=>some b
 | false=>none
def eqI:D->D->Option Bool
 | .int k a,.int j b=>mV (decide (k=j)) (a==b)
 | .sint k _ lo hi,.int j c=>mV (decide (k=j) && Qu lo hi c) false
 | .int j c,.sint k _ lo hi=>mV (decide (k=j) && Qu lo hi c) false
 | .sint k a _ _,.sint j b _ _=>mV (decide (k=j) && decide (a=b)) true
 | _,_=>none
def X6:D->D->Option Bool
 | .str a,.str b=>some (a==b)
 | .pz _ ex lo hi,.str c=>mV (Ry ex lo hi c) false
 | .str c,.pz _ ex lo hi=>mV (Ry ex lo hi c) false
 | .pz i _ _ _,.pz j _ _ _=>mV (Nat.beq i j) true
 | _,_=>none
def W8:D->D->Option Bool
 | .bool a,.bool b=>some (a==b)
 | .rN i,.rN j=>mV (Nat.beq i j) true
 | _,_=>none
mutual
def tq (oc:Bool):ET->D->D->Option Bool
 | .bool,x,y=>W8 x y
 | .int,x,y=>eqI x y
 | .str,x,y=>X6 x y
 | .ptr,x,y=>match x,y with
  | .cT,.cT=>some true
  | .cT,.ptr .. =>some false
  | .ptr ..,.cT=>some false
  | .cT,.jK .. =>some false
  | .jK ..,.cT=>some false
  | .cT,.jE .. =>some false
  | .jE ..,.cT=>some false
  | _,_=>none
 | .slice,x,y=>match x,y with
  | .vs n _ _,.vs true _ _=>some n
  | .vs true _ _,.vs n _ _=>some n
  | .sl ..,.vs true _ _=>some false
  | .vs true _ _,.sl .. =>some false
  | _,_=>none
 | .map,x,y=>match x,y with
  | .qz,.qz=>some true
  | .qz,.mp _=>some false
  | .mp _,.qz=>some false
  | _,_=>none
 | .func,x,y=>match x,y with
  | .mf,.mf=>some true
  | .mf,.fn .. =>some false
  | .fn ..,.mf=>some false
  | _,_=>none
 | .iface,x,y=>match x,y with
  | .nv,.nv=>match oc with
   | true=>some true
   | false=>none
  | .nv,.ig .. =>some false
  | .ig ..,.nv=>some false
  | .ig t _,.ig u _=>match Nat.beq t u with
   | true=>none
   | false=>some false
  | _,_=>none
 | .st l,x,y=>match x,y with
  | .agg a,.agg b=>Pf l a b
  | _,_=>none
def Pf:VC->List D->List D->Option Bool
 | .nil,_,_=>some true
 | .cons off s e r,a,b=>match part a off s,part b off s with
  | some x,some y=>match tq false e x y with
   | some true=>Pf r a b
   | some false=>some false
   | none=>none
  | _,_=>none
end
def PR (s:St):D->D->Option Bool
 | .ptr o c,.ptr o' c' =>match s.get o,s.get o' with
  | some (.var _ _),some (.var _ _)=>some (Nat.beq o o' && Nat.beq c c')
  | _,_=>none
 | _,_=>none
def oe:List UInt8->List UInt8->Bool
 | _,[]=>false
 | [],_::_=>true
 | a::x,b::y=>a < b || (a==b && oe x y)
def tB (op:BinOp)(k:IntKind)(a b:Int):Option D:=
 match op with
 | .add=>some (.int k (k.wrap (a+b)))
 | .sub=>some (.int k (k.wrap (a - b)))
 | .mul=>some (.int k (k.wrap (a * b)))
 | .quo=>if b=0 then none else some (.int k (k.wrap (a.tdiv b)))
 | .rem=>if b=0 then none else some (.int k (a.tmod b))
 | .and=>some (.int k (k.wrap ((BitVec.ofInt k.bits a &&& BitVec.ofInt k.bits b).toNat)))
 | .or=>some (.int k (k.wrap ((BitVec.ofInt k.bits a ||| BitVec.ofInt k.bits b).toNat)))
 | .xor=>some (.int k (k.wrap ((BitVec.ofInt k.bits a ^^^ BitVec.ofInt k.bits b).toNat)))
 | .andNot=>some (.int k (k.wrap ((BitVec.ofInt k.bits a &&& ~~~(BitVec.ofInt k.bits b)).toNat)))
 | .eql=>some (.bool (a==b))
 | .neq=>some (.bool (a !=b))
 | .lss=>some (.bool (decide (a < b)))
 | .leq=>some (.bool (decide (a<=b)))
 | .gtr=>some (.bool (decide (a > b)))
 | .geq=>some (.bool (decide (a >= b)))
 | _=>none
def yV (op:BinOp)(a b:List UInt8):Option D:=
 match op with
 | .add=>match Nat.ble (a.length+b.length) 4611686018427387904 with
  | true=>some (.str (a++b))
  | false=>none
 | .eql=>some (.bool (a==b))
 | .neq=>some (.bool (!(a==b)))
 | .lss=>some (.bool (oe a b))
 | .leq=>some (.bool (oe a b || a==b))
 | .gtr=>some (.bool (!(oe a b || a==b)))
 | .geq=>some (.bool (!(oe a b)))
 | _=>none
def I1 (x y:D):Option D:=match eqI x y with
 | some b=>some (.bool b)
 | none=>match X6 x y with
  | some b=>some (.bool b)
  | none=>none
def A2:D->D->Option D
 | .sint k _ lo hi,.int j c=>match decide (k=j) with
  | true=>match decide (hi < c),decide (c<=lo) with
   | true,_=>some (.bool true)
   | _,true=>some (.bool false)
   | _,_=>none
  | false=>none
 | .int j c,.sint k _ lo hi=>match decide (k=j) with
  | true=>match decide (c < lo),decide (hi<=c) with
   | true,_=>some (.bool true)
   | _,true=>some (.bool false)
   | _,_=>none
  | false=>none
 | _,_=>none
def MO (m c:Int):Sym->Sym
 | .lin m' c' a=> .lin (m * m') (m * c' +c) a
 | a=> .lin m c a
def vQ (k:IntKind)(m c:Int)(a:Sym)(lo hi:Int):Option D:=
 match decide (k= .i64),decide (-9223372036854775808<=lo),decide (hi<=9223372036854775807) with
 | true,true,true=>some (.sint k (MO m c a) lo hi)
 | _,_,_=>none
def Gu:D->D->Option D
 | .sint k a lo hi,.int j c=>match decide (k=j) with
  | true=>vQ k 1 c a (lo+c) (hi+c)
  | false=>none
 | .int j c,.sint k a lo hi=>match decide (k=j) with
  | true=>vQ k 1 c a (lo+c) (hi+c)
  | false=>none
 | _,_=>none
def G2:D->D->Option D
 | .sint k a lo hi,.int j c=>match decide (k=j) with
  | true=>vQ k 1 (-c) a (lo - c) (hi - c)
  | false=>none
 | .int j c,.sint k a lo hi=>match decide (k=j) with
  | true=>vQ k (-1) c a (c - hi) (c - lo)
  | false=>none
 | _,_=>none
def Cw:Option D->Option D
 | some (.bool b)=>some (.bool (!b))
 | _=>none
def JQ (op:BinOp)(x y:D):Option D:=
 match op,x,y with
 | .shl,.int k a,.int _ b=>if b < 0 then none else some (.int k (k.wrap (a * 2 ^ (min b.toNat k.bits))))
 | .shr,.int k a,.int _ b=>if b < 0 then none else some (.int k (a.fdiv (2 ^ (min b.toNat k.bits))))
 | op,.int k a,.int j b=>match decide (k=j) with
  | true=>tB op k a b
  | false=>none
 | op,.str a,.str b=>yV op a b
 | .eql,x,y=>I1 x y
 | .neq,x,y=>match I1 x y with
  | some (.bool b)=>some (.bool (!b))
  | _=>none
 | .lss,x,y=>A2 x y
 | .gtr,x,y=>A2 y x
 | .geq,x,y=>Cw (A2 x y)
 | .leq,x,y=>Cw (A2 y x)
 | .add,x,y=>Gu x y
 | .sub,x,y=>G2 x y
 | _,_,_=>none
def unD (op:UnOp)(x:D):Option D:=
 match op,x with
 | .neg,.int k n=>some (.int k (k.wrap (0 - n)))
 | .xor,.int k n=>some (.int k (k.wrap ((BitVec.ofInt k.bits (if k.signed then -1 else k.max) ^^^ BitVec.ofInt k.bits n).toNat)))
 | .not,.bool b=>some (.bool (!b))
 | _,_=>none
def idx:D->Option Nat
 | .int _ n=>if 0<=n then some n.toNat else none
 | _=>none
def mq (d:Nat):Option D->Option Nat
 | none=>some d
 | some x=>idx x
def gu:Option D->Nat->Option Nat
 | none,_=>none
 | some _,n=>some n
def Fl (ok:Bool)(v:D)(b:Bool):D:=match ok with
 | true=> .gJ [v,.bool b]
 | false=>v
def Fy (n:Int):D:= .int .i64 n
def At (t c n:Nat):List (Nat×Nat×Nat)->Bool
 | []=>false
 | (t',c',n')::r=>match Nat.beq t t' && (Nat.beq c c' && Nat.beq n n') with
  | true=>true
  | false=>At t c n r
def iR (s:St)(sz:Option Nat):D->Option D
 | .ptr o c=>match s.get o with
  | some (.var _ v)=>part v.flat c sz
  | _=>none
 | .jK o i c e=>match s.get o with
  | some (.arr _ _ es st)=>match Nat.ble st e with
   | true=>match es[i]? with
    | some d=>part d.flat c sz
    | none=>none
   | false=>none
  | _=>none
 | .jE e c=>part e.flat c sz
 | _=>none
def P4 (off:Nat):D->Option D
 | .ptr o c=>some (.ptr o (c+off))
 | .jK o i c e=>some (.jK o i (c+off) e)
 | .jE e c=>some (.jE e (c+off))
 | _=>none
def rW (s:St)(v:D):Recv->Option D
 | .self=>some v
 | .load off sz=>match P4 off v with
  | some p=>iR s sz p
  | none=>none
 | .addr off=>P4 off v
 | .part off sz=>match v with
  | .agg cs=>part cs off sz
  | _=>none
def sR:List (Nat×Nat×Recv)->Nat->Option (Nat×Recv)
 | [],_=>none
 | (t,r)::l,k=>match Nat.beq t k with
  | true=>some r
  | false=>sR l k
def jM (s:St)(sz:Nat)(p v:D):Option St:=
 match Nat.beq v.flat.length sz with
 | false=>none
 | true=>match p with
  | .ptr o c=>match s.get o with
   | some (.var t e)=>match e.over c v with
    | some e' =>s.set o (.var t e')
    | none=>none
   | _=>none
  | .jK o i c e=>match s.get o with
   | some (.arr z t es _)=>match Nat.beq e es.length with
    | true=>match es[i]? with
     | some d=>match d.over c v with
      | some d' =>s.set o (.arr z t (es.set i d') es.length)
      | none=>none
     | none=>none
    | false=>none
   | _=>none
  | _=>none
def items (s:St):D->Option (Nat×List D)
 | .vs _ sz l=>some (sz,l)
 | .sl o off len cp=>match s.get o with
  | some (.arr sz _ es st)=>match Nat.ble (off+len) es.length,Nat.ble st (off+cp) with
   | true,true=>some (sz,(es.drop off).take len)
   | _,_=>none
  | _=>none
 | _=>none
def o7 (s:St):Nat->D->Option Nat
 | 0,d=>match d with
  | .str l=>some l.length
  | _=>none
 | 1,d=>match d with
  | .vs _ _ l=>some l.length
  | .sl _ _ n _=>some n
  | _=>none
 | _,d=>match d with
  | .qz=>some 0
  | .mp o=>match s.get o with
   | some (.map es _)=>some es.length
   | _=>none
  | _=>none
def j8 (s:St)(sz:Nat)(x:D)(i:Nat):Option D:=
 match x with
 | .vs _ z l=>match Nat.beq z sz with
  | true=>match l[i]? with
   | some e=>some (.jE e 0)
   | none=>none
  | false=>none
 | .sl o off len cp=>match s.get o with
  | some (.arr z _ es st)=>match Nat.beq z sz,Nat.blt i len,Nat.ble (off+len) es.length,Nat.ble st (off+cp) with
   | true,true,true,true=>some (.jK o (off+i) 0 (off+cp))
   | _,_,_,_=>none
  | _=>none
 | _=>none
def u7 (x:D)(lo:Nat)(hi mx:Option Nat):Option D:=
 match x with
 | .vs nl sz l=>
  let h:=hi.getD l.length
  let m:=mx.getD l.length
  match Nat.ble lo h,Nat.ble h m,Nat.ble m l.length with
  | true,true,true=>some (.vs nl sz ((l.take h).drop lo))
  | _,_,_=>none
 | .sl o off len cp=>
  let h:=hi.getD len
  match mx with
  | some m=>match Nat.ble lo h,Nat.ble h m,Nat.ble m cp with
   | true,true,true=>some (.sl o (off+lo) (h - lo) (m - lo))
   | _,_,_=>none
  | none=>match Nat.ble lo h,Nat.ble h cp with
   | true,true=>some (.sl o (off+lo) (h - lo) (cp - lo))
   | _,_=>none
 | _=>none
def aL:Nat:=2147483648
def fF (s:St)(al:Option Nat)(sz ty:Nat)(x:D)(l:List D):Option (D×St):=
 match l with
 | []=>match x with
  | .vs .. =>some (x,s)
  | .sl o _ _ _=>match s.get o with
   | some (.arr ..)=>some (x,s)
   | _=>none
  | _=>none
 | _=>match x with
  | .vs true _ _=>match Nat.ble l.length aL with
   | true=>match s.mk' al (.arr sz ty l 0) with
    | some (k,s')=>some (.sl k 0 l.length l.length,s')
    | none=>none
   | false=>none
  | .sl o off len _=>match s.get o with
   | some (.arr z t es st)=>match Nat.beq z sz && Nat.beq t ty,Nat.ble (off+len) es.length,Nat.ble st (off+len),Nat.ble (len+l.length) aL with
    | true,true,true,true=>match Nat.beq (off+len) es.length with
     | true=>match s.set o (.arr z t (es++l) st) with
      | some s' =>some (.sl o off (len+l.length) (len+l.length),s')
      | none=>none
     | false=>match s.set o .dead with
      | some s' =>match s'.mk' al (.arr z t (es.take (off+len)++l) 0) with
       | some (k,s'')=>some (.sl k off (len+l.length) (len+l.length),s'')
       | none=>none
      | none=>none
    | _,_,_,_=>none
   | _=>none
  | _=>none
def yH:D->Bool
 | .bool _ | .int _ _ | .str _ | .cT | .qz | .mf | .nv=>true
 | _=>false
def Cx:D->Bool
 | .agg l=>l.all yH
 | d=>yH d
def iP (s:St)(sz:Nat)(x:D)(l:List D):Option St:=
 match x with
 | .sl o off len cp=>match s.get o with
  | some (.arr z t es st)=>match Nat.beq z sz,Nat.beq (off+len) es.length,Nat.ble l.length len with
   | true,true,true=>s.set o (.arr z t (over es off l) es.length)
   | true,false,true=>match (Nat.ble (off+len) es.length && Nat.ble st (off+cp)) && (l.all Cx && D.fv ((es.drop off).take l.length) l) with
    | true=>some s
    | false=>none
   | _,_,_=>none
  | _=>none
 | .vs _ _ []=>match l with
  | []=>some s
  | _=>none
 | _=>none
def eG (sz:Nat):List D->Bool
 | []=>true
 | d::r=>Nat.beq d.flat.length sz && d.st && eG sz r
def lX (l:List D):Option (List UInt8):=
 match l with
 | []=>some []
 | .int .i32 n::r=>match lX r with
  | some b=>some ((Utf8.encode n).data.toList++b)
  | none=>none
 | _=>none
mutual
def oN:ET->D->Bool
 | .bool,x=>match x with
  | .bool _=>true
  | .rN _=>true
  | _=>false
 | .int,x=>match x with
  | .int _ _=>true
  | .sint .. =>true
  | _=>false
 | .str,x=>match x with
  | .str _=>true
  | .pz .. =>true
  | _=>false
 | .st l,x=>match x with
  | .agg a=>IB l a
  | _=>false
 | _,_=>false
def IB:VC->List D->Bool
 | .nil,_=>true
 | .cons off s e r,a=>match part a off s with
  | some x=>oN e x && IB r a
  | none=>false
end
def EB:D->D->Bool
 | .bool a,.bool b=>a==b
 | .int j a,.int k b=>decide (j=k) && a==b
 | .str a,.str b=>a==b
 | _,_=>false
def findKey (et:ET)(k:D):List (Nat×D×D)->Nat->Option (Option (Nat×D))
 | [],_=>some none
 | (_,k',v)::r,i=>match tq false et k k' with
  | some true=>some (some (i,v))
  | some false=>findKey et k r (i+1)
  | none=>none
def setAt {α:Type}:List α->Nat->(α->α)->List α
 | [],_,_=> []
 | a::r,0,f=>f a::r
 | a::r,n+1,f=>a::setAt r n f
def rT (b:Int):List (Nat×D×D)->Nat->Option Nat
 | [],_=>none
 | (n,_,_)::r,i=>if (n:Int)=b then some i else rT b r (i+1)
def OB:List (Nat×Nat)->Nat->Option Nat
 | [],_=>none
 | (t,f)::r,u=>match Nat.beq t u with
  | true=>some f
  | false=>OB r u
def bytesOf (l:List D):Option (List UInt8):=
 match l with
 | []=>some []
 | .int .u8 n::r=>match bytesOf r with
  | some b=>some (UInt8.ofNat n.toNat::b)
  | none=>none
 | _=>none
def Pe (mx:Bool):D->List D->Option D
 | d,[]=>some d
 | .int k a,.int j b::r=>match decide (k=j) with
  | true=>Pe mx (.int k (if mx then (if b > a then b else a) else (if b < a then b else a))) r
  | false=>none
 | _,_=>none
abbrev au:=Nat->List D->St->Option (D×St)
def nk (s:St):Option D->Option (D×St)
 | some d=>some (d,s)
 | none=>none
def oC (d:D):Option St->Option (D×St)
 | some s=>some (d,s)
 | none=>none
def Db (s:St)(k:Ext)(l:List D):Option (D×St):=
 match k,l with
 | .nop,_=>some (.gJ [],s)
 | .race,[.ptr _ _]=>some (.gJ [],s)
 | .Zv,[.ptr o c]=>some (.ptr o c,s)
 | .Zv,[.cT]=>some (.cT,s)
 | .UD k,[.ptr o c]=>match iR s none (.ptr o c) with
  | some (.int j n)=>match decide (k=j) with
   | true=>some (.int j n,s)
   | false=>none
  | _=>none
 | .Px,[.ptr o c,.int j v]=>oC (.gJ []) (jM s 1 (.ptr o c) (.int j v))
 | .YJ k,[.ptr o c,.int _ a,.int j b]=>match iR s none (.ptr o c) with
  | some (.int j' x)=>match decide (k=j) && decide (k=j') with
   | true=>match x==a with
    | true=>oC (.bool true) (jM s 1 (.ptr o c) (.int j b))
    | false=>some (.bool false,s)
   | false=>none
  | _=>none
 | .aai k,[.ptr o c,.int _ b]=>match iR s none (.ptr o c) with
  | some (.int j x)=>match decide (k=j) with
   | true=>oC (.int k (k.wrap (x+b))) (jM s 1 (.ptr o c) (.int k (k.wrap (x+b))))
   | false=>none
  | _=>none
 | _,_=>none
def cB (C:au)(e:Env)(s:St)(al:Option Nat):eN->Option (D×St)
 | .mv x=>nk s (x.zb e)
 | .ER x=>match x.ev e with
  | some (.str l)=>some (.str l,s)
  | _=>none
 | .pick c a b=>match c.ev e with
  | some (.bool t)=>match t with
   | true=>nk s (a.ev e)
   | false=>nk s (b.ev e)
  | _=>none
 | .box ty x=>match x.ev e with
  | some v=>match v.st && Nat.blt 0 v.flat.length with
   | true=>match s.mk' al (.var ty v) with
    | some (k,s')=>some (.ptr k 0,s')
    | none=>none
   | false=>none
  | none=>none
 | .build z parts=>match pJ e parts,z.all D.sc with
  | some l,true=>match Da z l with
   | some cs=>some (.agg cs,s)
   | none=>none
  | _,_=>none
 | .nC _=>none
 | .qe sz z len parts=>match jx e parts,eG sz [z] with
  | some l,true=>match sY sz (List.replicate len z) l with
   | some es=>some (.vs false sz es,s)
   | none=>none
  | _,_=>none
 | .tQ sz ty z len parts=>match jx e parts,eG sz [z] with
  | some l,true=>match sY sz (List.replicate len z) l with
   | some es=>match s.mk' al (.arr sz ty es 0) with
    | some (k,s')=>some (.sl k 0 len len,s')
    | none=>none
   | none=>none
  | _,_=>none
 | .sW a sz x=>match x.zb e with
  | some (.iI a' c)=>match Nat.beq a a',e.get a with
   | true,some (.lv v)=>nk s (part v.flat c sz)
   | _,_=>none
  | _=>none
 | .iY .. =>none
 | .load sz x=>match x.ev e with
  | some p=>nk s (iR s sz p)
  | none=>none
 | .store sz x v=>match x.ev e,v.ev e with
  | some p,some d=>oC (.gJ []) (jM s sz p d)
  | _,_=>none
 | .sg x=>match x.zb e with
  | some (.iI a c)=>match e.kG a with
   | true=>some (.iI a c,s)
   | false=>none
  | some (.ptr o c)=>some (.ptr o c,s)
  | some (.jK o i c z)=>some (.jK o i c z,s)
  | some (.jE d c)=>some (.jE d c,s)
  | some (.ig t v)=>some (.ig t v,s)
  | some (.fn (.func f) a b)=>some (.fn (.func f) a b,s)
  | _=>none
 | .Au name tG x=>match x.ev e with
  | some (.fn (.method n) [.ig t v] y)=>match n==name,sR tG t with
   | true,some (_,.self)=>some (.fn (.method n) [.ig t v] y,s)
   | _,_=>none
  | _=>none
 | .bin op x y=>match x.ev e,y.ev e with
  | some a,some b=>nk s (JQ op a b)
  | _,_=>none
 | .eq et neg oc x y=>match x.ev e,y.ev e with
  | some a,some b=>match tq oc et a b with
   | some r=>some (.bool (r !=neg),s)
   | none=>match et with
    | .ptr=>match PR s a b with
     | some r=>some (.bool (r !=neg),s)
     | none=>none
    | _=>none
  | _,_=>none
 | .un op x=>match x.ev e with
  | some a=>nk s (unD op a)
  | none=>none
 | .toInt k x=>match x.ev e with
  | some (.int _ n)=>some (.int k (k.wrap n),s)
  | _=>none
 | .rQ x=>match x.ev e with
  | some (.int _ n)=>some (.str (Utf8.encode n).data.toList,s)
  | _=>none
 | .oX ty x=>match x.ev e with
  | some (.str l)=>match Nat.ble l.length aL with
   | true=>match s.mk' al (.arr 1 ty (l.map fun b=> .int .u8 b.toNat) 0) with
    | some (k,s')=>some (.sl k 0 l.length l.length,s')
    | none=>none
   | false=>none
  | _=>none
 | .lK x=>match x.ev e with
  | some d=>match items s d with
   | some (z,l)=>match Nat.beq z 1 || (match l with | []=>true | _=>false),bytesOf l with
    | true,some b=>some (.str b,s)
    | _,_=>none
   | none=>none
  | none=>none
 | .Ni t x=>match x.ev e with
  | some d=>some (.ig t d,s)
  | none=>none
 | .KY f a b=>match sK e a,sK e b with
  | some x,some y=>some (.fn f x y,s)
  | _,_=>none
 | .zy r=>match (match uz e r with | some none=>true | some (some (.int _ _))=>true | _=>false) with
  | true=>match s.mk' al (.map [] 0) with
   | some (k,s')=>some (.mp k,s')
   | none=>none
  | false=>none
 | .oq sz bytes ty z len cap=>match len.ev e,cap.ev e with
  | some l,some c=>match idx l,idx c with
   | some l,some c=>match Nat.ble l c && eG sz [z],Nat.ble (c * bytes) 140737488355328,Nat.ble c aL with
    | true,true,true=>match s.mk' al (.arr sz ty (List.replicate l z) 0) with
     | some (k,s')=>some (.sl k 0 l l,s')
     | none=>none
    | _,_,_=>none
   | _,_=>none
  | _,_=>none
 | .pz x lo hi=>match x.ev e,uz e lo,uz e hi with
  | some (.str l),some a,some b=>match mq 0 a,mq l.length b with
   | some a,some b=>match Nat.ble a b,Nat.ble b l.length with
    | true,true=>some (.str ((l.take b).drop a),s)
    | _,_=>none
   | _,_=>none
  | _,_,_=>none
 | .H8 sz x lo hi mx=>match x.ev e,uz e lo,uz e hi,uz e mx with
  | some d,some a,some b,some c=>match mq 0 a,mq 0 b,mq 0 c with
   | some a',some b',some c' =>
    match items s d with
    | some (z,l)=>match Nat.beq z sz || (match d,l with | .vs ..,[]=>true | _,_=>false) with
     | true=>nk s (u7 d a' (gu b b') (gu c c'))
     | false=>none
    | none=>none
   | _,_,_=>none
  | _,_,_,_=>none
 | .wG off x=>match x.zb e with
  | some (.iI a c)=>match e.kG a with
   | true=>some (.iI a (c+off),s)
   | false=>none
  | some (.ptr o c)=>some (.ptr o (c+off),s)
  | some (.jK o i c z)=>some (.jK o i (c+off) z,s)
  | some (.jE d c)=>some (.jE d (c+off),s)
  | _=>none
 | .field off sz x=>match x.ev e with
  | some (.agg cs)=>nk s (part cs off sz)
  | _=>none
 | .nA sz x i=>match x.ev e,i.ev e with
  | some d,some n=>match idx n with
   | some i=>nk s (j8 s sz d i)
   | none=>none
  | _,_=>none
 | .ry len sz x i=>match x.zb e,i.ev e with
  | some (.iI a c),some n=>match idx n with
   | some i=>match Nat.blt i len,e.kG a with
    | true,true=>some (.iI a (c+i * sz),s)
    | _,_=>none
   | none=>none
  | some (.ptr o c),some n=>match idx n with
   | some i=>match Nat.blt i len with
    | true=>some (.ptr o (c+i * sz),s)
    | false=>none
   | none=>none
  | some (.jK o j c z),some n=>match idx n with
   | some i=>match Nat.blt i len with
    | true=>some (.jK o j (c+i * sz) z,s)
    | false=>none
   | none=>none
  | some (.jE d c),some n=>match idx n with
   | some i=>match Nat.blt i len with
    | true=>some (.jE d (c+i * sz),s)
    | false=>none
   | none=>none
  | _,_=>none
 | .Ja x i=>match x.ev e,i.ev e with
  | some (.str l),some n=>match idx n with
   | some i=>match l[i]? with
    | some b=>some (.int .u8 b.toNat,s)
    | none=>none
   | none=>none
  | _,_=>none
 | .Oe len sz ag x i=>match x.ev e,i.ev e with
  | some (.agg cs),some n=>match idx n with
   | some i=>match Nat.blt i len with
    | true=>nk s (part cs (i * sz) (match ag with | true=>some sz | false=>none))
    | false=>none
   | none=>none
  | _,_=>none
 | .lookup et z ok m k=>match m.ev e,k.ev e with
  | some m,some k=>match oN et k with
   | false=>none
   | true=>match m with
    | .qz=>some (Fl ok (z) false,s)
    | .mp o=>match s.get o with
     | some (.map es _)=>match findKey et k es 0 with
      | some (some (_,v))=>some (Fl ok (v) true,s)
      | some none=>some (Fl ok (z) false,s)
      | none=>none
     | _=>none
    | _=>none
  | _,_=>none
 | .Ac et m k v=>match m.ev e,k.ev e,v.ev e with
  | some (.mp o),some k,some v=>match oN et k with
   | false=>none
   | true=>match s.get o with
    | some (.map es c)=>match findKey et k es 0 with
     | some (some (i,_))=>match es[i]? with
      | some (_,k',_)=>match EB k' k with
       | true=>oC (.gJ []) (s.set o (.map (setAt es i fun x=>(x.1,k,v)) c))
       | false=>none
      | none=>none
     | some none=>oC (.gJ []) (s.set o (.map (es++ [(c,k,v)]) (c+1)))
     | none=>none
    | _=>none
  | _,_,_=>none
 | .tN et z m k=>match m.ev e,k.ev e with
  | some (.mp o),some k=>match oN et k with
   | false=>none
   | true=>match s.get o with
    | some (.map es c)=>match findKey et k es 0 with
     | some (some (i,v))=>match es[i]? with
      | some (b,k',_)=>match EB k' k with
       | true=>oC (.gJ [v,Fy b]) (s.set o (.map (setAt es i fun x=>(x.1,k,x.2.2)) c))
       | false=>none
      | none=>none
     | some none=>oC (.gJ [z,Fy c]) (s.set o (.map (es++ [(c,k,z)]) (c+1)))
     | none=>none
    | _=>none
  | _,_=>none
 | .pE m b v=>match m.ev e,b.ev e,v.ev e with
  | some (.mp o),some (.int _ b),some v=>match s.get o with
   | some (.map es c)=>match rT b es 0 with
    | some i=>oC (.gJ []) (s.set o (.map (setAt es i fun x=>(x.1,x.2.1,v)) c))
    | none=>none
   | _=>none
  | _,_,_=>none
 | .range x=>match x.ev e with
  | some (.str l)=>match s.mk' al (.lz l 0) with
   | some (k,s')=>some (.ptr k 0,s')
   | none=>none
  | _=>none
 | .uF x=>match x.ev e with
  | some (.ptr o 0)=>match s.get o with
   | some (.lz l pos)=>match Nat.blt pos l.length with
    | true=>
     let r:=Utf8.decode ⟨l.toArray⟩ pos
     oC (.gJ [.bool true,Fy pos,.int .i32 r.1]) (s.set o (.lz l (pos+r.2)))
    | false=>some (.gJ [.bool false],s)
   | _=>none
  | _=>none
 | .sF t z ok x=>match x.ev e with
  | some (.ig u v)=>match Nat.beq u t with
   | true=>some (Fl ok (v) true,s)
   | false=>match ok with
    | true=>some (.gJ [z,.bool false],s)
    | false=>none
  | some .nv=>match ok with
   | true=>some (.gJ [z,.bool false],s)
   | false=>none
  | _=>none
 | .rS n ts ok x=>match x.ev e with
  | some (.ig u v)=>match pX u ts with
   | true=>some (Fl ok (.ig u v) true,s)
   | false=>match ok && Nat.blt u n with
    | true=>some (.gJ [.nv,.bool false],s)
    | false=>none
  | some .nv=>match ok with
   | true=>some (.gJ [.nv,.bool false],s)
   | false=>none
  | _=>none
 | .extract i x=>match x.ev e with
  | some (.gJ l)=>nk s l[i]?
  | _=>none
 | .call ro f args=>match sK e args with
  | some l=>match ro with
   | false=>C f l s
   | true=>match C f l { s with ro:=true} with
    | some (d,_)=>some (d,s)
    | none=>none
  | none=>none
 | .pe f args=>match f.ev e,sK e args with
  | some (.fn (.func f) a b),some l=>C f (a++l++b) s
  | some (.yl o),some l=>C 0 (.lv (.yl o)::l) s
  | _,_=>none
 | .invoke tG x args=>match x.ev e,sK e args with
  | some (.ig t v),some l=>match sR tG t with
   | some (f,r)=>match rW s v r with
    | some u=>C f (u::l) s
    | none=>none
   | none=>none
  | _,_=>none
 | .len k x=>match x.ev e with
  | some (.pz i _ lo hi)=>match k with
   | 0=>some (.sint .i64 (.len i) lo hi,s)
   | _=>none
  | some d=>match o7 s k d with
   | some n=>some (Fy n,s)
   | none=>none
  | none=>none
 | .append sz bytes ty x y=>match x.ev e,y.ev e with
  | some a,some (.str l)=>match Nat.beq sz 1,Nat.ble bytes 4096 with
   | true,true=>fF s al sz ty a (l.map fun b=> .int .u8 b.toNat)
   | _,_=>none
  | some a,some b=>match items s b with
   | some (z,l)=>match Nat.beq z sz || (match l with | []=>true | _=>false),Nat.ble bytes 4096 with
    | true,true=>match eG sz l with
     | true=>fF s al sz ty a l
     | false=>none
    | _,_=>none
   | none=>none
  | _,_=>none
 | .copy sz x y=>match x.ev e,y.ev e with
  | some a,some (.str l)=>match Nat.beq sz 1,o7 s 1 a with
   | true,some n=>oC (Fy (min l.length n)) (iP s sz a ((l.take n).map fun b=> .int .u8 b.toNat))
   | _,_=>none
  | some a,some b=>match items s b,o7 s 1 a with
   | some (z,l),some n=>match Nat.beq z sz || (match l with | []=>true | _=>false),eG sz (l.take n) with
    | true,true=>oC (Fy (min l.length n)) (iP s sz a (l.take n))
    | _,_=>none
   | _,_=>none
  | _,_=>none
 | .clear sz z x=>match x.ev e with
  | some .qz=>some (.gJ [],s)
  | some (.mp o)=>match s.get o with
   | some (.map _ c)=>oC (.gJ []) (s.set o (.map [] c))
   | _=>none
  | some a=>match o7 s 1 a with
   | some n=>match eG sz [z] with
    | true=>oC (.gJ []) (iP s sz a (List.replicate n z))
    | false=>none
   | none=>none
  | none=>none
 | .kE x=>match x.ev e with
  | some d=>match items s d with
   | some (z,l)=>match Nat.beq z 1 || (match l with | []=>true | _=>false),lX l with
    | true,some b=>some (.str b,s)
    | _,_=>none
   | none=>none
  | none=>none
 | .uy x=>match x.ev e with
  | some (.sl o a b c)=>some (.sl o a b c,s)
  | _=>none
 | .Dv x=>match x.ev e with
  | some (.ptr o c)=>match s.get o with
   | some (.var _ v)=>match Nat.blt c v.flat.length with
    | true=>some (.ptr o c,s)
    | false=>none
   | _=>none
  | _=>none
 | .upto l x=>match x.ev e with
  | some .cT=>some (.cT,s)
  | some (.ptr o c)=>match s.get o with
   | some (.var t v)=>match At t c v.flat.length l with
    | true=>some (.ptr o c,s)
    | false=>none
   | _=>none
  | _=>none
 | .qL x=>match x.ev e with
  | some (.vs true _ _)=>some (.cT,s)
  | some (.sl o off _ cp)=>match s.get o with
   | some (.arr ..)=>match Nat.blt 0 cp with
    | true=>some (.jK o off 0 (off+cp),s)
    | false=>none
   | _=>none
  | _=>none
 | .Cr ty x y=>match x.ev e,y.ev e with
  | some .cT,some (.int k n)=>match decide (k= .i64) && decide (n=0) with
   | true=>some (.str [],s)
   | false=>none
  | some (.jK o i c en),some (.int k n)=>match s.get o with
   | some (.arr z t es st)=>match Nat.beq z 1 && (Nat.beq t ty && Nat.beq c 0),decide (k= .i64) && (decide (0 < n) && Nat.ble n.toNat aL),Nat.ble (i+n.toNat) en && (Nat.ble en es.length && Nat.ble st en),bytesOf ((es.drop i).take n.toNat) with
    | true,true,true,some b=>oC (.str b) (s.set o .dead)
    | _,_,_,_=>none
   | _=>none
  | _,_=>none
 | .zq n x=>match x.ev e with
  | some (.ptr o 0)=>match s.get o with
   | some (.var t v)=>match Nat.beq v.flat.length n with
    | true=>match s.set o .dead with
     | some s' =>match s'.mk' none (.arr 1 t v.flat 0) with
      | some (k,s'')=>some (.sl k 0 n n,s'')
      | none=>none
     | none=>none
    | false=>none
   | _=>none
  | _=>none
 | .ext k l=>match sK e l with
  | some l=>Db s k l
  | none=>none
 | .delete et m k=>match m.ev e,k.ev e with
  | some m,some k=>match oN et k with
   | false=>none
   | true=>match m with
    | .qz=>some (.gJ [],s)
    | .mp o=>match s.get o with
     | some (.map es c)=>match findKey et k es 0 with
      | some (some (i,_))=>oC (.gJ []) (s.set o (.map (es.eraseIdx i) c))
      | some none=>oC (.gJ []) (s.set o (.map es c))
      | none=>none
     | _=>none
    | _=>none
  | _,_=>none
 | .tS mx l=>match sK e l with
  | some (d::r)=>nk s (Pe mx d r)
  | _=>none
 | .defer .. =>none
 | .bad=>none
def iu (e:Env):Option Nat->D->Env
 | some t,d=>(t,d)::e
 | none,_=>e
def aI (e:Env):Option (Nat×Bool)->Option Bool
 | none=>some true
 | some (t,b)=>match e.get t with
  | some (.bool c)=>some (c==b)
  | some (.gJ [])=>some false
  | _=>none
def oper (C:au)(b:Nat)(o:bj)(fr:Fr)(s:St):Option (Fr×St):=
 match aI fr.env o.guard with
 | some true=>match o.op with
  | .defer f args=>match f.ev fr.env,sK fr.env args with
   | some (.fn g x y),some l=>some ({ env:=iu fr.env o.dst (.gJ []),defers:=(.fn g x y,l)::fr.defers},s)
   | _,_=>none
  | .nC x=>match o.dst,x.ev fr.env with
   | some a,some d=>match fr.env.tU a && d.st with
    | true=>some ({ fr with env:=(a,.lv d)::fr.env},s)
    | false=>none
   | _,_=>none
  | .iY a sz x v=>match x.zb fr.env,v.ev fr.env with
   | some (.iI a' c),some d=>match Nat.beq a a',fr.env.get a,Nat.beq d.flat.length sz with
    | true,some (.lv w),true=>match w.over c d with
     | some w' =>some ({ fr with env:=iu ((a,.lv w')::fr.env) o.dst (.gJ [])},s)
     | none=>none
    | _,_,_=>none
   | _,_=>none
  | op=>match cB C fr.env s (match o.al with | some r=>some (b+r) | none=>none) op with
   | some (d,s')=>some ({ fr with env:=iu fr.env o.dst d},s')
   | none=>none
 | some false=>some ({ fr with env:=iu fr.env o.dst (.gJ [])},s)
 | none=>none
def opers (C:au)(b:Nat):List bj->Fr->St->Option (Fr×St)
 | [],fr,s=>some (fr,s)
 | o::r,fr,s=>match oper C b o fr s with
  | some (fr',s')=>opers C b r fr' s'
  | none=>none
def bz.cV:Option D->List Nat
 | some (.ptr o _)=> [o]
 | some (.jK o _ _ _)=> [o]
 | some (.sl o _ _ _)=> [o]
 | some (.mp o)=> [o]
 | _=> []
def bz (e:Env):eN->List Nat
 | .load _ x=>bz.cV (x.ev e)
 | .Dv x=>bz.cV (x.ev e)
 | .upto _ x=>bz.cV (x.ev e)
 | .qL x=>bz.cV (x.ev e)
 | .eq _ _ _ x y=>bz.cV (x.ev e)++bz.cV (y.ev e)
 | .nA _ x _=>bz.cV (x.ev e)
 | .H8 _ x _ _ _=>bz.cV (x.ev e)
 | .len _ x=>bz.cV (x.ev e)
 | .lK x=>bz.cV (x.ev e)
 | .kE x=>bz.cV (x.ev e)
 | .lookup _ _ _ m _=>bz.cV (m.ev e)
 | .append _ _ _ _ y=>bz.cV (y.ev e)
 | .copy _ _ y=>bz.cV (y.ev e)
 | _=> []
def nj (e:Env):eN->List Nat
 | .store _ x _=>bz.cV (x.ev e)
 | .append _ _ _ x _=>bz.cV (x.ev e)
 | .Cr _ x _=>bz.cV (x.ev e)
 | .copy _ x _=>bz.cV (x.ev e)
 | .clear _ _ x=>bz.cV (x.ev e)
 | .Ac _ m _ _=>bz.cV (m.ev e)
 | .tN _ _ m _=>bz.cV (m.ev e)
 | .pE m _ _=>bz.cV (m.ev e)
 | .delete _ m _=>bz.cV (m.ev e)
 | .uF x=>bz.cV (x.ev e)
 | _=> []
def eN.kind:eN->Nat
 | .mv _ | .ER _ | .pick .. | .build .. | .qe .. | .sg _ | .Au .. | .bin .. | .un .. | .toInt .. | .rQ _ | .Ni .. | .KY .. | .pz .. | .wG .. | .field .. | .ry .. | .Ja .. | .Oe .. | .sF .. | .rS .. | .extract .. | .tS .. | .uy _=>0
 | .sW .. =>6
 | .iY .. =>7
 | .nC _=>8
 | .load .. | .Dv _ | .upto .. | .qL _ | .eq .. | .lK _ | .kE _ | .H8 .. | .nA .. | .lookup .. | .len .. =>1
 | .store .. | .Cr .. | .copy .. | .clear .. | .Ac .. | .tN .. | .pE .. | .delete .. | .uF _=>2
 | .box .. | .tQ .. | .oX .. | .zy _ | .oq .. | .range _=>3
 | .call true _ _=>4
 | .append .. =>9
 | _=>5
def r9 (a b:List Nat):Bool:=
 match a with
 | []=>true
 | x::r=>match pX x b with
  | true=>false
  | false=>r9 r b
def fZ (e:Env):eN->List (Nat×Nat×Nat)
 | .load sz x=>match x.ev e with
  | some (.ptr o c)=> [(o,c,sz.getD 1)]
  | _=> []
 | _=> []
abbrev Fp:=List Nat×List Nat×List (Nat×Nat×Nat)
def cE (b:Nat)(e:Env)(o:bj):Fp:=
 match aI e o.guard with
 | some true=>(bz e o.op,(match o.al with
  | some r=>(b+r)::nj e o.op
  | none=>nj e o.op),fZ e o.op)
 | _=>([],[],[])
def kX (x y:Fp):Bool:=r9 x.2.1 y.2.1 && (r9 x.2.1 y.1 && r9 x.1 y.2.1)
def fg (acc:List Fp)(y:Fp):List Nat->Bool
 | []=>true
 | i::r=>match acc[i]? with
  | some x=>match kX x y with
   | true=>fg acc y r
   | false=>false
  | none=>false
def Env.cX (e:Env):Option Nat->Bool
 | some t=>e.kG t
 | none=>false
def D.isAgg:D->Bool
 | .agg _=>true
 | _=>false
def cL (l m:List D):List (Nat×Nat×Nat)->Bool
 | []=>true
 | (_,c,n)::r=>D.fv ((l.drop c).take n) ((m.drop c).take n) && cL l m r
def cP (rg:List (Nat×Nat×Nat))(a b:Obj):Bool:=match rg,a,b with
 | r::rs,.var t v,.var t' v' =>Nat.beq t t' && (Nat.beq v.flat.length v'.flat.length && ((v.isAgg==v'.isAgg) && cL v.flat v'.flat (r::rs)))
 | _,a,b=>Obj.beq a b
def dE (rg:List (Nat×Nat×Nat)) (s s' :St):List Nat->Bool
 | []=>false
 | o::r=>match s.get o,s'.get o with
  | some x,some y=>match cP rg x y with
   | true=>dE rg s s' r
   | false=>true
  | none,none=>dE rg s s' r
  | _,_=>true
def cJ (acc:List Fp) (s s' :St):List Nat->Bool
 | []=>false
 | i::r=>match acc[i]? with
  | some x=>match dE x.2.2 s s' x.1 with
   | true=>true
   | false=>cJ acc s s' r
  | none=>true
def lost (acc:List Fp) (s s' :St)(o:bj)(l:List Nat):Bool:=match Nat.beq o.op.kind 5 with
 | true=>cJ acc s s' l
 | false=>false
def T.keys:T Obj->List Nat
 | .nil=> []
 | .node o l r=>(match o with
  | none=> []
  | some _=> [0])++((T.keys l).map (fun k=>2 * k+1)++(T.keys r).map (fun k=>2 * k+2))
def T.diff:T Obj->T Obj->List Nat
 | .nil,t=>T.keys t
 | .node o l r,t=>match t with
  | .nil=>T.keys (.node o l r)
  | .node o' l' r' =>(match o,o' with
   | none,none=> []
   | some x,some y=>(match Obj.beq x y with
    | true=> []
    | false=> [0])
   | _,_=> [0])++((T.diff l l').map (fun k=>2 * k+1)++(T.diff r r').map (fun k=>2 * k+2))
def Jf (s s' :St)(b:Nat)(e:Env)(o:bj):Fp:=match Nat.beq o.op.kind 5 with
 | true=>((cE b e o).1,T.diff s.h s'.h++(cE b e o).2.1,(cE b e o).2.2)
 | false=>cE b e o
def iy (C:au)(b:Nat):List (bj×List Nat)->List Fp->Fr->St->Option (Fr×St)
 | [],_,fr,s=>some (fr,s)
 | (o,l)::r,acc,fr,s=>match fg acc (cE b fr.env o) l && !(fr.env.cX o.dst) with
  | true=>match oper C b o fr s with
   | some (fr',s')=>match fr'.env.cX o.dst || lost acc s s' o l with
    | false=>iy C b r (acc++ [Jf s s' b fr.env o]) fr' s'
    | true=>none
   | none=>none
  | false=>none
inductive Ex where
 | normal
 | exit (id:Nat)
 | ret
abbrev ic:=List Nat->AC->Fr->St->Option (Ex×Fr×St)
def sT:Nat->Nat->T Obj->T Obj
 | 0,_,h=>h
 | k+1,b,h=>sT k (b+1) (h.set b none)
def lV (b:Nat):Nat->au->au
 | 0,C=>C
 | k+1,C=>fun f l s=>match s.ro with
  | false=>C f l s
  | true=>match C f l { s with h:=sT (k+1) b s.h} with
   | some (d,_)=>some (d,s)
   | none=>none
def bW (C:au)(L:ic):AC->Fr->St->Option (Ex×Fr×St)
 | .skip,fr,s=>some (.normal,fr,s)
 | .Aa ops,fr,s=>match opers C 0 ops fr s with
  | some (fr',s')=>some (.normal,fr',s')
  | none=>none
 | .yO k ops,fr,s=>match s.ro && Nat.blt 0 k with
  | true=>none
  | false=>match iy (lV s.n k C) s.n ops [] fr { s with n:=s.n+k} with
   | some (fr',s')=>some (.normal,fr',s')
   | none=>none
 | .seq a b,fr,s=>match bW C L a fr s with
  | some (.normal,fr',s')=>bW C L b fr' s'
  | r=>r
 | .cond c a b,fr,s=>match c.ev fr.env with
  | some (.bool true)=>bW C L a fr s
  | some (.bool false)=>bW C L b fr s
  | _=>none
 | .block id a,fr,s=>match bW C L a fr s with
  | some (.exit i,fr',s')=>match Nat.beq i id with
   | true=>some (.normal,fr',s')
   | false=>some (.exit i,fr',s')
  | r=>r
 | .loop bR a,fr,s=>L bR a fr s
 | .iA bR g ps a b,fr,s=>L [] (.iA bR g ps a b) fr s
 | .exit id,fr,s=>some (.exit id,fr,s)
 | .ret,fr,s=>some (.ret,fr,s)
 | .bad,_,_=>none
def kY (e:Env)(s:St):List xb->Option (List D)
 | []=>some []
 | .tmp t::r=>match bP.ev e (.t t),kY e s r with
  | some d,some l=>some (d::l)
  | _,_=>none
 | .cell a sz::r=>match e.get a with
  | some (.lv v)=>match part v.flat 0 sz,kY e s r with
   | some d,some l=>some (d::l)
   | _,_=>none
  | some p=>match iR s sz p,kY e s r with
   | some d,some l=>some (d::l)
   | _,_=>none
  | none=>none
def uo:Nat->List D->Env
 | _,[]=> []
 | i,d::r=>(i,d)::uo (i+1) r
def leave (C:au):List (D×List D)->St->Option St
 | [],s=>some s
 | (.fn (.func f) a b,l)::r,s=>match C f (a++l++b) s with
  | some (_,s')=>leave C r s'
  | none=>none
 | (.mf,_)::r,s=>leave C r s
 | _::_,_=>none
def single:List D->D
 | [d]=>d
 | l=> .gJ l
def nS (C CD:au)(L:ic)(fn:dS)(args:List D)(s:St):Option (D×St):=
 match bW C L fn.body { env:=uo 0 args,defers:=[]} s with
 | some (.exit _,_,_)=>none
 | some (_,fr,s')=>match leave CD fr.defers s' with
  | some s'' =>match kY fr.env s'' fn.results with
   | some l=>some (single l,s'')
   | none=>none
  | none=>none
 | none=>none
def vU (C:au)(L:ic)(fn:dS)(args:List D)(s:St):Option (D×St):=
 match bW C L fn.body { env:=uo 0 args,defers:=[]} s with
 | some (.exit _,_,_)=>none
 | some (_,fr,s')=>match fr.defers with
  | []=>match kY fr.env s' fn.results with
   | some l=>some (single l,s')
   | none=>none
  | _=>none
 | none=>none
def pa (T:Nat->Option dS)(C:au)(L:ic):au:=fun f args s=>match T f with
 | some fn=>vU C L fn args s
 | none=>none
def yS:List D->Bool
 | .lv _::_=>true
 | _=>false
def Env.plain:Env->Bool
 | []=>true
 | (_,d)::r=>match d with
  | .lv _=>false
  | .iI _ _=>false
  | _=>Env.plain r
def qa:List Nat->List D->Env->Option Env
 | [],[],e=>some e
 | t::ps,d::l,e=>qa ps l ((t,d)::e)
 | _,_,_=>none
def R1:Ex->QC
 | .normal=> .ready
 | .exit i=> .exit i
 | .ret=> .ret
def qj:Ex->Bool
 | .normal=>true
 | _=>false
def St.nL (s:St)(o k:Nat)(st:QC):Bool:=match s.get o with
 | some (.loop k' st')=>Nat.beq k k' && decide (st=st')
 | _=>false
def Ks (k:Nat):Option (Ex×Fr×St)->Option (D×St)
 | some (e,fr,s)=>match fr.defers,s.nL (k+1) k .busy with
  | [],true=>oC (.bool (qj e)) (s.set (k+1) (.loop k (R1 e)))
  | _,_=>none
 | none=>none
def Cp (k:Nat)(b:Fr->St->Option (Ex×Fr×St)):Option (Ex×Fr×St)->Option (D×St)
 | some (.normal,fr,s)=>match s.nL (k+1) k .ready with
  | true=>match s.set (k+1) (.loop k .busy) with
   | some s' =>Ks k (b fr s')
   | none=>none
  | false=>none
 | _=>none
def jX (k:Nat)(ps:List Nat)(env:Env)(a b:Fr->St->Option (Ex×Fr×St))(H:au):au:=fun f l s=>match f,l with
 | 0,.lv (.yl k')::xs=>match Nat.beq k k' with
  | true=>match s.nL (k+1) k .ready,qa ps xs env with
   | true,some e=>Cp k b (a ⟨e,[]⟩ s)
   | _,_=>none
  | false=>H f l s
 | f,l=>H f l s
def CF:QC->Option Ex
 | .ready=>some .normal
 | .busy=>none
 | .exit i=>some (.exit i)
 | .ret=>some .ret
def Bx (k:Nat)(fr:Fr):Option (D×St)->Option (Ex×Fr×St)
 | some (_,s)=>match s.get (k+1) with
  | some (.loop k' st)=>match Nat.beq k k',CF st,s.set (k+1) .dead with
   | true,some e,some s' =>some (e,{ fr with defers:=(.mf,[])::fr.defers},s')
   | _,_,_=>none
  | _=>none
 | none=>none
def nK (C' :Nat->Env->au)(bR:List Nat)(g:bP)(fr:Fr)(s:St):Option (Ex×Fr×St):=match g.ev fr.env,s.ro with
 | some (.fn (.func gf) [] caps),false=>match (fr.env.bR bR).plain with
  | true=>Bx s.n fr (C' s.n (fr.env.bR bR) gf (.yl s.n::caps) ((s.bc .dead).bc (.loop s.n .ready)))
  | false=>none
 | _,_=>none
mutual
def dH (T:Nat->Option dS)(H:au):Nat->au
 | 0,_,_,_=>none
 | n+1,f,args,s=>match yS args with
  | true=>H f args s
  | false=>match T f with
   | some fn=>nS (dH T H n) (pa T (dH T H n) (fc T H n)) (fc T H n) fn args s
   | none=>H f args s
def fc (T:Nat->Option dS)(H:au):Nat->ic
 | 0,_,_,_,_=>none
 | n+1,bR,a,fr,s=>match a with
  | .iA kp g ps x y=>nK (fun k e=>dH T (jX k ps e (bW (dH T H n) (fc T H n) x) (bW (dH T H n) (fc T H n) y) H) n) kp g fr s
  | a=>match bW (dH T H n) (fc T H n) a { fr with env:=fr.env.bR bR} s with
   | some (.normal,fr',s')=>fc T H n bR a fr' s'
   | r=>r
end
end Go.Ab
