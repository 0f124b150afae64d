/- Part. -/
import Derived.Calls
set_option linter.unusedSectionVars false
namespace Go.Ab
abbrev aa.{u}:= @Option.some.injEq.{u}
abbrev ab.{u}:= @List.getElem?_eq_getElem.{u}
abbrev ae.{u,v}:= @Prod.mk.injEq.{u,v}
abbrev aj.{u}:= @List.getElem?_eq_some_iff.{u}
abbrev an.{u,v}:= @Option.bind_eq_some_iff.{u,v}
abbrev aq:= @Nat.le_refl
abbrev au:= @Nat.ble_eq_true_of_le
abbrev az:= @Nat.le_of_ble_eq_true
abbrev aA:= @Nat.beq_refl
abbrev aB:= @Bool.and_eq_true
abbrev aC.{u,v}:= @List.getElem?_map.{u,v}
abbrev aD:= @Nat.eq_of_beq_eq_true
abbrev aE.{u}:= @Option.bind_eq_bind.{u}
abbrev aG.{u}:= @List.length_append.{u}
abbrev aH:= @Nat.lt_or_ge
abbrev aJ.{u,v}:= @List.length_map.{u,v}
abbrev aK.{u}:= @if_neg.{u}
abbrev aM.{u}:= @List.mem_of_getElem?.{u}
abbrev aN:= @Nat.zero_add
abbrev aP.{u}:= @List.getElem?_append_left.{u}
abbrev aQ.{u}:= @Option.pure_def.{u}
abbrev aR.{u}:= @List.getElem?_cons_zero.{u}
abbrev aS:= @Nat.zero_le
abbrev aT.{u}:= @List.getElem?_append_right.{u}
abbrev aV.{u}:= @List.length_cons.{u}
abbrev aY:= @decide_eq_true_eq
abbrev aZ.{u}:= @List.length_singleton.{u}
abbrev bj.{u,v}:= @Option.map_eq_some_iff.{u,v}
abbrev bk:= @decide_eq_false
abbrev bD:= @of_decide_eq_true
abbrev bG.{u,v}:= @List.map_cons.{u,v}
abbrev bH.{u}:= @List.getElem_mem.{u}
abbrev bJ.{u}:= @beq_eq_false_iff_ne.{u}
abbrev bK.{u}:= @List.mem_append.{u}
abbrev bL.{u}:= @List.length_nil.{u}
abbrev bO.{u}:= @Ne.symm.{u}
abbrev bQ:= @decide_eq_false_iff_not
abbrev bR.{u}:= @List.mem_cons.{u}
abbrev bS:= @Nat.add_mul
abbrev bT.{u}:= @if_pos.{u}
abbrev bY.{u}:= @List.getElem?_cons_succ.{u}
abbrev bZ:= @Int.tmod_eq_emod_of_nonneg
abbrev cl.{u}:= @Array.getD_eq_getD_getElem?.{u}
abbrev cA.{u}:= @Array.getElem?_eq_getElem.{u}
abbrev cB.{u}:= @List.nil_append.{u}
abbrev cH.{u}:= @List.mem_singleton.{u}
abbrev cJ.{u}:= @List.getElem?_of_mem.{u}
abbrev cL.{u}:= @Array.getElem?_eq_none.{u}
abbrev cM.{u}:= @List.length_take.{u}
abbrev cO:= @decide_eq_true
abbrev cU:= @Nat.le_trans
abbrev cX.{u}:= @List.getElem?_drop.{u}
abbrev cZ:= @Int.toNat_natCast
abbrev c9:= @Nat.pow_le_pow_right
abbrev da.{u,v}:= @Option.map_some.{u,v}
abbrev de.{u}:= @List.getElem?_take.{u}
abbrev dg.{u}:= @List.all_eq_true.{u}
abbrev dh:= @Nat.le_max_left
abbrev dn:= @Nat.mul_le_mul_right
abbrev dC:= @not_false_eq_true
abbrev dF:= @Bool.false_eq_true
abbrev dG:= @Nat.le_max_right
abbrev dH.{u}:= @Array.ext'.{u}
abbrev dI.{u}:= @List.drop_of_length_le.{u}
abbrev dS.{u}:= @Array.getElem?_setIfInBounds.{u}
abbrev dT.{u}:= @List.length_pos_iff.{u}
abbrev dY.{u}:= @List.length_drop.{u}
abbrev dZ.{u}:= @List.append_nil.{u}
abbrev ec:= @Nat.eq_zero_or_pos
abbrev ed.{u}:= @List.getD_eq_getElem?_getD.{u}
abbrev ef.{u,v}:= @List.map_nil.{u,v}
abbrev ep.{u}:= @List.eq_nil_of_length_eq_zero.{u}
abbrev eu.{u}:= @if_true.{u}
abbrev eC.{u}:= @List.cons.injEq.{u}
abbrev eD:= @Bool.or_eq_true
abbrev eE.{u}:= @List.take_length.{u}
abbrev eF.{u}:= @List.mem_cons_of_mem.{u}
abbrev eG:= @Nat.sub_self
abbrev eK:= @Nat.lt_of_lt_of_le
abbrev eN.{u}:= @List.getElem?_eq_none.{u}
abbrev eP:= @Bool.true_or
abbrev eX.{u}:= @List.take_of_length_le.{u}
abbrev eZ.{u}:= @Option.getD_some.{u}
abbrev fa.{u}:= @List.not_mem_nil.{u}
abbrev fb.{u}:= @Array.length_toList.{u}
abbrev ff:= @Bool.not_eq_true'
abbrev fk:= @Int.tdiv_eq_ediv_of_nonneg
abbrev fm:= @Bool.and_self
abbrev fq.{u}:= @List.nodup_cons.{u}
abbrev fu.{u,v}:= @List.map_toArray.{u,v}
abbrev fC.{u}:= @List.drop_eq_getElem_cons.{u}
abbrev fM:= @Bool.true_and
abbrev fN.{u}:= @List.nodup_nil.{u}
abbrev fP:= @Nat.add_zero
abbrev fW.{u}:= @List.mem_of_mem_take.{u}
abbrev fX.{u}:= @List.length_eq_zero_iff.{u}
abbrev gz.{u}:= @List.drop_zero.{u}
abbrev gA.{u}:= @Array.getElem?_eq_some_iff.{u}
abbrev gD.{u}:= @List.take_succ_cons.{u}
abbrev gJ.{u}:= @List.take_append_drop.{u}
abbrev gQ.{u}:= @List.all_cons.{u}
abbrev gR:= @Nat.lt_irrefl
abbrev gS:= @Nat.mul_assoc
abbrev gZ:= @Nat.lt_trichotomy
abbrev hZ.{u}:= @List.append_assoc.{u}
abbrev ib.{u}:= @beq_iff_eq.{u}
abbrev ic.{u}:= @List.length_set.{u}
abbrev iq:= @and_true
abbrev ir.{u}:= @List.length_reverse.{u}
abbrev iE:= @Nat.add_assoc
abbrev iJ.{u}:= @List.cons_append.{u}
abbrev iQ:= @Nat.beq_eq
abbrev iR:= @Nat.mod_two_eq_zero_or_one
abbrev iS.{u}:= @List.length_replicate.{u}
abbrev jb.{u,v}:= @List.map_append.{u,v}
abbrev jc:= @Nat.two_pow_pos
abbrev jf.{u,v}:= @List.flatMap_cons.{u,v}
abbrev jg.{u}:= @if_false.{u}
abbrev jh:= @not_true_eq_false
abbrev ji.{u}:= @List.take_add_one.{u}
abbrev jj.{u,v}:= @List.map_set.{u,v}
abbrev jk:= @Nat.pow_succ
abbrev jo.{u}:= @Option.isSome_iff_exists.{u}
abbrev js.{u}:= @Array.getElem?_push.{u}
abbrev jB.{u,v,w}:= @List.mapM_cons.{u,v,w}
abbrev jC.{u,v}:= @Array.toList_map.{u,v}
abbrev jO.{u,v}:= @List.mem_map.{u,v}
abbrev jP.{u,v}:= @List.mem_filterMap.{u,v}
abbrev jQ:= @Nat.mul_comm
abbrev jR.{u}:= @List.set_cons_zero.{u}
abbrev jS.{u}:= @List.getElem?_set_self.{u}
abbrev j7.{u}:= @List.mem_zipIdx_iff_getElem?.{u}
abbrev kh.{u}:= @Array.getElem?_toList.{u}
abbrev kr.{u}:= @List.ext_getElem?.{u}
abbrev ku.{u}:= @List.size_toArray.{u}
abbrev kK:= @not_or
abbrev kL:= @or_false
abbrev kM:= @Int.fdiv_eq_ediv_of_nonneg
abbrev kS:= @Nat.succ_pos
abbrev kT:= @Nat.mod_eq_of_lt
abbrev kU:= @Bool.or_true
abbrev kV:= @Int.lt_or_le
abbrev lA.{u}:= @List.replicate_succ.{u}
abbrev lJ:= @Bool.and_true
abbrev lK.{u}:= @Array.getElem?_replicate.{u}
abbrev lM:= @Nat.not_lt_zero
abbrev lX:= @Nat.mul_one
abbrev mi:= @List.mem_range
abbrev mj.{u}:= @Array.size_append.{u}
abbrev ml.{u}:= @List.dropWhile_sublist.{u}
abbrev mn:= @Nat.succ_le_of_lt
abbrev mq.{u}:= @List.getElem?_set.{u}
abbrev mF.{u}:= @Array.getElem?_modify.{u}
abbrev mG.{u}:= @List.set_append_right.{u}
abbrev mW.{u}:= @List.countP_cons.{u}
abbrev mX:= @Nat.lt_succ_self
abbrev nf:= @Bool.false_or
abbrev nh:= @Iff.rfl
abbrev nF.{u}:= @List.replicate_succ'.{u}
abbrev nG.{u}:= @List.mem_of_mem_drop.{u}
abbrev nH.{u}:= @List.getElem?_set_ne.{u}
abbrev nJ.{u}:= @List.getElem?_append.{u}
abbrev nR:= @List.range_succ
abbrev nS.{u,v}:= @List.foldl_cons.{u,v}
abbrev nX.{u,v}:= @List.map_eq_nil_iff.{u,v}
abbrev nY.{u}:= @List.drop_succ_cons.{u}
abbrev nZ.{u}:= @Array.toList_modify.{u}
abbrev oa.{u,v}:= @List.flatMap_append.{u,v}
abbrev oB:= @Nat.zero_mul
abbrev pk.{u}:= @List.take_zero.{u}
abbrev pq:= @Bool.not_false
abbrev pt:= @And.left
abbrev pw:= @Bool.false_and
abbrev pz.{u,v}:= @List.map_replicate.{u,v}
class eV where
 vi:Nat->Int
 vs:Nat->List UInt8
 vb:Nat->Bool
inductive Sym where
 | i (n:Nat) | len (n:Nat) | lin (m c:Int) (a:Sym)
 deriving DecidableEq
def Sym.val [eV]:Sym->Int
 | .i n=>eV.vi n
 | .len n=>((eV.vs n).length:Nat)
 | .lin m c a=>m * a.val+c
inductive D where
 | bool (b:Bool)
 | int (k:IntKind) (n:Int)
 | str (s:List UInt8)
 | cz
 | ptr (o c:Nat)
 | jI (o i c e:Nat)
 | jD (e:D) (c:Nat)
 | vs (nl:Bool) (sz:Nat) (l:List D)
 | sl (o off len cp:Nat)
 | qz
 | mp (o:Nat)
 | fn (f:Fn) (first cap:List D)
 | mw
 | ia (t:Nat) (v:D)
 | ow
 | agg (cs:List D)
 | gK (l:List D)
 | lv (v:D)
 | iG (a c:Nat)
 | sint (k:IntKind) (a:Sym) (lo hi:Int)
 | pj (i:Nat) (ex:List (List UInt8)) (lo hi:Nat)
 | rl (i:Nat)
 | yl (o:Nat)
 deriving Inhabited
def D.flat:D->List D
 | .agg cs=>cs
 | d=> [d]
def D.sc:D->Bool
 | .agg _=>false
 | .gK _=>false
 | .lv _=>false
 | .iG _ _=>false
 | _=>true
def D.st:D->Bool
 | .agg l=>l.all D.sc
 | d=>d.sc
inductive Qz where
 | ready | busy | exit (id:Nat) | ret
 deriving DecidableEq
inductive Obj where
 | var (ty:Nat) (v:D)
 | arr (sz ty:Nat) (elems:List D) (stable:Nat)
 | map (es:List (Nat×D×D)) (clock:Nat)
 | lF (s:List UInt8) (pos:Nat)
 | dead
 | loop (k:Nat) (st:Qz)
 deriving Inhabited
mutual
def D.beq:D->D->Bool
 | .bool a,.bool b=>a==b
 | .int k a,.int j b=>decide (k=j) && decide (a=b)
 | .str a,.str b=>a==b
 | .cz,.cz=>true
 | .ptr o c,.ptr o' c' =>Nat.beq o o' && Nat.beq c c'
 | .jI o i c e,.jI o' i' c' e' =>Nat.beq o o' && (Nat.beq i i' && (Nat.beq c c' && Nat.beq e e'))
 | .jD e c,.jD e' c' =>Nat.beq c c' && D.beq e e'
 | .vs n z l,.vs n' z' l' =>n==n' && (Nat.beq z z' && D.fw l l')
 | .sl o a b c,.sl o' a' b' c' =>Nat.beq o o' && (Nat.beq a a' && (Nat.beq b b' && Nat.beq c c'))
 | .qz,.qz=>true
 | .mp o,.mp o' =>Nat.beq o o'
 | .fn f x y,.fn f' x' y' =>decide (f=f') && (D.fw x x' && D.fw y y')
 | .mw,.mw=>true
 | .ia t d,.ia t' d' =>Nat.beq t t' && D.beq d d'
 | .ow,.ow=>true
 | .agg l,.agg l' =>D.fw l l'
 | .gK l,.gK l' =>D.fw l l'
 | .sint k a lo hi,.sint k' a' lo' hi' =>decide (k=k') && (decide (a=a') && (decide (lo=lo') && decide (hi=hi')))
 | .pj i ex lo hi,.pj i' ex' lo' hi' =>Nat.beq i i' && (ex==ex' && (Nat.beq lo lo' && Nat.beq hi hi'))
 | .rl i,.rl i' =>Nat.beq i i'
 | .yl i,.yl i' =>Nat.beq i i'
 | .lv a,.lv b=>D.beq a b
 | .iG a c,.iG a' c' =>Nat.beq a a' && Nat.beq c c'
 | _,_=>false
def D.fw:List D->List D->Bool
 | [],[]=>true
 | a::l,b::r=>D.beq a b && D.fw l r
 | _,_=>false
end
mutual
theorem D.beq_eq:∀(a b:D),D.beq a b=true->a=b:=by
 intro a b h
 cases a <;> cases b <;> simp only [D.beq,aB,aY,ib,iQ]at h <;> first
  | (cases h; done)
  | rfl
  | (subst h; rfl)
  | (obtain ⟨rfl,rfl⟩:=h; rfl)
  | (obtain ⟨rfl,rfl,rfl⟩:=h; rfl)
  | (obtain ⟨rfl,rfl,rfl,rfl⟩:=h; rfl)
  | (obtain ⟨rfl,h⟩:=h; rw [D.beq_eq _ _ h])
  | (obtain ⟨rfl,rfl,h⟩:=h; rw [D.pK _ _ h])
  | (obtain ⟨rfl,h1,h2⟩:=h; rw [D.pK _ _ h1,D.pK _ _ h2])
  | (rw [D.pK _ _ h])
  | (rw [D.beq_eq _ _ h])
theorem D.pK:∀(a b:List D),D.fw a b=true->a=b
 | [],[],_=>rfl
 | x::l,y::r,h=>by
  simp only [D.fw,aB]at h;rw [D.beq_eq _ _ h.1,D.pK _ _ h.2]
 | [],_::_,h=>by simp [D.fw]at h
 | _::_,[],h=>by simp [D.fw]at h
end
def wg:List (Nat×D×D)->List (Nat×D×D)->Bool
 | [],[]=>true
 | (n,k,v)::l,(n',k',v')::r=>Nat.beq n n' && (D.beq k k' && (D.beq v v' && wg l r))
 | _,_=>false
theorem DU:∀(a b:List (Nat×D×D)),wg a b=true->a=b
 | [],[],_=>rfl
 | (n,k,v)::l,(n',k',v')::r,h=>by
  simp only [wg,aB,iQ]at h;obtain⟨rfl,h1,h2,h3⟩:=h;rw [D.beq_eq _ _ h1,D.beq_eq _ _ h2,DU _ _ h3]
 | [],_::_,h=>by simp [wg]at h
 | _::_,[],h=>by simp [wg]at h
def Obj.beq:Obj->Obj->Bool
 | .var t v,.var t' v' =>Nat.beq t t' && D.beq v v'
 | .arr z t l s,.arr z' t' l' s' =>Nat.beq z z' && (Nat.beq t t' && (Nat.beq s s' && D.fw l l'))
 | .map l c,.map l' c' =>Nat.beq c c' && wg l l'
 | .lF l p,.lF l' p' =>Nat.beq p p' && l==l'
 | .dead,.dead=>true
 | .loop k st,.loop k' st' =>Nat.beq k k' && decide (st=st')
 | _,_=>false
theorem Obj.beq_eq (a b:Obj)(h:Obj.beq a b=true):a=b:=by
 cases a <;> cases b <;> simp only [Obj.beq,aB,iQ,ib,aY]at h <;> first
  | (cases h; done)
  | rfl
  | (rw [D.beq_eq _ _ h])
  | (obtain ⟨rfl,rfl⟩:=h; rfl)
  | (obtain ⟨rfl,h⟩:=h; rw [D.beq_eq _ _ h])
  | (obtain ⟨rfl,rfl,rfl,h⟩:=h; rw [D.pK _ _ h])
  | (obtain ⟨rfl,h⟩:=h; rw [DU _ _ h])
inductive T (α:Type) where
 | nil
 | node (o:Option α) (l r:T α)
namespace T
variable {α:Type}
def get:T α->Nat->Option α
 | .nil,_=>none
 | .node o l r,k=>match Nat.beq k 0 with
  | true=>o
  | false=>match Nat.beq (k % 2) 1 with
   | true=>get l (k / 2)
   | false=>get r (k / 2 - 1)
def put:Nat->T α->Nat->Option α->T α
 | 0,t,_,_=>t
 | f+1,t,k,v=>match t with
  | .nil=>match Nat.beq k 0 with
   | true=> .node v .nil .nil
   | false=>match Nat.beq (k % 2) 1 with
    | true=> .node none (put f .nil (k / 2) v) .nil
    | false=> .node none .nil (put f .nil (k / 2 - 1) v)
  | .node o l r=>match Nat.beq k 0 with
   | true=> .node v l r
   | false=>match Nat.beq (k % 2) 1 with
    | true=> .node o (put f l (k / 2) v) r
    | false=> .node o l (put f r (k / 2 - 1) v)
def set (t:T α)(k:Nat)(v:Option α):T α:=put (k+1) t k v
theorem LF {a b:Nat}(h:a=b):Nat.beq a b=true:=by subst h; exact aA a
theorem uE {a b:Nat}(h:a≠b):Nat.beq a b=false:=by
 cases hb:Nat.beq a b with
 | true=>exact absurd (aD hb) h
 | false=>rfl
theorem ju (o:Option α)(l r:T α):get (.node o l r) 0=o:=rfl
theorem iY (o:Option α)(l r:T α){j:Nat}(h0:j≠0)(h:j % 2=1):get (.node o l r) j=get l (j / 2):=by
 simp only [get,uE h0,LF h]
theorem iZ (o:Option α)(l r:T α){j:Nat}(h0:j≠0)(h:j % 2≠1):get (.node o l r) j=get r (j / 2 - 1):=by
 simp only [get,uE h0,uE h]
theorem O0 (f:Nat)(t:T α)(k:Nat)(v:Option α):
  ∃o l r,(∀j,get t j=get (.node o l r) j)/\put (f+1) t k v=match Nat.beq k 0 with
   | true=> .node v l r
   | false=>match Nat.beq (k % 2) 1 with
    | true=> .node o (put f l (k / 2) v) r
    | false=> .node o l (put f r (k / 2 - 1) v):=by
 cases t with
 | nil=>
  refine⟨none,.nil,.nil,fun j=> ?_,by simp only [put]⟩;simp only [get]; split
  ·rfl
  ·split <;> rfl
 | node o l r=>exact ⟨o,l,r,fun _=>rfl,by simp only [put]⟩
theorem xu (f:Nat):∀(t:T α) (k j:Nat) (v:Option α),k < f->get (put f t k v) j=if j=k then v else get t j:=by
 induction f with
 | zero=>intro t k j v h; omega
 | succ f ih=>
  intro t k j v h;obtain⟨o,l,r,hg,hp⟩:=O0 f t k v;rw [hg,hp];by_cases hk:k=0
  ·subst hk;by_cases hj:j=0
   ·subst hj; simp [ju]
   ·simp only [aK hj];by_cases g:j % 2=1
    ·rw [iY _ _ _ hj g,iY _ _ _ hj g]
    ·rw [iZ _ _ _ hj g,iZ _ _ _ hj g]
  ·simp only [uE hk];by_cases g:k % 2=1
   ·simp only [LF g];by_cases hj:j=0
    ·subst hj; rw [ju,ju,aK (bO hk)]
    ·by_cases q:j % 2=1
     ·rw [iY _ _ _ hj q,iY _ _ _ hj q,ih _ _ _ _ (by omega)];by_cases e:j / 2=k / 2
      ·rw [bT e,bT (by omega)]
      ·rw [aK e,aK (fun e' =>e (by rw [e']))]
     ·rw [iZ _ _ _ hj q,iZ _ _ _ hj q,aK (fun e' =>q (by rw [e']; exact g))]
   ·simp only [uE g];by_cases hj:j=0
    ·subst hj; rw [ju,ju,aK (bO hk)]
    ·by_cases q:j % 2=1
     ·rw [iY _ _ _ hj q,iY _ _ _ hj q,aK (fun e' =>g (by rw [← e']; exact q))]
     ·rw [iZ _ _ _ hj q,iZ _ _ _ hj q,ih _ _ _ _ (by omega)];by_cases e:j / 2 - 1=k / 2 - 1
      ·rw [bT e,bT (by omega)]
      ·rw [aK e,aK (fun e' =>e (by rw [e']))]
theorem pN (t:T α)(k j:Nat)(v:Option α):get (set t k v) j=if j=k then v else get t j:=xu (k+1) t k j v (by omega)
end T
structure St where
 n:Nat
 h:T Obj
 lk:List Nat
 ro:Bool
def p8 (o:Nat):List Nat->Bool
 | []=>false
 | x::r=>match Nat.beq x o with
  | true=>true
  | false=>p8 o r
def St.get (s:St)(o:Nat):Option Obj:=s.h.get o
def St.bF (s:St)(o:Nat)(x:Obj):St:= { s with h:=s.h.set o (some x)}
def St.set (s:St)(o:Nat)(x:Obj):Option St:=
 match s.ro with
 | true=>none
 | false=>match p8 o s.lk with
  | true=>none
  | false=>some (s.bF o x)
def St.bz (s:St)(x:Obj):St:= { s with n:=s.n+1,h:=s.h.set s.n (some x)}
def St.mk' (s:St)(al:Option Nat)(x:Obj):Option (Nat×St):=
 match s.ro with
 | true=>none
 | false=>match al with
  | none=>some (s.n,s.bz x)
  | some k=>match s.get k with
   | none=>match Nat.blt k s.n with
    | true=>some (k,s.bF k x)
    | false=>none
   | some _=>none
inductive bP where
 | t (n:Nat)
 | c (d:D)
mutual
inductive ET where
 | bool | int | str | ptr | slice | map | func | iface
 | st (l:Wi)
inductive Wi where
 | nil
 | cons (off:Nat) (s:Option Nat) (e:ET) (r:Wi)
end
inductive Ext where
 | nop | race | YN | UG (k:IntKind) | Pg | Zo (k:IntKind) | ZT (k:IntKind)
 deriving DecidableEq
inductive Recv where
 | self | load (off:Nat) (s:Option Nat) | addr (off:Nat) | part (off:Nat) (s:Option Nat)
inductive eQ where
 | mv (x:bP)
 | pick (c a b:bP)
 | box (ty:Nat) (x:bP)
 | nv (x:bP)
 | pX (sz:Nat) (z:D) (len:Nat) (parts:List (Nat×bP))
 | build (z:List D) (parts:List (Nat×Nat×bP))
 | tq (sz ty:Nat) (z:D) (len:Nat) (parts:List (Nat×bP))
 | load (s:Option Nat) (x:bP)
 | store (sz:Nat) (x v:bP)
 | sP (a:Nat) (s:Option Nat) (x:bP)
 | iX (a:Nat) (sz:Nat) (x v:bP)
 | iv (x:bP)
 | A8 (name:String) (sU:List (Nat×Nat×Recv)) (x:bP)
 | bin (op:BinOp) (x y:bP)
 | eq (et:ET) (neg oneConst:Bool) (x y:bP)
 | un (op:UnOp) (x:bP)
 | toInt (k:IntKind) (x:bP)
 | rr (x:bP)
 | EL (x:bP)
 | oX (ty:Nat) (x:bP)
 | lP (x:bP)
 | Mc (t:Nat) (x:bP)
 | Kv (f:Fn) (first cap:List bP)
 | yw (r:Option bP)
 | ou (sz bytes ty:Nat) (z:D) (len cap:bP)
 | pj (x:bP) (lo hi:Option bP)
 | HE (sz:Nat) (x:bP) (lo hi mx:Option bP)
 | yX (n:Nat) (x:bP)
 | ki (off:Nat) (x:bP)
 | field (off:Nat) (s:Option Nat) (x:bP)
 | jY (sz:Nat) (x i:bP)
 | rK (len sz:Nat) (x i:bP)
 | I5 (x i:bP)
 | ML (len sz:Nat) (s:Bool) (x i:bP)
 | lookup (et:ET) (z:D) (ok:Bool) (m k:bP)
 | zC (et:ET) (m k v:bP)
 | tf (et:ET) (z:D) (m k:bP)
 | pI (m s v:bP)
 | range (x:bP)
 | uh (x:bP)
 | se (t:Nat) (z:D) (ok:Bool) (x:bP)
 | rG (n:Nat) (ts:List Nat) (ok:Bool) (x:bP)
 | extract (i:Nat) (x:bP)
 | call (ro:Bool) (f:Nat) (args:List bP)
 | oU (f:bP) (args:List bP)
 | invoke (sU:List (Nat×Nat×Recv)) (x:bP) (args:List bP)
 | len (k:Nat) (x:bP)
 | append (sz bytes ty:Nat) (x y:bP)
 | copy (sz:Nat) (x y:bP)
 | clear (sz:Nat) (z:D) (x:bP)
 | kB (x:bP)
 | ux (x:bP)
 | DA (x:bP)
 | upto (l:List (Nat×Nat×Nat)) (x:bP)
 | qy (x:bP)
 | BG (ty:Nat) (x y:bP)
 | ext (k:Ext) (l:List bP)
 | delete (et:ET) (m k:bP)
 | tD (mx:Bool) (x:List bP)
 | defer (f:bP) (args:List bP)
 | bad
structure bg where
 dst:Option Nat
 op:eQ
 guard:Option (Nat×Bool)
 al:Option Nat
inductive AC where
 | skip
 | sn (ops:List bg)
 | wY (k:Nat) (ops:List (bg×List Nat))
 | seq (a b:AC)
 | cond (c:bP) (a b:AC)
 | block (id:Nat) (a:AC)
 | loop (bV:List Nat) (a:AC)
 | exit (id:Nat)
 | ret
 | bad
 | iK (bV:List Nat) (g:bP) (ps:List Nat) (a b:AC)
inductive wV where
 | tmp (t:Nat)
 | cell (a:Nat) (s:Option Nat)
structure dU where
 results:List wV
 body:AC
def bP.sl:bP->List Nat
 | .t n=> [n]
 | .c _=> []
def Xq:Option bP->List Nat
 | some x=>x.sl
 | none=> []
def MZ (l:List bP):List Nat:=l.flatMap bP.sl
def eQ.sl:eQ->List Nat
 | .mv x | .box _ x | .nv x | .load _ x | .iv x | .A8 _ _ x | .un _ x | .toInt _ x | .rr x | .EL x | .oX _ x | .lP x | .Mc _ x | .ki _ x | .field _ _ x | .range x | .uh x | .se _ _ _ x | .rG _ _ _ x | .extract _ x | .len _ x | .clear _ _ x | .kB x | .ux x | .DA x | .upto _ x | .qy x | .yX _ x=>x.sl
 | .pick a b c=>a.sl++b.sl++c.sl
 | .pX _ _ _ p | .tq _ _ _ _ p=>p.flatMap fun q=>q.2.sl
 | .build _ p=>p.flatMap fun q=>q.2.2.sl
 | .store _ x v=>x.sl++v.sl
 | .sP a _ x=>a::x.sl
 | .iX a _ x v=>a::x.sl++v.sl
 | .bin _ x y | .eq _ _ _ x y | .jY _ x y | .rK _ _ x y | .I5 x y | .ML _ _ _ x y | .append _ _ _ x y | .copy _ x y | .delete _ x y | .BG _ x y=>x.sl++y.sl
 | .Kv _ a b=>MZ a++MZ b
 | .yw r=>Xq r
 | .ou _ _ _ _ x y=>x.sl++y.sl
 | .pj x a b=>x.sl++Xq a++Xq b
 | .HE _ x a b c=>x.sl++Xq a++Xq b++Xq c
 | .lookup _ _ _ x y | .tf _ _ x y=>x.sl++y.sl
 | .zC _ x y z | .pI x y z=>x.sl++y.sl++z.sl
 | .call _ _ l=>MZ l
 | .oU f l=>f.sl++MZ l
 | .invoke _ x l=>x.sl++MZ l
 | .ext _ l=>MZ l
 | .tD _ l=>MZ l
 | .defer f l=>f.sl++MZ l
 | .bad=> []
abbrev Env:=List (Nat×D)
def Env.get:Env->Nat->Option D
 | [],_=>none
 | (t,d)::r,s=>match Nat.beq t s with
  | true=>some d
  | false=>Env.get r s
def Env.bV (e:Env):List Nat->Env
 | []=> []
 | t::r=>match e.get t with
  | some d=>(t,d)::Env.bV e r
  | none=>Env.bV e r
structure Fr where
 env:Env
 defers:List (D×List D)
def Env.kC (e:Env)(a:Nat):Bool:=
 match e.get a with
 | some (.lv _)=>true
 | _=>false
def bP.ev (e:Env):bP->Option D
 | .t n=>match e.get n with
  | some (.lv _)=>none
  | some (.iG _ _)=>none
  | r=>r
 | .c d=>some d
def bP.yP (e:Env):bP->Option D
 | .t n=>match e.get n with
  | some (.lv _)=>some (.iG n 0)
  | r=>r
 | .c d=>some d
def Env.tQ (a:Nat):Env->Bool
 | []=>true
 | (_,d)::r=>match d with
  | .iG b _=>match Nat.beq a b with
   | true=>false
   | false=>Env.tQ a r
  | _=>Env.tQ a r
def sg (e:Env):List bP->Option (List D)
 | []=>some []
 | x::r=>match x.ev e with
  | some d=>match sg e r with
   | some l=>some (d::l)
   | none=>none
  | none=>none
def sJ (e:Env):Option bP->Option (Option D)
 | none=>some none
 | some x=>match x.ev e with
  | some d=>some (some d)
  | none=>none
def over {α:Type}:List α->Nat->List α->List α
 | cs,0,vs=>vs++cs.drop vs.length
 | [],_,_=> []
 | c::cs,n+1,vs=>c::over cs n vs
def D.over (e:D)(c:Nat)(v:D):Option D:=
 match v.st with
 | false=>none
 | true=>match e with
  | .agg cs=>match Nat.ble (c+v.flat.length) cs.length with
   | true=>some (.agg (Ab.over cs c v.flat))
   | false=>none
  | _=>match Nat.beq c 0,v.sc with
   | true,true=>some v
   | _,_=>none
def DW:List D->List (Nat×Nat×D)->Option (List D)
 | cs,[]=>some cs
 | cs,(off,sz,v)::r=>match Nat.beq v.flat.length sz,v.st with
  | true,true=>match Nat.ble (off+sz) cs.length with
   | true=>DW (over cs off v.flat) r
   | false=>none
  | _,_=>none
def pD (e:Env):List (Nat×Nat×bP)->Option (List (Nat×Nat×D))
 | []=>some []
 | (o,s,x)::r=>match x.ev e with
  | some d=>match pD e r with
   | some l=>some ((o,s,d)::l)
   | none=>none
  | none=>none
def sX (sz:Nat):List D->List (Nat×D)->Option (List D)
 | l,[]=>some l
 | l,(i,v)::r=>match Nat.beq v.flat.length sz,v.st with
  | true,true=>match Nat.blt i l.length with
   | true=>sX sz (l.set i v) r
   | false=>none
  | _,_=>none
def jv (e:Env):List (Nat×bP)->Option (List (Nat×D))
 | []=>some []
 | (i,x)::r=>match x.ev e with
  | some d=>match jv e r with
   | some l=>some ((i,d)::l)
   | none=>none
  | none=>none
def part (cs:List D)(c:Nat):Option Nat->Option D
 | some s=>match Nat.ble (c+s) cs.length with
  | true=>some (.agg ((cs.drop c).take s))
  | false=>none
 | none=>cs[c]?
def P5 (lo hi c:Int):Bool:=decide (c < lo) || decide (hi < c)
def RZ (ex:List (List UInt8))(lo hi:Nat)(c:List UInt8):Bool:=Nat.blt c.length lo || (Nat.blt hi c.length || ex.any (· ==c))
def mZ (c:Bool)(b:Bool):Option Bool:=match c with
 | true=>some b
 | false=>none
def eqI:D->D->Option Bool
 | .int k a,.int j b=>mZ (decide (k=j)) (a==b)
 | .sint k _ lo hi,.int j c=>mZ (decide (k=j) && P5 lo hi c) false
 | .int j c,.sint k _ lo hi=>mZ (decide (k=j) && P5 lo hi c) false
 | .sint k a _ _,.sint j b _ _=>mZ (decide (k=j) && decide (a=b)) true
 | _,_=>none
def X7:D->D->Option Bool
 | .str a,.str b=>some (a==b)
 | .pj _ ex lo hi,.str c=>mZ (RZ ex lo hi c) false
 | .str c,.pj _ ex lo hi=>mZ (RZ ex lo hi c) false
 | .pj i _ _ _,.pj j _ _ _=>mZ (Nat.beq i j) true
 | _,_=>none
def XE:D->D->Option Bool
 | .bool a,.bool b=>some (a==b)
 | .rl i,.rl j=>mZ (Nat.beq i j) true
 | _,_=>none
mutual
def th (oc:Bool):ET->D->D->Option Bool
 | .bool,x,y=>XE x y
 | .int,x,y=>eqI x y
 | .str,x,y=>X7 x y
 | .ptr,x,y=>match x,y with
  | .cz,.cz=>some true
  | .cz,.ptr .. =>some false
  | .ptr ..,.cz=>some false
  | .cz,.jI .. =>some false
  | .jI ..,.cz=>some false
  | .cz,.jD .. =>some false
  | .jD ..,.cz=>some false
  | _,_=>none
 | .slice,x,y=>match x,y with
  | .vs n _ _,.vs true _ _=>some n
  | .vs true _ _,.vs n _ _=>some n
  | .sl ..,.vs true _ _=>some false
  | .vs true _ _,.sl .. =>some false
  | _,_=>none
 | .map,x,y=>match x,y with
  | .qz,.qz=>some true
  | .qz,.mp _=>some false
  | .mp _,.qz=>some false
  | _,_=>none
 | .func,x,y=>match x,y with
  | .mw,.mw=>some true
  | .mw,.fn .. =>some false
  | .fn ..,.mw=>some false
  | _,_=>none
 | .iface,x,y=>match x,y with
  | .ow,.ow=>match oc with
   | true=>some true
   | false=>none
  | .ow,.ia .. =>some false
  | .ia ..,.ow=>some false
  | .ia t _,.ia u _=>match Nat.beq t u with
   | true=>none
   | false=>some false
  | _,_=>none
 | .st l,x,y=>match x,y with
  | .agg a,.agg b=>LY l a b
  | _,_=>none
def LY:Wi->List D->List D->Option Bool
 | .nil,_,_=>some true
 | .cons off s e r,a,b=>match part a off s,part b off s with
  | some x,some y=>match th false e x y with
   | some true=>LY r a b
   | some false=>some false
   | none=>none
  | _,_=>none
end
def PI (s:St):D->D->Option Bool
 | .ptr o c,.ptr o' c' =>match s.get o,s.get o' with
  | some (.var _ _),some (.var _ _)=>some (Nat.beq o o' && Nat.beq c c')
  | _,_=>none
 | _,_=>none
def od:List UInt8->List UInt8->Bool
 | _,[]=>false
 | [],_::_=>true
 | a::x,b::y=>a < b || (a==b && od x y)
def te (op:BinOp)(k:IntKind)(a b:Int):Option D:=
 match op with
 | .add=>some (.int k (k.wrap (a+b)))
 | .sub=>some (.int k (k.wrap (a - b)))
 | .mul=>some (.int k (k.wrap (a * b)))
 | .quo=>if b=0 then none else some (.int k (k.wrap (a.tdiv b)))
 | .rem=>if b=0 then none else some (.int k (a.tmod b))
 | .and=>some (.int k (k.wrap ((BitVec.ofInt k.bits a &&& BitVec.ofInt k.bits b).toNat)))
 | .or=>some (.int k (k.wrap ((BitVec.ofInt k.bits a ||| BitVec.ofInt k.bits b).toNat)))
 | .xor=>some (.int k (k.wrap ((BitVec.ofInt k.bits a ^^^ BitVec.ofInt k.bits b).toNat)))
 | .andNot=>some (.int k (k.wrap ((BitVec.ofInt k.bits a &&& ~~~(BitVec.ofInt k.bits b)).toNat)))
 | .eql=>some (.bool (a==b))
 | .neq=>some (.bool (a !=b))
 | .lss=>some (.bool (decide (a < b)))
 | .leq=>some (.bool (decide (a<=b)))
 | .gtr=>some (.bool (decide (a > b)))
 | .geq=>some (.bool (decide (a >= b)))
 | _=>none
def zg (op:BinOp)(a b:List UInt8):Option D:=
 match op with
 | .add=>match Nat.ble (a.length+b.length) 4611686018427387904 with
  | true=>some (.str (a++b))
  | false=>none
 | .eql=>some (.bool (a==b))
 | .neq=>some (.bool (!(a==b)))
 | .lss=>some (.bool (od a b))
 | .leq=>some (.bool (od a b || a==b))
 | .gtr=>some (.bool (!(od a b || a==b)))
 | .geq=>some (.bool (!(od a b)))
 | _=>none
def IH (x y:D):Option D:=match eqI x y with
 | some b=>some (.bool b)
 | none=>match X7 x y with
  | some b=>some (.bool b)
  | none=>none
def AU:D->D->Option D
 | .sint k _ lo hi,.int j c=>match decide (k=j) with
  | true=>match decide (hi < c),decide (c<=lo) with
   | true,_=>some (.bool true)
   | _,true=>some (.bool false)
   | _,_=>none
  | false=>none
 | .int j c,.sint k _ lo hi=>match decide (k=j) with
  | true=>match decide (c < lo),decide (hi<=c) with
   | true,_=>some (.bool true)
   | _,true=>some (.bool false)
   | _,_=>none
  | false=>none
 | _,_=>none
def M3 (m c:Int):Sym->Sym
 | .lin m' c' a=> .lin (m * m') (m * c' +c) a
 | a=> .lin m c a
def vq (k:IntKind)(m c:Int)(a:Sym)(lo hi:Int):Option D:=
 match decide (k= .i64),decide (-9223372036854775808<=lo),decide (hi<=9223372036854775807) with
 | true,true,true=>some (.sint k (M3 m c a) lo hi)
 | _,_,_=>none
def GD:D->D->Option D
 | .sint k a lo hi,.int j c=>match decide (k=j) with
  | true=>vq k 1 c a (lo+c) (hi+c)
  | false=>none
 | .int j c,.sint k a lo hi=>match decide (k=j) with
  | true=>vq k 1 c a (lo+c) (hi+c)
  | false=>none
 | _,_=>none
def Gg:D->D->Option D
 | .sint k a lo hi,.int j c=>match decide (k=j) with
  | true=>vq k 1 (-c) a (lo - c) (hi - c)
  | false=>none
 | .int j c,.sint k a lo hi=>match decide (k=j) with
  | true=>vq k (-1) c a (c - hi) (c - lo)
  | false=>none
 | _,_=>none
def BU:Option D->Option D
 | some (.bool b)=>some (.bool (!b))
 | _=>none
def KE (op:BinOp)(x y:D):Option D:=
 match op,x,y with
 | .shl,.int k a,.int _ b=>if b < 0 then none else some (.int k (k.wrap (a * 2 ^ (min b.toNat k.bits))))
 | .shr,.int k a,.int _ b=>if b < 0 then none else some (.int k (a.fdiv (2 ^ (min b.toNat k.bits))))
 | op,.int k a,.int j b=>match decide (k=j) with
  | true=>te op k a b
  | false=>none
 | op,.str a,.str b=>zg op a b
 | .eql,x,y=>IH x y
 | .neq,x,y=>match IH x y with
  | some (.bool b)=>some (.bool (!b))
  | _=>none
 | .lss,x,y=>AU x y
 | .gtr,x,y=>AU y x
 | .geq,x,y=>BU (AU x y)
 | .leq,x,y=>BU (AU y x)
 | .add,x,y=>GD x y
 | .sub,x,y=>Gg x y
 | _,_,_=>none
def unD (op:UnOp)(x:D):Option D:=
 match op,x with
 | .neg,.int k n=>some (.int k (k.wrap (0 - n)))
 | .xor,.int k n=>some (.int k (k.wrap ((BitVec.ofInt k.bits (if k.signed then -1 else k.max) ^^^ BitVec.ofInt k.bits n).toNat)))
 | .not,.bool b=>some (.bool (!b))
 | _,_=>none
def idx:D->Option Nat
 | .int _ n=>if 0<=n then some n.toNat else none
 | _=>none
def lH (d:Nat):Option D->Option Nat
 | none=>some d
 | some x=>idx x
def fZ:Option D->Nat->Option Nat
 | none,_=>none
 | some _,n=>some n
def Fa (ok:Bool)(v:D)(b:Bool):D:=match ok with
 | true=> .gK [v,.bool b]
 | false=>v
def Fq (n:Int):D:= .int .i64 n
def AV (t c n:Nat):List (Nat×Nat×Nat)->Bool
 | []=>false
 | (t',c',n')::r=>match Nat.beq t t' && (Nat.beq c c' && Nat.beq n n') with
  | true=>true
  | false=>AV t c n r
def iP (s:St)(sz:Option Nat):D->Option D
 | .ptr o c=>match s.get o with
  | some (.var _ v)=>part v.flat c sz
  | _=>none
 | .jI o i c e=>match s.get o with
  | some (.arr _ _ es st)=>match Nat.ble st e with
   | true=>match es[i]? with
    | some d=>part d.flat c sz
    | none=>none
   | false=>none
  | _=>none
 | .jD e c=>part e.flat c sz
 | _=>none
def Q5 (off:Nat):D->Option D
 | .ptr o c=>some (.ptr o (c+off))
 | .jI o i c e=>some (.jI o i (c+off) e)
 | .jD e c=>some (.jD e (c+off))
 | _=>none
def ru (s:St)(v:D):Recv->Option D
 | .self=>some v
 | .load off sz=>match Q5 off v with
  | some p=>iP s sz p
  | none=>none
 | .addr off=>Q5 off v
 | .part off sz=>match v with
  | .agg cs=>part cs off sz
  | _=>none
def sF:List (Nat×Nat×Recv)->Nat->Option (Nat×Recv)
 | [],_=>none
 | (t,r)::l,k=>match Nat.beq t k with
  | true=>some r
  | false=>sF l k
def jN (s:St)(sz:Nat)(p v:D):Option St:=
 match Nat.beq v.flat.length sz with
 | false=>none
 | true=>match p with
  | .ptr o c=>match s.get o with
   | some (.var t e)=>match e.over c v with
    | some e' =>s.set o (.var t e')
    | none=>none
   | _=>none
  | .jI o i c e=>match s.get o with
   | some (.arr z t es _)=>match Nat.beq e es.length with
    | true=>match es[i]? with
     | some d=>match d.over c v with
      | some d' =>s.set o (.arr z t (es.set i d') es.length)
      | none=>none
     | none=>none
    | false=>none
   | _=>none
  | _=>none
def items (s:St):D->Option (Nat×List D)
 | .vs _ sz l=>some (sz,l)
 | .sl o off len cp=>match s.get o with
  | some (.arr sz _ es st)=>match Nat.ble (off+len) es.length,Nat.ble st (off+cp) with
   | true,true=>some (sz,(es.drop off).take len)
   | _,_=>none
  | _=>none
 | _=>none
def o8 (s:St):Nat->D->Option Nat
 | 0,d=>match d with
  | .str l=>some l.length
  | _=>none
 | 1,d=>match d with
  | .vs _ _ l=>some l.length
  | .sl _ _ n _=>some n
  | _=>none
 | _,d=>match d with
  | .qz=>some 0
  | .mp o=>match s.get o with
   | some (.map es _)=>some es.length
   | _=>none
  | _=>none
def ke (s:St)(sz:Nat)(x:D)(i:Nat):Option D:=
 match x with
 | .vs _ z l=>match Nat.beq z sz with
  | true=>match l[i]? with
   | some e=>some (.jD e 0)
   | none=>none
  | false=>none
 | .sl o off len cp=>match s.get o with
  | some (.arr z _ es st)=>match Nat.beq z sz,Nat.blt i len,Nat.ble (off+len) es.length,Nat.ble st (off+cp) with
   | true,true,true,true=>some (.jI o (off+i) 0 (off+cp))
   | _,_,_,_=>none
  | _=>none
 | _=>none
def uG (x:D)(lo:Nat)(hi mx:Option Nat):Option D:=
 match x with
 | .vs nl sz l=>
  let h:=hi.getD l.length
  let m:=mx.getD l.length
  match Nat.ble lo h,Nat.ble h m,Nat.ble m l.length with
  | true,true,true=>some (.vs nl sz ((l.take h).drop lo))
  | _,_,_=>none
 | .sl o off len cp=>
  let h:=hi.getD len
  match mx with
  | some m=>match Nat.ble lo h,Nat.ble h m,Nat.ble m cp with
   | true,true,true=>some (.sl o (off+lo) (h - lo) (m - lo))
   | _,_,_=>none
  | none=>match Nat.ble lo h,Nat.ble h cp with
   | true,true=>some (.sl o (off+lo) (h - lo) (cp - lo))
   | _,_=>none
 | _=>none
def aL:Nat:=2147483648
def fH (s:St)(al:Option Nat)(sz ty:Nat)(x:D)(l:List D):Option (D×St):=
 match l with
 | []=>match x with
  | .vs .. =>some (x,s)
  | .sl o _ _ _=>match s.get o with
   | some (.arr ..)=>some (x,s)
   | _=>none
  | _=>none
 | _=>match x with
  | .vs true _ _=>match Nat.ble l.length aL with
   | true=>match s.mk' al (.arr sz ty l 0) with
    | some (k,s')=>some (.sl k 0 l.length l.length,s')
    | none=>none
   | false=>none
  | .sl o off len _=>match s.get o with
   | some (.arr z t es st)=>match Nat.beq z sz && Nat.beq t ty,Nat.ble (off+len) es.length,Nat.ble st (off+len),Nat.ble (len+l.length) aL with
    | true,true,true,true=>match Nat.beq (off+len) es.length with
     | true=>match s.set o (.arr z t (es++l) st) with
      | some s' =>some (.sl o off (len+l.length) (len+l.length),s')
      | none=>none
     | false=>match s.set o .dead with
      | some s' =>match s'.mk' al (.arr z t (es.take (off+len)++l) 0) with
       | some (k,s'')=>some (.sl k off (len+l.length) (len+l.length),s'')
       | none=>none
      | none=>none
    | _,_,_,_=>none
   | _=>none
  | _=>none
def xW:D->Bool
 | .bool _ | .int _ _ | .str _ | .cz | .qz | .mw | .ow=>true
 | _=>false
def Bw:D->Bool
 | .agg l=>l.all xW
 | d=>xW d
def iM (s:St)(sz:Nat)(x:D)(l:List D):Option St:=
 match x with
 | .sl o off len cp=>match s.get o with
  | some (.arr z t es st)=>match Nat.beq z sz,Nat.beq (off+len) es.length,Nat.ble l.length len with
   | true,true,true=>s.set o (.arr z t (over es off l) es.length)
   | true,false,true=>match (Nat.ble (off+len) es.length && Nat.ble st (off+cp)) && (l.all Bw && D.fw ((es.drop off).take l.length) l) with
    | true=>some s
    | false=>none
   | _,_,_=>none
  | _=>none
 | .vs _ _ []=>match l with
  | []=>some s
  | _=>none
 | _=>none
def eI (sz:Nat):List D->Bool
 | []=>true
 | d::r=>Nat.beq d.flat.length sz && d.st && eI sz r
def mf (l:List D):Option (List UInt8):=
 match l with
 | []=>some []
 | .int .i32 n::r=>match mf r with
  | some b=>some ((Utf8.encode n).data.toList++b)
  | none=>none
 | _=>none
mutual
def oQ:ET->D->Bool
 | .bool,x=>match x with
  | .bool _=>true
  | .rl _=>true
  | _=>false
 | .int,x=>match x with
  | .int _ _=>true
  | .sint .. =>true
  | _=>false
 | .str,x=>match x with
  | .str _=>true
  | .pj .. =>true
  | _=>false
 | .st l,x=>match x with
  | .agg a=>IK l a
  | _=>false
 | _,_=>false
def IK:Wi->List D->Bool
 | .nil,_=>true
 | .cons off s e r,a=>match part a off s with
  | some x=>oQ e x && IK r a
  | none=>false
end
def Dt:D->D->Bool
 | .bool a,.bool b=>a==b
 | .int j a,.int k b=>decide (j=k) && a==b
 | .str a,.str b=>a==b
 | _,_=>false
def findKey (et:ET)(k:D):List (Nat×D×D)->Nat->Option (Option (Nat×D))
 | [],_=>some none
 | (_,k',v)::r,i=>match th false et k k' with
  | some true=>some (some (i,v))
  | some false=>findKey et k r (i+1)
  | none=>none
def setAt {α:Type}:List α->Nat->(α->α)->List α
 | [],_,_=> []
 | a::r,0,f=>f a::r
 | a::r,n+1,f=>a::setAt r n f
def rM (b:Int):List (Nat×D×D)->Nat->Option Nat
 | [],_=>none
 | (n,_,_)::r,i=>if (n:Int)=b then some i else rM b r (i+1)
def OR:List (Nat×Nat)->Nat->Option Nat
 | [],_=>none
 | (t,f)::r,u=>match Nat.beq t u with
  | true=>some f
  | false=>OR r u
def bytesOf (l:List D):Option (List UInt8):=
 match l with
 | []=>some []
 | .int .u8 n::r=>match bytesOf r with
  | some b=>some (UInt8.ofNat n.toNat::b)
  | none=>none
 | _=>none
def Oh (mx:Bool):D->List D->Option D
 | d,[]=>some d
 | .int k a,.int j b::r=>match decide (k=j) with
  | true=>Oh mx (.int k (if mx then (if b > a then b else a) else (if b < a then b else a))) r
  | false=>none
 | _,_=>none
abbrev ay:=Nat->List D->St->Option (D×St)
def nj (s:St):Option D->Option (D×St)
 | some d=>some (d,s)
 | none=>none
def oK (d:D):Option St->Option (D×St)
 | some s=>some (d,s)
 | none=>none
def Db (s:St)(k:Ext)(l:List D):Option (D×St):=
 match k,l with
 | .nop,_=>some (.gK [],s)
 | .race,[.ptr _ _]=>some (.gK [],s)
 | .YN,[.ptr o c]=>some (.ptr o c,s)
 | .YN,[.cz]=>some (.cz,s)
 | .UG k,[.ptr o c]=>match iP s none (.ptr o c) with
  | some (.int j n)=>match decide (k=j) with
   | true=>some (.int j n,s)
   | false=>none
  | _=>none
 | .Pg,[.ptr o c,.int j v]=>oK (.gK []) (jN s 1 (.ptr o c) (.int j v))
 | .Zo k,[.ptr o c,.int _ a,.int j b]=>match iP s none (.ptr o c) with
  | some (.int j' x)=>match decide (k=j) && decide (k=j') with
   | true=>match x==a with
    | true=>oK (.bool true) (jN s 1 (.ptr o c) (.int j b))
    | false=>some (.bool false,s)
   | false=>none
  | _=>none
 | .ZT k,[.ptr o c,.int _ b]=>match iP s none (.ptr o c) with
  | some (.int j x)=>match decide (k=j) with
   | true=>oK (.int k (k.wrap (x+b))) (jN s 1 (.ptr o c) (.int k (k.wrap (x+b))))
   | false=>none
  | _=>none
 | _,_=>none
def cC (C:ay)(e:Env)(s:St)(al:Option Nat):eQ->Option (D×St)
 | .mv x=>nj s (x.yP e)
 | .EL x=>match x.ev e with
  | some (.str l)=>some (.str l,s)
  | _=>none
 | .pick c a b=>match c.ev e with
  | some (.bool t)=>match t with
   | true=>nj s (a.ev e)
   | false=>nj s (b.ev e)
  | _=>none
 | .box ty x=>match x.ev e with
  | some v=>match v.st && Nat.blt 0 v.flat.length with
   | true=>match s.mk' al (.var ty v) with
    | some (k,s')=>some (.ptr k 0,s')
    | none=>none
   | false=>none
  | none=>none
 | .build z parts=>match pD e parts,z.all D.sc with
  | some l,true=>match DW z l with
   | some cs=>some (.agg cs,s)
   | none=>none
  | _,_=>none
 | .nv _=>none
 | .pX sz z len parts=>match jv e parts,eI sz [z] with
  | some l,true=>match sX sz (List.replicate len z) l with
   | some es=>some (.vs false sz es,s)
   | none=>none
  | _,_=>none
 | .tq sz ty z len parts=>match jv e parts,eI sz [z] with
  | some l,true=>match sX sz (List.replicate len z) l with
   | some es=>match s.mk' al (.arr sz ty es 0) with
    | some (k,s')=>some (.sl k 0 len len,s')
    | none=>none
   | none=>none
  | _,_=>none
 | .sP a sz x=>match x.yP e with
  | some (.iG a' c)=>match Nat.beq a a',e.get a with
   | true,some (.lv v)=>nj s (part v.flat c sz)
   | _,_=>none
  | _=>none
 | .iX .. =>none
 | .load sz x=>match x.ev e with
  | some p=>nj s (iP s sz p)
  | none=>none
 | .store sz x v=>match x.ev e,v.ev e with
  | some p,some d=>oK (.gK []) (jN s sz p d)
  | _,_=>none
 | .iv x=>match x.yP e with
  | some (.iG a c)=>match e.kC a with
   | true=>some (.iG a c,s)
   | false=>none
  | some (.ptr o c)=>some (.ptr o c,s)
  | some (.jI o i c z)=>some (.jI o i c z,s)
  | some (.jD d c)=>some (.jD d c,s)
  | some (.ia t v)=>some (.ia t v,s)
  | some (.fn (.func f) a b)=>some (.fn (.func f) a b,s)
  | _=>none
 | .A8 name sU x=>match x.ev e with
  | some (.fn (.method n) [.ia t v] y)=>match n==name,sF sU t with
   | true,some (_,.self)=>some (.fn (.method n) [.ia t v] y,s)
   | _,_=>none
  | _=>none
 | .bin op x y=>match x.ev e,y.ev e with
  | some a,some b=>nj s (KE op a b)
  | _,_=>none
 | .eq et neg oc x y=>match x.ev e,y.ev e with
  | some a,some b=>match th oc et a b with
   | some r=>some (.bool (r !=neg),s)
   | none=>match et with
    | .ptr=>match PI s a b with
     | some r=>some (.bool (r !=neg),s)
     | none=>none
    | _=>none
  | _,_=>none
 | .un op x=>match x.ev e with
  | some a=>nj s (unD op a)
  | none=>none
 | .toInt k x=>match x.ev e with
  | some (.int _ n)=>some (.int k (k.wrap n),s)
  | _=>none
 | .rr x=>match x.ev e with
  | some (.int _ n)=>some (.str (Utf8.encode n).data.toList,s)
  | _=>none
 | .oX ty x=>match x.ev e with
  | some (.str l)=>match Nat.ble l.length aL with
   | true=>match s.mk' al (.arr 1 ty (l.map fun b=> .int .u8 b.toNat) 0) with
    | some (k,s')=>some (.sl k 0 l.length l.length,s')
    | none=>none
   | false=>none
  | _=>none
 | .lP x=>match x.ev e with
  | some d=>match items s d with
   | some (z,l)=>match Nat.beq z 1 || (match l with | []=>true | _=>false),bytesOf l with
    | true,some b=>some (.str b,s)
    | _,_=>none
   | none=>none
  | none=>none
 | .Mc t x=>match x.ev e with
  | some d=>some (.ia t d,s)
  | none=>none
 | .Kv f a b=>match sg e a,sg e b with
  | some x,some y=>some (.fn f x y,s)
  | _,_=>none
 | .yw r=>match (match sJ e r with | some none=>true | some (some (.int _ _))=>true | _=>false) with
  | true=>match s.mk' al (.map [] 0) with
   | some (k,s')=>some (.mp k,s')
   | none=>none
  | false=>none
 | .ou sz bytes ty z len cap=>match len.ev e,cap.ev e with
  | some l,some c=>match idx l,idx c with
   | some l,some c=>match Nat.ble l c && eI sz [z],Nat.ble (c * bytes) 140737488355328,Nat.ble c aL with
    | true,true,true=>match s.mk' al (.arr sz ty (List.replicate l z) 0) with
     | some (k,s')=>some (.sl k 0 l l,s')
     | none=>none
    | _,_,_=>none
   | _,_=>none
  | _,_=>none
 | .pj x lo hi=>match x.ev e,sJ e lo,sJ e hi with
  | some (.str l),some a,some b=>match lH 0 a,lH l.length b with
   | some a,some b=>match Nat.ble a b,Nat.ble b l.length with
    | true,true=>some (.str ((l.take b).drop a),s)
    | _,_=>none
   | _,_=>none
  | _,_,_=>none
 | .HE sz x lo hi mx=>match x.ev e,sJ e lo,sJ e hi,sJ e mx with
  | some d,some a,some b,some c=>match lH 0 a,lH 0 b,lH 0 c with
   | some a',some b',some c' =>
    match items s d with
    | some (z,l)=>match Nat.beq z sz || (match d,l with | .vs ..,[]=>true | _,_=>false) with
     | true=>nj s (uG d a' (fZ b b') (fZ c c'))
     | false=>none
    | none=>none
   | _,_,_=>none
  | _,_,_,_=>none
 | .ki off x=>match x.yP e with
  | some (.iG a c)=>match e.kC a with
   | true=>some (.iG a (c+off),s)
   | false=>none
  | some (.ptr o c)=>some (.ptr o (c+off),s)
  | some (.jI o i c z)=>some (.jI o i (c+off) z,s)
  | some (.jD d c)=>some (.jD d (c+off),s)
  | _=>none
 | .field off sz x=>match x.ev e with
  | some (.agg cs)=>nj s (part cs off sz)
  | _=>none
 | .jY sz x i=>match x.ev e,i.ev e with
  | some d,some n=>match idx n with
   | some i=>nj s (ke s sz d i)
   | none=>none
  | _,_=>none
 | .rK len sz x i=>match x.yP e,i.ev e with
  | some (.iG a c),some n=>match idx n with
   | some i=>match Nat.blt i len,e.kC a with
    | true,true=>some (.iG a (c+i * sz),s)
    | _,_=>none
   | none=>none
  | some (.ptr o c),some n=>match idx n with
   | some i=>match Nat.blt i len with
    | true=>some (.ptr o (c+i * sz),s)
    | false=>none
   | none=>none
  | some (.jI o j c z),some n=>match idx n with
   | some i=>match Nat.blt i len with
    | true=>some (.jI o j (c+i * sz) z,s)
    | false=>none
   | none=>none
  | some (.jD d c),some n=>match idx n with
   | some i=>match Nat.blt i len with
    | true=>some (.jD d (c+i * sz),s)
    | false=>none
   | none=>none
  | _,_=>none
 | .I5 x i=>match x.ev e,i.ev e with
  | some (.str l),some n=>match idx n with
   | some i=>match l[i]? with
    | some b=>some (.int .u8 b.toNat,s)
    | none=>none
   | none=>none
  | _,_=>none
 | .ML len sz ag x i=>match x.ev e,i.ev e with
  | some (.agg cs),some n=>match idx n with
   | some i=>match Nat.blt i len with
    | true=>nj s (part cs (i * sz) (match ag with | true=>some sz | false=>none))
    | false=>none
   | none=>none
  | _,_=>none
 | .lookup et z ok m k=>match m.ev e,k.ev e with
  | some m,some k=>match oQ et k with
   | false=>none
   | true=>match m with
    | .qz=>some (Fa ok (z) false,s)
    | .mp o=>match s.get o with
     | some (.map es _)=>match findKey et k es 0 with
      | some (some (_,v))=>some (Fa ok (v) true,s)
      | some none=>some (Fa ok (z) false,s)
      | none=>none
     | _=>none
    | _=>none
  | _,_=>none
 | .zC et m k v=>match m.ev e,k.ev e,v.ev e with
  | some (.mp o),some k,some v=>match oQ et k with
   | false=>none
   | true=>match s.get o with
    | some (.map es c)=>match findKey et k es 0 with
     | some (some (i,_))=>match es[i]? with
      | some (_,k',_)=>match Dt k' k with
       | true=>oK (.gK []) (s.set o (.map (setAt es i fun x=>(x.1,k,v)) c))
       | false=>none
      | none=>none
     | some none=>oK (.gK []) (s.set o (.map (es++ [(c,k,v)]) (c+1)))
     | none=>none
    | _=>none
  | _,_,_=>none
 | .tf et z m k=>match m.ev e,k.ev e with
  | some (.mp o),some k=>match oQ et k with
   | false=>none
   | true=>match s.get o with
    | some (.map es c)=>match findKey et k es 0 with
     | some (some (i,v))=>match es[i]? with
      | some (b,k',_)=>match Dt k' k with
       | true=>oK (.gK [v,Fq b]) (s.set o (.map (setAt es i fun x=>(x.1,k,x.2.2)) c))
       | false=>none
      | none=>none
     | some none=>oK (.gK [z,Fq c]) (s.set o (.map (es++ [(c,k,z)]) (c+1)))
     | none=>none
    | _=>none
  | _,_=>none
 | .pI m b v=>match m.ev e,b.ev e,v.ev e with
  | some (.mp o),some (.int _ b),some v=>match s.get o with
   | some (.map es c)=>match rM b es 0 with
    | some i=>oK (.gK []) (s.set o (.map (setAt es i fun x=>(x.1,x.2.1,v)) c))
    | none=>none
   | _=>none
  | _,_,_=>none
 | .range x=>match x.ev e with
  | some (.str l)=>match s.mk' al (.lF l 0) with
   | some (k,s')=>some (.ptr k 0,s')
   | none=>none
  | _=>none
 | .uh x=>match x.ev e with
  | some (.ptr o 0)=>match s.get o with
   | some (.lF l pos)=>match Nat.blt pos l.length with
    | true=>
     let r:=Utf8.decode ⟨l.toArray⟩ pos
     oK (.gK [.bool true,Fq pos,.int .i32 r.1]) (s.set o (.lF l (pos+r.2)))
    | false=>some (.gK [.bool false],s)
   | _=>none
  | _=>none
 | .se t z ok x=>match x.ev e with
  | some (.ia u v)=>match Nat.beq u t with
   | true=>some (Fa ok (v) true,s)
   | false=>match ok with
    | true=>some (.gK [z,.bool false],s)
    | false=>none
  | some .ow=>match ok with
   | true=>some (.gK [z,.bool false],s)
   | false=>none
  | _=>none
 | .rG n ts ok x=>match x.ev e with
  | some (.ia u v)=>match p8 u ts with
   | true=>some (Fa ok (.ia u v) true,s)
   | false=>match ok && Nat.blt u n with
    | true=>some (.gK [.ow,.bool false],s)
    | false=>none
  | some .ow=>match ok with
   | true=>some (.gK [.ow,.bool false],s)
   | false=>none
  | _=>none
 | .extract i x=>match x.ev e with
  | some (.gK l)=>nj s l[i]?
  | _=>none
 | .call ro f args=>match sg e args with
  | some l=>match ro with
   | false=>C f l s
   | true=>match C f l { s with ro:=true} with
    | some (d,_)=>some (d,s)
    | none=>none
  | none=>none
 | .oU f args=>match f.ev e,sg e args with
  | some (.fn (.func f) a b),some l=>C f (a++l++b) s
  | some (.yl o),some l=>C 0 (.lv (.yl o)::l) s
  | _,_=>none
 | .invoke sU x args=>match x.ev e,sg e args with
  | some (.ia t v),some l=>match sF sU t with
   | some (f,r)=>match ru s v r with
    | some u=>C f (u::l) s
    | none=>none
   | none=>none
  | _,_=>none
 | .len k x=>match x.ev e with
  | some (.pj i _ lo hi)=>match k with
   | 0=>some (.sint .i64 (.len i) lo hi,s)
   | _=>none
  | some d=>match o8 s k d with
   | some n=>some (Fq n,s)
   | none=>none
  | none=>none
 | .append sz bytes ty x y=>match x.ev e,y.ev e with
  | some a,some (.str l)=>match Nat.beq sz 1,Nat.ble bytes 4096 with
   | true,true=>fH s al sz ty a (l.map fun b=> .int .u8 b.toNat)
   | _,_=>none
  | some a,some b=>match items s b with
   | some (z,l)=>match Nat.beq z sz || (match l with | []=>true | _=>false),Nat.ble bytes 4096 with
    | true,true=>match eI sz l with
     | true=>fH s al sz ty a l
     | false=>none
    | _,_=>none
   | none=>none
  | _,_=>none
 | .copy sz x y=>match x.ev e,y.ev e with
  | some a,some (.str l)=>match Nat.beq sz 1,o8 s 1 a with
   | true,some n=>oK (Fq (min l.length n)) (iM s sz a ((l.take n).map fun b=> .int .u8 b.toNat))
   | _,_=>none
  | some a,some b=>match items s b,o8 s 1 a with
   | some (z,l),some n=>match Nat.beq z sz || (match l with | []=>true | _=>false),eI sz (l.take n) with
    | true,true=>oK (Fq (min l.length n)) (iM s sz a (l.take n))
    | _,_=>none
   | _,_=>none
  | _,_=>none
 | .clear sz z x=>match x.ev e with
  | some .qz=>some (.gK [],s)
  | some (.mp o)=>match s.get o with
   | some (.map _ c)=>oK (.gK []) (s.set o (.map [] c))
   | _=>none
  | some a=>match o8 s 1 a with
   | some n=>match eI sz [z] with
    | true=>oK (.gK []) (iM s sz a (List.replicate n z))
    | false=>none
   | none=>none
  | none=>none
 | .kB x=>match x.ev e with
  | some d=>match items s d with
   | some (z,l)=>match Nat.beq z 1 || (match l with | []=>true | _=>false),mf l with
    | true,some b=>some (.str b,s)
    | _,_=>none
   | none=>none
  | none=>none
 | .ux x=>match x.ev e with
  | some (.sl o a b c)=>some (.sl o a b c,s)
  | _=>none
 | .DA x=>match x.ev e with
  | some (.ptr o c)=>match s.get o with
   | some (.var _ v)=>match Nat.blt c v.flat.length with
    | true=>some (.ptr o c,s)
    | false=>none
   | _=>none
  | _=>none
 | .upto l x=>match x.ev e with
  | some .cz=>some (.cz,s)
  | some (.ptr o c)=>match s.get o with
   | some (.var t v)=>match AV t c v.flat.length l with
    | true=>some (.ptr o c,s)
    | false=>none
   | _=>none
  | _=>none
 | .qy x=>match x.ev e with
  | some (.vs true _ _)=>some (.cz,s)
  | some (.sl o off _ cp)=>match s.get o with
   | some (.arr ..)=>match Nat.blt 0 cp with
    | true=>some (.jI o off 0 (off+cp),s)
    | false=>none
   | _=>none
  | _=>none
 | .BG ty x y=>match x.ev e,y.ev e with
  | some .cz,some (.int k n)=>match decide (k= .i64) && decide (n=0) with
   | true=>some (.str [],s)
   | false=>none
  | some (.jI o i c en),some (.int k n)=>match s.get o with
   | some (.arr z t es st)=>match Nat.beq z 1 && (Nat.beq t ty && Nat.beq c 0),decide (k= .i64) && (decide (0 < n) && Nat.ble n.toNat aL),Nat.ble (i+n.toNat) en && (Nat.ble en es.length && Nat.ble st en),bytesOf ((es.drop i).take n.toNat) with
    | true,true,true,some b=>oK (.str b) (s.set o .dead)
    | _,_,_,_=>none
   | _=>none
  | _,_=>none
 | .yX n x=>match x.ev e with
  | some (.ptr o 0)=>match s.get o with
   | some (.var t v)=>match Nat.beq v.flat.length n with
    | true=>match s.set o .dead with
     | some s' =>match s'.mk' none (.arr 1 t v.flat 0) with
      | some (k,s'')=>some (.sl k 0 n n,s'')
      | none=>none
     | none=>none
    | false=>none
   | _=>none
  | _=>none
 | .ext k l=>match sg e l with
  | some l=>Db s k l
  | none=>none
 | .delete et m k=>match m.ev e,k.ev e with
  | some m,some k=>match oQ et k with
   | false=>none
   | true=>match m with
    | .qz=>some (.gK [],s)
    | .mp o=>match s.get o with
     | some (.map es c)=>match findKey et k es 0 with
      | some (some (i,_))=>oK (.gK []) (s.set o (.map (es.eraseIdx i) c))
      | some none=>oK (.gK []) (s.set o (.map es c))
      | none=>none
     | _=>none
    | _=>none
  | _,_=>none
 | .tD mx l=>match sg e l with
  | some (d::r)=>nj s (Oh mx d r)
  | _=>none
 | .defer .. =>none
 | .bad=>none
def ij (e:Env):Option Nat->D->Env
 | some t,d=>(t,d)::e
 | none,_=>e
def aI (e:Env):Option (Nat×Bool)->Option Bool
 | none=>some true
 | some (t,b)=>match e.get t with
  | some (.bool c)=>some (c==b)
  | some (.gK [])=>some false
  | _=>none
def oper (C:ay)(b:Nat)(o:bg)(fr:Fr)(s:St):Option (Fr×St):=
 match aI fr.env o.guard with
 | some true=>match o.op with
  | .defer f args=>match f.ev fr.env,sg fr.env args with
   | some (.fn g x y),some l=>some ({ env:=ij fr.env o.dst (.gK []),defers:=(.fn g x y,l)::fr.defers},s)
   | _,_=>none
  | .nv x=>match o.dst,x.ev fr.env with
   | some a,some d=>match fr.env.tQ a && d.st with
    | true=>some ({ fr with env:=(a,.lv d)::fr.env},s)
    | false=>none
   | _,_=>none
  | .iX a sz x v=>match x.yP fr.env,v.ev fr.env with
   | some (.iG a' c),some d=>match Nat.beq a a',fr.env.get a,Nat.beq d.flat.length sz with
    | true,some (.lv w),true=>match w.over c d with
     | some w' =>some ({ fr with env:=ij ((a,.lv w')::fr.env) o.dst (.gK [])},s)
     | none=>none
    | _,_,_=>none
   | _,_=>none
  | op=>match cC C fr.env s (match o.al with | some r=>some (b+r) | none=>none) op with
   | some (d,s')=>some ({ fr with env:=ij fr.env o.dst d},s')
   | none=>none
 | some false=>some ({ fr with env:=ij fr.env o.dst (.gK [])},s)
 | none=>none
def opers (C:ay)(b:Nat):List bg->Fr->St->Option (Fr×St)
 | [],fr,s=>some (fr,s)
 | o::r,fr,s=>match oper C b o fr s with
  | some (fr',s')=>opers C b r fr' s'
  | none=>none
def bC.cW:Option D->List Nat
 | some (.ptr o _)=> [o]
 | some (.jI o _ _ _)=> [o]
 | some (.sl o _ _ _)=> [o]
 | some (.mp o)=> [o]
 | _=> []
def bC (e:Env):eQ->List Nat
 | .load _ x=>bC.cW (x.ev e)
 | .DA x=>bC.cW (x.ev e)
 | .upto _ x=>bC.cW (x.ev e)
 | .qy x=>bC.cW (x.ev e)
 | .eq _ _ _ x y=>bC.cW (x.ev e)++bC.cW (y.ev e)
 | .jY _ x _=>bC.cW (x.ev e)
 | .HE _ x _ _ _=>bC.cW (x.ev e)
 | .len _ x=>bC.cW (x.ev e)
 | .lP x=>bC.cW (x.ev e)
 | .kB x=>bC.cW (x.ev e)
 | .lookup _ _ _ m _=>bC.cW (m.ev e)
 | .append _ _ _ _ y=>bC.cW (y.ev e)
 | .copy _ _ y=>bC.cW (y.ev e)
 | _=> []
def nC (e:Env):eQ->List Nat
 | .store _ x _=>bC.cW (x.ev e)
 | .append _ _ _ x _=>bC.cW (x.ev e)
 | .BG _ x _=>bC.cW (x.ev e)
 | .copy _ x _=>bC.cW (x.ev e)
 | .clear _ _ x=>bC.cW (x.ev e)
 | .zC _ m _ _=>bC.cW (m.ev e)
 | .tf _ _ m _=>bC.cW (m.ev e)
 | .pI m _ _=>bC.cW (m.ev e)
 | .delete _ m _=>bC.cW (m.ev e)
 | .uh x=>bC.cW (x.ev e)
 | _=> []
def eQ.kind:eQ->Nat
 | .mv _ | .EL _ | .pick .. | .build .. | .pX .. | .iv _ | .A8 .. | .bin .. | .un .. | .toInt .. | .rr _ | .Mc .. | .Kv .. | .pj .. | .ki .. | .field .. | .rK .. | .I5 .. | .ML .. | .se .. | .rG .. | .extract .. | .tD .. | .ux _=>0
 | .sP .. =>6
 | .iX .. =>7
 | .nv _=>8
 | .load .. | .DA _ | .upto .. | .qy _ | .eq .. | .lP _ | .kB _ | .HE .. | .jY .. | .lookup .. | .len .. =>1
 | .store .. | .BG .. | .copy .. | .clear .. | .zC .. | .tf .. | .pI .. | .delete .. | .uh _=>2
 | .box .. | .tq .. | .oX .. | .yw _ | .ou .. | .range _=>3
 | .call true _ _=>4
 | .append .. =>9
 | _=>5
def rU (a b:List Nat):Bool:=
 match a with
 | []=>true
 | x::r=>match p8 x b with
  | true=>false
  | false=>rU r b
def gk (e:Env):eQ->List (Nat×Nat×Nat)
 | .load sz x=>match x.ev e with
  | some (.ptr o c)=> [(o,c,sz.getD 1)]
  | _=> []
 | _=> []
abbrev Fp:=List Nat×List Nat×List (Nat×Nat×Nat)
def cF (b:Nat)(e:Env)(o:bg):Fp:=
 match aI e o.guard with
 | some true=>(bC e o.op,(match o.al with
  | some r=>(b+r)::nC e o.op
  | none=>nC e o.op),gk e o.op)
 | _=>([],[],[])
def lz (x y:Fp):Bool:=rU x.2.1 y.2.1 && (rU x.2.1 y.1 && rU x.1 y.2.1)
def fh (acc:List Fp)(y:Fp):List Nat->Bool
 | []=>true
 | i::r=>match acc[i]? with
  | some x=>match lz x y with
   | true=>fh acc y r
   | false=>false
  | none=>false
def Env.cY (e:Env):Option Nat->Bool
 | some t=>e.kC t
 | none=>false
def D.isAgg:D->Bool
 | .agg _=>true
 | _=>false
def cP (l m:List D):List (Nat×Nat×Nat)->Bool
 | []=>true
 | (_,c,n)::r=>D.fw ((l.drop c).take n) ((m.drop c).take n) && cP l m r
def cS (rg:List (Nat×Nat×Nat))(a b:Obj):Bool:=match rg,a,b with
 | r::rs,.var t v,.var t' v' =>Nat.beq t t' && (Nat.beq v.flat.length v'.flat.length && ((v.isAgg==v'.isAgg) && cP v.flat v'.flat (r::rs)))
 | _,a,b=>Obj.beq a b
def dE (rg:List (Nat×Nat×Nat)) (s s' :St):List Nat->Bool
 | []=>false
 | o::r=>match s.get o,s'.get o with
  | some x,some y=>match cS rg x y with
   | true=>dE rg s s' r
   | false=>true
  | none,none=>dE rg s s' r
  | _,_=>true
def cK (acc:List Fp) (s s' :St):List Nat->Bool
 | []=>false
 | i::r=>match acc[i]? with
  | some x=>match dE x.2.2 s s' x.1 with
   | true=>true
   | false=>cK acc s s' r
  | none=>true
def lost (acc:List Fp) (s s' :St)(o:bg)(l:List Nat):Bool:=match Nat.beq o.op.kind 5 with
 | true=>cK acc s s' l
 | false=>false
def T.keys:T Obj->List Nat
 | .nil=> []
 | .node o l r=>(match o with
  | none=> []
  | some _=> [0])++((T.keys l).map (fun k=>2 * k+1)++(T.keys r).map (fun k=>2 * k+2))
def T.diff:T Obj->T Obj->List Nat
 | .nil,t=>T.keys t
 | .node o l r,t=>match t with
  | .nil=>T.keys (.node o l r)
  | .node o' l' r' =>(match o,o' with
   | none,none=> []
   | some x,some y=>(match Obj.beq x y with
    | true=> []
    | false=> [0])
   | _,_=> [0])++((T.diff l l').map (fun k=>2 * k+1)++(T.diff r r').map (fun k=>2 * k+2))
def Jo (s s' :St)(b:Nat)(e:Env)(o:bg):Fp:=match Nat.beq o.op.kind 5 with
 | true=>((cF b e o).1,T.diff s.h s'.h++(cF b e o).2.1,(cF b e o).2.2)
 | false=>cF b e o
def iz (C:ay)(b:Nat):List (bg×List Nat)->List Fp->Fr->St->Option (Fr×St)
 | [],_,fr,s=>some (fr,s)
 | (o,l)::r,acc,fr,s=>match fh acc (cF b fr.env o) l && !(fr.env.cY o.dst) with
  | true=>match oper C b o fr s with
   | some (fr',s')=>match fr'.env.cY o.dst || lost acc s s' o l with
    | false=>iz C b r (acc++ [Jo s s' b fr.env o]) fr' s'
    | true=>none
   | none=>none
  | false=>none
inductive Ex where
 | normal
 | exit (id:Nat)
 | ret
abbrev h9:=List Nat->AC->Fr->St->Option (Ex×Fr×St)
def sM:Nat->Nat->T Obj->T Obj
 | 0,_,h=>h
 | k+1,b,h=>sM k (b+1) (h.set b none)
def lY (b:Nat):Nat->ay->ay
 | 0,C=>C
 | k+1,C=>fun f l s=>match s.ro with
  | false=>C f l s
  | true=>match C f l { s with h:=sM (k+1) b s.h} with
   | some (d,_)=>some (d,s)
   | none=>none
def bX (C:ay)(L:h9):AC->Fr->St->Option (Ex×Fr×St)
 | .skip,fr,s=>some (.normal,fr,s)
 | .sn ops,fr,s=>match opers C 0 ops fr s with
  | some (fr',s')=>some (.normal,fr',s')
  | none=>none
 | .wY k ops,fr,s=>match s.ro && Nat.blt 0 k with
  | true=>none
  | false=>match iz (lY s.n k C) s.n ops [] fr { s with n:=s.n+k} with
   | some (fr',s')=>some (.normal,fr',s')
   | none=>none
 | .seq a b,fr,s=>match bX C L a fr s with
  | some (.normal,fr',s')=>bX C L b fr' s'
  | r=>r
 | .cond c a b,fr,s=>match c.ev fr.env with
  | some (.bool true)=>bX C L a fr s
  | some (.bool false)=>bX C L b fr s
  | _=>none
 | .block id a,fr,s=>match bX C L a fr s with
  | some (.exit i,fr',s')=>match Nat.beq i id with
   | true=>some (.normal,fr',s')
   | false=>some (.exit i,fr',s')
  | r=>r
 | .loop bV a,fr,s=>L bV a fr s
 | .iK bV g ps a b,fr,s=>L [] (.iK bV g ps a b) fr s
 | .exit id,fr,s=>some (.exit id,fr,s)
 | .ret,fr,s=>some (.ret,fr,s)
 | .bad,_,_=>none
def lu (e:Env)(s:St):List wV->Option (List D)
 | []=>some []
 | .tmp t::r=>match bP.ev e (.t t),lu e s r with
  | some d,some l=>some (d::l)
  | _,_=>none
 | .cell a sz::r=>match e.get a with
  | some (.lv v)=>match part v.flat 0 sz,lu e s r with
   | some d,some l=>some (d::l)
   | _,_=>none
  | some p=>match iP s sz p,lu e s r with
   | some d,some l=>some (d::l)
   | _,_=>none
  | none=>none
def uS:Nat->List D->Env
 | _,[]=> []
 | i,d::r=>(i,d)::uS (i+1) r
def leave (C:ay):List (D×List D)->St->Option St
 | [],s=>some s
 | (.fn (.func f) a b,l)::r,s=>match C f (a++l++b) s with
  | some (_,s')=>leave C r s'
  | none=>none
 | (.mw,_)::r,s=>leave C r s
 | _::_,_=>none
def single:List D->D
 | [d]=>d
 | l=> .gK l
def nV (C CD:ay)(L:h9)(fn:dU)(args:List D)(s:St):Option (D×St):=
 match bX C L fn.body { env:=uS 0 args,defers:=[]} s with
 | some (.exit _,_,_)=>none
 | some (_,fr,s')=>match leave CD fr.defers s' with
  | some s'' =>match lu fr.env s'' fn.results with
   | some l=>some (single l,s'')
   | none=>none
  | none=>none
 | none=>none
def vt (C:ay)(L:h9)(fn:dU)(args:List D)(s:St):Option (D×St):=
 match bX C L fn.body { env:=uS 0 args,defers:=[]} s with
 | some (.exit _,_,_)=>none
 | some (_,fr,s')=>match fr.defers with
  | []=>match lu fr.env s' fn.results with
   | some l=>some (single l,s')
   | none=>none
  | _=>none
 | none=>none
def oZ (T:Nat->Option dU)(C:ay)(L:h9):ay:=fun f args s=>match T f with
 | some fn=>vt C L fn args s
 | none=>none
def yS:List D->Bool
 | .lv _::_=>true
 | _=>false
def Env.plain:Env->Bool
 | []=>true
 | (_,d)::r=>match d with
  | .lv _=>false
  | .iG _ _=>false
  | _=>Env.plain r
def pU:List Nat->List D->Env->Option Env
 | [],[],e=>some e
 | t::ps,d::l,e=>pU ps l ((t,d)::e)
 | _,_,_=>none
def PS:Ex->Qz
 | .normal=> .ready
 | .exit i=> .exit i
 | .ret=> .ret
def qn:Ex->Bool
 | .normal=>true
 | _=>false
def St.nN (s:St)(o k:Nat)(st:Qz):Bool:=match s.get o with
 | some (.loop k' st')=>Nat.beq k k' && decide (st=st')
 | _=>false
def Kx (k:Nat):Option (Ex×Fr×St)->Option (D×St)
 | some (e,fr,s)=>match fr.defers,s.nN (k+1) k .busy with
  | [],true=>oK (.bool (qn e)) (s.set (k+1) (.loop k (PS e)))
  | _,_=>none
 | none=>none
def B4 (k:Nat)(b:Fr->St->Option (Ex×Fr×St)):Option (Ex×Fr×St)->Option (D×St)
 | some (.normal,fr,s)=>match s.nN (k+1) k .ready with
  | true=>match s.set (k+1) (.loop k .busy) with
   | some s' =>Kx k (b fr s')
   | none=>none
  | false=>none
 | _=>none
def jZ (k:Nat)(ps:List Nat)(env:Env)(a b:Fr->St->Option (Ex×Fr×St))(H:ay):ay:=fun f l s=>match f,l with
 | 0,.lv (.yl k')::xs=>match Nat.beq k k' with
  | true=>match s.nN (k+1) k .ready,pU ps xs env with
   | true,some e=>B4 k b (a ⟨e,[]⟩ s)
   | _,_=>none
  | false=>H f l s
 | f,l=>H f l s
def BW:Qz->Option Ex
 | .ready=>some .normal
 | .busy=>none
 | .exit i=>some (.exit i)
 | .ret=>some .ret
def Ad (k:Nat)(fr:Fr):Option (D×St)->Option (Ex×Fr×St)
 | some (_,s)=>match s.get (k+1) with
  | some (.loop k' st)=>match Nat.beq k k',BW st,s.set (k+1) .dead with
   | true,some e,some s' =>some (e,{ fr with defers:=(.mw,[])::fr.defers},s')
   | _,_,_=>none
  | _=>none
 | none=>none
def nM (C' :Nat->Env->ay)(bV:List Nat)(g:bP)(fr:Fr)(s:St):Option (Ex×Fr×St):=match g.ev fr.env,s.ro with
 | some (.fn (.func gf) [] caps),false=>match (fr.env.bV bV).plain with
  | true=>Ad s.n fr (C' s.n (fr.env.bV bV) gf (.yl s.n::caps) ((s.bz .dead).bz (.loop s.n .ready)))
  | false=>none
 | _,_=>none
mutual
def dJ (T:Nat->Option dU)(H:ay):Nat->ay
 | 0,_,_,_=>none
 | n+1,f,args,s=>match yS args with
  | true=>H f args s
  | false=>match T f with
   | some fn=>nV (dJ T H n) (oZ T (dJ T H n) (fe T H n)) (fe T H n) fn args s
   | none=>H f args s
def fe (T:Nat->Option dU)(H:ay):Nat->h9
 | 0,_,_,_,_=>none
 | n+1,bV,a,fr,s=>match a with
  | .iK kp g ps x y=>nM (fun k e=>dJ T (jZ k ps e (bX (dJ T H n) (fe T H n) x) (bX (dJ T H n) (fe T H n) y) H) n) kp g fr s
  | a=>match bX (dJ T H n) (fe T H n) a { fr with env:=fr.env.bV bV} s with
   | some (.normal,fr',s')=>fe T H n bV a fr' s'
   | r=>r
end
end Go.Ab
