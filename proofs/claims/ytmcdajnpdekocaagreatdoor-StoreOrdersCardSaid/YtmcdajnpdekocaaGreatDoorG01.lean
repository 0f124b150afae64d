/- Part. -/
import Derived.Calls
set_option linter.unusedSectionVars false
set_option linter.unusedSimpArgs false
set_option linter.unusedVariables false
namespace Go.Ab
class Vals where
 vi:Nat→Int
 vs:Nat→List UInt8
 vb:Nat→Bool
inductive Sym where
 | i (n:Nat) | len (n:Nat) | lin (m c:Int) (a:Sym)
 deriving DecidableEq
def Sym.val [Vals]:Sym→Int
 | .i n=>Vals.vi n
 | .len n=>((Vals.vs n).length:Nat)
 | .lin m c a=>m * a.val+c
inductive D where
 | bool (b:Bool)
 | int (k:IntKind) (n:Int)
 | str (s:List UInt8)
 | nilp
 | ptr (o c:Nat)
 | eptr (o i c e:Nat)
 | vptr (e:D) (c:Nat)
 | vs (nl:Bool) (sz:Nat) (l:List D)
 | sl (o off len cp:Nat)
 | nilm
 | mp (o:Nat)
 | fn (f:Fn) (first cap:List D)
 | nilf
 | ifc (t:Nat) (v:D)
 | nili
 | agg (cs:List D)
 | tup (l:List D)
 | lv (v:D)
 | lptr (a c:Nat)
 | sint (k:IntKind) (a:Sym) (lo hi:Int)
 | sstr (i:Nat) (ex:List (List UInt8)) (lo hi:Nat)
 | sbool (i:Nat)
 | yl (o:Nat)
 deriving Inhabited
def D.flat:D→List D
 | .agg cs=>cs
 | d=> [d]
def D.sc:D→Bool
 | .agg _=>false
 | .tup _=>false
 | .lv _=>false
 | .lptr _ _=>false
 | _=>true
def D.st:D→Bool
 | .agg l=>l.all D.sc
 | d=>d.sc
inductive LSt where
 | ready | busy | exit (id:Nat) | ret
 deriving DecidableEq
inductive Obj where
 | var (ty:Nat) (v:D)
 | arr (sz ty:Nat) (elems:List D) (stable:Nat)
 | map (es:List (Nat×D×D)) (clock:Nat)
 | siter (s:List UInt8) (pos:Nat)
 | dead
 | loop (k:Nat) (st:LSt)
 deriving Inhabited
mutual
def D.beq:D→D→Bool
 | .bool a,.bool b=>a==b
 | .int k a,.int j b=>decide (k=j) && decide (a=b)
 | .str a,.str b=>a==b
 | .nilp,.nilp=>true
 | .ptr o c,.ptr o' c' =>Nat.beq o o' && Nat.beq c c'
 | .eptr o i c e,.eptr o' i' c' e' =>Nat.beq o o' && (Nat.beq i i' && (Nat.beq c c' && Nat.beq e e'))
 | .vptr e c,.vptr e' c' =>Nat.beq c c' && D.beq e e'
 | .vs n z l,.vs n' z' l' =>n==n' && (Nat.beq z z' && D.beqs l l')
 | .sl o a b c,.sl o' a' b' c' =>Nat.beq o o' && (Nat.beq a a' && (Nat.beq b b' && Nat.beq c c'))
 | .nilm,.nilm=>true
 | .mp o,.mp o' =>Nat.beq o o'
 | .fn f x y,.fn f' x' y' =>decide (f=f') && (D.beqs x x' && D.beqs y y')
 | .nilf,.nilf=>true
 | .ifc t d,.ifc t' d' =>Nat.beq t t' && D.beq d d'
 | .nili,.nili=>true
 | .agg l,.agg l' =>D.beqs l l'
 | .tup l,.tup l' =>D.beqs l l'
 | .sint k a lo hi,.sint k' a' lo' hi' =>decide (k=k') && (decide (a=a') && (decide (lo=lo') && decide (hi=hi')))
 | .sstr i ex lo hi,.sstr i' ex' lo' hi' =>Nat.beq i i' && (ex==ex' && (Nat.beq lo lo' && Nat.beq hi hi'))
 | .sbool i,.sbool i' =>Nat.beq i i'
 | .yl i,.yl i' =>Nat.beq i i'
 | .lv a,.lv b=>D.beq a b
 | .lptr a c,.lptr a' c' =>Nat.beq a a' && Nat.beq c c'
 | _,_=>false
def D.beqs:List D→List D→Bool
 | [],[]=>true
 | a::l,b::r=>D.beq a b && D.beqs l r
 | _,_=>false
end
mutual
theorem D.beq_eq:∀(a b:D),D.beq a b=true→a=b:=by
 intro a b h
 cases a <;> cases b <;> simp only [D.beq,Bool.and_eq_true,decide_eq_true_eq,beq_iff_eq,Nat.beq_eq]at h <;> first
  | (cases h; done)
  | rfl
  | (subst h; rfl)
  | (obtain ⟨rfl,rfl⟩:=h; rfl)
  | (obtain ⟨rfl,rfl,rfl⟩:=h; rfl)
  | (obtain ⟨rfl,rfl,rfl,rfl⟩:=h; rfl)
  | (obtain ⟨rfl,h⟩:=h; rw [D.beq_eq _ _ h])
  | (obtain ⟨rfl,rfl,h⟩:=h; rw [D.beqs_eq _ _ h])
  | (obtain ⟨rfl,h1,h2⟩:=h; rw [D.beqs_eq _ _ h1,D.beqs_eq _ _ h2])
  | (rw [D.beqs_eq _ _ h])
  | (rw [D.beq_eq _ _ h])
theorem D.beqs_eq:∀(a b:List D),D.beqs a b=true→a=b
 | [],[],_=>rfl
 | x::l,y::r,h=>by
  simp only [D.beqs,Bool.and_eq_true]at h
  rw [D.beq_eq _ _ h.1,D.beqs_eq _ _ h.2]
 | [],_::_,h=>by simp [D.beqs]at h
 | _::_,[],h=>by simp [D.beqs]at h
end
def zRc:List (Nat×D×D)→List (Nat×D×D)→Bool
 | [],[]=>true
 | (n,k,v)::l,(n',k',v')::r=>Nat.beq n n' && (D.beq k k' && (D.beq v v' && zRc l r))
 | _,_=>false
theorem zWh:∀(a b:List (Nat×D×D)),zRc a b=true→a=b
 | [],[],_=>rfl
 | (n,k,v)::l,(n',k',v')::r,h=>by
  simp only [zRc,Bool.and_eq_true,Nat.beq_eq]at h
  obtain⟨rfl,h1,h2,h3⟩:=h
  rw [D.beq_eq _ _ h1,D.beq_eq _ _ h2,zWh _ _ h3]
 | [],_::_,h=>by simp [zRc]at h
 | _::_,[],h=>by simp [zRc]at h
def Obj.beq:Obj→Obj→Bool
 | .var t v,.var t' v' =>Nat.beq t t' && D.beq v v'
 | .arr z t l s,.arr z' t' l' s' =>Nat.beq z z' && (Nat.beq t t' && (Nat.beq s s' && D.beqs l l'))
 | .map l c,.map l' c' =>Nat.beq c c' && zRc l l'
 | .siter l p,.siter l' p' =>Nat.beq p p' && l==l'
 | .dead,.dead=>true
 | .loop k st,.loop k' st' =>Nat.beq k k' && decide (st=st')
 | _,_=>false
theorem Obj.beq_eq (a b:Obj)(h:Obj.beq a b=true):a=b:=by
 cases a <;> cases b <;> simp only [Obj.beq,Bool.and_eq_true,Nat.beq_eq,beq_iff_eq,decide_eq_true_eq]at h <;> first
  | (cases h; done)
  | rfl
  | (rw [D.beq_eq _ _ h])
  | (obtain ⟨rfl,rfl⟩:=h; rfl)
  | (obtain ⟨rfl,h⟩:=h; rw [D.beq_eq _ _ h])
  | (obtain ⟨rfl,rfl,rfl,h⟩:=h; rw [D.beqs_eq _ _ h])
  | (obtain ⟨rfl,h⟩:=h; rw [zWh _ _ h])
inductive T (α:Type) where
 | nil
 | node (o:Option α) (l r:T α)
namespace T
variable {α:Type}
def get:T α→Nat→Option α
 | .nil,_=>none
 | .node o l r,k=>match Nat.beq k 0 with
  | true=>o
  | false=>match Nat.beq (k % 2) 1 with
   | true=>get l (k / 2)
   | false=>get r (k / 2 - 1)
def put:Nat→T α→Nat→Option α→T α
 | 0,t,_,_=>t
 | f+1,t,k,v=>match t with
  | .nil=>match Nat.beq k 0 with
   | true=> .node v .nil .nil
   | false=>match Nat.beq (k % 2) 1 with
    | true=> .node none (put f .nil (k / 2) v) .nil
    | false=> .node none .nil (put f .nil (k / 2 - 1) v)
  | .node o l r=>match Nat.beq k 0 with
   | true=> .node v l r
   | false=>match Nat.beq (k % 2) 1 with
    | true=> .node o (put f l (k / 2) v) r
    | false=> .node o l (put f r (k / 2 - 1) v)
def set (t:T α)(k:Nat)(v:Option α):T α:=put (k+1) t k v
theorem beq_t {a b:Nat}(h:a=b):Nat.beq a b=true:=by subst h; exact Nat.beq_refl a
theorem beq_f {a b:Nat}(h:a≠b):Nat.beq a b=false:=by
 cases hb:Nat.beq a b with
 | true=>exact absurd (Nat.eq_of_beq_eq_true hb) h
 | false=>rfl
theorem get_node0 (o:Option α)(l r:T α):get (.node o l r) 0=o:=rfl
theorem get_node1 (o:Option α)(l r:T α){j:Nat}(h0:j≠0)(h:j % 2=1):get (.node o l r) j=get l (j / 2):=by
 simp only [get,beq_f h0,beq_t h]
theorem get_node2 (o:Option α)(l r:T α){j:Nat}(h0:j≠0)(h:j % 2≠1):get (.node o l r) j=get r (j / 2 - 1):=by
 simp only [get,beq_f h0,beq_f h]
theorem put_open (f:Nat)(t:T α)(k:Nat)(v:Option α):
  ∃o l r,(∀j,get t j=get (.node o l r) j)∧put (f+1) t k v=match Nat.beq k 0 with
   | true=> .node v l r
   | false=>match Nat.beq (k % 2) 1 with
    | true=> .node o (put f l (k / 2) v) r
    | false=> .node o l (put f r (k / 2 - 1) v):=by
 cases t with
 | nil=>
  refine⟨none,.nil,.nil,fun j=> ?_,by simp only [put]⟩
  simp only [get]; split
  ·rfl
  ·split <;> rfl
 | node o l r=>exact ⟨o,l,r,fun _=>rfl,by simp only [put]⟩
theorem get_put (f:Nat):∀(t:T α) (k j:Nat) (v:Option α),k < f→get (put f t k v) j=if j=k then v else get t j:=by
 induction f with
 | zero=>intro t k j v h; omega
 | succ f ih=>
  intro t k j v h
  obtain⟨o,l,r,hg,hp⟩:=put_open f t k v
  rw [hg,hp]
  by_cases hk:k=0
  ·subst hk
   by_cases hj:j=0
   ·subst hj; simp [get_node0]
   ·simp only [if_neg hj]
    by_cases g:j % 2=1
    ·rw [get_node1 _ _ _ hj g,get_node1 _ _ _ hj g]
    ·rw [get_node2 _ _ _ hj g,get_node2 _ _ _ hj g]
  ·simp only [beq_f hk]
   by_cases g:k % 2=1
   ·simp only [beq_t g]
    by_cases hj:j=0
    ·subst hj; rw [get_node0,get_node0,if_neg (Ne.symm hk)]
    ·by_cases q:j % 2=1
     ·rw [get_node1 _ _ _ hj q,get_node1 _ _ _ hj q,ih _ _ _ _ (by omega)]
      by_cases e:j / 2=k / 2
      ·rw [if_pos e,if_pos (by omega)]
      ·rw [if_neg e,if_neg (fun e' =>e (by rw [e']))]
     ·rw [get_node2 _ _ _ hj q,get_node2 _ _ _ hj q,if_neg (fun e' =>q (by rw [e']; exact g))]
   ·simp only [beq_f g]
    by_cases hj:j=0
    ·subst hj; rw [get_node0,get_node0,if_neg (Ne.symm hk)]
    ·by_cases q:j % 2=1
     ·rw [get_node1 _ _ _ hj q,get_node1 _ _ _ hj q,if_neg (fun e' =>g (by rw [← e']; exact q))]
     ·rw [get_node2 _ _ _ hj q,get_node2 _ _ _ hj q,ih _ _ _ _ (by omega)]
      by_cases e:j / 2 - 1=k / 2 - 1
      ·rw [if_pos e,if_pos (by omega)]
      ·rw [if_neg e,if_neg (fun e' =>e (by rw [e']))]
theorem get_set (t:T α)(k j:Nat)(v:Option α):get (set t k v) j=if j=k then v else get t j:=get_put (k+1) t k j v (by omega)
end T
structure St where
 n:Nat
 h:T Obj
 lk:List Nat
 ro:Bool
def memN (o:Nat):List Nat→Bool
 | []=>false
 | x::r=>match Nat.beq x o with
  | true=>true
  | false=>memN o r
def St.get (s:St)(o:Nat):Option Obj:=s.h.get o
def St.set0 (s:St)(o:Nat)(x:Obj):St:= { s with h:=s.h.set o (some x)}
def St.set (s:St)(o:Nat)(x:Obj):Option St:=
 match s.ro with
 | true=>none
 | false=>match memN o s.lk with
  | true=>none
  | false=>some (s.set0 o x)
def St.push0 (s:St)(x:Obj):St:= { s with n:=s.n+1,h:=s.h.set s.n (some x)}
def St.mk' (s:St)(al:Option Nat)(x:Obj):Option (Nat×St):=
 match s.ro with
 | true=>none
 | false=>match al with
  | none=>some (s.n,s.push0 x)
  | some k=>match s.get k with
   | none=>match Nat.blt k s.n with
    | true=>some (k,s.set0 k x)
    | false=>none
   | some _=>none
inductive Opd where
 | t (n:Nat)
 | c (d:D)
mutual
inductive ET where
 | bool | int | str | ptr | slice | map | func | iface
 | st (l:ETs)
inductive ETs where
 | nil
 | cons (off:Nat) (s:Option Nat) (e:ET) (r:ETs)
end
inductive Ext where
 | nop | race | idp | aload (k:IntKind) | astore | acas (k:IntKind) | aadd (k:IntKind)
 deriving DecidableEq
inductive Recv where
 | self | load (off:Nat) (s:Option Nat) | addr (off:Nat) | part (off:Nat) (s:Option Nat)
inductive AOp where
 | mv (x:Opd)
 | pick (c a b:Opd)
 | box (ty:Nat) (x:Opd)
 | lbox (x:Opd)
 | vslice (sz:Nat) (z:D) (len:Nat) (parts:List (Nat×Opd))
 | build (z:List D) (parts:List (Nat×Nat×Opd))
 | bslice (sz ty:Nat) (z:D) (len:Nat) (parts:List (Nat×Opd))
 | load (s:Option Nat) (x:Opd)
 | store (sz:Nat) (x v:Opd)
 | lload (a:Nat) (s:Option Nat) (x:Opd)
 | lstore (a:Nat) (sz:Nat) (x v:Opd)
 | nilchk (x:Opd)
 | bin (op:BinOp) (x y:Opd)
 | eq (et:ET) (neg oneConst:Bool) (x y:Opd)
 | un (op:UnOp) (x:Opd)
 | toInt (k:IntKind) (x:Opd)
 | intToStr (x:Opd)
 | strId (x:Opd)
 | strToBytes (ty:Nat) (x:Opd)
 | bytesToStr (x:Opd)
 | mkif (t:Nat) (x:Opd)
 | mkfn (f:Fn) (first cap:List Opd)
 | mkmap (r:Option Opd)
 | mkslice (sz bytes ty:Nat) (z:D) (len cap:Opd)
 | sstr (x:Opd) (lo hi:Option Opd)
 | ssl (sz:Nat) (x:Opd) (lo hi mx:Option Opd)
 | aslice (n:Nat) (x:Opd)
 | faddr (off:Nat) (x:Opd)
 | field (off:Nat) (s:Option Nat) (x:Opd)
 | iaddr (sz:Nat) (x i:Opd)
 | iaddrA (len sz:Nat) (x i:Opd)
 | sidx (x i:Opd)
 | aidx (len sz:Nat) (s:Bool) (x i:Opd)
 | lookup (et:ET) (z:D) (ok:Bool) (m k:Opd)
 | mupd (et:ET) (m k v:Opd)
 | mentry (et:ET) (z:D) (m k:Opd)
 | mestore (m s v:Opd)
 | range (x:Opd)
 | nexts (x:Opd)
 | tassert (t:Nat) (z:D) (ok:Bool) (x:Opd)
 | tassertI (n:Nat) (ts:List Nat) (ok:Bool) (x:Opd)
 | extract (i:Nat) (x:Opd)
 | call (ro:Bool) (f:Nat) (args:List Opd)
 | callv (f:Opd) (args:List Opd)
 | invoke (tbl:List (Nat×Nat×Recv)) (x:Opd) (args:List Opd)
 | len (k:Nat) (x:Opd)
 | append (sz bytes ty:Nat) (x y:Opd)
 | copy (sz:Nat) (x y:Opd)
 | clear (sz:Nat) (z:D) (x:Opd)
 | runesToStr (x:Opd)
 | bytesId (x:Opd)
 | uptr (x:Opd)
 | upto (l:List (Nat×Nat×Nat)) (x:Opd)
 | sldata (x:Opd)
 | ustr (ty:Nat) (x y:Opd)
 | ext (k:Ext) (l:List Opd)
 | delete (et:ET) (m k:Opd)
 | minmax (mx:Bool) (x:List Opd)
 | defer (f:Opd) (args:List Opd)
 | bad
structure zPk where
 dst:Option Nat
 op:AOp
 guard:Option (Nat×Bool)
 al:Option Nat
inductive AC where
 | skip
 | reg (ops:List zPk)
 | dreg (k:Nat) (ops:List (zPk×List Nat))
 | seq (a b:AC)
 | cond (c:Opd) (a b:AC)
 | block (id:Nat) (a:AC)
 | loop (keep:List Nat) (a:AC)
 | exit (id:Nat)
 | ret
 | bad
 | rangef (keep:List Nat) (g:Opd) (ps:List Nat) (a b:AC)
inductive ARes where
 | tmp (t:Nat)
 | cell (a:Nat) (s:Option Nat)
structure AFn where
 results:List ARes
 body:AC
def Opd.sl:Opd→List Nat
 | .t n=> [n]
 | .c _=> []
def oSl:Option Opd→List Nat
 | some x=>x.sl
 | none=> []
def lSl (l:List Opd):List Nat:=l.flatMap Opd.sl
def AOp.sl:AOp→List Nat
 | .mv x | .box _ x | .lbox x | .load _ x | .nilchk x | .un _ x | .toInt _ x | .intToStr x | .strId x | .strToBytes _ x | .bytesToStr x | .mkif _ x | .faddr _ x | .field _ _ x | .range x | .nexts x | .tassert _ _ _ x | .tassertI _ _ _ x | .extract _ x | .len _ x | .clear _ _ x | .runesToStr x | .bytesId x | .uptr x | .upto _ x | .sldata x | .aslice _ x=>x.sl
 | .pick a b c=>a.sl++b.sl++c.sl
 | .vslice _ _ _ p | .bslice _ _ _ _ p=>p.flatMap fun q=>q.2.sl
 | .build _ p=>p.flatMap fun q=>q.2.2.sl
 | .store _ x v=>x.sl++v.sl
 | .lload a _ x=>a::x.sl
 | .lstore a _ x v=>a::x.sl++v.sl
 | .bin _ x y | .eq _ _ _ x y | .iaddr _ x y | .iaddrA _ _ x y | .sidx x y | .aidx _ _ _ x y | .append _ _ _ x y | .copy _ x y | .delete _ x y | .ustr _ x y=>x.sl++y.sl
 | .mkfn _ a b=>lSl a++lSl b
 | .mkmap r=>oSl r
 | .mkslice _ _ _ _ x y=>x.sl++y.sl
 | .sstr x a b=>x.sl++oSl a++oSl b
 | .ssl _ x a b c=>x.sl++oSl a++oSl b++oSl c
 | .lookup _ _ _ x y | .mentry _ _ x y=>x.sl++y.sl
 | .mupd _ x y z | .mestore x y z=>x.sl++y.sl++z.sl
 | .call _ _ l=>lSl l
 | .callv f l=>f.sl++lSl l
 | .invoke _ x l=>x.sl++lSl l
 | .ext _ l=>lSl l
 | .minmax _ l=>lSl l
 | .defer f l=>f.sl++lSl l
 | .bad=> []
abbrev Env:=List (Nat×D)
def Env.get:Env→Nat→Option D
 | [],_=>none
 | (t,d)::r,s=>match Nat.beq t s with
  | true=>some d
  | false=>Env.get r s
def Env.keep (e:Env):List Nat→Env
 | []=> []
 | t::r=>match e.get t with
  | some d=>(t,d)::Env.keep e r
  | none=>Env.keep e r
structure Fr where
 env:Env
 defers:List (D×List D)
def Env.isLv (e:Env)(a:Nat):Bool:=
 match e.get a with
 | some (.lv _)=>true
 | _=>false
def Opd.ev (e:Env):Opd→Option D
 | .t n=>match e.get n with
  | some (.lv _)=>none
  | some (.lptr _ _)=>none
  | r=>r
 | .c d=>some d
def Opd.evp (e:Env):Opd→Option D
 | .t n=>match e.get n with
  | some (.lv _)=>some (.lptr n 0)
  | r=>r
 | .c d=>some d
def Env.noL (a:Nat):Env→Bool
 | []=>true
 | (_,d)::r=>match d with
  | .lptr b _=>match Nat.beq a b with
   | true=>false
   | false=>Env.noL a r
  | _=>Env.noL a r
def evs (e:Env):List Opd→Option (List D)
 | []=>some []
 | x::r=>match x.ev e with
  | some d=>match evs e r with
   | some l=>some (d::l)
   | none=>none
  | none=>none
def evo (e:Env):Option Opd→Option (Option D)
 | none=>some none
 | some x=>match x.ev e with
  | some d=>some (some d)
  | none=>none
def over {α:Type}:List α→Nat→List α→List α
 | cs,0,vs=>vs++cs.drop vs.length
 | [],_,_=> []
 | c::cs,n+1,vs=>c::over cs n vs
def D.over (e:D)(c:Nat)(v:D):Option D:=
 match v.st with
 | false=>none
 | true=>match e with
  | .agg cs=>match Nat.ble (c+v.flat.length) cs.length with
   | true=>some (.agg (Ab.over cs c v.flat))
   | false=>none
  | _=>match Nat.beq c 0,v.sc with
   | true,true=>some v
   | _,_=>none
def zZg:List D→List (Nat×Nat×D)→Option (List D)
 | cs,[]=>some cs
 | cs,(off,sz,v)::r=>match Nat.beq v.flat.length sz,v.st with
  | true,true=>match Nat.ble (off+sz) cs.length with
   | true=>zZg (over cs off v.flat) r
   | false=>none
  | _,_=>none
def zFd (e:Env):List (Nat×Nat×Opd)→Option (List (Nat×Nat×D))
 | []=>some []
 | (o,s,x)::r=>match x.ev e with
  | some d=>match zFd e r with
   | some l=>some ((o,s,d)::l)
   | none=>none
  | none=>none
def zQy (sz:Nat):List D→List (Nat×D)→Option (List D)
 | l,[]=>some l
 | l,(i,v)::r=>match Nat.beq v.flat.length sz,v.st with
  | true,true=>match Nat.blt i l.length with
   | true=>zQy sz (l.set i v) r
   | false=>none
  | _,_=>none
def zBw (e:Env):List (Nat×Opd)→Option (List (Nat×D))
 | []=>some []
 | (i,x)::r=>match x.ev e with
  | some d=>match zBw e r with
   | some l=>some ((i,d)::l)
   | none=>none
  | none=>none
def part (cs:List D)(c:Nat):Option Nat→Option D
 | some s=>match Nat.ble (c+s) cs.length with
  | true=>some (.agg ((cs.drop c).take s))
  | false=>none
 | none=>cs[c]?
def outI (lo hi c:Int):Bool:=decide (c < lo) || decide (hi < c)
def outS (ex:List (List UInt8))(lo hi:Nat)(c:List UInt8):Bool:=Nat.blt c.length lo || (Nat.blt hi c.length || ex.any (· ==c))
def zDt (c:Bool)(b:Bool):Option Bool:=match c with
 | true=>some b
 | false=>none
def eqI:D→D→Option Bool
 | .int k a,.int j b=>zDt (decide (k=j)) (a==b)
 | .sint k _ lo hi,.int j c=>zDt (decide (k=j) && outI lo hi c) false
 | .int j c,.sint k _ lo hi=>zDt (decide (k=j) && outI lo hi c) false
 | .sint k a _ _,.sint j b _ _=>zDt (decide (k=j) && decide (a=b)) true
 | _,_=>none
def eqS:D→D→Option Bool
 | .str a,.str b=>some (a==b)
 | .sstr _ ex lo hi,.str c=>zDt (outS ex lo hi c) false
 | .str c,.sstr _ ex lo hi=>zDt (outS ex lo hi c) false
 | .sstr i _ _ _,.sstr j _ _ _=>zDt (Nat.beq i j) true
 | _,_=>none
def eqB1:D→D→Option Bool
 | .bool a,.bool b=>some (a==b)
 | .sbool i,.sbool j=>zDt (Nat.beq i j) true
 | _,_=>none
mutual
def eqT (oc:Bool):ET→D→D→Option Bool
 | .bool,x,y=>eqB1 x y
 | .int,x,y=>eqI x y
 | .str,x,y=>eqS x y
 | .ptr,x,y=>match x,y with
  | .nilp,.nilp=>some true
  | .nilp,.ptr .. =>some false
  | .ptr ..,.nilp=>some false
  | .nilp,.eptr .. =>some false
  | .eptr ..,.nilp=>some false
  | .nilp,.vptr .. =>some false
  | .vptr ..,.nilp=>some false
  | _,_=>none
 | .slice,x,y=>match x,y with
  | .vs n _ _,.vs true _ _=>some n
  | .vs true _ _,.vs n _ _=>some n
  | .sl ..,.vs true _ _=>some false
  | .vs true _ _,.sl .. =>some false
  | _,_=>none
 | .map,x,y=>match x,y with
  | .nilm,.nilm=>some true
  | .nilm,.mp _=>some false
  | .mp _,.nilm=>some false
  | _,_=>none
 | .func,x,y=>match x,y with
  | .nilf,.nilf=>some true
  | .nilf,.fn .. =>some false
  | .fn ..,.nilf=>some false
  | _,_=>none
 | .iface,x,y=>match x,y with
  | .nili,.nili=>match oc with
   | true=>some true
   | false=>none
  | .nili,.ifc .. =>some false
  | .ifc ..,.nili=>some false
  | .ifc t _,.ifc u _=>match Nat.beq t u with
   | true=>none
   | false=>some false
  | _,_=>none
 | .st l,x,y=>match x,y with
  | .agg a,.agg b=>eqTs l a b
  | _,_=>none
def eqTs:ETs→List D→List D→Option Bool
 | .nil,_,_=>some true
 | .cons off s e r,a,b=>match part a off s,part b off s with
  | some x,some y=>match eqT false e x y with
   | some true=>eqTs r a b
   | some false=>some false
   | none=>none
  | _,_=>none
end
def eqP (s:St):D→D→Option Bool
 | .ptr o c,.ptr o' c' =>match s.get o,s.get o' with
  | some (.var _ _),some (.var _ _)=>some (Nat.beq o o' && Nat.beq c c')
  | _,_=>none
 | _,_=>none
def zEk:List UInt8→List UInt8→Bool
 | _,[]=>false
 | [],_::_=>true
 | a::x,b::y=>a < b || (a==b && zEk x y)
def zLp (op:BinOp)(k:IntKind)(a b:Int):Option D:=
 match op with
 | .add=>some (.int k (k.wrap (a+b)))
 | .sub=>some (.int k (k.wrap (a - b)))
 | .mul=>some (.int k (k.wrap (a * b)))
 | .quo=>if b=0 then none else some (.int k (k.wrap (a.tdiv b)))
 | .rem=>if b=0 then none else some (.int k (a.tmod b))
 | .and=>some (.int k (k.wrap ((BitVec.ofInt k.bits a &&& BitVec.ofInt k.bits b).toNat)))
 | .or=>some (.int k (k.wrap ((BitVec.ofInt k.bits a ||| BitVec.ofInt k.bits b).toNat)))
 | .xor=>some (.int k (k.wrap ((BitVec.ofInt k.bits a ^^^ BitVec.ofInt k.bits b).toNat)))
 | .andNot=>some (.int k (k.wrap ((BitVec.ofInt k.bits a &&& ~~~(BitVec.ofInt k.bits b)).toNat)))
 | .eql=>some (.bool (a==b))
 | .neq=>some (.bool (a !=b))
 | .lss=>some (.bool (decide (a < b)))
 | .leq=>some (.bool (decide (a≤b)))
 | .gtr=>some (.bool (decide (a > b)))
 | .geq=>some (.bool (decide (a ≥ b)))
 | _=>none
def zOp (op:BinOp)(a b:List UInt8):Option D:=
 match op with
 | .add=>match Nat.ble (a.length+b.length) 4611686018427387904 with
  | true=>some (.str (a++b))
  | false=>none
 | .eql=>some (.bool (a==b))
 | .neq=>some (.bool (!(a==b)))
 | .lss=>some (.bool (zEk a b))
 | .leq=>some (.bool (zEk a b || a==b))
 | .gtr=>some (.bool (!(zEk a b || a==b)))
 | .geq=>some (.bool (!(zEk a b)))
 | _=>none
def yHq (x y:D):Option D:=match eqI x y with
 | some b=>some (.bool b)
 | none=>match eqS x y with
  | some b=>some (.bool b)
  | none=>none
def zXb:D→D→Option D
 | .sint k _ lo hi,.int j c=>match decide (k=j) with
  | true=>match decide (hi < c),decide (c≤lo) with
   | true,_=>some (.bool true)
   | _,true=>some (.bool false)
   | _,_=>none
  | false=>none
 | .int j c,.sint k _ lo hi=>match decide (k=j) with
  | true=>match decide (c < lo),decide (hi≤c) with
   | true,_=>some (.bool true)
   | _,true=>some (.bool false)
   | _,_=>none
  | false=>none
 | _,_=>none
def mkLin (m c:Int):Sym→Sym
 | .lin m' c' a=> .lin (m * m') (m * c' +c) a
 | a=> .lin m c a
def zLn (k:IntKind)(m c:Int)(a:Sym)(lo hi:Int):Option D:=
 match decide (k= .i64),decide (-9223372036854775808≤lo),decide (hi≤9223372036854775807) with
 | true,true,true=>some (.sint k (mkLin m c a) lo hi)
 | _,_,_=>none
def zZm:D→D→Option D
 | .sint k a lo hi,.int j c=>match decide (k=j) with
  | true=>zLn k 1 c a (lo+c) (hi+c)
  | false=>none
 | .int j c,.sint k a lo hi=>match decide (k=j) with
  | true=>zLn k 1 c a (lo+c) (hi+c)
  | false=>none
 | _,_=>none
def zZl:D→D→Option D
 | .sint k a lo hi,.int j c=>match decide (k=j) with
  | true=>zLn k 1 (-c) a (lo - c) (hi - c)
  | false=>none
 | .int j c,.sint k a lo hi=>match decide (k=j) with
  | true=>zLn k (-1) c a (c - hi) (c - lo)
  | false=>none
 | _,_=>none
def zUq:Option D→Option D
 | some (.bool b)=>some (.bool (!b))
 | _=>none
def binD (op:BinOp)(x y:D):Option D:=
 match op,x,y with
 | .shl,.int k a,.int _ b=>if b < 0 then none else some (.int k (k.wrap (a * 2 ^ (min b.toNat k.bits))))
 | .shr,.int k a,.int _ b=>if b < 0 then none else some (.int k (a.fdiv (2 ^ (min b.toNat k.bits))))
 | op,.int k a,.int j b=>match decide (k=j) with
  | true=>zLp op k a b
  | false=>none
 | op,.str a,.str b=>zOp op a b
 | .eql,x,y=>yHq x y
 | .neq,x,y=>match yHq x y with
  | some (.bool b)=>some (.bool (!b))
  | _=>none
 | .lss,x,y=>zXb x y
 | .gtr,x,y=>zXb y x
 | .geq,x,y=>zUq (zXb x y)
 | .leq,x,y=>zUq (zXb y x)
 | .add,x,y=>zZm x y
 | .sub,x,y=>zZl x y
 | _,_,_=>none
def unD (op:UnOp)(x:D):Option D:=
 match op,x with
 | .neg,.int k n=>some (.int k (k.wrap (0 - n)))
 | .xor,.int k n=>some (.int k (k.wrap ((BitVec.ofInt k.bits (if k.signed then -1 else k.max) ^^^ BitVec.ofInt k.bits n).toNat)))
 | .not,.bool b=>some (.bool (!b))
 | _,_=>none
def idx:D→Option Nat
 | .int _ n=>if 0≤n then some n.toNat else none
 | _=>none
def idxo (d:Nat):Option D→Option Nat
 | none=>some d
 | some x=>idx x
def zBe:Option D→Nat→Option Nat
 | none,_=>none
 | some _,n=>some n
def okD (ok:Bool)(v:D)(b:Bool):D:=match ok with
 | true=> .tup [v,.bool b]
 | false=>v
def goI (n:Int):D:= .int .i64 n
def zXd (t c n:Nat):List (Nat×Nat×Nat)→Bool
 | []=>false
 | (t',c',n')::r=>match Nat.beq t t' && (Nat.beq c c' && Nat.beq n n') with
  | true=>true
  | false=>zXd t c n r
def zPr (s:St)(sz:Option Nat):D→Option D
 | .ptr o c=>match s.get o with
  | some (.var _ v)=>part v.flat c sz
  | _=>none
 | .eptr o i c e=>match s.get o with
  | some (.arr _ _ es st)=>match Nat.ble st e with
   | true=>match es[i]? with
    | some d=>part d.flat c sz
    | none=>none
   | false=>none
  | _=>none
 | .vptr e c=>part e.flat c sz
 | _=>none
def fadd (off:Nat):D→Option D
 | .ptr o c=>some (.ptr o (c+off))
 | .eptr o i c e=>some (.eptr o i (c+off) e)
 | .vptr e c=>some (.vptr e (c+off))
 | _=>none
def zQw (s:St)(v:D):Recv→Option D
 | .self=>some v
 | .load off sz=>match fadd off v with
  | some p=>zPr s sz p
  | none=>none
 | .addr off=>fadd off v
 | .part off sz=>match v with
  | .agg cs=>part cs off sz
  | _=>none
def tblR:List (Nat×Nat×Recv)→Nat→Option (Nat×Recv)
 | [],_=>none
 | (t,r)::l,k=>match Nat.beq t k with
  | true=>some r
  | false=>tblR l k
def zCd (s:St)(sz:Nat)(p v:D):Option St:=
 match Nat.beq v.flat.length sz with
 | false=>none
 | true=>match p with
  | .ptr o c=>match s.get o with
   | some (.var t e)=>match e.over c v with
    | some e' =>s.set o (.var t e')
    | none=>none
   | _=>none
  | .eptr o i c e=>match s.get o with
   | some (.arr z t es _)=>match Nat.beq e es.length with
    | true=>match es[i]? with
     | some d=>match d.over c v with
      | some d' =>s.set o (.arr z t (es.set i d') es.length)
      | none=>none
     | none=>none
    | false=>none
   | _=>none
  | _=>none
def items (s:St):D→Option (Nat×List D)
 | .vs _ sz l=>some (sz,l)
 | .sl o off len cp=>match s.get o with
  | some (.arr sz _ es st)=>match Nat.ble (off+len) es.length,Nat.ble st (off+cp) with
   | true,true=>some (sz,(es.drop off).take len)
   | _,_=>none
  | _=>none
 | _=>none
def lenD (s:St):Nat→D→Option Nat
 | 0,d=>match d with
  | .str l=>some l.length
  | _=>none
 | 1,d=>match d with
  | .vs _ _ l=>some l.length
  | .sl _ _ n _=>some n
  | _=>none
 | _,d=>match d with
  | .nilm=>some 0
  | .mp o=>match s.get o with
   | some (.map es _)=>some es.length
   | _=>none
  | _=>none
def zEz (s:St)(sz:Nat)(x:D)(i:Nat):Option D:=
 match x with
 | .vs _ z l=>match Nat.beq z sz with
  | true=>match l[i]? with
   | some e=>some (.vptr e 0)
   | none=>none
  | false=>none
 | .sl o off len cp=>match s.get o with
  | some (.arr z _ es st)=>match Nat.beq z sz,Nat.blt i len,Nat.ble (off+len) es.length,Nat.ble st (off+cp) with
   | true,true,true,true=>some (.eptr o (off+i) 0 (off+cp))
   | _,_,_,_=>none
  | _=>none
 | _=>none
def cutD (x:D)(lo:Nat)(hi mx:Option Nat):Option D:=
 match x with
 | .vs nl sz l=>
  let h:=hi.getD l.length
  let m:=mx.getD l.length
  match Nat.ble lo h,Nat.ble h m,Nat.ble m l.length with
  | true,true,true=>some (.vs nl sz ((l.take h).drop lo))
  | _,_,_=>none
 | .sl o off len cp=>
  let h:=hi.getD len
  match mx with
  | some m=>match Nat.ble lo h,Nat.ble h m,Nat.ble m cp with
   | true,true,true=>some (.sl o (off+lo) (h - lo) (m - lo))
   | _,_,_=>none
  | none=>match Nat.ble lo h,Nat.ble h cp with
   | true,true=>some (.sl o (off+lo) (h - lo) (cp - lo))
   | _,_=>none
 | _=>none
def mxE:Nat:=2147483648
def zAn (s:St)(al:Option Nat)(sz ty:Nat)(x:D)(l:List D):Option (D×St):=
 match l with
 | []=>match x with
  | .vs .. =>some (x,s)
  | .sl o _ _ _=>match s.get o with
   | some (.arr ..)=>some (x,s)
   | _=>none
  | _=>none
 | _=>match x with
  | .vs true _ _=>match Nat.ble l.length mxE with
   | true=>match s.mk' al (.arr sz ty l 0) with
    | some (k,s')=>some (.sl k 0 l.length l.length,s')
    | none=>none
   | false=>none
  | .sl o off len _=>match s.get o with
   | some (.arr z t es st)=>match Nat.beq z sz && Nat.beq t ty,Nat.ble (off+len) es.length,Nat.ble st (off+len),Nat.ble (len+l.length) mxE with
    | true,true,true,true=>match Nat.beq (off+len) es.length with
     | true=>match s.set o (.arr z t (es++l) st) with
      | some s' =>some (.sl o off (len+l.length) (len+l.length),s')
      | none=>none
     | false=>match s.set o .dead with
      | some s' =>match s'.mk' al (.arr z t (es.take (off+len)++l) 0) with
       | some (k,s'')=>some (.sl k off (len+l.length) (len+l.length),s'')
       | none=>none
      | none=>none
    | _,_,_,_=>none
   | _=>none
  | _=>none
def zOj:D→Bool
 | .bool _ | .int _ _ | .str _ | .nilp | .nilm | .nilf | .nili=>true
 | _=>false
def zUr:D→Bool
 | .agg l=>l.all zOj
 | d=>zOj d
def zBn (s:St)(sz:Nat)(x:D)(l:List D):Option St:=
 match x with
 | .sl o off len cp=>match s.get o with
  | some (.arr z t es st)=>match Nat.beq z sz,Nat.beq (off+len) es.length,Nat.ble l.length len with
   | true,true,true=>s.set o (.arr z t (over es off l) es.length)
   | true,false,true=>match (Nat.ble (off+len) es.length && Nat.ble st (off+cp)) && (l.all zUr && D.beqs ((es.drop off).take l.length) l) with
    | true=>some s
    | false=>none
   | _,_,_=>none
  | _=>none
 | .vs _ _ []=>match l with
  | []=>some s
  | _=>none
 | _=>none
def allSz (sz:Nat):List D→Bool
 | []=>true
 | d::r=>Nat.beq d.flat.length sz && d.st && allSz sz r
def zHu (l:List D):Option (List UInt8):=
 match l with
 | []=>some []
 | .int .i32 n::r=>match zHu r with
  | some b=>some ((Utf8.encode n).data.toList++b)
  | none=>none
 | _=>none
mutual
def keyD:ET→D→Bool
 | .bool,x=>match x with
  | .bool _=>true
  | .sbool _=>true
  | _=>false
 | .int,x=>match x with
  | .int _ _=>true
  | .sint .. =>true
  | _=>false
 | .str,x=>match x with
  | .str _=>true
  | .sstr .. =>true
  | _=>false
 | .st l,x=>match x with
  | .agg a=>yHr l a
  | _=>false
 | _,_=>false
def yHr:ETs→List D→Bool
 | .nil,_=>true
 | .cons off s e r,a=>match part a off s with
  | some x=>keyD e x && yHr r a
  | none=>false
end
def zZd:D→D→Bool
 | .bool a,.bool b=>a==b
 | .int j a,.int k b=>decide (j=k) && a==b
 | .str a,.str b=>a==b
 | _,_=>false
def findKey (et:ET)(k:D):List (Nat×D×D)→Nat→Option (Option (Nat×D))
 | [],_=>some none
 | (_,k',v)::r,i=>match eqT false et k k' with
  | some true=>some (some (i,v))
  | some false=>findKey et k r (i+1)
  | none=>none
def setAt {α:Type}:List α→Nat→(α→α)→List α
 | [],_,_=> []
 | a::r,0,f=>f a::r
 | a::r,n+1,f=>a::setAt r n f
def zHd (b:Int):List (Nat×D×D)→Nat→Option Nat
 | [],_=>none
 | (n,_,_)::r,i=>if (n:Int)=b then some i else zHd b r (i+1)
def tblGet:List (Nat×Nat)→Nat→Option Nat
 | [],_=>none
 | (t,f)::r,u=>match Nat.beq t u with
  | true=>some f
  | false=>tblGet r u
def bytesOf (l:List D):Option (List UInt8):=
 match l with
 | []=>some []
 | .int .u8 n::r=>match bytesOf r with
  | some b=>some (UInt8.ofNat n.toNat::b)
  | none=>none
 | _=>none
def minI (mx:Bool):D→List D→Option D
 | d,[]=>some d
 | .int k a,.int j b::r=>match decide (k=j) with
  | true=>minI mx (.int k (if mx then (if b > a then b else a) else (if b < a then b else a))) r
  | false=>none
 | _,_=>none
abbrev zAa:=Nat→List D→St→Option (D×St)
def ofO (s:St):Option D→Option (D×St)
 | some d=>some (d,s)
 | none=>none
def ofS (d:D):Option St→Option (D×St)
 | some s=>some (d,s)
 | none=>none
def extD (s:St)(k:Ext)(l:List D):Option (D×St):=
 match k,l with
 | .nop,_=>some (.tup [],s)
 | .race,[.ptr _ _]=>some (.tup [],s)
 | .idp,[.ptr o c]=>some (.ptr o c,s)
 | .idp,[.nilp]=>some (.nilp,s)
 | .aload k,[.ptr o c]=>match zPr s none (.ptr o c) with
  | some (.int j n)=>match decide (k=j) with
   | true=>some (.int j n,s)
   | false=>none
  | _=>none
 | .astore,[.ptr o c,.int j v]=>ofS (.tup []) (zCd s 1 (.ptr o c) (.int j v))
 | .acas k,[.ptr o c,.int _ a,.int j b]=>match zPr s none (.ptr o c) with
  | some (.int j' x)=>match decide (k=j) && decide (k=j') with
   | true=>match x==a with
    | true=>ofS (.bool true) (zCd s 1 (.ptr o c) (.int j b))
    | false=>some (.bool false,s)
   | false=>none
  | _=>none
 | .aadd k,[.ptr o c,.int _ b]=>match zPr s none (.ptr o c) with
  | some (.int j x)=>match decide (k=j) with
   | true=>ofS (.int k (k.wrap (x+b))) (zCd s 1 (.ptr o c) (.int k (k.wrap (x+b))))
   | false=>none
  | _=>none
 | _,_=>none
def opF (C:zAa)(e:Env)(s:St)(al:Option Nat):AOp→Option (D×St)
 | .mv x=>ofO s (x.evp e)
 | .strId x=>match x.ev e with
  | some (.str l)=>some (.str l,s)
  | _=>none
 | .pick c a b=>match c.ev e with
  | some (.bool t)=>match t with
   | true=>ofO s (a.ev e)
   | false=>ofO s (b.ev e)
  | _=>none
 | .box ty x=>match x.ev e with
  | some v=>match v.st && Nat.blt 0 v.flat.length with
   | true=>match s.mk' al (.var ty v) with
    | some (k,s')=>some (.ptr k 0,s')
    | none=>none
   | false=>none
  | none=>none
 | .build z parts=>match zFd e parts,z.all D.sc with
  | some l,true=>match zZg z l with
   | some cs=>some (.agg cs,s)
   | none=>none
  | _,_=>none
 | .lbox _=>none
 | .vslice sz z len parts=>match zBw e parts,allSz sz [z] with
  | some l,true=>match zQy sz (List.replicate len z) l with
   | some es=>some (.vs false sz es,s)
   | none=>none
  | _,_=>none
 | .bslice sz ty z len parts=>match zBw e parts,allSz sz [z] with
  | some l,true=>match zQy sz (List.replicate len z) l with
   | some es=>match s.mk' al (.arr sz ty es 0) with
    | some (k,s')=>some (.sl k 0 len len,s')
    | none=>none
   | none=>none
  | _,_=>none
 | .lload a sz x=>match x.evp e with
  | some (.lptr a' c)=>match Nat.beq a a',e.get a with
   | true,some (.lv v)=>ofO s (part v.flat c sz)
   | _,_=>none
  | _=>none
 | .lstore .. =>none
 | .load sz x=>match x.ev e with
  | some p=>ofO s (zPr s sz p)
  | none=>none
 | .store sz x v=>match x.ev e,v.ev e with
  | some p,some d=>ofS (.tup []) (zCd s sz p d)
  | _,_=>none
 | .nilchk x=>match x.evp e with
  | some (.lptr a c)=>match e.isLv a with
   | true=>some (.lptr a c,s)
   | false=>none
  | some (.ptr o c)=>some (.ptr o c,s)
  | some (.eptr o i c z)=>some (.eptr o i c z,s)
  | some (.vptr d c)=>some (.vptr d c,s)
  | some (.ifc t v)=>some (.ifc t v,s)
  | some (.fn (.func f) a b)=>some (.fn (.func f) a b,s)
  | _=>none
 | .bin op x y=>match x.ev e,y.ev e with
  | some a,some b=>ofO s (binD op a b)
  | _,_=>none
 | .eq et neg oc x y=>match x.ev e,y.ev e with
  | some a,some b=>match eqT oc et a b with
   | some r=>some (.bool (r !=neg),s)
   | none=>match et with
    | .ptr=>match eqP s a b with
     | some r=>some (.bool (r !=neg),s)
     | none=>none
    | _=>none
  | _,_=>none
 | .un op x=>match x.ev e with
  | some a=>ofO s (unD op a)
  | none=>none
 | .toInt k x=>match x.ev e with
  | some (.int _ n)=>some (.int k (k.wrap n),s)
  | _=>none
 | .intToStr x=>match x.ev e with
  | some (.int _ n)=>some (.str (Utf8.encode n).data.toList,s)
  | _=>none
 | .strToBytes ty x=>match x.ev e with
  | some (.str l)=>match Nat.ble l.length mxE with
   | true=>match s.mk' al (.arr 1 ty (l.map fun b=> .int .u8 b.toNat) 0) with
    | some (k,s')=>some (.sl k 0 l.length l.length,s')
    | none=>none
   | false=>none
  | _=>none
 | .bytesToStr x=>match x.ev e with
  | some d=>match items s d with
   | some (z,l)=>match Nat.beq z 1 || (match l with | []=>true | _=>false),bytesOf l with
    | true,some b=>some (.str b,s)
    | _,_=>none
   | none=>none
  | none=>none
 | .mkif t x=>match x.ev e with
  | some d=>some (.ifc t d,s)
  | none=>none
 | .mkfn f a b=>match evs e a,evs e b with
  | some x,some y=>some (.fn f x y,s)
  | _,_=>none
 | .mkmap r=>match (match evo e r with | some none=>true | some (some (.int _ _))=>true | _=>false) with
  | true=>match s.mk' al (.map [] 0) with
   | some (k,s')=>some (.mp k,s')
   | none=>none
  | false=>none
 | .mkslice sz bytes ty z len cap=>match len.ev e,cap.ev e with
  | some l,some c=>match idx l,idx c with
   | some l,some c=>match Nat.ble l c && allSz sz [z],Nat.ble (c * bytes) 140737488355328,Nat.ble c mxE with
    | true,true,true=>match s.mk' al (.arr sz ty (List.replicate l z) 0) with
     | some (k,s')=>some (.sl k 0 l l,s')
     | none=>none
    | _,_,_=>none
   | _,_=>none
  | _,_=>none
 | .sstr x lo hi=>match x.ev e,evo e lo,evo e hi with
  | some (.str l),some a,some b=>match idxo 0 a,idxo l.length b with
   | some a,some b=>match Nat.ble a b,Nat.ble b l.length with
    | true,true=>some (.str ((l.take b).drop a),s)
    | _,_=>none
   | _,_=>none
  | _,_,_=>none
 | .ssl sz x lo hi mx=>match x.ev e,evo e lo,evo e hi,evo e mx with
  | some d,some a,some b,some c=>match idxo 0 a,idxo 0 b,idxo 0 c with
   | some a',some b',some c' =>
    match items s d with
    | some (z,l)=>match Nat.beq z sz || (match d,l with | .vs ..,[]=>true | _,_=>false) with
     | true=>ofO s (cutD d a' (zBe b b') (zBe c c'))
     | false=>none
    | none=>none
   | _,_,_=>none
  | _,_,_,_=>none
 | .faddr off x=>match x.evp e with
  | some (.lptr a c)=>match e.isLv a with
   | true=>some (.lptr a (c+off),s)
   | false=>none
  | some (.ptr o c)=>some (.ptr o (c+off),s)
  | some (.eptr o i c z)=>some (.eptr o i (c+off) z,s)
  | some (.vptr d c)=>some (.vptr d (c+off),s)
  | _=>none
 | .field off sz x=>match x.ev e with
  | some (.agg cs)=>ofO s (part cs off sz)
  | _=>none
 | .iaddr sz x i=>match x.ev e,i.ev e with
  | some d,some n=>match idx n with
   | some i=>ofO s (zEz s sz d i)
   | none=>none
  | _,_=>none
 | .iaddrA len sz x i=>match x.evp e,i.ev e with
  | some (.lptr a c),some n=>match idx n with
   | some i=>match Nat.blt i len,e.isLv a with
    | true,true=>some (.lptr a (c+i * sz),s)
    | _,_=>none
   | none=>none
  | some (.ptr o c),some n=>match idx n with
   | some i=>match Nat.blt i len with
    | true=>some (.ptr o (c+i * sz),s)
    | false=>none
   | none=>none
  | some (.eptr o j c z),some n=>match idx n with
   | some i=>match Nat.blt i len with
    | true=>some (.eptr o j (c+i * sz) z,s)
    | false=>none
   | none=>none
  | some (.vptr d c),some n=>match idx n with
   | some i=>match Nat.blt i len with
    | true=>some (.vptr d (c+i * sz),s)
    | false=>none
   | none=>none
  | _,_=>none
 | .sidx x i=>match x.ev e,i.ev e with
  | some (.str l),some n=>match idx n with
   | some i=>match l[i]? with
    | some b=>some (.int .u8 b.toNat,s)
    | none=>none
   | none=>none
  | _,_=>none
 | .aidx len sz ag x i=>match x.ev e,i.ev e with
  | some (.agg cs),some n=>match idx n with
   | some i=>match Nat.blt i len with
    | true=>ofO s (part cs (i * sz) (match ag with | true=>some sz | false=>none))
    | false=>none
   | none=>none
  | _,_=>none
 | .lookup et z ok m k=>match m.ev e,k.ev e with
  | some m,some k=>match keyD et k with
   | false=>none
   | true=>match m with
    | .nilm=>some (okD ok (z) false,s)
    | .mp o=>match s.get o with
     | some (.map es _)=>match findKey et k es 0 with
      | some (some (_,v))=>some (okD ok (v) true,s)
      | some none=>some (okD ok (z) false,s)
      | none=>none
     | _=>none
    | _=>none
  | _,_=>none
 | .mupd et m k v=>match m.ev e,k.ev e,v.ev e with
  | some (.mp o),some k,some v=>match keyD et k with
   | false=>none
   | true=>match s.get o with
    | some (.map es c)=>match findKey et k es 0 with
     | some (some (i,_))=>match es[i]? with
      | some (_,k',_)=>match zZd k' k with
       | true=>ofS (.tup []) (s.set o (.map (setAt es i fun x=>(x.1,k,v)) c))
       | false=>none
      | none=>none
     | some none=>ofS (.tup []) (s.set o (.map (es++ [(c,k,v)]) (c+1)))
     | none=>none
    | _=>none
  | _,_,_=>none
 | .mentry et z m k=>match m.ev e,k.ev e with
  | some (.mp o),some k=>match keyD et k with
   | false=>none
   | true=>match s.get o with
    | some (.map es c)=>match findKey et k es 0 with
     | some (some (i,v))=>match es[i]? with
      | some (b,k',_)=>match zZd k' k with
       | true=>ofS (.tup [v,goI b]) (s.set o (.map (setAt es i fun x=>(x.1,k,x.2.2)) c))
       | false=>none
      | none=>none
     | some none=>ofS (.tup [z,goI c]) (s.set o (.map (es++ [(c,k,z)]) (c+1)))
     | none=>none
    | _=>none
  | _,_=>none
 | .mestore m b v=>match m.ev e,b.ev e,v.ev e with
  | some (.mp o),some (.int _ b),some v=>match s.get o with
   | some (.map es c)=>match zHd b es 0 with
    | some i=>ofS (.tup []) (s.set o (.map (setAt es i fun x=>(x.1,x.2.1,v)) c))
    | none=>none
   | _=>none
  | _,_,_=>none
 | .range x=>match x.ev e with
  | some (.str l)=>match s.mk' al (.siter l 0) with
   | some (k,s')=>some (.ptr k 0,s')
   | none=>none
  | _=>none
 | .nexts x=>match x.ev e with
  | some (.ptr o 0)=>match s.get o with
   | some (.siter l pos)=>match Nat.blt pos l.length with
    | true=>
     let r:=Utf8.decode ⟨l.toArray⟩ pos
     ofS (.tup [.bool true,goI pos,.int .i32 r.1]) (s.set o (.siter l (pos+r.2)))
    | false=>some (.tup [.bool false],s)
   | _=>none
  | _=>none
 | .tassert t z ok x=>match x.ev e with
  | some (.ifc u v)=>match Nat.beq u t with
   | true=>some (okD ok (v) true,s)
   | false=>match ok with
    | true=>some (.tup [z,.bool false],s)
    | false=>none
  | some .nili=>match ok with
   | true=>some (.tup [z,.bool false],s)
   | false=>none
  | _=>none
 | .tassertI n ts ok x=>match x.ev e with
  | some (.ifc u v)=>match memN u ts with
   | true=>some (okD ok (.ifc u v) true,s)
   | false=>match ok && Nat.blt u n with
    | true=>some (.tup [.nili,.bool false],s)
    | false=>none
  | some .nili=>match ok with
   | true=>some (.tup [.nili,.bool false],s)
   | false=>none
  | _=>none
 | .extract i x=>match x.ev e with
  | some (.tup l)=>ofO s l[i]?
  | _=>none
 | .call ro f args=>match evs e args with
  | some l=>match ro with
   | false=>C f l s
   | true=>match C f l { s with ro:=true} with
    | some (d,_)=>some (d,s)
    | none=>none
  | none=>none
 | .callv f args=>match f.ev e,evs e args with
  | some (.fn (.func f) a b),some l=>C f (a++l++b) s
  | some (.yl o),some l=>C 0 (.lv (.yl o)::l) s
  | _,_=>none
 | .invoke tbl x args=>match x.ev e,evs e args with
  | some (.ifc t v),some l=>match tblR tbl t with
   | some (f,r)=>match zQw s v r with
    | some u=>C f (u::l) s
    | none=>none
   | none=>none
  | _,_=>none
 | .len k x=>match x.ev e with
  | some (.sstr i _ lo hi)=>match k with
   | 0=>some (.sint .i64 (.len i) lo hi,s)
   | _=>none
  | some d=>match lenD s k d with
   | some n=>some (goI n,s)
   | none=>none
  | none=>none
 | .append sz bytes ty x y=>match x.ev e,y.ev e with
  | some a,some (.str l)=>match Nat.beq sz 1,Nat.ble bytes 4096 with
   | true,true=>zAn s al sz ty a (l.map fun b=> .int .u8 b.toNat)
   | _,_=>none
  | some a,some b=>match items s b with
   | some (z,l)=>match Nat.beq z sz || (match l with | []=>true | _=>false),Nat.ble bytes 4096 with
    | true,true=>match allSz sz l with
     | true=>zAn s al sz ty a l
     | false=>none
    | _,_=>none
   | none=>none
  | _,_=>none
 | .copy sz x y=>match x.ev e,y.ev e with
  | some a,some (.str l)=>match Nat.beq sz 1,lenD s 1 a with
   | true,some n=>ofS (goI (min l.length n)) (zBn s sz a ((l.take n).map fun b=> .int .u8 b.toNat))
   | _,_=>none
  | some a,some b=>match items s b,lenD s 1 a with
   | some (z,l),some n=>match Nat.beq z sz || (match l with | []=>true | _=>false),allSz sz (l.take n) with
    | true,true=>ofS (goI (min l.length n)) (zBn s sz a (l.take n))
    | _,_=>none
   | _,_=>none
  | _,_=>none
 | .clear sz z x=>match x.ev e with
  | some .nilm=>some (.tup [],s)
  | some (.mp o)=>match s.get o with
   | some (.map _ c)=>ofS (.tup []) (s.set o (.map [] c))
   | _=>none
  | some a=>match lenD s 1 a with
   | some n=>match allSz sz [z] with
    | true=>ofS (.tup []) (zBn s sz a (List.replicate n z))
    | false=>none
   | none=>none
  | none=>none
 | .runesToStr x=>match x.ev e with
  | some d=>match items s d with
   | some (z,l)=>match Nat.beq z 1 || (match l with | []=>true | _=>false),zHu l with
    | true,some b=>some (.str b,s)
    | _,_=>none
   | none=>none
  | none=>none
 | .bytesId x=>match x.ev e with
  | some (.sl o a b c)=>some (.sl o a b c,s)
  | _=>none
 | .uptr x=>match x.ev e with
  | some (.ptr o c)=>match s.get o with
   | some (.var _ v)=>match Nat.blt c v.flat.length with
    | true=>some (.ptr o c,s)
    | false=>none
   | _=>none
  | _=>none
 | .upto l x=>match x.ev e with
  | some .nilp=>some (.nilp,s)
  | some (.ptr o c)=>match s.get o with
   | some (.var t v)=>match zXd t c v.flat.length l with
    | true=>some (.ptr o c,s)
    | false=>none
   | _=>none
  | _=>none
 | .sldata x=>match x.ev e with
  | some (.vs true _ _)=>some (.nilp,s)
  | some (.sl o off _ cp)=>match s.get o with
   | some (.arr ..)=>match Nat.blt 0 cp with
    | true=>some (.eptr o off 0 (off+cp),s)
    | false=>none
   | _=>none
  | _=>none
 | .ustr ty x y=>match x.ev e,y.ev e with
  | some .nilp,some (.int k n)=>match decide (k= .i64) && decide (n=0) with
   | true=>some (.str [],s)
   | false=>none
  | some (.eptr o i c en),some (.int k n)=>match s.get o with
   | some (.arr z t es st)=>match Nat.beq z 1 && (Nat.beq t ty && Nat.beq c 0),decide (k= .i64) && (decide (0 < n) && Nat.ble n.toNat mxE),Nat.ble (i+n.toNat) en && (Nat.ble en es.length && Nat.ble st en),bytesOf ((es.drop i).take n.toNat) with
    | true,true,true,some b=>ofS (.str b) (s.set o .dead)
    | _,_,_,_=>none
   | _=>none
  | _,_=>none
 | .aslice n x=>match x.ev e with
  | some (.ptr o 0)=>match s.get o with
   | some (.var t v)=>match Nat.beq v.flat.length n with
    | true=>match s.set o .dead with
     | some s' =>match s'.mk' none (.arr 1 t v.flat 0) with
      | some (k,s'')=>some (.sl k 0 n n,s'')
      | none=>none
     | none=>none
    | false=>none
   | _=>none
  | _=>none
 | .ext k l=>match evs e l with
  | some l=>extD s k l
  | none=>none
 | .delete et m k=>match m.ev e,k.ev e with
  | some m,some k=>match keyD et k with
   | false=>none
   | true=>match m with
    | .nilm=>some (.tup [],s)
    | .mp o=>match s.get o with
     | some (.map es c)=>match findKey et k es 0 with
      | some (some (i,_))=>ofS (.tup []) (s.set o (.map (es.eraseIdx i) c))
      | some none=>ofS (.tup []) (s.set o (.map es c))
      | none=>none
     | _=>none
    | _=>none
  | _,_=>none
 | .minmax mx l=>match evs e l with
  | some (d::r)=>ofO s (minI mx d r)
  | _=>none
 | .defer .. =>none
 | .bad=>none
def putD (e:Env):Option Nat→D→Env
 | some t,d=>(t,d)::e
 | none,_=>e
def wtD (e:Env):Option (Nat×Bool)→Option Bool
 | none=>some true
 | some (t,b)=>match e.get t with
  | some (.bool c)=>some (c==b)
  | some (.tup [])=>some false
  | _=>none
def oper (C:zAa)(b:Nat)(o:zPk)(fr:Fr)(s:St):Option (Fr×St):=
 match wtD fr.env o.guard with
 | some true=>match o.op with
  | .defer f args=>match f.ev fr.env,evs fr.env args with
   | some (.fn g x y),some l=>some ({ env:=putD fr.env o.dst (.tup []),defers:=(.fn g x y,l)::fr.defers},s)
   | _,_=>none
  | .lbox x=>match o.dst,x.ev fr.env with
   | some a,some d=>match fr.env.noL a && d.st with
    | true=>some ({ fr with env:=(a,.lv d)::fr.env},s)
    | false=>none
   | _,_=>none
  | .lstore a sz x v=>match x.evp fr.env,v.ev fr.env with
   | some (.lptr a' c),some d=>match Nat.beq a a',fr.env.get a,Nat.beq d.flat.length sz with
    | true,some (.lv w),true=>match w.over c d with
     | some w' =>some ({ fr with env:=putD ((a,.lv w')::fr.env) o.dst (.tup [])},s)
     | none=>none
    | _,_,_=>none
   | _,_=>none
  | op=>match opF C fr.env s (match o.al with | some r=>some (b+r) | none=>none) op with
   | some (d,s')=>some ({ fr with env:=putD fr.env o.dst d},s')
   | none=>none
 | some false=>some ({ fr with env:=putD fr.env o.dst (.tup [])},s)
 | none=>none
def opers (C:zAa)(b:Nat):List zPk→Fr→St→Option (Fr×St)
 | [],fr,s=>some (fr,s)
 | o::r,fr,s=>match oper C b o fr s with
  | some (fr',s')=>opers C b r fr' s'
  | none=>none
def fpRd.objs:Option D→List Nat
 | some (.ptr o _)=> [o]
 | some (.eptr o _ _ _)=> [o]
 | some (.sl o _ _ _)=> [o]
 | some (.mp o)=> [o]
 | _=> []
def fpRd (e:Env):AOp→List Nat
 | .load _ x=>fpRd.objs (x.ev e)
 | .uptr x=>fpRd.objs (x.ev e)
 | .upto _ x=>fpRd.objs (x.ev e)
 | .sldata x=>fpRd.objs (x.ev e)
 | .eq _ _ _ x y=>fpRd.objs (x.ev e)++fpRd.objs (y.ev e)
 | .iaddr _ x _=>fpRd.objs (x.ev e)
 | .ssl _ x _ _ _=>fpRd.objs (x.ev e)
 | .len _ x=>fpRd.objs (x.ev e)
 | .bytesToStr x=>fpRd.objs (x.ev e)
 | .runesToStr x=>fpRd.objs (x.ev e)
 | .lookup _ _ _ m _=>fpRd.objs (m.ev e)
 | .append _ _ _ _ y=>fpRd.objs (y.ev e)
 | .copy _ _ y=>fpRd.objs (y.ev e)
 | _=> []
def fpWr (e:Env):AOp→List Nat
 | .store _ x _=>fpRd.objs (x.ev e)
 | .append _ _ _ x _=>fpRd.objs (x.ev e)
 | .ustr _ x _=>fpRd.objs (x.ev e)
 | .copy _ x _=>fpRd.objs (x.ev e)
 | .clear _ _ x=>fpRd.objs (x.ev e)
 | .mupd _ m _ _=>fpRd.objs (m.ev e)
 | .mentry _ _ m _=>fpRd.objs (m.ev e)
 | .mestore m _ _=>fpRd.objs (m.ev e)
 | .delete _ m _=>fpRd.objs (m.ev e)
 | .nexts x=>fpRd.objs (x.ev e)
 | _=> []
def AOp.kind:AOp→Nat
 | .mv _ | .strId _ | .pick .. | .build .. | .vslice .. | .nilchk _ | .bin .. | .un .. | .toInt .. | .intToStr _ | .mkif .. | .mkfn .. | .sstr .. | .faddr .. | .field .. | .iaddrA .. | .sidx .. | .aidx .. | .tassert .. | .tassertI .. | .extract .. | .minmax .. | .bytesId _=>0
 | .lload .. =>6
 | .lstore .. =>7
 | .lbox _=>8
 | .load .. | .uptr _ | .upto .. | .sldata _ | .eq .. | .bytesToStr _ | .runesToStr _ | .ssl .. | .iaddr .. | .lookup .. | .len .. =>1
 | .store .. | .ustr .. | .copy .. | .clear .. | .mupd .. | .mentry .. | .mestore .. | .delete .. | .nexts _=>2
 | .box .. | .bslice .. | .strToBytes .. | .mkmap _ | .mkslice .. | .range _=>3
 | .call true _ _=>4
 | .append .. =>9
 | _=>5
def disj (a b:List Nat):Bool:=
 match a with
 | []=>true
 | x::r=>match memN x b with
  | true=>false
  | false=>disj r b
def fpRg (e:Env):AOp→List (Nat×Nat×Nat)
 | .load sz x=>match x.ev e with
  | some (.ptr o c)=> [(o,c,sz.getD 1)]
  | _=> []
 | _=> []
abbrev Fp:=List Nat×List Nat×List (Nat×Nat×Nat)
def fpOf (b:Nat)(e:Env)(o:zPk):Fp:=
 match wtD e o.guard with
 | some true=>(fpRd e o.op,(match o.al with
  | some r=>(b+r)::fpWr e o.op
  | none=>fpWr e o.op),fpRg e o.op)
 | _=>([],[],[])
def zDb (x y:Fp):Bool:=disj x.2.1 y.2.1 && (disj x.2.1 y.1 && disj x.1 y.2.1)
def ckA (acc:List Fp)(y:Fp):List Nat→Bool
 | []=>true
 | i::r=>match acc[i]? with
  | some x=>match zDb x y with
   | true=>ckA acc y r
   | false=>false
  | none=>false
def Env.isLvo (e:Env):Option Nat→Bool
 | some t=>e.isLv t
 | none=>false
def D.isAgg:D→Bool
 | .agg _=>true
 | _=>false
def cEq (l m:List D):List (Nat×Nat×Nat)→Bool
 | []=>true
 | (_,c,n)::r=>D.beqs ((l.drop c).take n) ((m.drop c).take n) && cEq l m r
def sOb (rg:List (Nat×Nat×Nat))(a b:Obj):Bool:=match rg,a,b with
 | r::rs,.var t v,.var t' v' =>Nat.beq t t' && (Nat.beq v.flat.length v'.flat.length && ((v.isAgg==v'.isAgg) && cEq v.flat v'.flat (r::rs)))
 | _,a,b=>Obj.beq a b
def zAf (rg:List (Nat×Nat×Nat)) (s s' :St):List Nat→Bool
 | []=>false
 | o::r=>match s.get o,s'.get o with
  | some x,some y=>match sOb rg x y with
   | true=>zAf rg s s' r
   | false=>true
  | none,none=>zAf rg s s' r
  | _,_=>true
def lAs (acc:List Fp) (s s' :St):List Nat→Bool
 | []=>false
 | i::r=>match acc[i]? with
  | some x=>match zAf x.2.2 s s' x.1 with
   | true=>true
   | false=>lAs acc s s' r
  | none=>true
def lost (acc:List Fp) (s s' :St)(o:zPk)(l:List Nat):Bool:=match Nat.beq o.op.kind 5 with
 | true=>lAs acc s s' l
 | false=>false
def T.keys:T Obj→List Nat
 | .nil=> []
 | .node o l r=>(match o with
  | none=> []
  | some _=> [0])++((T.keys l).map (fun k=>2 * k+1)++(T.keys r).map (fun k=>2 * k+2))
def T.diff:T Obj→T Obj→List Nat
 | .nil,t=>T.keys t
 | .node o l r,t=>match t with
  | .nil=>T.keys (.node o l r)
  | .node o' l' r' =>(match o,o' with
   | none,none=> []
   | some x,some y=>(match Obj.beq x y with
    | true=> []
    | false=> [0])
   | _,_=> [0])++((T.diff l l').map (fun k=>2 * k+1)++(T.diff r r').map (fun k=>2 * k+2))
def fpX (s s' :St)(b:Nat)(e:Env)(o:zPk):Fp:=match Nat.beq o.op.kind 5 with
 | true=>((fpOf b e o).1,T.diff s.h s'.h++(fpOf b e o).2.1,(fpOf b e o).2.2)
 | false=>fpOf b e o
def zBk (C:zAa)(b:Nat):List (zPk×List Nat)→List Fp→Fr→St→Option (Fr×St)
 | [],_,fr,s=>some (fr,s)
 | (o,l)::r,acc,fr,s=>match ckA acc (fpOf b fr.env o) l && !(fr.env.isLvo o.dst) with
  | true=>match oper C b o fr s with
   | some (fr',s')=>match fr'.env.isLvo o.dst || lost acc s s' o l with
    | false=>zBk C b r (acc++ [fpX s s' b fr.env o]) fr' s'
    | true=>none
   | none=>none
  | false=>none
inductive Ex where
 | normal
 | exit (id:Nat)
 | ret
abbrev zBl:=List Nat→AC→Fr→St→Option (Ex×Fr×St)
def cutN:Nat→Nat→T Obj→T Obj
 | 0,_,h=>h
 | k+1,b,h=>cutN k (b+1) (h.set b none)
def cutC (b:Nat):Nat→zAa→zAa
 | 0,C=>C
 | k+1,C=>fun f l s=>match s.ro with
  | false=>C f l s
  | true=>match C f l { s with h:=cutN (k+1) b s.h} with
   | some (d,_)=>some (d,s)
   | none=>none
def zAe (C:zAa)(L:zBl):AC→Fr→St→Option (Ex×Fr×St)
 | .skip,fr,s=>some (.normal,fr,s)
 | .reg ops,fr,s=>match opers C 0 ops fr s with
  | some (fr',s')=>some (.normal,fr',s')
  | none=>none
 | .dreg k ops,fr,s=>match s.ro && Nat.blt 0 k with
  | true=>none
  | false=>match zBk (cutC s.n k C) s.n ops [] fr { s with n:=s.n+k} with
   | some (fr',s')=>some (.normal,fr',s')
   | none=>none
 | .seq a b,fr,s=>match zAe C L a fr s with
  | some (.normal,fr',s')=>zAe C L b fr' s'
  | r=>r
 | .cond c a b,fr,s=>match c.ev fr.env with
  | some (.bool true)=>zAe C L a fr s
  | some (.bool false)=>zAe C L b fr s
  | _=>none
 | .block id a,fr,s=>match zAe C L a fr s with
  | some (.exit i,fr',s')=>match Nat.beq i id with
   | true=>some (.normal,fr',s')
   | false=>some (.exit i,fr',s')
  | r=>r
 | .loop keep a,fr,s=>L keep a fr s
 | .rangef keep g ps a b,fr,s=>L [] (.rangef keep g ps a b) fr s
 | .exit id,fr,s=>some (.exit id,fr,s)
 | .ret,fr,s=>some (.ret,fr,s)
 | .bad,_,_=>none
def resD (e:Env)(s:St):List ARes→Option (List D)
 | []=>some []
 | .tmp t::r=>match Opd.ev e (.t t),resD e s r with
  | some d,some l=>some (d::l)
  | _,_=>none
 | .cell a sz::r=>match e.get a with
  | some (.lv v)=>match part v.flat 0 sz,resD e s r with
   | some d,some l=>some (d::l)
   | _,_=>none
  | some p=>match zPr s sz p,resD e s r with
   | some d,some l=>some (d::l)
   | _,_=>none
  | none=>none
def env0:Nat→List D→Env
 | _,[]=> []
 | i,d::r=>(i,d)::env0 (i+1) r
def leave (C:zAa):List (D×List D)→St→Option St
 | [],s=>some s
 | (.fn (.func f) a b,l)::r,s=>match C f (a++l++b) s with
  | some (_,s')=>leave C r s'
  | none=>none
 | (.nilf,_)::r,s=>leave C r s
 | _::_,_=>none
def single:List D→D
 | [d]=>d
 | l=> .tup l
def zQf (C CD:zAa)(L:zBl)(fn:AFn)(args:List D)(s:St):Option (D×St):=
 match zAe C L fn.body { env:=env0 0 args,defers:=[]} s with
 | some (.exit _,_,_)=>none
 | some (_,fr,s')=>match leave CD fr.defers s' with
  | some s'' =>match resD fr.env s'' fn.results with
   | some l=>some (single l,s'')
   | none=>none
  | none=>none
 | none=>none
def zLo (C:zAa)(L:zBl)(fn:AFn)(args:List D)(s:St):Option (D×St):=
 match zAe C L fn.body { env:=env0 0 args,defers:=[]} s with
 | some (.exit _,_,_)=>none
 | some (_,fr,s')=>match fr.defers with
  | []=>match resD fr.env s' fn.results with
   | some l=>some (single l,s')
   | none=>none
  | _=>none
 | none=>none
def zQj (T:Nat→Option AFn)(C:zAa)(L:zBl):zAa:=fun f args s=>match T f with
 | some fn=>zLo C L fn args s
 | none=>none
def yS:List D→Bool
 | .lv _::_=>true
 | _=>false
def Env.plain:Env→Bool
 | []=>true
 | (_,d)::r=>match d with
  | .lv _=>false
  | .lptr _ _=>false
  | _=>Env.plain r
def zGb:List Nat→List D→Env→Option Env
 | [],[],e=>some e
 | t::ps,d::l,e=>zGb ps l ((t,d)::e)
 | _,_,_=>none
def stOf:Ex→LSt
 | .normal=> .ready
 | .exit i=> .exit i
 | .ret=> .ret
def zFn:Ex→Bool
 | .normal=>true
 | _=>false
def St.loopAt (s:St)(o k:Nat)(st:LSt):Bool:=match s.get o with
 | some (.loop k' st')=>Nat.beq k k' && decide (st=st')
 | _=>false
def endR (k:Nat):Option (Ex×Fr×St)→Option (D×St)
 | some (e,fr,s)=>match fr.defers,s.loopAt (k+1) k .busy with
  | [],true=>ofS (.bool (zFn e)) (s.set (k+1) (.loop k (stOf e)))
  | _,_=>none
 | none=>none
def midR (k:Nat)(b:Fr→St→Option (Ex×Fr×St)):Option (Ex×Fr×St)→Option (D×St)
 | some (.normal,fr,s)=>match s.loopAt (k+1) k .ready with
  | true=>match s.set (k+1) (.loop k .busy) with
   | some s' =>endR k (b fr s')
   | none=>none
  | false=>none
 | _=>none
def zPv (k:Nat)(ps:List Nat)(env:Env)(a b:Fr→St→Option (Ex×Fr×St))(H:zAa):zAa:=fun f l s=>match f,l with
 | 0,.lv (.yl k')::xs=>match Nat.beq k k' with
  | true=>match s.loopAt (k+1) k .ready,zGb ps xs env with
   | true,some e=>midR k b (a ⟨e,[]⟩ s)
   | _,_=>none
  | false=>H f l s
 | f,l=>H f l s
def exOf:LSt→Option Ex
 | .ready=>some .normal
 | .busy=>none
 | .exit i=>some (.exit i)
 | .ret=>some .ret
def zXe (k:Nat)(fr:Fr):Option (D×St)→Option (Ex×Fr×St)
 | some (_,s)=>match s.get (k+1) with
  | some (.loop k' st)=>match Nat.beq k k',exOf st,s.set (k+1) .dead with
   | true,some e,some s' =>some (e,{ fr with defers:=(.nilf,[])::fr.defers},s')
   | _,_,_=>none
  | _=>none
 | none=>none
def zEy (C' :Nat→Env→zAa)(keep:List Nat)(g:Opd)(fr:Fr)(s:St):Option (Ex×Fr×St):=match g.ev fr.env,s.ro with
 | some (.fn (.func gf) [] caps),false=>match (fr.env.keep keep).plain with
  | true=>zXe s.n fr (C' s.n (fr.env.keep keep) gf (.yl s.n::caps) ((s.push0 .dead).push0 (.loop s.n .ready)))
  | false=>none
 | _,_=>none
mutual
def zPn (T:Nat→Option AFn)(H:zAa):Nat→zAa
 | 0,_,_,_=>none
 | n+1,f,args,s=>match yS args with
  | true=>H f args s
  | false=>match T f with
   | some fn=>zQf (zPn T H n) (zQj T (zPn T H n) (zPq T H n)) (zPq T H n) fn args s
   | none=>H f args s
def zPq (T:Nat→Option AFn)(H:zAa):Nat→zBl
 | 0,_,_,_,_=>none
 | n+1,keep,a,fr,s=>match a with
  | .rangef kp g ps x y=>zEy (fun k e=>zPn T (zPv k ps e (zAe (zPn T H n) (zPq T H n) x) (zAe (zPn T H n) (zPq T H n) y) H) n) kp g fr s
  | a=>match zAe (zPn T H n) (zPq T H n) a { fr with env:=fr.env.keep keep} s with
   | some (.normal,fr',s')=>zPq T H n keep a fr' s'
   | r=>r
end
end Go.Ab
