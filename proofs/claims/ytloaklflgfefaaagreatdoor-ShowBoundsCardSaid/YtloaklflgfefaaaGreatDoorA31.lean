/- The same interpreter, in a form that the kernel runs faster; it is the same. Written by a program of ours (wip/tools/genX.py) from our text A1. -/
import Derived.Test.YtloaklflgfefaaaGreatDoorA30
namespace Go.Ab
open Go
set_option linter.unusedSectionVars false
set_option linter.unusedSimpArgs false
set_option linter.unusedVariables false
noncomputable section

def Env.getX (e : Env) : Nat → Option D :=
  List.rec (motive := fun _ => Nat → Option D) (fun _ => none) (fun p _ ih s => Bool.rec (motive := fun _ => Option D) (ih s) (some p.2) (Nat.beq p.1 s)) e
theorem getX_eq (e : Env) (s : Nat) : e.getX s = e.get s := by
  induction e with
  | nil => rfl
  | cons p r ih =>
    obtain ⟨t, d⟩ := p
    have : Env.getX ((t, d) :: r) s = Bool.rec (motive := fun _ => Option D) (Env.getX r s) (some d) (Nat.beq t s) := rfl
    rw [this, Env.get, ih]
    cases Nat.beq t s <;> rfl
def Env.isLvX (e : Env) (a : Nat) : Bool :=
  match e.getX a with
  | some (.lv _) => true
  | _ => false
theorem isLvX_eq (e : Env) (a : Nat) : e.isLvX a = e.isLv a := by unfold Env.isLvX Env.isLv; rw [getX_eq]; rfl
def valX (o : Option D) : Option D := match o with
  | some (.lv _) => none
  | some (.lptr _ _) => none
  | r => r
def ptrX (n : Nat) (o : Option D) : Option D := match o with
  | some (.lv _) => some (.lptr n 0)
  | r => r
def Opd.evX (e : Env) (x : Opd) : Option D := Opd.rec (motive := fun _ => Option D) (fun n => valX (e.getX n)) (fun d => some d) x
theorem evX_eq (e : Env) (x : Opd) : x.evX e = x.ev e := by
  cases x with
  | t n => show valX (e.getX n) = _; rw [getX_eq]; rfl
  | c d => rfl
def Opd.evpX (e : Env) (x : Opd) : Option D := Opd.rec (motive := fun _ => Option D) (fun n => ptrX n (e.getX n)) (fun d => some d) x
theorem evpX_eq (e : Env) (x : Opd) : x.evpX e = x.evp e := by
  cases x with
  | t n => show ptrX n (e.getX n) = _; rw [getX_eq]; rfl
  | c d => rfl
def evsX (e : Env) : List Opd → Option (List D)
  | [] => some []
  | x :: r => match x.evX e with
    | some d => match evsX e r with
      | some l => some (d :: l)
      | none => none
    | none => none
theorem evsX_eq (e : Env) (l : List Opd) : evsX e l = evs e l := by
  induction l with
  | nil => rfl
  | cons x r ih => simp only [evsX, evs, evX_eq, ih]; rfl
def evoX (e : Env) : Option Opd → Option (Option D)
  | none => some none
  | some x => match x.evX e with
    | some d => some (some d)
    | none => none
theorem evoX_eq (e : Env) (l : Option Opd) : evoX e l = evo e l := by
  cases l with
  | none => rfl
  | some x => simp only [evoX, evo, evX_eq]; rfl
def evPartsX (e : Env) : List (Nat × Nat × Opd) → Option (List (Nat × Nat × D))
  | [] => some []
  | (o, s, x) :: r => match x.evX e with
    | some d => match evPartsX e r with
      | some l => some ((o, s, d) :: l)
      | none => none
    | none => none
theorem evPartsX_eq (e : Env) (l : List (Nat × Nat × Opd)) : evPartsX e l = evParts e l := by
  induction l with
  | nil => rfl
  | cons x r ih => obtain ⟨o, s, x⟩ := x; simp only [evPartsX, evParts, evX_eq, ih]; rfl
def evSPartsX (e : Env) : List (Nat × Opd) → Option (List (Nat × D))
  | [] => some []
  | (i, x) :: r => match x.evX e with
    | some d => match evSPartsX e r with
      | some l => some ((i, d) :: l)
      | none => none
    | none => none
theorem evSPartsX_eq (e : Env) (l : List (Nat × Opd)) : evSPartsX e l = evSParts e l := by
  induction l with
  | nil => rfl
  | cons x r ih => obtain ⟨i, x⟩ := x; simp only [evSPartsX, evSParts, evX_eq, ih]; rfl

def o_mv (C : Caller) (e : Env) (s : St) (al : Option Nat) (x : Opd) : Option (D × St) := ofO s (x.evpX e)
def o_pick (C : Caller) (e : Env) (s : St) (al : Option Nat) (c : Opd) (a : Opd) (b : Opd) : Option (D × St) := match c.evX e with
    | some (.bool t) => match t with
      | true => ofO s (a.evX e)
      | false => ofO s (b.evX e)
    | _ => none
def o_box (C : Caller) (e : Env) (s : St) (al : Option Nat) (ty : Nat) (x : Opd) : Option (D × St) := match x.evX e with
    | some v => match v.st && Nat.blt 0 v.flat.length with
      | true => match s.mk' al (.var ty v) with
        | some (k, s') => some (.ptr k 0, s')
        | none => none
      | false => none
    | none => none
def o_vslice (C : Caller) (e : Env) (s : St) (al : Option Nat) (sz : Nat) (z : D) (len : Nat) (parts : List (Nat × Opd)) : Option (D × St) := match evSPartsX e parts, allSz sz [z] with
    | some l, true => match fillS sz (List.replicate len z) l with
      | some es => some (.vs false sz es, s)
      | none => none
    | _, _ => none
def o_build (C : Caller) (e : Env) (s : St) (al : Option Nat) (z : List D) (parts : List (Nat × Nat × Opd)) : Option (D × St) := match evPartsX e parts, z.all D.sc with
    | some l, true => match fillA z l with
      | some cs => some (.agg cs, s)
      | none => none
    | _, _ => none
def o_bslice (C : Caller) (e : Env) (s : St) (al : Option Nat) (sz : Nat) (ty : Nat) (z : D) (len : Nat) (parts : List (Nat × Opd)) : Option (D × St) := match evSPartsX e parts, allSz sz [z] with
    | some l, true => match fillS sz (List.replicate len z) l with
      | some es => match s.mk' al (.arr sz ty es 0) with
        | some (k, s') => some (.sl k 0 len len, s')
        | none => none
      | none => none
    | _, _ => none
def o_load (C : Caller) (e : Env) (s : St) (al : Option Nat) (sz : Option Nat) (x : Opd) : Option (D × St) := match x.evX e with
    | some p => ofO s (loadD s sz p)
    | none => none
def o_store (C : Caller) (e : Env) (s : St) (al : Option Nat) (sz : Nat) (x : Opd) (v : Opd) : Option (D × St) := match x.evX e, v.evX e with
    | some p, some d => ofS (.tup []) (storeD s sz p d)
    | _, _ => none
def o_lload (C : Caller) (e : Env) (s : St) (al : Option Nat) (a : Nat) (sz : Option Nat) (x : Opd) : Option (D × St) := match x.evpX e with
    | some (.lptr a' c) => match Nat.beq a a', e.getX a with
      | true, some (.lv v) => ofO s (part v.flat c sz)
      | _, _ => none
    | _ => none
def o_nilchk (C : Caller) (e : Env) (s : St) (al : Option Nat) (x : Opd) : Option (D × St) := match x.evpX e with
    | some (.lptr a c) => match e.isLvX a with
      | true => some (.lptr a c, s)
      | false => none
    | some (.ptr o c) => some (.ptr o c, s)
    | some (.eptr o i c z) => some (.eptr o i c z, s)
    | some (.vptr d c) => some (.vptr d c, s)
    | some (.ifc t v) => some (.ifc t v, s)
    | some (.fn (.func f) a b) => some (.fn (.func f) a b, s)
    | _ => none
def o_bin (C : Caller) (e : Env) (s : St) (al : Option Nat) (op : BinOp) (x : Opd) (y : Opd) : Option (D × St) := match x.evX e, y.evX e with
    | some a, some b => ofO s (binD op a b)
    | _, _ => none
def o_eq (C : Caller) (e : Env) (s : St) (al : Option Nat) (et : ET) (neg : Bool) (oc : Bool) (x : Opd) (y : Opd) : Option (D × St) := match x.evX e, y.evX e with
    | some a, some b => match eqT oc et a b with
      | some r => some (.bool (r != neg), s)
      | none => match et with
        | .ptr => match eqP s a b with
          | some r => some (.bool (r != neg), s)
          | none => none
        | _ => none
    | _, _ => none
def o_un (C : Caller) (e : Env) (s : St) (al : Option Nat) (op : UnOp) (x : Opd) : Option (D × St) := match x.evX e with
    | some a => ofO s (unD op a)
    | none => none
def o_toInt (C : Caller) (e : Env) (s : St) (al : Option Nat) (k : IntKind) (x : Opd) : Option (D × St) := match x.evX e with
    | some (.int _ n) => some (.int k (k.wrap n), s)
    | _ => none
def o_intToStr (C : Caller) (e : Env) (s : St) (al : Option Nat) (x : Opd) : Option (D × St) := match x.evX e with
    | some (.int _ n) => some (.str (Utf8.encode n).data.toList, s)
    | _ => none
def o_strId (C : Caller) (e : Env) (s : St) (al : Option Nat) (x : Opd) : Option (D × St) := match x.evX e with
    | some (.str l) => some (.str l, s)
    | _ => none
def o_strToBytes (C : Caller) (e : Env) (s : St) (al : Option Nat) (ty : Nat) (x : Opd) : Option (D × St) := match x.evX e with
    | some (.str l) => match Nat.ble l.length maxElems with
      | true => match s.mk' al (.arr 1 ty (l.map fun b => .int .u8 b.toNat) 0) with
        | some (k, s') => some (.sl k 0 l.length l.length, s')
        | none => none
      | false => none
    | _ => none
def o_bytesToStr (C : Caller) (e : Env) (s : St) (al : Option Nat) (x : Opd) : Option (D × St) := match x.evX e with
    | some d => match items s d with
      | some (z, l) => match Nat.beq z 1 || (match l with | [] => true | _ => false), bytesOf l with
        | true, some b => some (.str b, s)
        | _, _ => none
      | none => none
    | none => none
def o_mkif (C : Caller) (e : Env) (s : St) (al : Option Nat) (t : Nat) (x : Opd) : Option (D × St) := match x.evX e with
    | some d => some (.ifc t d, s)
    | none => none
def o_mkfn (C : Caller) (e : Env) (s : St) (al : Option Nat) (f : Fn) (a : List Opd) (b : List Opd) : Option (D × St) := match evsX e a, evsX e b with
    | some x, some y => some (.fn f x y, s)
    | _, _ => none
def o_mkmap (C : Caller) (e : Env) (s : St) (al : Option Nat) (r : Option Opd) : Option (D × St) := match (match evoX e r with | some none => true | some (some (.int _ _)) => true | _ => false) with
    | true => match s.mk' al (.map [] 0) with
      | some (k, s') => some (.mp k, s')
      | none => none
    | false => none
def o_mkslice (C : Caller) (e : Env) (s : St) (al : Option Nat) (sz : Nat) (bytes : Nat) (ty : Nat) (z : D) (len : Opd) (cap : Opd) : Option (D × St) := match len.evX e, cap.evX e with
    | some l, some c => match idx l, idx c with
      | some l, some c => match Nat.ble l c && allSz sz [z], Nat.ble (c * bytes) 140737488355328, Nat.ble c maxElems with
        | true, true, true => match s.mk' al (.arr sz ty (List.replicate l z) 0) with
          | some (k, s') => some (.sl k 0 l l, s')
          | none => none
        | _, _, _ => none
      | _, _ => none
    | _, _ => none
def o_sstr (C : Caller) (e : Env) (s : St) (al : Option Nat) (x : Opd) (lo : Option Opd) (hi : Option Opd) : Option (D × St) := match x.evX e, evoX e lo, evoX e hi with
    | some (.str l), some a, some b => match idxo 0 a, idxo l.length b with
      | some a, some b => match Nat.ble a b, Nat.ble b l.length with
        | true, true => some (.str ((l.take b).drop a), s)
        | _, _ => none
      | _, _ => none
    | _, _, _ => none
def o_ssl (C : Caller) (e : Env) (s : St) (al : Option Nat) (sz : Nat) (x : Opd) (lo : Option Opd) (hi : Option Opd) (mx : Option Opd) : Option (D × St) := match x.evX e, evoX e lo, evoX e hi, evoX e mx with
    | some d, some a, some b, some c => match idxo 0 a, idxo 0 b, idxo 0 c with
      | some a', some b', some c' =>
        match items s d with
        | some (z, l) => match Nat.beq z sz || (match d, l with | .vs .., [] => true | _, _ => false) with
          | true => ofO s (cutD d a' (someIf b b') (someIf c c'))
          | false => none
        | none => none
      | _, _, _ => none
    | _, _, _, _ => none
def o_faddr (C : Caller) (e : Env) (s : St) (al : Option Nat) (off : Nat) (x : Opd) : Option (D × St) := match x.evpX e with
    | some (.lptr a c) => match e.isLvX a with
      | true => some (.lptr a (c + off), s)
      | false => none
    | some (.ptr o c) => some (.ptr o (c + off), s)
    | some (.eptr o i c z) => some (.eptr o i (c + off) z, s)
    | some (.vptr d c) => some (.vptr d (c + off), s)
    | _ => none
def o_field (C : Caller) (e : Env) (s : St) (al : Option Nat) (off : Nat) (sz : Option Nat) (x : Opd) : Option (D × St) := match x.evX e with
    | some (.agg cs) => ofO s (part cs off sz)
    | _ => none
def o_iaddr (C : Caller) (e : Env) (s : St) (al : Option Nat) (sz : Nat) (x : Opd) (i : Opd) : Option (D × St) := match x.evX e, i.evX e with
    | some d, some n => match idx n with
      | some i => ofO s (iaddrD s sz d i)
      | none => none
    | _, _ => none
def o_iaddrA (C : Caller) (e : Env) (s : St) (al : Option Nat) (len : Nat) (sz : Nat) (x : Opd) (i : Opd) : Option (D × St) := match x.evpX e, i.evX e with
    | some (.lptr a c), some n => match idx n with
      | some i => match Nat.blt i len, e.isLvX a with
        | true, true => some (.lptr a (c + i * sz), s)
        | _, _ => none
      | none => none
    | some (.ptr o c), some n => match idx n with
      | some i => match Nat.blt i len with
        | true => some (.ptr o (c + i * sz), s)
        | false => none
      | none => none
    | some (.eptr o j c z), some n => match idx n with
      | some i => match Nat.blt i len with
        | true => some (.eptr o j (c + i * sz) z, s)
        | false => none
      | none => none
    | some (.vptr d c), some n => match idx n with
      | some i => match Nat.blt i len with
        | true => some (.vptr d (c + i * sz), s)
        | false => none
      | none => none
    | _, _ => none
def o_sidx (C : Caller) (e : Env) (s : St) (al : Option Nat) (x : Opd) (i : Opd) : Option (D × St) := match x.evX e, i.evX e with
    | some (.str l), some n => match idx n with
      | some i => match l[i]? with
        | some b => some (.int .u8 b.toNat, s)
        | none => none
      | none => none
    | _, _ => none
def o_aidx (C : Caller) (e : Env) (s : St) (al : Option Nat) (len : Nat) (sz : Nat) (ag : Bool) (x : Opd) (i : Opd) : Option (D × St) := match x.evX e, i.evX e with
    | some (.agg cs), some n => match idx n with
      | some i => match Nat.blt i len with
        | true => ofO s (part cs (i * sz) (match ag with | true => some sz | false => none))
        | false => none
      | none => none
    | _, _ => none
def o_lookup (C : Caller) (e : Env) (s : St) (al : Option Nat) (et : ET) (z : D) (ok : Bool) (m : Opd) (k : Opd) : Option (D × St) := match m.evX e, k.evX e with
    | some m, some k => match keyD et k with
      | false => none
      | true => match m with
        | .nilm => some (okD ok (z) false, s)
        | .mp o => match s.get o with
          | some (.map es _) => match findKey et k es 0 with
            | some (some (_, v)) => some (okD ok (v) true, s)
            | some none => some (okD ok (z) false, s)
            | none => none
          | _ => none
        | _ => none
    | _, _ => none
def o_mupd (C : Caller) (e : Env) (s : St) (al : Option Nat) (et : ET) (m : Opd) (k : Opd) (v : Opd) : Option (D × St) := match m.evX e, k.evX e, v.evX e with
    | some (.mp o), some k, some v => match keyD et k with
      | false => none
      | true => match s.get o with
        | some (.map es c) => match findKey et k es 0 with
          | some (some (i, _)) => match es[i]? with
            | some (_, k', _) => match sameK k' k with
              | true => ofS (.tup []) (s.set o (.map (setAt es i fun x => (x.1, k, v)) c))
              | false => none
            | none => none
          | some none => ofS (.tup []) (s.set o (.map (es ++ [(c, k, v)]) (c + 1)))
          | none => none
        | _ => none
    | _, _, _ => none
def o_mentry (C : Caller) (e : Env) (s : St) (al : Option Nat) (et : ET) (z : D) (m : Opd) (k : Opd) : Option (D × St) := match m.evX e, k.evX e with
    | some (.mp o), some k => match keyD et k with
      | false => none
      | true => match s.get o with
        | some (.map es c) => match findKey et k es 0 with
          | some (some (i, v)) => match es[i]? with
            | some (b, k', _) => match sameK k' k with
              | true => ofS (.tup [v, goI b]) (s.set o (.map (setAt es i fun x => (x.1, k, x.2.2)) c))
              | false => none
            | none => none
          | some none => ofS (.tup [z, goI c]) (s.set o (.map (es ++ [(c, k, z)]) (c + 1)))
          | none => none
        | _ => none
    | _, _ => none
def o_mestore (C : Caller) (e : Env) (s : St) (al : Option Nat) (m : Opd) (b : Opd) (v : Opd) : Option (D × St) := match m.evX e, b.evX e, v.evX e with
    | some (.mp o), some (.int _ b), some v => match s.get o with
      | some (.map es c) => match findBorn b es 0 with
        | some i => ofS (.tup []) (s.set o (.map (setAt es i fun x => (x.1, x.2.1, v)) c))
        | none => none
      | _ => none
    | _, _, _ => none
def o_range (C : Caller) (e : Env) (s : St) (al : Option Nat) (x : Opd) : Option (D × St) := match x.evX e with
    | some (.str l) => match s.mk' al (.siter l 0) with
      | some (k, s') => some (.ptr k 0, s')
      | none => none
    | _ => none
def o_nexts (C : Caller) (e : Env) (s : St) (al : Option Nat) (x : Opd) : Option (D × St) := match x.evX e with
    | some (.ptr o 0) => match s.get o with
      | some (.siter l pos) => match Nat.blt pos l.length with
        | true =>
          let r := Utf8.decode ⟨l.toArray⟩ pos
          ofS (.tup [.bool true, goI pos, .int .i32 r.1]) (s.set o (.siter l (pos + r.2)))
        | false => some (.tup [.bool false], s)
      | _ => none
    | _ => none
def o_tassert (C : Caller) (e : Env) (s : St) (al : Option Nat) (t : Nat) (z : D) (ok : Bool) (x : Opd) : Option (D × St) := match x.evX e with
    | some (.ifc u v) => match Nat.beq u t with
      | true => some (okD ok (v) true, s)
      | false => match ok with
        | true => some (.tup [z, .bool false], s)
        | false => none
    | some .nili => match ok with
      | true => some (.tup [z, .bool false], s)
      | false => none
    | _ => none
def o_tassertI (C : Caller) (e : Env) (s : St) (al : Option Nat) (n : Nat) (ts : List Nat) (ok : Bool) (x : Opd) : Option (D × St) := match x.evX e with
    | some (.ifc u v) => match memN u ts with
      | true => some (okD ok (.ifc u v) true, s)
      | false => match ok && Nat.blt u n with
        | true => some (.tup [.nili, .bool false], s)
        | false => none
    | some .nili => match ok with
      | true => some (.tup [.nili, .bool false], s)
      | false => none
    | _ => none
def o_extract (C : Caller) (e : Env) (s : St) (al : Option Nat) (i : Nat) (x : Opd) : Option (D × St) := match x.evX e with
    | some (.tup l) => ofO s l[i]?
    | _ => none
def o_call (C : Caller) (e : Env) (s : St) (al : Option Nat) (ro : Bool) (f : Nat) (args : List Opd) : Option (D × St) := match evsX e args with
    | some l => match ro with
      | false => C f l s
      | true => match C f l { s with ro := true } with
        | some (d, _) => some (d, s)
        | none => none
    | none => none
def o_callv (C : Caller) (e : Env) (s : St) (al : Option Nat) (f : Opd) (args : List Opd) : Option (D × St) := match f.evX e, evsX e args with
    | some (.fn (.func f) a b), some l => C f (a ++ l ++ b) s
    | some (.yl o), some l => C 0 (.lv (.yl o) :: l) s
    | _, _ => none
def o_invoke (C : Caller) (e : Env) (s : St) (al : Option Nat) (tbl : List (Nat × Nat × Recv)) (x : Opd) (args : List Opd) : Option (D × St) := match x.evX e, evsX e args with
    | some (.ifc t v), some l => match tblR tbl t with
      | some (f, r) => match recvD s v r with
        | some u => C f (u :: l) s
        | none => none
      | none => none
    | _, _ => none
def o_len (C : Caller) (e : Env) (s : St) (al : Option Nat) (k : Nat) (x : Opd) : Option (D × St) := match x.evX e with
    | some (.sstr i _ lo hi) => match k with
      | 0 => some (.sint .i64 (.len i) lo hi, s)
      | _ => none
    | some d => match lenD s k d with
      | some n => some (goI n, s)
      | none => none
    | none => none
def o_append (C : Caller) (e : Env) (s : St) (al : Option Nat) (sz : Nat) (bytes : Nat) (ty : Nat) (x : Opd) (y : Opd) : Option (D × St) := match x.evX e, y.evX e with
    | some a, some (.str l) => match Nat.beq sz 1, Nat.ble bytes 4096 with
      | true, true => appendD s al sz ty a (l.map fun b => .int .u8 b.toNat)
      | _, _ => none
    | some a, some b => match items s b with
      | some (z, l) => match Nat.beq z sz || (match l with | [] => true | _ => false), Nat.ble bytes 4096 with
        | true, true => match allSz sz l with
          | true => appendD s al sz ty a l
          | false => none
        | _, _ => none
      | none => none
    | _, _ => none
def o_copy (C : Caller) (e : Env) (s : St) (al : Option Nat) (sz : Nat) (x : Opd) (y : Opd) : Option (D × St) := match x.evX e, y.evX e with
    | some a, some (.str l) => match Nat.beq sz 1, lenD s 1 a with
      | true, some n => ofS (goI (min l.length n)) (fillSl s sz a ((l.take n).map fun b => .int .u8 b.toNat))
      | _, _ => none
    | some a, some b => match items s b, lenD s 1 a with
      | some (z, l), some n => match Nat.beq z sz || (match l with | [] => true | _ => false), allSz sz (l.take n) with
        | true, true => ofS (goI (min l.length n)) (fillSl s sz a (l.take n))
        | _, _ => none
      | _, _ => none
    | _, _ => none
def o_clear (C : Caller) (e : Env) (s : St) (al : Option Nat) (sz : Nat) (z : D) (x : Opd) : Option (D × St) := match x.evX e with
    | some .nilm => some (.tup [], s)
    | some (.mp o) => match s.get o with
      | some (.map _ c) => ofS (.tup []) (s.set o (.map [] c))
      | _ => none
    | some a => match lenD s 1 a with
      | some n => match allSz sz [z] with
        | true => ofS (.tup []) (fillSl s sz a (List.replicate n z))
        | false => none
      | none => none
    | none => none
def o_runesToStr (C : Caller) (e : Env) (s : St) (al : Option Nat) (x : Opd) : Option (D × St) := match x.evX e with
    | some d => match items s d with
      | some (z, l) => match Nat.beq z 1 || (match l with | [] => true | _ => false), codesOf l with
        | true, some b => some (.str b, s)
        | _, _ => none
      | none => none
    | none => none
def o_bytesId (C : Caller) (e : Env) (s : St) (al : Option Nat) (x : Opd) : Option (D × St) := match x.evX e with
    | some (.sl o a b c) => some (.sl o a b c, s)
    | _ => none
def o_uptr (C : Caller) (e : Env) (s : St) (al : Option Nat) (x : Opd) : Option (D × St) := match x.evX e with
    | some (.ptr o c) => match s.get o with
      | some (.var _ v) => match Nat.blt c v.flat.length with
        | true => some (.ptr o c, s)
        | false => none
      | _ => none
    | _ => none
def o_upto (C : Caller) (e : Env) (s : St) (al : Option Nat) (l : List (Nat × Nat × Nat)) (x : Opd) : Option (D × St) := match x.evX e with
    | some .nilp => some (.nilp, s)
    | some (.ptr o c) => match s.get o with
      | some (.var t v) => match memTc t c v.flat.length l with
        | true => some (.ptr o c, s)
        | false => none
      | _ => none
    | _ => none
def o_sldata (C : Caller) (e : Env) (s : St) (al : Option Nat) (x : Opd) : Option (D × St) := match x.evX e with
    | some (.vs true _ _) => some (.nilp, s)
    | some (.sl o off _ cp) => match s.get o with
      | some (.arr ..) => match Nat.blt 0 cp with
        | true => some (.eptr o off 0 (off + cp), s)
        | false => none
      | _ => none
    | _ => none
def o_ustr (C : Caller) (e : Env) (s : St) (al : Option Nat) (ty : Nat) (x : Opd) (y : Opd) : Option (D × St) := match x.evX e, y.evX e with
    | some .nilp, some (.int k n) => match decide (k = .i64) && decide (n = 0) with
      | true => some (.str [], s)
      | false => none
    | some (.eptr o i c en), some (.int k n) => match s.get o with
      | some (.arr z t es st) => match Nat.beq z 1 && (Nat.beq t ty && Nat.beq c 0), decide (k = .i64) && (decide (0 < n) && Nat.ble n.toNat maxElems), Nat.ble (i + n.toNat) en && (Nat.ble en es.length && Nat.ble st en), bytesOf ((es.drop i).take n.toNat) with
        | true, true, true, some b => ofS (.str b) (s.set o .dead)
        | _, _, _, _ => none
      | _ => none
    | _, _ => none
def o_ext (C : Caller) (e : Env) (s : St) (al : Option Nat) (k : Ext) (l : List Opd) : Option (D × St) := match evsX e l with
    | some l => extD s k l
    | none => none
def o_delete (C : Caller) (e : Env) (s : St) (al : Option Nat) (et : ET) (m : Opd) (k : Opd) : Option (D × St) := match m.evX e, k.evX e with
    | some m, some k => match keyD et k with
      | false => none
      | true => match m with
        | .nilm => some (.tup [], s)
        | .mp o => match s.get o with
          | some (.map es c) => match findKey et k es 0 with
            | some (some (i, _)) => ofS (.tup []) (s.set o (.map (es.eraseIdx i) c))
            | some none => ofS (.tup []) (s.set o (.map es c))
            | none => none
          | _ => none
        | _ => none
    | _, _ => none
def o_minmax (C : Caller) (e : Env) (s : St) (al : Option Nat) (mx : Bool) (l : List Opd) : Option (D × St) := match evsX e l with
    | some (d :: r) => ofO s (minI mx d r)
    | _ => none

def finX (fr : Fr) (dst : Option Nat) (r : Option (D × St)) : Option (Fr × St) := match r with
  | some (d, s') => some ({ fr with env := putD fr.env dst d }, s')
  | none => none
def alX (b : Nat) (al : Option Nat) : Option Nat := match al with
  | some r => some (b + r)
  | none => none
def o_defer (fr : Fr) (s : St) (dst : Option Nat) (f : Opd) (args : List Opd) : Option (Fr × St) := match f.evX fr.env, evsX fr.env args with
  | some (.fn g x y), some l => some ({ env := putD fr.env dst (.tup []), defers := (.fn g x y, l) :: fr.defers }, s)
  | _, _ => none
def o_lbox (fr : Fr) (s : St) (dst : Option Nat) (x : Opd) : Option (Fr × St) := match dst, x.evX fr.env with
  | some a, some d => match fr.env.noL a && d.st with
    | true => some ({ fr with env := (a, .lv d) :: fr.env }, s)
    | false => none
  | _, _ => none
def o_lstore (fr : Fr) (s : St) (dst : Option Nat) (a sz : Nat) (x v : Opd) : Option (Fr × St) := match x.evpX fr.env, v.evX fr.env with
  | some (.lptr a' c), some d => match Nat.beq a a', fr.env.getX a, Nat.beq d.flat.length sz with
    | true, some (.lv w), true => match w.over c d with
      | some w' => some ({ fr with env := putD ((a, .lv w') :: fr.env) dst (.tup []) }, s)
      | none => none
    | _, _, _ => none
  | _, _ => none
def doX (C : Caller) (b : Nat) (fr : Fr) (s : St) (dst : Option Nat) (al : Option Nat) (op : AOp) : Option (Fr × St) := match op with
  | .defer f args => o_defer fr s dst f args
  | .lbox x => o_lbox fr s dst x
  | .lstore a sz x v => o_lstore fr s dst a sz x v
  | .mv x0 => finX fr dst (o_mv C fr.env s (alX b al) x0)
  | .pick x0 x1 x2 => finX fr dst (o_pick C fr.env s (alX b al) x0 x1 x2)
  | .box x0 x1 => finX fr dst (o_box C fr.env s (alX b al) x0 x1)
  | .vslice x0 x1 x2 x3 => finX fr dst (o_vslice C fr.env s (alX b al) x0 x1 x2 x3)
  | .build x0 x1 => finX fr dst (o_build C fr.env s (alX b al) x0 x1)
  | .bslice x0 x1 x2 x3 x4 => finX fr dst (o_bslice C fr.env s (alX b al) x0 x1 x2 x3 x4)
  | .load x0 x1 => finX fr dst (o_load C fr.env s (alX b al) x0 x1)
  | .store x0 x1 x2 => finX fr dst (o_store C fr.env s (alX b al) x0 x1 x2)
  | .lload x0 x1 x2 => finX fr dst (o_lload C fr.env s (alX b al) x0 x1 x2)
  | .nilchk x0 => finX fr dst (o_nilchk C fr.env s (alX b al) x0)
  | .bin x0 x1 x2 => finX fr dst (o_bin C fr.env s (alX b al) x0 x1 x2)
  | .eq x0 x1 x2 x3 x4 => finX fr dst (o_eq C fr.env s (alX b al) x0 x1 x2 x3 x4)
  | .un x0 x1 => finX fr dst (o_un C fr.env s (alX b al) x0 x1)
  | .toInt x0 x1 => finX fr dst (o_toInt C fr.env s (alX b al) x0 x1)
  | .intToStr x0 => finX fr dst (o_intToStr C fr.env s (alX b al) x0)
  | .strId x0 => finX fr dst (o_strId C fr.env s (alX b al) x0)
  | .strToBytes x0 x1 => finX fr dst (o_strToBytes C fr.env s (alX b al) x0 x1)
  | .bytesToStr x0 => finX fr dst (o_bytesToStr C fr.env s (alX b al) x0)
  | .mkif x0 x1 => finX fr dst (o_mkif C fr.env s (alX b al) x0 x1)
  | .mkfn x0 x1 x2 => finX fr dst (o_mkfn C fr.env s (alX b al) x0 x1 x2)
  | .mkmap x0 => finX fr dst (o_mkmap C fr.env s (alX b al) x0)
  | .mkslice x0 x1 x2 x3 x4 x5 => finX fr dst (o_mkslice C fr.env s (alX b al) x0 x1 x2 x3 x4 x5)
  | .sstr x0 x1 x2 => finX fr dst (o_sstr C fr.env s (alX b al) x0 x1 x2)
  | .ssl x0 x1 x2 x3 x4 => finX fr dst (o_ssl C fr.env s (alX b al) x0 x1 x2 x3 x4)
  | .faddr x0 x1 => finX fr dst (o_faddr C fr.env s (alX b al) x0 x1)
  | .field x0 x1 x2 => finX fr dst (o_field C fr.env s (alX b al) x0 x1 x2)
  | .iaddr x0 x1 x2 => finX fr dst (o_iaddr C fr.env s (alX b al) x0 x1 x2)
  | .iaddrA x0 x1 x2 x3 => finX fr dst (o_iaddrA C fr.env s (alX b al) x0 x1 x2 x3)
  | .sidx x0 x1 => finX fr dst (o_sidx C fr.env s (alX b al) x0 x1)
  | .aidx x0 x1 x2 x3 x4 => finX fr dst (o_aidx C fr.env s (alX b al) x0 x1 x2 x3 x4)
  | .lookup x0 x1 x2 x3 x4 => finX fr dst (o_lookup C fr.env s (alX b al) x0 x1 x2 x3 x4)
  | .mupd x0 x1 x2 x3 => finX fr dst (o_mupd C fr.env s (alX b al) x0 x1 x2 x3)
  | .mentry x0 x1 x2 x3 => finX fr dst (o_mentry C fr.env s (alX b al) x0 x1 x2 x3)
  | .mestore x0 x1 x2 => finX fr dst (o_mestore C fr.env s (alX b al) x0 x1 x2)
  | .range x0 => finX fr dst (o_range C fr.env s (alX b al) x0)
  | .nexts x0 => finX fr dst (o_nexts C fr.env s (alX b al) x0)
  | .tassert x0 x1 x2 x3 => finX fr dst (o_tassert C fr.env s (alX b al) x0 x1 x2 x3)
  | .tassertI x0 x1 x2 x3 => finX fr dst (o_tassertI C fr.env s (alX b al) x0 x1 x2 x3)
  | .extract x0 x1 => finX fr dst (o_extract C fr.env s (alX b al) x0 x1)
  | .call x0 x1 x2 => finX fr dst (o_call C fr.env s (alX b al) x0 x1 x2)
  | .callv x0 x1 => finX fr dst (o_callv C fr.env s (alX b al) x0 x1)
  | .invoke x0 x1 x2 => finX fr dst (o_invoke C fr.env s (alX b al) x0 x1 x2)
  | .len x0 x1 => finX fr dst (o_len C fr.env s (alX b al) x0 x1)
  | .append x0 x1 x2 x3 x4 => finX fr dst (o_append C fr.env s (alX b al) x0 x1 x2 x3 x4)
  | .copy x0 x1 x2 => finX fr dst (o_copy C fr.env s (alX b al) x0 x1 x2)
  | .clear x0 x1 x2 => finX fr dst (o_clear C fr.env s (alX b al) x0 x1 x2)
  | .runesToStr x0 => finX fr dst (o_runesToStr C fr.env s (alX b al) x0)
  | .bytesId x0 => finX fr dst (o_bytesId C fr.env s (alX b al) x0)
  | .uptr x0 => finX fr dst (o_uptr C fr.env s (alX b al) x0)
  | .upto x0 x1 => finX fr dst (o_upto C fr.env s (alX b al) x0 x1)
  | .sldata x0 => finX fr dst (o_sldata C fr.env s (alX b al) x0)
  | .ustr x0 x1 x2 => finX fr dst (o_ustr C fr.env s (alX b al) x0 x1 x2)
  | .ext x0 x1 => finX fr dst (o_ext C fr.env s (alX b al) x0 x1)
  | .delete x0 x1 x2 => finX fr dst (o_delete C fr.env s (alX b al) x0 x1 x2)
  | .minmax x0 x1 => finX fr dst (o_minmax C fr.env s (alX b al) x0 x1)
  | .bad => none
theorem alX_eq (b : Nat) (al : Option Nat) : alX b al = (match al with | some r => some (b + r) | none => none) := by cases al <;> rfl
def wantX (e : Env) (g : Option (Nat × Bool)) : Option Bool := match g with
  | none => some true
  | some (t, b) => match e.getX t with
    | some (.bool c) => some (c == b)
    | some (.tup []) => some false
    | _ => none
theorem wantX_eq (e : Env) (g : Option (Nat × Bool)) : wantX e g = wantedD e g := by
  unfold wantX wantedD
  cases g with
  | none => rfl
  | some p => obtain ⟨t, b⟩ := p; simp only [getX_eq]; rfl
def goX (C : Caller) (b : Nat) (o : AOper) (fr : Fr) (s : St) (w : Option Bool) : Option (Fr × St) := match w with
  | some true => doX C b fr s o.dst o.al o.op
  | some false => some ({ fr with env := putD fr.env o.dst (.tup []) }, s)
  | none => none
def operX (C : Caller) (b : Nat) (o : AOper) (fr : Fr) (s : St) : Option (Fr × St) := goX C b o fr s (wantX fr.env o.guard)
theorem operX_eq (C : Caller) (b : Nat) (o : AOper) (fr : Fr) (s : St) : operX C b o fr s = oper C b o fr s := by
  unfold operX oper goX
  rw [wantX_eq]
  cases hw : wantedD fr.env o.guard with
  | none => rfl
  | some q =>
    cases q with
    | false => rfl
    | true =>
      obtain ⟨dst, op, guard, al⟩ := o
      cases op <;> simp only [doX, finX, opF, alX_eq, evX_eq, evpX_eq, evsX_eq, evoX_eq, evPartsX_eq, evSPartsX_eq, getX_eq, isLvX_eq, o_defer, o_lbox, o_lstore, o_mv, o_pick, o_box, o_vslice, o_build, o_bslice, o_load, o_store, o_lload, o_nilchk, o_bin, o_eq, o_un, o_toInt, o_intToStr, o_strId, o_strToBytes, o_bytesToStr, o_mkif, o_mkfn, o_mkmap, o_mkslice, o_sstr, o_ssl, o_faddr, o_field, o_iaddr, o_iaddrA, o_sidx, o_aidx, o_lookup, o_mupd, o_mentry, o_mestore, o_range, o_nexts, o_tassert, o_tassertI, o_extract, o_call, o_callv, o_invoke, o_len, o_append, o_copy, o_clear, o_runesToStr, o_bytesId, o_uptr, o_upto, o_sldata, o_ustr, o_ext, o_delete, o_minmax] <;> rfl

def nextX (k : Fr → St → Option (Fr × St)) (r : Option (Fr × St)) : Option (Fr × St) := match r with
  | some (fr', s') => k fr' s'
  | none => none
def opersX (C : Caller) (b : Nat) (l : List AOper) : Fr → St → Option (Fr × St) :=
  List.rec (motive := fun _ => Fr → St → Option (Fr × St)) (fun fr s => some (fr, s)) (fun o _ ih fr s => nextX ih (operX C b o fr s)) l
theorem opersX_eq (C : Caller) (b : Nat) : ∀ (l : List AOper) (fr : Fr) (s : St), opersX C b l fr s = opers C b l fr s
  | [], _, _ => rfl
  | o :: r, fr, s => by
    have : opersX C b (o :: r) fr s = nextX (opersX C b r) (operX C b o fr s) := rfl
    rw [this, operX_eq]
    unfold opers nextX
    cases oper C b o fr s with
    | none => rfl
    | some p => exact opersX_eq C b r p.1 p.2
def dopersX (C : Caller) (b : Nat) : List (AOper × List Nat) → List Fp → Fr → St → Option (Fr × St)
  | [], _, fr, s => some (fr, s)
  | (o, l) :: r, acc, fr, s => match chkAll acc (fpOf b fr.env o) l && !(fr.env.isLvo o.dst) with
    | true => match operX C b o fr s with
      | some (fr', s') => match fr'.env.isLvo o.dst || lost acc s s' o l with
        | false => dopersX C b r (acc ++ [fpOf b fr.env o]) fr' s'
        | true => none
      | none => none
    | false => none
theorem dopersX_eq (C : Caller) (b : Nat) : ∀ (l : List (AOper × List Nat)) (acc : List Fp) (fr : Fr) (s : St), dopersX C b l acc fr s = dopers C b l acc fr s
  | [], _, _, _ => rfl
  | (o, l) :: r, acc, fr, s => by simp only [dopersX, dopers, operX_eq, dopersX_eq C b r]; rfl

def xNorm (r : Option (Fr × St)) : Option (Ex × Fr × St) := match r with
  | some (fr', s') => some (.normal, fr', s')
  | none => none
def xDreg (C : Caller) (k : Nat) (ops : List (AOper × List Nat)) (fr : Fr) (s : St) : Option (Ex × Fr × St) := match s.ro && Nat.blt 0 k with
  | true => none
  | false => xNorm (dopersX C s.n ops [] fr { s with n := s.n + k })
def xSeq (k : Fr → St → Option (Ex × Fr × St)) (r : Option (Ex × Fr × St)) : Option (Ex × Fr × St) := match r with
  | some (.normal, fr', s') => k fr' s'
  | r => r
def xCond (c : Option D) (a b : Fr → St → Option (Ex × Fr × St)) (fr : Fr) (s : St) : Option (Ex × Fr × St) := match c with
  | some (.bool true) => a fr s
  | some (.bool false) => b fr s
  | _ => none
def xBlock (id : Nat) (r : Option (Ex × Fr × St)) : Option (Ex × Fr × St) := match r with
  | some (.exit i, fr', s') => match Nat.beq i id with
    | true => some (.normal, fr', s')
    | false => some (.exit i, fr', s')
  | r => r
def execX (C : Caller) (L : Looper) (a : AC) : Fr → St → Option (Ex × Fr × St) :=
  AC.rec (motive := fun _ => Fr → St → Option (Ex × Fr × St))
    (fun fr s => some (.normal, fr, s))
    (fun ops fr s => xNorm (opersX C 0 ops fr s))
    (fun k ops fr s => xDreg C k ops fr s)
    (fun _ _ iha ihb fr s => xSeq ihb (iha fr s))
    (fun c _ _ iha ihb fr s => xCond (c.evX fr.env) iha ihb fr s)
    (fun id _ iha fr s => xBlock id (iha fr s))
    (fun keep a _ fr s => L keep a fr s)
    (fun id fr s => some (.exit id, fr, s))
    (fun fr s => some (.ret, fr, s))
    (fun _ _ => none)
    (fun keep g ps a b _ _ fr s => L [] (.rangef keep g ps a b) fr s) a
theorem execX_eq (C : Caller) (L : Looper) : ∀ (a : AC) (fr : Fr) (s : St), execX C L a fr s = execS C L a fr s
  | .skip, _, _ => rfl
  | .reg ops, fr, s => by
    show xNorm (opersX C 0 ops fr s) = _
    rw [opersX_eq]; unfold execS xNorm; rfl
  | .dreg k ops, fr, s => by
    show xDreg C k ops fr s = _
    unfold execS xDreg
    rw [dopersX_eq]; rfl
  | .seq a b, fr, s => by
    show xSeq (execX C L b) (execX C L a fr s) = _
    rw [execX_eq C L a fr s]
    unfold xSeq
    rw [execS]
    split
    · rename_i h; simp only [h]; exact execX_eq C L b _ _
    · rename_i h
      split
      · rename_i h2; exact absurd h2 (h _ _)
      · rfl
  | .cond c a b, fr, s => by
    show xCond (c.evX fr.env) (execX C L a) (execX C L b) fr s = _
    rw [evX_eq]
    unfold xCond
    rw [execS]
    split
    · rename_i h; simp only [h]; exact execX_eq C L a _ _
    · rename_i h; simp only [h]; exact execX_eq C L b _ _
    · rename_i h1 h2
      split
      · rename_i h; exact absurd h h1
      · rename_i h; exact absurd h h2
      · rfl
  | .block id a, fr, s => by
    show xBlock id (execX C L a fr s) = _
    rw [execX_eq C L a fr s]
    unfold xBlock
    rw [execS]
    cases execS C L a fr s with
    | none => rfl
    | some p => obtain ⟨e, fr', s'⟩ := p; cases e <;> rfl
  | .loop keep a, fr, s => rfl
  | .rangef keep g ps a b, fr, s => rfl
  | .exit id, fr, s => rfl
  | .ret, fr, s => rfl
  | .bad, fr, s => rfl

def resX (s : St) (fr : Fr) (l : List ARes) : Option (D × St) := match resD fr.env s l with
  | some l => some (single l, s)
  | none => none
def leaveX (CD : Caller) (rs : List ARes) (fr : Fr) (s : St) : Option (D × St) := match leave CD fr.defers s with
  | some s'' => resX s'' fr rs
  | none => none
def endX (CD : Caller) (rs : List ARes) (r : Option (Ex × Fr × St)) : Option (D × St) := match r with
  | some (.exit _, _, _) => none
  | some (_, fr, s') => leaveX CD rs fr s'
  | none => none
def runX (C CD : Caller) (L : Looper) (fn : AFn) (args : List D) (s : St) : Option (D × St) := endX CD fn.results (execX C L fn.body { env := env0 0 args, defers := [] } s)
theorem runX_eq (C CD : Caller) (L : Looper) (fn : AFn) (args : List D) (s : St) : runX C CD L fn args s = runFn C CD L fn args s := by
  unfold runX runFn
  rw [execX_eq]
  cases execS C L fn.body { env := env0 0 args, defers := [] } s with
  | none => rfl
  | some p =>
    obtain ⟨e, fr, s'⟩ := p
    cases e <;> simp only [endX, leaveX, resX] <;> rfl
def pickX (H : Caller) (k : AFn → List D → St → Option (D × St)) (f : Nat) (args : List D) (s : St) (o : Option AFn) : Option (D × St) := match yS args with
  | true => H f args s
  | false => match o with
    | some fn => k fn args s
    | none => H f args s
def againX (k : Fr → St → Option (Ex × Fr × St)) (r : Option (Ex × Fr × St)) : Option (Ex × Fr × St) := match r with
  | some (.normal, fr', s') => k fr' s'
  | r => r
def loopX (ih : Caller → Caller × Looper) (H : Caller) (keep : List Nat) (a : AC) (fr : Fr) (s : St) : Option (Ex × Fr × St) := match a with
  | .rangef kp g ps x y => rangeF (fun k e => (ih (yHook k ps e (execX (ih H).1 (ih H).2 x) (execX (ih H).1 (ih H).2 y) H)).1) kp g fr s
  | a => againX ((ih H).2 keep a) (execX (ih H).1 (ih H).2 a { fr with env := fr.env.keep keep } s)
def pairX (T : Nat → Option AFn) (H : Caller) (n : Nat) : Caller × Looper :=
  Nat.rec (motive := fun _ => Caller → Caller × Looper) (fun _ => (fun _ _ _ => none, fun _ _ _ _ => none)) (fun _ ih H =>
    (fun f args s => pickX H (runX (ih H).1 (callD T (ih H).1 (ih H).2) (ih H).2) f args s (T f),
     fun keep a fr s => loopX ih H keep a fr s)) n H
theorem pairX_eq (T : Nat → Option AFn) : ∀ n (H : Caller), pairX T H n = (callN T H n, loopN T H n)
  | 0, H => by
    refine Prod.ext ?_ ?_
    · funext f l s; show none = callN T H 0 f l s; rw [callN]
    · funext k a fr s; show none = loopN T H 0 k a fr s; rw [loopN]
  | n + 1, H => by
    have ih := pairX_eq T n
    have h : pairX T H (n + 1) = (fun f args s => pickX H (runX (pairX T H n).1 (callD T (pairX T H n).1 (pairX T H n).2) (pairX T H n).2) f args s (T f),
     fun keep a fr s => loopX (fun H => pairX T H n) H keep a fr s) := rfl
    rw [h, ih]
    refine Prod.ext ?_ ?_
    · funext f l s
      show pickX H _ f l s (T f) = callN T H (n + 1) f l s
      rw [callN]
      unfold pickX
      cases yS l with
      | true => rfl
      | false =>
        cases T f with
        | none => rfl
        | some fn => exact runX_eq _ _ _ _ _ _
    · funext k a fr s
      show loopX (fun H => pairX T H n) H k a fr s = loopN T H (n + 1) k a fr s
      have e1 : ∀ b, execX (callN T H n) (loopN T H n) b = execS (callN T H n) (loopN T H n) b := fun b => by funext fr s; exact execX_eq _ _ b fr s
      cases hb : a.isRangef with
      | true =>
        cases a <;> first | (cases hb; done) | skip
        rw [loopN_range]
        simp only [loopX, ih, e1]
      | false =>
        rw [loopN_plain _ _ _ _ hb]
        have e2 : loopX (fun H => pairX T H n) H k a fr s = againX ((pairX T H n).2 k a) (execX (pairX T H n).1 (pairX T H n).2 a { fr with env := fr.env.keep k } s) := by
          cases a <;> first | (cases hb; done) | rfl
        rw [e2, ih, e1]
        unfold againX
        split
        · rename_i h; simp only [h]
        · rename_i h
          split
          · rename_i h2; exact absurd h2 (h _ _)
          · rfl
def callX (T : Nat → Option AFn) (H : Caller) (n : Nat) : Caller := (pairX T H n).1
theorem callX_eq (T : Nat → Option AFn) (H : Caller) (n : Nat) : callX T H n = callN T H n := by unfold callX; rw [pairX_eq]
theorem callX_right [Vals] {P : Program} {pn : Pins} {G : Gl} {X : Exts} {T : Nat → Option AFn} {H : Caller} (hm : P.follows .mixedOrders = true) (hT : TabOk P G X T) (hX : ∀ f k, X f = some k → ExtOk P f k) (hH : CallerOk pn P G H) (n : Nat) : CallerOk pn P G (callX T H n) := by
  rw [callX_eq]; exact callN_right hm hT hX hH n
end
end Go.Ab
