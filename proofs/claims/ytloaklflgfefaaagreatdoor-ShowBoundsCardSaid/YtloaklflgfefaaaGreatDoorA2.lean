/- From the model's code to the abstract machine's: 'compile' with the loops' lists given. Definitions alone. -/
import Derived.Test.YtloaklflgfefaaaGreatDoorA1
namespace Go.Ab
open Go
set_option linter.unusedSectionVars false
set_option linter.unusedSimpArgs false
set_option linter.unusedVariables false

mutual
/-- A constant as a datum. -/
def ofV : Value → Option D
  | .bool b => some (.bool b)
  | .int k n => some (.int k n)
  | .string s => some (.str s.data.toList)
  | .pointer none => some .nilp
  | .slice none 0 0 => some (.vs true 0 [])
  | .map none => some .nilm
  | .func f a b => match ofVs a.toList, ofVs b.toList with
    | some x, some y => some (.fn f x y)
    | _, _ => none
  | .nilFunc => some .nilf
  | .nilIface => some .nili
  | .iface t v => match ofV v with
    | some d => some (.ifc t d)
    | none => none
  | .agg cs => match ofVs cs.toList with
    | some l => match l.all D.sc with
      | true => some (.agg l)
      | false => none
    | none => none
  | .tuple cs => match ofVs cs.toList with
    | some l => some (.tup l)
    | none => none
  | _ => none
def ofVs : List Value → Option (List D)
  | [] => some []
  | v :: r => match ofV v, ofVs r with
    | some d, some l => some (d :: l)
    | _, _ => none
end

/-- What stands outside of the code: the package-level variables that are only read. -/
abbrev Gl := Nat → Option D

def opd (G : Gl) : Operand → Option Opd
  | .tmp t => some (.t t)
  | .const v => (ofV v).map .c
  | .func f => some (.c (.fn (.func f) [] []))
  | .global g => (G g).map fun d => .c (.vptr d 0)

def opds (G : Gl) (l : Array Operand) : Option (List Opd) := l.toList.mapM (opd G)
def opdo (G : Gl) : Option Operand → Option (Option Opd)
  | none => some none
  | some x => (opd G x).map some

def isAggB (P : Program) (t : TypeId) : Option Bool :=
  match P.underlying t with
  | some (.struct _) => some true
  | some (.array _ _) => some true
  | some _ => some false
  | none => none
def sizeB (P : Program) (t : TypeId) : Option Nat := (P.info? t).map (·.size)
/-- How a variable of the type is loaded. -/
def shapeB (P : Program) (t : TypeId) : Option (Option Nat) :=
  match isAggB P t, sizeB P t with
  | some true, some s => some (some s)
  | some false, some 1 => some none
  | _, _ => none
def zeroB (P : Program) (t : TypeId) : Option D := ((P.info? t).bind (·.zero)).bind ofV

/-- What '==' looks at, of a type: no floats, no channels; of structs all fields. -/
def etB (P : Program) : Nat → TypeId → Option ET
  | 0, _ => none
  | d + 1, t => match P.underlying t with
    | some .bool => some .bool
    | some (.int _) => some .int
    | some .string => some .str
    | some (.pointer e) => match sizeB P e with
      | some (_ + 1) => some .ptr
      | _ => none
    | some (.interface _) => some .iface
    | some (.slice _) => some .slice
    | some (.map _ _) => some .map
    | some (.func _ _ _) => some .func
    | some (.struct fs) => match P.stoodInHeld t with
      | true => none
      | false => (fieldsB (etB P d) fs.toList).map .st
    | _ => none
where
  fieldsB (f : TypeId → Option ET) : List Field → Option ETs
    | [] => some .nil
    | x :: r => match x.name == "_" with
      | true => none
      | false => match shapeB P x.type, f x.type, fieldsB f r with
        | some s, some e, some l => some (.cons x.offset s e l)
        | _, _, _ => none

def constB : Operand → Bool
  | .const _ => true
  | _ => false

/-- A pointer 0, an interface or nothing 2, else 1. -/
def tkind : Option TypeDesc → Nat
  | some (.pointer _) => 0
  | some (.interface _) => 2
  | some _ => 1
  | none => 2
/-- How a method comes to its receiver. -/
def recvR (P : Program) (t : TypeId) (path : List FieldStep) (ptr : Bool) : Option Recv :=
  match path with
  | [] => match tkind (P.underlying t), ptr with
    | 0, true => some .self
    | 1, false => some .self
    | _, _ => none
  | [st] => match P.underlying st.struct with
    | some (.struct fs) => match fs[st.index]? with
      | some fl => match st.deref with
        | true => match Nat.beq (tkind (P.underlying fl.type)) 1 && ptr with
          | true => match sizeB P fl.type with
            | some (_ + 1) => some (.addr fl.offset)
            | _ => none
          | false => match (Nat.beq (tkind (P.underlying fl.type)) 0 && ptr) || (Nat.beq (tkind (P.underlying fl.type)) 1 && !ptr), sizeB P fl.type, shapeB P fl.type with
            | true, some (_ + 1), some sz => some (.load fl.offset sz)
            | _, _, _ => none
        | false => match (Nat.beq (tkind (P.underlying fl.type)) 0 && ptr) || (Nat.beq (tkind (P.underlying fl.type)) 1 && !ptr), shapeB P fl.type with
          | true, some sz => some (.part fl.offset sz)
          | _, _ => none
      | none => none
    | _ => none
  | _ => none
def methodB (P : Program) (name : String) : List (Nat × Nat × Recv) :=
  (P.types.toList.zipIdx.filterMap fun (i, t) =>
    match i.methods.find? (·.name == name) with
    | some m => match m.func with
      | some (f, ptr) => (recvR P t m.path.toList ptr).map fun r => (t, f, r)
      | none => none
    | none => none)

def implB (P : Program) (want : Array (String × TypeId)) : List Nat :=
  P.types.toList.zipIdx.filterMap fun (i, t) => match Instr.missingMethod want i.methods with
    | none => some t
    | some _ => none

abbrev Exts := Nat → Option Ext

def appendableB : Option TypeDesc → Bool
  | some (.slice _) => true
  | some .string => true
  | _ => false

def builtinB (P : Program) (G : Gl) (c : Call) (b : Builtin) : Option AOp :=
  match b, c.args.toList, c.argTypes.toList with
  | .len, [x], [t] => match P.underlying t with
    | some .string => (opd G x).map (.len 0)
    | some (.slice _) => (opd G x).map (.len 1)
    | some (.map _ _) => (opd G x).map (.len 2)
    | _ => none
  | .append, [x, y], [t, u] => do
    let .slice e ← P.underlying t | none
    if appendableB (P.underlying u) then
      let s ← sizeB P e
      let z ← zeroB P e
      let i ← P.info? e
      let a ← opd G x
      let b ← opd G y
      if Nat.blt 0 s && allSz s [z] then pure (.append s i.bytes e a b) else none
    else none
  | .unsafeSliceData, [x], [t] => match P.underlying t with
    | some (.slice _) => (opd G x).map .sldata
    | _ => none
  | .unsafeString, [x, y], [t, _] => match P.underlying t with
    | some (.pointer e) => match sizeB P e with
      | some 1 => do pure (.ustr e (← opd G x) (← opd G y))
      | _ => none
    | _ => none
  | .copy, [x, y], [t, _] => do
    let .slice e ← P.underlying t | none
    let s ← sizeB P e
    if s = 0 then none
    let a ← opd G x
    let b ← opd G y
    pure (.copy s a b)
  | .delete, [x, y], [t, _] => do
    let .map q _ ← P.underlying t | none
    let et ← etB P 8 q
    let a ← opd G x
    let b ← opd G y
    pure (.delete et a b)
  | .clear, [x], [t] => match P.underlying t with
    | some (.slice e) => do
      let s ← sizeB P e
      if s = 0 then none
      pure (.clear s (← zeroB P e) (← opd G x))
    | some (.map _ _) => do pure (.clear 1 (.tup []) (← opd G x))
    | _ => none
  | .min, l, _ => do pure (.minmax false (← l.mapM (opd G)))
  | .max, l, _ => do pure (.minmax true (← l.mapM (opd G)))
  | _, _, _ => none

def callB (P : Program) (G : Gl) (X : Exts) (ro : Bool) (c : Call) : Option AOp :=
  match c.callee with
  | .builtin b => builtinB P G c b
  | .value (.func f) => do
    let fn ← P.funcs[f]?
    if fn.body.isNone then
      match X f with
      | some e => pure (.ext e (← opds G c.args))
      | none => none
    else if fn.name == "runtime.NumGoroutine" then none
    else pure (.call ro f (← opds G c.args))
  | .value x => do pure (.callv (← opd G x) (← opds G c.args))
  | .invoke x name => do pure (.invoke (methodB P name) (← opd G x) (← opds G c.args))

def partsB (P : Program) (G : Gl) (fs : Array Field) (parts : Array (Nat × Operand)) : Option (List (Nat × Nat × Opd)) :=
  parts.toList.mapM fun (i, x) => do
    let f ← fs[i]?
    let s ← sizeB P f.type
    let d ← opd G x
    pure (f.offset, s, d)

/-- Advice for one function, and what stands outside: private slots, slots of calls that write nothing, the roots of addresses. -/
structure Adv where
  pr : List Nat
  ros : List Nat
  roots : List (Nat × Nat)
  ks : List (List Nat)
  nt : Nat

def Adv.mine (A : Adv) : Option Nat → Bool
  | some a => A.pr.contains a
  | none => false
def Adv.isRo (A : Adv) : Option Nat → Bool
  | some a => A.ros.contains a
  | none => false

def ET.isSt : ET → Bool
  | .st _ => true
  | _ => false
def eqB (op : BinOp) (et : ET) (oc : Bool) (a b : Opd) : Option AOp :=
  match op with
  | .eql => some (.eq et false oc a b)
  | .neq => some (.eq et true oc a b)
  | _ => none

def rootOf (A : Adv) : Operand → Option Nat
  | .tmp t => if A.pr.contains t then some t else tblGet A.roots t
  | _ => none


def opB (P : Program) (G : Gl) (X : Exts) (A : Adv) (o : Oper) : Option AOp :=
  match o.op with
  | .move x | .assign x => (opd G x).map .mv
  | .pick c a b => do pure (.pick (← opd G c) (← opd G a) (← opd G b))
  | .alloc e => do
    let z ← zeroB P e
    match A.mine o.dst with
    | true => pure (.lbox (.c z))
    | false => pure (.box e (.c z))
  | .box e x => do
    let a ← opd G x
    match A.mine o.dst with
    | true => pure (.lbox a)
    | false => pure (.box e a)
  | .build t parts => do
    let z ← zeroB P t
    match P.underlying t with
    | some (.struct fs) => if fs.toList.all fun f => (sizeB P f.type).isSome then pure (.build z.flat (← partsB P G fs parts)) else none
    | some (.array _ e) =>
      let s ← sizeB P e
      let l ← parts.toList.mapM fun (i, x) => do let d ← opd G x; pure (i * s, s, d)
      pure (.build z.flat l)
    | _ => none
  | .buildSlice t len parts => do
    let .slice e ← P.underlying t | none
    let s ← sizeB P e
    if s = 0 || len * s > 2 ^ 24 then none
    let z ← zeroB P e
    let l ← parts.toList.mapM fun (i, x) => do let d ← opd G x; pure (i, d)
    match A.mine o.dst with
    | true => pure (.vslice s z len l)
    | false => pure (.bslice s e z len l)
  | .load t x => do
    let s ← shapeB P t
    match rootOf A x with
    | some a => pure (.lload a s (← opd G x))
    | none => pure (.load s (← opd G x))
  | .store t x v => do
    let s ← sizeB P t
    if s = 0 then none
    match rootOf A x with
    | some a => pure (.lstore a s (← opd G x) (← opd G v))
    | none => pure (.store s (← opd G x) (← opd G v))
  | .nilCheck x => do pure (.nilchk (← opd G x))
  | .binOp op t x y _ => do
    let a ← opd G x
    let b ← opd G y
    let d ← P.underlying t
    match d with
    | .int _ => pure (.bin op a b)
    | .string => pure (.bin op a b)
    | _ =>
      let et ← etB P 8 t
      match et.isSt && P.eqGuardType P.depth t with
      | true => none
      | false => eqB op et (constB x || constB y) a b
  | .unOp op t x => do
    let d ← P.underlying t
    match d with
    | .int _ => pure (.un op (← opd G x))
    | .bool => pure (.un op (← opd G x))
    | _ => none
  | .convert src dst x => do
    let a ← opd G x
    match P.underlying src, P.underlying dst with
    | some (.int _), some (.int k) => pure (.toInt k a)
    | some (.int _), some .string => pure (.intToStr a)
    | some .string, some .string => pure (.strId a)
    | some (.pointer e), some .unsafePointer => match sizeB P e with
      | some (_ + 1) => pure (.uptr a)
      | _ => none
    | some .unsafePointer, some (.pointer e) => match sizeB P e with
      | some (n + 1) => pure (.upto [(e, 0, n + 1)] a)
      | _ => none
    | some .string, some (.slice e) => match P.underlying e with
      | some (.int .u8) => pure (.strToBytes e a)
      | _ => none
    | some (.slice e), some .string => match P.underlying e with
      | some (.int .u8) => pure (.bytesToStr a)
      | some (.int .i32) => pure (.runesToStr a)
      | _ => none
    | some (.slice _), some (.slice e) => match P.underlying e with
      | some (.int .u8) => if src == dst then pure (.bytesId a) else none
      | _ => none
    | _, _ => none
  | .makeInterface t x => match P.underlying t with
    | some (.interface _) => none
    | none => none
    | some _ => do pure (.mkif t (← opd G x))
  | .makeFunc f a b => do pure (.mkfn f (← opds G a) (← opds G b))
  | .makeMap t r => do
    let .map _ _ ← P.underlying t | none
    pure (.mkmap (← opdo G r))
  | .makeSlice t l c => do
    let .slice e ← P.underlying t | none
    let s ← sizeB P e
    if s = 0 then none
    let z ← zeroB P e
    pure (.mkslice s (P.bytesOf e) e z (← opd G l) (← opd G c))
  | .slice t x lo hi mx => match P.underlying t with
    | some .string => match mx with
      | none => do pure (.sstr (← opd G x) (← opdo G lo) (← opdo G hi))
      | some _ => none
    | some (.slice e) => do
      let s ← sizeB P e
      if s = 0 || (mx.isSome && hi.isNone) then none
      pure (.ssl s (← opd G x) (← opdo G lo) (← opdo G hi) (← opdo G mx))
    | _ => none
  | .fieldAddr t x f => do
    let .struct fs ← P.underlying t | none
    let f ← fs[f]?
    let s ← sizeB P f.type
    if s = 0 then none
    pure (.faddr f.offset (← opd G x))
  | .field t x f => do
    let .struct fs ← P.underlying t | none
    let f ← fs[f]?
    let s ← shapeB P f.type
    pure (.field f.offset s (← opd G x))
  | .indexAddr t x i => match P.underlying t with
    | some (.slice e) => do
      let s ← sizeB P e
      if s = 0 then none
      pure (.iaddr s (← opd G x) (← opd G i))
    | some (.array n e) => do
      let s ← sizeB P e
      if s = 0 then none
      pure (.iaddrA n s (← opd G x) (← opd G i))
    | _ => none
  | .index t x i => match P.underlying t with
    | some .string => do pure (.sidx (← opd G x) (← opd G i))
    | some (.array n e) => do
      let s ← shapeB P e
      pure (.aidx n (s.getD 1) s.isSome (← opd G x) (← opd G i))
    | _ => none
  | .lookup t x k ok => do
    let .map q e ← P.underlying t | none
    let et ← etB P 8 q
    let z ← zeroB P e
    pure (.lookup et z ok (← opd G x) (← opd G k))
  | .mapUpdate t m k v | .insert t m k v => do
    let .map q _ ← P.underlying t | none
    let et ← etB P 8 q
    pure (.mupd et (← opd G m) (← opd G k) (← opd G v))
  | .mapEntry t m k => do
    let .map q e ← P.underlying t | none
    let et ← etB P 8 q
    let z ← zeroB P e
    pure (.mentry et z (← opd G m) (← opd G k))
  | .entryStore _ m s v => do pure (.mestore (← opd G m) (← opd G s) (← opd G v))
  | .range t x => match P.underlying t with
    | some .string => do pure (.range (← opd G x))
    | _ => none
  | .next x true => do pure (.nexts (← opd G x))
  | .typeAssert x _ t ok => do
    let a ← opd G x
    match P.underlying t with
    | some (.interface want) => match zeroB P t with
      | some .nili => pure (.tassertI P.types.size (implB P want) ok a)
      | _ => none
    | some _ => pure (.tassert t (← zeroB P t) ok a)
    | none => none
  | .extract x i => do pure (.extract i (← opd G x))
  | .call c => callB P G X (A.isRo o.dst) c
  | .defer { callee := .value x, args, .. } => do pure (.defer (← opd G x) (← opds G args))
  | _ => none

/-- The operations that are shown right. -/
def okOp : AOp → Bool
  | .bytesId _ | .bad | .lbox _ | .lstore .. | .defer .. => false
  | _ => true
/-- What a frame does by itself: variables of its own; calls put off. -/
def spec (P : Program) (G : Gl) (A : Adv) (o : Oper) : Option AOp :=
  match o.op with
  | .alloc e => match A.mine o.dst with
    | true => (zeroB P e).map fun z => .lbox (.c z)
    | false => none
  | .box _ x => match A.mine o.dst with
    | true => (opd G x).map .lbox
    | false => none
  | .store t x v => match rootOf A x with
    | some a => match sizeB P t, opd G x, opd G v with
      | some sz, some x, some v => some (.lstore a sz x v)
      | _, _, _ => none
    | none => none
  | .defer { callee := .value x, args, .. } => match opd G x, opds G args with
    | some x, some l => some (.defer x l)
    | _, _ => none
  | _ => none
def opB' (P : Program) (G : Gl) (X : Exts) (A : Adv) (o : Oper) : AOp :=
  match spec P G A o with
  | some p => p
  | none => match opB P G X A o with
    | some p => match okOp p with
      | true => p
      | false => .bad
    | none => .bad

def operB (P : Program) (G : Gl) (X : Exts) (A : Adv) (ops : Array Oper) (o : Oper) : AOper :=
  match (match o.guard with
    | none => some none
    | some (j, b) => match (ops[j]?).bind (·.dst) with
      | some t => some (some (t, b))
      | none => none) with
  | some g => match (match o.dst with | some t => Nat.blt t A.nt | none => true) with
    | true => ⟨o.dst, opB' P G X A o, g, none⟩
    | false => ⟨o.dst, .bad, none, none⟩
  | none => ⟨o.dst, .bad, none, none⟩

/-! ### Regions whose order is drawn -/
/-- Which come directly ahead of an operation. -/
def direct (o : Oper) : List Nat := o.after.toList.filterMap fun e => if Region.binds .any e then some e.on else none
/-- All that come ahead: of those in a list, and of the rest. -/
def aheadsGo : List (List Nat) → List (List Nat) → List (List Nat)
  | acc, [] => acc
  | acc, d :: r => aheadsGo (acc ++ [(d ++ d.flatMap fun i => acc.getD i []).eraseDups]) r
def aheads (ds : List (List Nat)) : List (List Nat) := aheadsGo [] ds
/-- What comes ahead stands ahead in the text. -/
def lowB : Nat → List (List Nat) → Bool
  | _, [] => true
  | j, d :: r => d.all (fun i => Nat.blt i j) && lowB (j + 1) r
/-- Two kinds of operations that come in any order: 0 they may; 1 they may, where they stand apart; 2 not. -/
def pairK (a b : Nat) : Nat :=
  if a == 0 || b == 0 then 0
  else if a == 7 || b == 7 then (if a == 6 || b == 6 || a == b then 2 else 0)
  else if a == 6 || b == 6 then 0
  else if a == 1 && b == 1 then 0
  else if a == 4 && b == 4 then 0
  else if (a == 1 && b == 4) || (a == 4 && b == 1) then 0
  else if a == 1 && b == 5 then 1
  else if (a ≤ 3 || a == 9) && (b ≤ 3 || b == 9) then 1
  else 2
/-- The variable of the frame's own that an operation reads or writes. -/
def AOp.own : AOp → Option Nat
  | .lload a _ _ => some a
  | .lstore a _ _ _ => some a
  | _ => none
/-- Two operations: those on two variables of the frame's own stand apart. -/
def pairO (x y : AOp) : Nat := match x.own, y.own with
  | some a, some b => match Nat.beq a b with
    | true => pairK x.kind y.kind
    | false => 0
  | _, _ => pairK x.kind y.kind
def hasAl (o : AOp) : Bool := o.kind == 3 || o.kind == 9
/-- The slots that an operation looks at, its guard's too. -/
def AOper.sl (o : AOper) : List Nat := match o.guard with
  | some (g, _) => g :: o.op.sl
  | none => o.op.sl
def hasDst (d : Option Nat) (l : List Nat) : Bool := match d with
  | some t => memN t l
  | none => false
/-- Does neither look at what the other one yields; are their slots two? -/
def slotsApart (x y : AOper) : Bool := !(hasDst x.dst y.sl) && (!(hasDst y.dst x.sl) && !(hasDst x.dst y.dst.toList))
/-- In a region that draws its order no variable of the frame's own is made; what is made has a number that was kept for it. -/
def oneOk (o : AOper) : Bool := (match o.op with | .lbox _ => false | _ => true) && (o.al.isSome == hasAl o.op)
def ranks : List AOper → Nat → List AOper × Nat
  | [], k => ([], k)
  | o :: r, k => if hasAl o.op then
      let x := ranks r (k + 1)
      ({ o with al := some k } :: x.1, x.2)
    else
      let x := ranks r k
      (o :: x.1, x.2)
/-- The elder ones that an operation (those ahead of it given) must stand apart from; none: they can't. -/
def chkOf (y : AOper) (ah : List Nat) : Nat → List AOper → Option (List Nat)
  | _, [] => some []
  | i, x :: r => match chkOf y ah (i + 1) r with
    | none => none
    | some l => match memN i ah with
      | true => some l
      | false => match slotsApart x y with
        | false => none
        | true => match pairO x.op y.op with
          | 0 => some l
          | 1 => some (i :: l)
          | _ => none
def chks (ahs : List (List Nat)) : List AOper → List AOper → Option (List (AOper × List Nat))
  | _, [] => some []
  | bef, o :: r => match oneOk o, chkOf o (ahs.getD bef.length []) 0 bef, chks ahs (bef ++ [o]) r with
    | true, some l, some x => some ((o, l) :: x)
    | _, _, _ => none

def regB (P : Program) (G : Gl) (X : Exts) (A : Adv) (ops : Array Oper) (draw : Bool) : AC :=
  let l := ops.toList.map (operB P G X A ops)
  match draw with
  | false => .reg l
  | true =>
    let x := ranks l 0
    let ds := ops.toList.map direct
    match lowB 0 ds, chks (aheads ds) [] x.1 with
    | true, some y => .dreg x.2 y
    | _, _ => .bad

/-- May code stand in a round of a range over a function? It puts no calls off, and ranges over no function itself. -/
def AOp.nd : AOp → Bool
  | .defer .. => false
  | _ => true
def AC.nd : AC → Bool
  | .reg l => l.all fun o => o.op.nd
  | .dreg _ l => l.all fun o => o.1.op.nd
  | .seq a b => a.nd && b.nd
  | .cond _ a b => a.nd && b.nd
  | .block _ a => a.nd
  | .loop _ a => a.nd
  | .rangef .. => false
  | _ => true
def AC.isRangef : AC → Bool
  | .rangef .. => true
  | _ => false
def compile (P : Program) (G : Gl) (X : Exts) (A : Adv) : Code → List (List Nat) → AC × List (List Nat)
  | .skip, ks => (.skip, ks)
  | .region _ ops d, ks => (regB P G X A ops d, ks)
  | .seq a b, ks =>
    let x := compile P G X A a ks
    let y := compile P G X A b x.2
    (.seq x.1 y.1, y.2)
  | .cond c a b, ks => match opd G c with
    | some c =>
      let x := compile P G X A a ks
      let y := compile P G X A b x.2
      (.cond c x.1 y.1, y.2)
    | none => (.bad, ks)
  | .block id a, ks =>
    let x := compile P G X A a ks
    (.block id x.1, x.2)
  | .loop a, k :: ks =>
    let x := compile P G X A a ks
    match x.1.isRangef with
    | true => (.bad, ks)
    | false => (.loop k x.1, x.2)
  | .rangeFunc g ps a b, k :: ks => match opd G g with
    | some g' =>
      let x := compile P G X A a ks
      let y := compile P G X A b x.2
      match x.1.nd && (y.1.nd && ps.toList.all fun t => Nat.blt t A.nt) with
      | true => (.rangef k g' ps.toList x.1 y.1, y.2)
      | false => (.bad, ks)
    | none => (.bad, ks)
  | .exit id, ks => (.exit id, ks)
  | .ret, ks => (.ret, ks)
  | _, ks => (.bad, ks)

def resB (P : Program) : ResultVar → Option ARes
  | .tmp t => some (.tmp t)
  | .cell a t => (shapeB P t).map (.cell a)

def compileFn (P : Program) (G : Gl) (X : Exts) (fn : Func) (A : Adv) : Option AFn :=
  match fn.body, fn.results.toList.mapM (resB P) with
  | some c, some rs => some ⟨rs, (compile P G X { A with nt := fn.ntmps } c A.ks).1⟩
  | _, _ => none

/-! ### The runner of loops, by what it runs -/
theorem loopN_range (T : Nat → Option AFn) (H : Caller) (n : Nat) (keep kp : List Nat) (g : Opd) (ps : List Nat) (x y : AC) (fr : Fr) (s : St) :
    loopN T H (n + 1) keep (.rangef kp g ps x y) fr s = rangeF (fun k e => callN T (yHook k ps e (execS (callN T H n) (loopN T H n) x) (execS (callN T H n) (loopN T H n) y) H) n) kp g fr s := by
  rw [loopN]
theorem loopN_plain (T : Nat → Option AFn) (H : Caller) (n : Nat) (keep : List Nat) {a : AC} (h : a.isRangef = false) (fr : Fr) (s : St) :
    loopN T H (n + 1) keep a fr s = match execS (callN T H n) (loopN T H n) a { fr with env := fr.env.keep keep } s with
      | some (.normal, fr', s') => loopN T H n keep a fr' s'
      | r => r := by
  cases a <;> first | (cases h; done) | rfl
theorem rangeF_ro {C' : Nat → Env → Caller} {keep : List Nat} {g : Opd} {fr : Fr} {s : St} (h : s.ro = true) : rangeF C' keep g fr s = none := by
  unfold rangeF
  rw [h]
  split
  · rename_i hh; cases hh
  · rfl
end Go.Ab
