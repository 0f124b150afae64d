/- Part. -/
import Derived.Test.YtmcdajnpdekocaaGreatDoorG01
import Derived.RangeFuncSeq
import Derived.RangeFuncIn
import Derived.OrdersIn
set_option linter.unusedSectionVars false
set_option linter.unusedSimpArgs false
set_option linter.unusedVariables false
namespace Go.Ab
open Go
mutual
def ofV:Value→Option D
 | .bool b=>some (.bool b)
 | .int k n=>some (.int k n)
 | .string s=>some (.str s.data.toList)
 | .pointer none=>some .nilp
 | .slice none 0 0=>some (.vs true 0 [])
 | .map none=>some .nilm
 | .func f a b=>match ofVs a.toList,ofVs b.toList with
  | some x,some y=>some (.fn f x y)
  | _,_=>none
 | .nilFunc=>some .nilf
 | .nilIface=>some .nili
 | .iface t v=>match ofV v with
  | some d=>some (.ifc t d)
  | none=>none
 | .agg cs=>match ofVs cs.toList with
  | some l=>match l.all D.sc with
   | true=>some (.agg l)
   | false=>none
  | none=>none
 | .tuple cs=>match ofVs cs.toList with
  | some l=>some (.tup l)
  | none=>none
 | _=>none
def ofVs:List Value→Option (List D)
 | []=>some []
 | v::r=>match ofV v,ofVs r with
  | some d,some l=>some (d::l)
  | _,_=>none
end
abbrev Gl:=Nat→Option D
def opd (G:Gl):Operand→Option Opd
 | .tmp t=>some (.t t)
 | .const v=>(ofV v).map .c
 | .func f=>some (.c (.fn (.func f) [] []))
 | .global g=>(G g).map fun d=> .c (.vptr d 0)
def opds (G:Gl)(l:Array Operand):Option (List Opd):=l.toList.mapM (opd G)
def opdo (G:Gl):Option Operand→Option (Option Opd)
 | none=>some none
 | some x=>(opd G x).map some
def zFb (P:Program)(t:TypeId):Option Bool:=
 match P.underlying t with
 | some (.struct _)=>some true
 | some (.array _ _)=>some true
 | some _=>some false
 | none=>none
def zPo (P:Program)(t:TypeId):Option Nat:=(P.info? t).map (·.size)
def zBm (P:Program)(t:TypeId):Option (Option Nat):=
 match zFb P t,zPo P t with
 | some true,some s=>some (some s)
 | some false,some 1=>some none
 | _,_=>none
def zPu (P:Program)(t:TypeId):Option D:=((P.info? t).bind (·.zero)).bind ofV
def etB (P:Program):Nat→TypeId→Option ET
 | 0,_=>none
 | d+1,t=>match P.underlying t with
  | some .bool=>some .bool
  | some (.int _)=>some .int
  | some .string=>some .str
  | some (.pointer e)=>match zPo P e with
   | some (_+1)=>some .ptr
   | _=>none
  | some (.interface _)=>some .iface
  | some (.slice _)=>some .slice
  | some (.map _ _)=>some .map
  | some (.func _ _ _)=>some .func
  | some (.struct fs)=>match P.stoodInHeld t with
   | true=>none
   | false=>(fieldsB (etB P d) fs.toList).map .st
  | _=>none
 where
 fieldsB (f:TypeId→Option ET):List Field→Option ETs
  | []=>some .nil
  | x :: r => match x.name == "_" with
   | true=>none
   | false=>match zBm P x.type,f x.type,fieldsB f r with
    | some s,some e,some l=>some (.cons x.offset s e l)
    | _,_,_=>none
def zJi:Operand→Bool
 | .const _=>true
 | _=>false
def zQd:Option TypeDesc→Nat
 | some (.pointer _)=>0
 | some (.interface _)=>2
 | some _=>1
 | none=>2
def recvR (P:Program)(t:TypeId)(path:List FieldStep)(ptr:Bool):Option Recv:=
 match path with
 | []=>match zQd (P.underlying t),ptr with
  | 0,true=>some .self
  | 1,false=>some .self
  | _,_=>none
 | [st]=>match P.underlying st.struct with
  | some (.struct fs)=>match fs[st.index]? with
   | some fl=>match st.deref with
    | true=>match Nat.beq (zQd (P.underlying fl.type)) 1 && ptr with
     | true=>match zPo P fl.type with
      | some (_+1)=>some (.addr fl.offset)
      | _=>none
     | false=>match (Nat.beq (zQd (P.underlying fl.type)) 0 && ptr) || (Nat.beq (zQd (P.underlying fl.type)) 1 && !ptr),zPo P fl.type,zBm P fl.type with
      | true,some (_+1),some sz=>some (.load fl.offset sz)
      | _,_,_=>none
    | false=>match (Nat.beq (zQd (P.underlying fl.type)) 0 && ptr) || (Nat.beq (zQd (P.underlying fl.type)) 1 && !ptr),zBm P fl.type with
     | true,some sz=>some (.part fl.offset sz)
     | _,_=>none
   | none=>none
  | _=>none
 | _=>none
def zJo (P:Program)(name:String):List (Nat×Nat×Recv):=
 (P.types.toList.zipIdx.filterMap fun (i,t)=>
  match i.methods.find? (·.name==name) with
  | some m=>match m.func with
   | some (f,ptr)=>(recvR P t m.path.toList ptr).map fun r=>(t,f,r)
   | none=>none
  | none=>none)
def yHs (P:Program)(want:Array (String×TypeId)):List Nat:=
 P.types.toList.zipIdx.filterMap fun (i,t)=>match Instr.missingMethod want i.methods with
  | none=>some t
  | some _=>none
abbrev Exts:=Nat→Option Ext
def zLk:Option TypeDesc→Bool
 | some (.slice _)=>true
 | some .string=>true
 | _=>false
def zWx (P:Program)(G:Gl)(c:Call)(b:Builtin):Option AOp:=
 match b,c.args.toList,c.argTypes.toList with
 | .len,[x],[t]=>match P.underlying t with
  | some .string=>(opd G x).map (.len 0)
  | some (.slice _)=>(opd G x).map (.len 1)
  | some (.map _ _)=>(opd G x).map (.len 2)
  | _=>none
 | .append,[x,y],[t,u]=>do
  let .slice e ← P.underlying t | none
  if zLk (P.underlying u) then
   let s ← zPo P e
   let z ← zPu P e
   let i ← P.info? e
   let a ← opd G x
   let b ← opd G y
   if Nat.blt 0 s && allSz s [z] then pure (.append s i.bytes e a b) else none
  else none
 | .unsafeSliceData,[x],[t]=>match P.underlying t with
  | some (.slice _)=>(opd G x).map .sldata
  | _=>none
 | .unsafeString,[x,y],[t,_]=>match P.underlying t with
  | some (.pointer e)=>match zPo P e with
   | some 1=>do pure (.ustr e (← opd G x) (← opd G y))
   | _=>none
  | _=>none
 | .copy,[x,y],[t,_]=>do
  let .slice e ← P.underlying t | none
  let s ← zPo P e
  if s=0 then none
  let a ← opd G x
  let b ← opd G y
  pure (.copy s a b)
 | .delete,[x,y],[t,_]=>do
  let .map q _ ← P.underlying t | none
  let et ← etB P 8 q
  let a ← opd G x
  let b ← opd G y
  pure (.delete et a b)
 | .clear,[x],[t]=>match P.underlying t with
  | some (.slice e)=>do
   let s ← zPo P e
   if s=0 then none
   pure (.clear s (← zPu P e) (← opd G x))
  | some (.map _ _)=>do pure (.clear 1 (.tup []) (← opd G x))
  | _=>none
 | .min,l,_=>do pure (.minmax false (← l.mapM (opd G)))
 | .max,l,_=>do pure (.minmax true (← l.mapM (opd G)))
 | _,_,_=>none
def callB (P:Program)(G:Gl)(X:Exts)(ro:Bool)(c:Call):Option AOp:=
 match c.callee with
 | .builtin b=>zWx P G c b
 | .value (.func f)=>do
  let fn ← P.funcs[f]?
  if fn.body.isNone then
   match X f with
   | some e=>pure (.ext e (← opds G c.args))
   | none=>none
  else if fn.name == "runtime.NumGoroutine" then none
  else pure (.call ro f (← opds G c.args))
 | .value x=>do pure (.callv (← opd G x) (← opds G c.args))
 | .invoke x name=>do pure (.invoke (zJo P name) (← opd G x) (← opds G c.args))
def partsB (P:Program)(G:Gl)(fs:Array Field)(parts:Array (Nat×Operand)):Option (List (Nat×Nat×Opd)):=
 parts.toList.mapM fun (i,x)=>do
  let f ← fs[i]?
  let s ← zPo P f.type
  let d ← opd G x
  pure (f.offset,s,d)
structure Adv where
 pr:List Nat
 ros:List Nat
 roots:List (Nat×Nat)
 ks:List (List Nat)
 nt:Nat
def Adv.mine (A:Adv):Option Nat→Bool
 | some a=>A.pr.contains a
 | none=>false
def Adv.isRo (A:Adv):Option Nat→Bool
 | some a=>A.ros.contains a
 | none=>false
def ET.isSt:ET→Bool
 | .st _=>true
 | _=>false
def eqB (op:BinOp)(et:ET)(oc:Bool)(a b:Opd):Option AOp:=
 match op with
 | .eql=>some (.eq et false oc a b)
 | .neq=>some (.eq et true oc a b)
 | _=>none
def rootOf (A:Adv):Operand→Option Nat
 | .tmp t=>if A.pr.contains t then some t else tblGet A.roots t
 | _=>none
def opB (P:Program)(G:Gl)(X:Exts)(A:Adv)(o:Oper):Option AOp:=
 match o.op with
 | .move x | .assign x=>(opd G x).map .mv
 | .pick c a b=>do pure (.pick (← opd G c) (← opd G a) (← opd G b))
 | .alloc e=>do
  let z ← zPu P e
  match A.mine o.dst with
  | true=>pure (.lbox (.c z))
  | false=>pure (.box e (.c z))
 | .box e x=>do
  let a ← opd G x
  match A.mine o.dst with
  | true=>pure (.lbox a)
  | false=>pure (.box e a)
 | .build t parts=>do
  let z ← zPu P t
  match P.underlying t with
  | some (.struct fs)=>if fs.toList.all fun f=>(zPo P f.type).isSome then pure (.build z.flat (← partsB P G fs parts)) else none
  | some (.array _ e)=>
   let s ← zPo P e
   let l ← parts.toList.mapM fun (i,x)=>do let d ← opd G x; pure (i * s,s,d)
   pure (.build z.flat l)
  | _=>none
 | .buildSlice t len parts=>do
  let .slice e ← P.underlying t | none
  let s ← zPo P e
  if s=0 || len * s > 2 ^ 24 then none
  let z ← zPu P e
  let l ← parts.toList.mapM fun (i,x)=>do let d ← opd G x; pure (i,d)
  match A.mine o.dst with
  | true=>pure (.vslice s z len l)
  | false=>pure (.bslice s e z len l)
 | .load t x=>do
  let s ← zBm P t
  match rootOf A x with
  | some a=>pure (.lload a s (← opd G x))
  | none=>pure (.load s (← opd G x))
 | .store t x v=>do
  let s ← zPo P t
  if s=0 then none
  match rootOf A x with
  | some a=>pure (.lstore a s (← opd G x) (← opd G v))
  | none=>pure (.store s (← opd G x) (← opd G v))
 | .nilCheck x=>do pure (.nilchk (← opd G x))
 | .binOp op t x y _=>do
  let a ← opd G x
  let b ← opd G y
  let d ← P.underlying t
  match d with
  | .int _=>pure (.bin op a b)
  | .string=>pure (.bin op a b)
  | _=>
   let et ← etB P 8 t
   match et.isSt && P.eqGuardType P.depth t with
   | true=>none
   | false=>eqB op et (zJi x || zJi y) a b
 | .unOp op t x=>do
  let d ← P.underlying t
  match d with
  | .int _=>pure (.un op (← opd G x))
  | .bool=>pure (.un op (← opd G x))
  | _=>none
 | .convert src dst x=>do
  let a ← opd G x
  match P.underlying src,P.underlying dst with
  | some (.int _),some (.int k)=>pure (.toInt k a)
  | some (.int _),some .string=>pure (.intToStr a)
  | some .string,some .string=>pure (.strId a)
  | some (.pointer e),some .unsafePointer=>match zPo P e with
   | some (_+1)=>pure (.uptr a)
   | _=>none
  | some .unsafePointer,some (.pointer e)=>match zPo P e with
   | some (n+1)=>pure (.upto [(e,0,n+1)] a)
   | _=>none
  | some .string,some (.slice e)=>match P.underlying e with
   | some (.int .u8)=>pure (.strToBytes e a)
   | _=>none
  | some (.slice e),some .string=>match P.underlying e with
   | some (.int .u8)=>pure (.bytesToStr a)
   | some (.int .i32)=>pure (.runesToStr a)
   | _=>none
  | some (.slice _),some (.slice e)=>match P.underlying e with
   | some (.int .u8)=>if src==dst then pure (.bytesId a) else none
   | _=>none
  | _,_=>none
 | .makeInterface t x=>match P.underlying t with
  | some (.interface _)=>none
  | none=>none
  | some _=>do pure (.mkif t (← opd G x))
 | .makeFunc f a b=>do pure (.mkfn f (← opds G a) (← opds G b))
 | .makeMap t r=>do
  let .map _ _ ← P.underlying t | none
  pure (.mkmap (← opdo G r))
 | .makeSlice t l c=>do
  let .slice e ← P.underlying t | none
  let s ← zPo P e
  if s=0 then none
  let z ← zPu P e
  pure (.mkslice s (P.bytesOf e) e z (← opd G l) (← opd G c))
 | .slice t x lo hi mx=>match P.underlying t with
  | some .string=>match mx with
   | none=>do pure (.sstr (← opd G x) (← opdo G lo) (← opdo G hi))
   | some _=>none
  | some (.slice e)=>do
   let s ← zPo P e
   if s=0 || (mx.isSome && hi.isNone) then none
   pure (.ssl s (← opd G x) (← opdo G lo) (← opdo G hi) (← opdo G mx))
  | some (.array n e)=>match zPo P e,lo,hi,mx with
   | some 1,none,none,none=>(opd G x).map (.aslice n)
   | _,_,_,_=>none
  | _=>none
 | .fieldAddr t x f=>do
  let .struct fs ← P.underlying t | none
  let f ← fs[f]?
  let s ← zPo P f.type
  if s=0 then none
  pure (.faddr f.offset (← opd G x))
 | .field t x f=>do
  let .struct fs ← P.underlying t | none
  let f ← fs[f]?
  let s ← zBm P f.type
  pure (.field f.offset s (← opd G x))
 | .indexAddr t x i=>match P.underlying t with
  | some (.slice e)=>do
   let s ← zPo P e
   if s=0 then none
   pure (.iaddr s (← opd G x) (← opd G i))
  | some (.array n e)=>do
   let s ← zPo P e
   if s=0 then none
   pure (.iaddrA n s (← opd G x) (← opd G i))
  | _=>none
 | .index t x i=>match P.underlying t with
  | some .string=>do pure (.sidx (← opd G x) (← opd G i))
  | some (.array n e)=>do
   let s ← zBm P e
   pure (.aidx n (s.getD 1) s.isSome (← opd G x) (← opd G i))
  | _=>none
 | .lookup t x k ok=>do
  let .map q e ← P.underlying t | none
  let et ← etB P 8 q
  let z ← zPu P e
  pure (.lookup et z ok (← opd G x) (← opd G k))
 | .mapUpdate t m k v | .insert t m k v=>do
  let .map q _ ← P.underlying t | none
  let et ← etB P 8 q
  pure (.mupd et (← opd G m) (← opd G k) (← opd G v))
 | .mapEntry t m k=>do
  let .map q e ← P.underlying t | none
  let et ← etB P 8 q
  let z ← zPu P e
  pure (.mentry et z (← opd G m) (← opd G k))
 | .entryStore _ m s v=>do pure (.mestore (← opd G m) (← opd G s) (← opd G v))
 | .range t x=>match P.underlying t with
  | some .string=>do pure (.range (← opd G x))
  | _=>none
 | .next x true=>do pure (.nexts (← opd G x))
 | .typeAssert x _ t ok=>do
  let a ← opd G x
  match P.underlying t with
  | some (.interface want)=>match zPu P t with
   | some .nili=>pure (.tassertI P.types.size (yHs P want) ok a)
   | _=>none
  | some _=>pure (.tassert t (← zPu P t) ok a)
  | none=>none
 | .extract x i=>do pure (.extract i (← opd G x))
 | .call c=>callB P G X (A.isRo o.dst) c
 | .defer { callee:= .value x,args,.. }=>do pure (.defer (← opd G x) (← opds G args))
 | _=>none
def okOp:AOp→Bool
 | .bytesId _ | .bad | .lbox _ | .lstore .. | .defer .. =>false
 | _=>true
def spec (P:Program)(G:Gl)(A:Adv)(o:Oper):Option AOp:=
 match o.op with
 | .alloc e=>match A.mine o.dst with
  | true=>(zPu P e).map fun z=> .lbox (.c z)
  | false=>none
 | .box _ x=>match A.mine o.dst with
  | true=>(opd G x).map .lbox
  | false=>none
 | .store t x v=>match rootOf A x with
  | some a=>match zPo P t,opd G x,opd G v with
   | some sz,some x,some v=>some (.lstore a sz x v)
   | _,_,_=>none
  | none=>none
 | .defer { callee:= .value x,args,.. }=>match opd G x,opds G args with
  | some x,some l=>some (.defer x l)
  | _,_=>none
 | _=>none
def opB' (P:Program)(G:Gl)(X:Exts)(A:Adv)(o:Oper):AOp:=
 match spec P G A o with
 | some p=>p
 | none=>match opB P G X A o with
  | some p=>match okOp p with
   | true=>p
   | false=> .bad
  | none=> .bad
def zPy (P:Program)(G:Gl)(X:Exts)(A:Adv)(ops:Array Oper)(o:Oper):zPk:=
 match (match o.guard with
  | none=>some none
  | some (j,b)=>match (ops[j]?).bind (·.dst) with
   | some t=>some (some (t,b))
   | none=>none) with
 | some g=>match (match o.dst with | some t=>Nat.blt t A.nt | none=>true) with
  | true=>⟨o.dst,opB' P G X A o,g,none⟩
  | false=>⟨o.dst,.bad,none,none⟩
 | none=>⟨o.dst,.bad,none,none⟩
def zDy (o:Oper):List Nat:=o.after.toList.filterMap fun e=>if Region.binds .any e then some e.on else none
def zJg:List (List Nat)→List (List Nat)→List (List Nat)
 | acc,[]=>acc
 | acc,d::r=>zJg (acc++ [(d++d.flatMap fun i=>acc.getD i []).eraseDups]) r
def aheads (ds:List (List Nat)):List (List Nat):=zJg [] ds
def lowB:Nat→List (List Nat)→Bool
 | _,[]=>true
 | j,d::r=>d.all (fun i=>Nat.blt i j) && lowB (j+1) r
def zQx (a b:Nat):Nat:=
 if a==0 || b==0 then 0
 else if a==7 || b==7 then (if a==6 || b==6 || a==b then 2 else 0)
 else if a==6 || b==6 then 0
 else if a==1 && b==1 then 0
 else if a==4 && b==4 then 0
 else if (a==3 && b==4) || (a==4 && b==3) then 0
 else if (a==1 && b==4) || (a==4 && b==1) then 0
 else if (a==1 && b==5) || (a==5 && b==1) then 1
 else if (a≤3 || a==9) && (b≤3 || b==9) then 1
 else 2
def AOp.own:AOp→Option Nat
 | .lload a _ _=>some a
 | .lstore a _ _ _=>some a
 | _=>none
def zQr (x y:AOp):Nat:=match x.own,y.own with
 | some a,some b=>match Nat.beq a b with
  | true=>zQx x.kind y.kind
  | false=>0
 | _,_=>zQx x.kind y.kind
def zZf (o:AOp):Bool:=o.kind==3 || o.kind==9
def zPk.sl (o:zPk):List Nat:=match o.guard with
 | some (g,_)=>g::o.op.sl
 | none=>o.op.sl
def zOn (d:Option Nat)(l:List Nat):Bool:=match d with
 | some t=>memN t l
 | none=>false
def zDg (x y:zPk):Bool:= !(zOn x.dst y.sl) && (!(zOn y.dst x.sl) && !(zOn x.dst y.dst.toList))
def zQe (o:zPk):Bool:=(match o.op with | .lbox _=>false | _=>true) && (o.al.isSome==zZf o.op)
def ranks:List zPk→Nat→List zPk×Nat
 | [],k=>([],k)
 | o::r,k=>if zZf o.op then
   let x:=ranks r (k+1)
   ({ o with al:=some k}::x.1,x.2)
  else
   let x:=ranks r k
   (o::x.1,x.2)
def zZh (y:zPk)(ah:List Nat):Nat→List zPk→Option (List Nat)
 | _,[]=>some []
 | i,x::r=>match zZh y ah (i+1) r with
  | none=>none
  | some l=>match memN i ah with
   | true=>some l
   | false=>match zDg x y with
    | false=>none
    | true=>match zQr x.op y.op with
     | 0=>some l
     | 1=>some (i::l)
     | _=>none
def chks (ahs:List (List Nat)):List zPk→List zPk→Option (List (zPk×List Nat))
 | _,[]=>some []
 | bef,o::r=>match zQe o,zZh o (ahs.getD bef.length []) 0 bef,chks ahs (bef++ [o]) r with
  | true,some l,some x=>some ((o,l)::x)
  | _,_,_=>none
def regB (P:Program)(G:Gl)(X:Exts)(A:Adv)(ops:Array Oper)(draw:Bool):AC:=
 let l:=ops.toList.map (zPy P G X A ops)
 match draw with
 | false=> .reg l
 | true=>
  let x:=ranks l 0
  let ds:=ops.toList.map zDy
  match lowB 0 ds,chks (aheads ds) [] x.1 with
  | true,some y=> .dreg x.2 y
  | _,_=> .bad
def AOp.nd:AOp→Bool
 | .defer .. =>false
 | _=>true
def AC.nd:AC→Bool
 | .reg l=>l.all fun o=>o.op.nd
 | .dreg _ l=>l.all fun o=>o.1.op.nd
 | .seq a b=>a.nd && b.nd
 | .cond _ a b=>a.nd && b.nd
 | .block _ a=>a.nd
 | .loop _ a=>a.nd
 | .rangef .. =>false
 | _=>true
def AC.isRangef:AC→Bool
 | .rangef .. =>true
 | _=>false
def compile (P:Program)(G:Gl)(X:Exts)(A:Adv):Code→List (List Nat)→AC×List (List Nat)
 | .skip,ks=>(.skip,ks)
 | .region _ ops d,ks=>(regB P G X A ops d,ks)
 | .seq a b,ks=>
  let x:=compile P G X A a ks
  let y:=compile P G X A b x.2
  (.seq x.1 y.1,y.2)
 | .cond c a b,ks=>match opd G c with
  | some c=>
   let x:=compile P G X A a ks
   let y:=compile P G X A b x.2
   (.cond c x.1 y.1,y.2)
  | none=>(.bad,ks)
 | .block id a,ks=>
  let x:=compile P G X A a ks
  (.block id x.1,x.2)
 | .loop a,k::ks=>
  let x:=compile P G X A a ks
  match x.1.isRangef with
  | true=>(.bad,ks)
  | false=>(.loop k x.1,x.2)
 | .rangeFunc g ps a b,k::ks=>match opd G g with
  | some g' =>
   let x:=compile P G X A a ks
   let y:=compile P G X A b x.2
   match x.1.nd && (y.1.nd && ps.toList.all fun t=>Nat.blt t A.nt) with
   | true=>(.rangef k g' ps.toList x.1 y.1,y.2)
   | false=>(.bad,ks)
  | none=>(.bad,ks)
 | .exit id,ks=>(.exit id,ks)
 | .ret,ks=>(.ret,ks)
 | .scope a,ks=>compile P G X A a ks
 | .label _,ks=>(.skip,ks)
 | _,ks=>(.bad,ks)
def resB (P:Program):ResultVar→Option ARes
 | .tmp t=>some (.tmp t)
 | .cell a t=>(zBm P t).map (.cell a)
def zEe (P:Program)(G:Gl)(X:Exts)(fn:Func)(A:Adv):Option AFn:=
 match fn.body,fn.results.toList.mapM (resB P) with
 | some c,some rs=>some ⟨rs,(compile P G X { A with nt:=fn.ntmps} c A.ks).1⟩
 | _,_=>none
theorem zBs (T:Nat→Option AFn)(H:zAa)(n:Nat)(keep kp:List Nat)(g:Opd)(ps:List Nat)(x y:AC)(fr:Fr)(s:St):
  zPq T H (n+1) keep (.rangef kp g ps x y) fr s=zEy (fun k e=>zPn T (zPv k ps e (zAe (zPn T H n) (zPq T H n) x) (zAe (zPn T H n) (zPq T H n) y) H) n) kp g fr s:=by
 rw [zPq]
theorem zBb (T:Nat→Option AFn)(H:zAa)(n:Nat)(keep:List Nat){a:AC}(h:a.isRangef=false)(fr:Fr)(s:St):
  zPq T H (n+1) keep a fr s=match zAe (zPn T H n) (zPq T H n) a { fr with env:=fr.env.keep keep} s with
   | some (.normal,fr',s')=>zPq T H n keep a fr' s'
   | r=>r:=by
 cases a <;> first | (cases h; done) | rfl
theorem zPi {C' :Nat→Env→zAa}{keep:List Nat}{g:Opd}{fr:Fr}{s:St}(h:s.ro=true):zEy C' keep g fr s=none:=by
 unfold zEy
 rw [h]
 split
 ·rename_i hh; cases hh
 ·rfl
inductive Own where
 | imm | priv | obj (o:Nat)
 deriving DecidableEq
inductive Kd where
 | fresh | live (sz:Nat) | dead
 deriving DecidableEq
structure Gh where
 own:Nat→Own
 sh:Nat→Nat
 ext:Nat→Nat
 cap:Nat→Nat
 kd:Nat→Kd
 lp:Nat→Nat×Go.Loop
def CeA (w:World)(b x:Nat)(v:Value):Prop:=∀j,j < v.cells.size→w.cell? ⟨b,x+j,none⟩=v.cells[j]?
def Gh.at (ρ:Gh)(o:Nat)(dd:Prop)(Q:Nat→Nat→Prop):Prop:=
 match ρ.kd o with
 | .fresh=>False
 | .dead=>dd
 | .live sz=>∃b,ρ.own b= .obj o∧Q sz b
variable [Vals]
mutual
def Rep (ρ:Gh)(w:World):D→Value→Prop
 | .bool b,v=>v= .bool b
 | .int k n,v=>v= .int k n
 | .str s,v=>v= .string ⟨⟨s⟩⟩
 | .nilp,v=>v= .pointer none
 | .ptr o c,v=>ρ.at o (∃a,v= .pointer (some a)) fun _ b=>v= .pointer (some ⟨b,c,none⟩)
 | .eptr o i c e,v=>ρ.at o (∃a,v= .pointer (some a)) fun sz b=>ρ.sh b≤i∧i < e∧e≤ρ.ext b∧v= .pointer (some ⟨b,(i - ρ.sh b) * sz+c,none⟩)
 | .vptr e c,v=>∃b x u,ρ.own b= .imm∧Rep ρ w e u∧CeA w b x u∧(0 < u.cells.size∧e.st=true)∧v= .pointer (some ⟨b,x+c,none⟩)
 | .vs nl sz l,v=>(nl=true∧l=[]∧v= .slice none 0 0)∨
   (nl=false∧∃ad cap,v= .slice (some ad) l.length cap∧l.length≤cap∧(l=[]∨∃b x,ad=⟨b,x,none⟩∧ρ.own b= .imm∧RepE ρ w sz b x l))
 | .sl o off len cp,v=>ρ.at o (∃a cap,v= .slice (some a) len cap) fun sz b=>ρ.sh b≤off∧off+cp≤ρ.ext b∧len≤cp∧∃x cap,v= .slice (some ⟨b,x,none⟩) len cap∧cp≤cap∧
   (cap=0∨x=(off - ρ.sh b) * sz)∧(off - ρ.sh b)+cap≤ρ.cap b
 | .nilm,v=>v= .map none
 | .mp o,v=>ρ.at o (∃b,v= .map (some b)) fun _ b=>v= .map (some b)
 | .fn f a c,v=>∃va vc,v= .func f va vc∧RepL ρ w a va.toList∧RepL ρ w c vc.toList
 | .nilf,v=>v= .nilFunc
 | .ifc t d,v=>∃u,v= .iface t u∧Rep ρ w d u
 | .nili,v=>v= .nilIface
 | .agg l,v=>∃vs,v= .agg vs∧RepL ρ w l vs.toList∧l.all D.sc=true
 | .tup l,v=>∃vs,v= .tuple vs∧RepL ρ w l vs.toList
 | .lv _,_=>False
 | .lptr _ _,_=>False
 | .sint k a lo hi,v=>v= .int k a.val∧lo≤a.val∧a.val≤hi
 | .sstr i ex lo hi,v=>v= .string ⟨⟨Vals.vs i⟩⟩∧Vals.vs i ∉ ex∧lo≤(Vals.vs i).length∧(Vals.vs i).length≤hi
 | .sbool i,v=>v= .bool (Vals.vb i)
 | .yl o,v=>ρ.kd o= .dead∧v= .func (.yield (ρ.lp o).1) #[] #[]
def RepL (ρ:Gh)(w:World):List D→List Value→Prop
 | [],vs=>vs=[]
 | d::l,vs=>∃v r,vs=v::r∧Rep ρ w d v∧RepL ρ w l r
def RepE (ρ:Gh)(w:World)(sz b:Nat):Nat→List D→Prop
 | _,[]=>True
 | x,d::l=>(∃v,Rep ρ w d v∧v.cells.size=sz∧0 < sz∧CeA w b x v∧d.st=true)∧RepE ρ w sz b (x+sz) l
end
def ElemAt (ρ:Gh)(w:World)(sz b x:Nat)(d:D):Prop:=∃v,Rep ρ w d v∧v.cells.size=sz∧CeA w b x v
def RepM (ρ:Gh)(w:World):List (Nat×D×D)→List MapEntry→Prop
 | [],es=>es=[]
 | (n,k,v)::l,es=>∃e r,es=e::r∧e.born=n∧Rep ρ w k e.key∧Rep ρ w v e.val∧RepM ρ w l r
def zPw (r:Go.Loop):LSt→Go.Loop
 | .ready=> { r with state:= .ready,pending:=none}
 | .busy=> { r with state:= .busy,pending:=none}
 | .exit i=> { r with state:= .done,pending:=some (.exit i)}
 | .ret=> { r with state:= .done,pending:=some .ret}
def Gh.one (ρ:Gh)(o b:Nat):Prop:=ρ.own b= .obj o∧∀b',ρ.own b' = .obj o→b' =b
structure zJs (ρ:Gh)(w:World)(sz ty:Nat)(es:List D)(st:Nat)(b:Nat):Prop where
 ext:ρ.ext b≤es.length
 sh:ρ.sh b≤ρ.ext b
 room:ρ.ext b - ρ.sh b≤ρ.cap b
 cells:∀j,j < ρ.cap b * sz→(w.cell? ⟨b,j,none⟩).isSome∧w.frozen? ⟨b,j,none⟩=false
 shape:∃cs f,w.heap[b]? =some (.cells cs ty f)
 elems:st≤ρ.ext b→∀i d,ρ.sh b≤i→i < ρ.ext b→es[i]? =some d→ElemAt ρ w sz b ((i - ρ.sh b) * sz) d
def zQt (ρ:Gh)(w:World)(o:Nat):Obj→Prop
 | .var ty d=>∃b v,ρ.kd o= .live 1∧ρ.one o b∧Rep ρ w d v∧w.heap[b]? =some (.cells v.cells ty (0,0))∧0 < v.cells.size∧d.st=true
 | .arr sz ty es st=>0 < sz∧ρ.kd o= .live sz∧st≤es.length∧(∃cur,ρ.own cur= .obj o∧ρ.ext cur=es.length∧∀b,ρ.own b= .obj o→ρ.ext b=es.length→b=cur)∧
   (∀b,ρ.own b= .obj o→zJs ρ w sz ty es st b)∧allSz sz es=true
 | .map es c=>∃b ces,ρ.kd o= .live 1∧ρ.one o b∧w.heap[b]? =some (.map ces c)∧RepM ρ w es ces.toList
 | .siter l pos=>∃b,ρ.kd o= .live 1∧ρ.one o b∧w.heap[b]? =some (.stringIter ⟨⟨l⟩⟩ pos)
 | .dead=>ρ.kd o= .dead
 | .loop k st=>ρ.kd o= .live 1∧ρ.kd k= .dead∧ρ.one o (ρ.lp k).1∧w.heap[(ρ.lp k).1]? =some (.loop (zPw (ρ.lp k).2 st))
structure zPl (ρ:Gh)(s:St)(w:World):Prop where
 lt:∀o x,s.get o=some x→o < s.n
 ok:∀o x,s.get o=some x→zQt ρ w o x
 no:∀o,s.get o=none→ρ.kd o= .fresh
 live:∀b o,ρ.own b= .obj o→ρ.kd o≠ .fresh
 size:∀b,w.heap.size≤b→ρ.own b= .imm
structure Kp (ρ:Gh)(w:World) (ρ' :Gh) (w' :World):Prop where
 os:w'.os=w.os
 tape:w'.tape=w.tape
 output:w'.output=w.output
 size:w.heap.size≤w'.heap.size
 kept:∀b,b < w.heap.size→(∀o,ρ.own b≠ .obj o)→w'.heap[b]? =w.heap[b]? ∧ρ'.own b=ρ.own b
 dead:∀o,ρ.kd o= .dead→ρ'.kd o= .dead∧ρ'.lp o=ρ.lp o
 live:∀o sz,ρ.kd o= .live sz→ρ'.kd o= .dead∨(ρ'.kd o= .live sz∧∀b,ρ.own b= .obj o→ρ'.own b= .obj o∧ρ'.sh b=ρ.sh b∧ρ.ext b≤ρ'.ext b∧ρ'.cap b=ρ.cap b)
theorem Kp.refl (ρ:Gh)(w:World):Kp ρ w ρ w:=⟨rfl,rfl,rfl,Nat.le_refl _,fun _ _ _=>⟨rfl,rfl⟩,fun _ h=>⟨h,rfl⟩,fun _ _ h=> .inr ⟨h,fun _ hb=>⟨hb,rfl,Nat.le_refl _,rfl⟩⟩⟩
theorem Kp.trans {ρ ρ' ρ'' :Gh} {w w' w'' :World}(h:Kp ρ w ρ' w')(k:Kp ρ' w' ρ'' w''):Kp ρ w ρ'' w'' :=by
 refine⟨k.os.trans h.os,k.tape.trans h.tape,k.output.trans h.output,Nat.le_trans h.size k.size,fun b hb hn=> ?_,fun o ho=>⟨(k.dead o (h.dead o ho).1).1,(k.dead o (h.dead o ho).1).2.trans (h.dead o ho).2⟩,fun o sz ho=> ?_⟩
 ·obtain⟨h1,h2⟩:=h.kept b hb hn
  obtain⟨k1,k2⟩:=k.kept b (Nat.lt_of_lt_of_le hb h.size) (fun o=>by rw [h2]; exact hn o)
  exact⟨k1.trans h1,k2.trans h2⟩
 ·rcases h.live o sz ho with h1 | ⟨h1,h2⟩
  ·exact .inl (k.dead o h1).1
  ·rcases k.live o sz h1 with k1 | ⟨k1,k2⟩
   ·exact .inl k1
   ·refine .inr ⟨k1,fun b hb=> ?_⟩
    obtain⟨a1,a2,a3,a4⟩:=h2 b hb
    obtain⟨b1,b2,b3,b4⟩:=k2 b a1
    exact⟨b1,b2.trans a2,Nat.le_trans a3 b3,b4.trans a4⟩
theorem cell?_lt {w:World}{b x:Nat}{v:Value}(h:w.cell? ⟨b,x,none⟩=some v):b < w.heap.size:=by
 unfold World.cell? at h
 rcases Nat.lt_or_ge b w.heap.size with hb | hb
 ·exact hb
 ·simp [Array.getElem?_eq_none hb]at h
theorem cell?_of_heap {w w' :World}{b:Nat}(h:w'.heap[b]? =w.heap[b]?)(x:Nat):w'.cell? ⟨b,x,none⟩=w.cell? ⟨b,x,none⟩:=by
 unfold World.cell?; simp only [h]
theorem frozen?_of_heap {w w' :World}{b:Nat}(h:w'.heap[b]? =w.heap[b]?)(x:Nat):w'.frozen? ⟨b,x,none⟩=w.frozen? ⟨b,x,none⟩:=by
 unfold World.frozen?; simp only [h]
theorem CeA.lt {w:World}{b x:Nat}{v:Value}(h:CeA w b x v)(hp:0 < v.cells.size):b < w.heap.size:=by
 have h0:=h 0 hp
 rw [Array.getElem?_eq_getElem hp]at h0
 exact cell?_lt h0
theorem CeA.of_heap {w w' :World}{b x:Nat}{v:Value}(hw:w'.heap[b]? =w.heap[b]?)(h:CeA w b x v):CeA w' b x v:=fun j hj=>by
 rw [cell?_of_heap hw]; exact h j hj
structure Kr (ρ:Gh)(w:World) (ρ' :Gh) (w' :World):Prop where
 imm:∀b,b < w.heap.size→ρ.own b= .imm→w'.heap[b]? =w.heap[b]? ∧ρ'.own b= .imm
 dead:∀o,ρ.kd o= .dead→ρ'.kd o= .dead∧ρ'.lp o=ρ.lp o
 live:∀o sz,ρ.kd o= .live sz→ρ'.kd o= .dead∨(ρ'.kd o= .live sz∧∀b,ρ.own b= .obj o→ρ'.own b= .obj o∧ρ'.sh b=ρ.sh b∧ρ.ext b≤ρ'.ext b∧ρ'.cap b=ρ.cap b)
theorem Kp.r {ρ ρ' :Gh} {w w' :World}(h:Kp ρ w ρ' w'):Kr ρ w ρ' w' :=
 ⟨fun b hb hi=>by
  obtain⟨h1,h2⟩:=h.kept b hb (fun o=>by rw [hi]; simp)
  exact⟨h1,h2.trans hi⟩,h.dead,h.live⟩
theorem Gh.at_mono {ρ ρ' :Gh} {w w' :World}(h:Kr ρ w ρ' w'){o:Nat}{dd:Prop} {Q Q' :Nat→Nat→Prop}(hd:∀sz b,Q sz b→dd)(hq:∀sz b,ρ.own b= .obj o→ρ'.sh b=ρ.sh b→ρ.ext b≤ρ'.ext b→ρ'.cap b=ρ.cap b→Q sz b→Q' sz b)(ha:ρ.at o dd Q):ρ'.at o dd Q' :=by
 unfold Gh.at at *
 cases hk:ρ.kd o with
 | fresh=>simp [hk]at ha
 | dead=>simp only [hk]at ha; simpa [(h.dead o hk).1] using ha
 | live sz=>
  simp only [hk]at ha
  obtain⟨b,hb,hQ⟩:=ha
  rcases h.live o sz hk with h1 | ⟨h1,h2⟩
  ·simpa [h1] using hd sz b hQ
  ·obtain⟨a1,a2,a3,a4⟩:=h2 b hb
   simp only [h1]
   exact⟨b,a1,hq sz b hb a2 a3 a4 hQ⟩
mutual
theorem Rep.mono' {ρ ρ' :Gh} {w w' :World}(h:Kr ρ w ρ' w'):∀(d:D) (v:Value),Rep ρ w d v→Rep ρ' w' d v
 | .bool _,_,r=>by simpa only [Rep] using r
 | .int _ _,_,r=>by simpa only [Rep] using r
 | .str _,_,r=>by simpa only [Rep] using r
 | .nilp,_,r=>by simpa only [Rep] using r
 | .ptr o c,_,r=>by
  simp only [Rep]at *
  exact Gh.at_mono h (fun _ _ q=>⟨_,q⟩) (fun _ _ _ _ _ _ q=>q) r
 | .eptr o i c e,_,r=>by
  simp only [Rep]at *
  refine Gh.at_mono h (fun _ _ q=>⟨_,q.2.2.2⟩) (fun sz b _ h1 h2 _ ⟨q1,q2,q3,q4⟩=> ?_) r
  rw [h1]; exact ⟨q1,q2,Nat.le_trans q3 h2,q4⟩
 | .vptr e c,_,r=>by
  simp only [Rep]at *
  obtain⟨b,x,u,h1,h2,h3,h4,h5⟩:=r
  obtain⟨k1,k2⟩:=h.imm b (h3.lt h4.1) h1
  exact⟨b,x,u,k2,Rep.mono' h e u h2,h3.of_heap k1,h4,h5⟩
 | .vs nl sz l,_,r=>by
  simp only [Rep]at *
  rcases r with r | ⟨r1,ad,cap,r2,r3,r4⟩
  ·exact .inl r
  ·refine .inr ⟨r1,ad,cap,r2,r3, ?_⟩
   rcases r4 with r4 | ⟨b,x,r0,r4,r5⟩
   ·exact .inl r4
   ·cases l with
    | nil=>exact .inl rfl
    | cons d l=>
     have hb:b < w.heap.size:=by
      simp only [RepE]at r5
      obtain⟨⟨v,_,e1,e2,e3,_⟩,_⟩:=r5
      exact e3.lt (by omega)
     obtain⟨k1,k2⟩:=h.imm b hb r4
     exact .inr ⟨b,x,r0,k2,RepE.mono' h sz b k1 x (d::l) r5⟩
 | .sl o off len cp,_,r=>by
  simp only [Rep]at *
  refine Gh.at_mono h (fun _ _ ⟨_,_,_,_,_,q4,_⟩=>⟨_,_,q4⟩) (fun sz b _ h1 h2 h3 ⟨q1,q2,q3,x,cap,q4,q5,q6,q7⟩=> ?_) r
  rw [h1,h3]; exact ⟨q1,Nat.le_trans q2 h2,q3,x,cap,q4,q5,q6,q7⟩
 | .nilm,_,r=>by simpa only [Rep] using r
 | .mp o,_,r=>by
  simp only [Rep]at *
  exact Gh.at_mono h (fun _ _ q=>⟨_,q⟩) (fun _ _ _ _ _ _ q=>q) r
 | .fn f a c,_,r=>by
  simp only [Rep]at *
  obtain⟨va,vc,h1,h2,h3⟩:=r
  exact⟨va,vc,h1,RepL.mono' h a _ h2,RepL.mono' h c _ h3⟩
 | .nilf,_,r=>by simpa only [Rep] using r
 | .ifc t d,_,r=>by
  simp only [Rep]at *
  obtain⟨u,h1,h2⟩:=r
  exact⟨u,h1,Rep.mono' h d u h2⟩
 | .nili,_,r=>by simpa only [Rep] using r
 | .agg l,_,r=>by
  simp only [Rep]at *
  obtain⟨vs,h1,h2,h3⟩:=r
  exact⟨vs,h1,RepL.mono' h l _ h2,h3⟩
 | .tup l,_,r=>by
  simp only [Rep]at *
  obtain⟨vs,h1,h2⟩:=r
  exact⟨vs,h1,RepL.mono' h l _ h2⟩
 | .lv _,_,r=>by simp only [Rep]at r
 | .lptr _ _,_,r=>by simp only [Rep]at r
 | .sint _ _ _ _,_,r=>by simpa only [Rep] using r
 | .sstr _ _ _ _,_,r=>by simpa only [Rep] using r
 | .sbool _,_,r=>by simpa only [Rep] using r
 | .yl o,_,r=>by
  simp only [Rep]at *
  exact⟨(h.dead o r.1).1,by rw [(h.dead o r.1).2]; exact r.2⟩
theorem RepL.mono' {ρ ρ' :Gh} {w w' :World}(h:Kr ρ w ρ' w'):∀(l:List D) (vs:List Value),RepL ρ w l vs→RepL ρ' w' l vs
 | [],_,r=>by simpa only [RepL] using r
 | d::l,_,r=>by
  simp only [RepL]at *
  obtain⟨v,t,h1,h2,h3⟩:=r
  exact⟨v,t,h1,Rep.mono' h d v h2,RepL.mono' h l t h3⟩
theorem RepE.mono' {ρ ρ' :Gh} {w w' :World}(h:Kr ρ w ρ' w')(sz b:Nat)(hb:w'.heap[b]? =w.heap[b]?):∀(x:Nat) (l:List D),RepE ρ w sz b x l→RepE ρ' w' sz b x l
 | _,[],_=>by simp only [RepE]
 | x,d::l,r=>by
  simp only [RepE]at *
  obtain⟨⟨v,h1,h2,h3,h4,h6⟩,h5⟩:=r
  exact⟨⟨v,Rep.mono' h d v h1,h2,h3,h4.of_heap hb,h6⟩,RepE.mono' h sz b hb (x+sz) l h5⟩
end
theorem RepM.mono' {ρ ρ' :Gh} {w w' :World}(h:Kr ρ w ρ' w'):∀(l:List (Nat×D×D)) (es:List MapEntry),RepM ρ w l es→RepM ρ' w' l es
 | [],_,r=>by simpa only [RepM] using r
 | (n,k,v)::l,_,r=>by
  simp only [RepM]at *
  obtain⟨e,t,h1,h2,h3,h4,h5⟩:=r
  exact⟨e,t,h1,h2,Rep.mono' h _ _ h3,Rep.mono' h _ _ h4,RepM.mono' h l t h5⟩
theorem Rep.mono {ρ ρ' :Gh} {w w' :World}{d:D}{v:Value}(r:Rep ρ w d v)(h:Kp ρ w ρ' w'):Rep ρ' w' d v:=Rep.mono' h.r d v r
theorem RepL.mono {ρ ρ' :Gh} {w w' :World}{l:List D}{vs:List Value}(r:RepL ρ w l vs)(h:Kp ρ w ρ' w'):RepL ρ' w' l vs:=RepL.mono' h.r l vs r
theorem RepM.mono {ρ ρ' :Gh} {w w' :World}{l:List (Nat×D×D)}{es:List MapEntry}(r:RepM ρ w l es)(h:Kp ρ w ρ' w'):RepM ρ' w' l es:=RepM.mono' h.r l es r
def SlR (ρ:Gh)(w:World)(lo:Nat)(e:Env)(tmps:Array Value)(t:Nat)(d:D):Prop:=
 match d with
 | .lv x=>∃b v el,tmps[t]? =some (.pointer (some ⟨b,0,none⟩))∧ρ.own b= .priv∧lo≤b∧Rep ρ w x v∧w.heap[b]? =some (.cells v.cells el (0,0))∧x.st=true
 | .lptr a c=>∀x,e.get a=some (.lv x)→∃b,tmps[a]? =some (.pointer (some ⟨b,0,none⟩))∧tmps[t]? =some (.pointer (some ⟨b,c,none⟩))
 | d=>∃v,tmps[t]? =some v∧Rep ρ w d v
structure EnR (ρ:Gh)(w:World)(lo:Nat)(e:Env)(tmps:Array Value):Prop where
 slot:∀t d,e.get t=some d→SlR ρ w lo e tmps t d
 inj:∀t t' x x' b,t≠t' →e.get t=some (.lv x)→e.get t' =some (.lv x')→tmps[t]? =some (.pointer (some ⟨b,0,none⟩))→tmps[t']? ≠some (.pointer (some ⟨b,0,none⟩))
theorem EnR.mono {ρ ρ' :Gh} {w w' :World}{lo:Nat}{e:Env}{tmps:Array Value}(h:Kp ρ w ρ' w')(r:EnR ρ w lo e tmps):EnR ρ' w' lo e tmps:=by
 refine⟨fun t d hd=> ?_,r.inj⟩
 have:=r.slot t d hd
 cases d with
 | lv x=>
  simp only [SlR]at *
  obtain⟨b,v,el,h1,h2,h3,h4,h5,h6⟩:=this
  have hb:b < w.heap.size:=by
   rcases Nat.lt_or_ge b w.heap.size with hb | hb
   ·exact hb
   ·simp [Array.getElem?_eq_none hb]at h5
  obtain⟨k1,k2⟩:=h.kept b hb (fun o=>by rw [h2]; simp)
  exact⟨b,v,el,h1,k2.trans h2,h3,h4.mono h,k1.trans h5,h6⟩
 | lptr a c=>exact this
 | _=>
  simp only [SlR]at *
  obtain⟨v,h1,h2⟩:=this
  exact⟨v,h1,h2.mono h⟩
end Go.Ab
