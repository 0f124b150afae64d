/- Part. -/
import Derived.Test.YthaiegafejbmoaaGreatDoorG01
import Derived.RangeFuncSeq
import Derived.RangeFuncIn
import Derived.OrdersIn
set_option linter.unusedSectionVars false
set_option linter.unusedSimpArgs false
set_option linter.unusedVariables false
namespace Go.Ab
open Go
mutual
def w8:Value->Option D
 | .bool b=>some (.bool b)
 | .int k n=>some (.int k n)
 | .string s=>some (.str s.data.toList)
 | .pointer none=>some .dU
 | .slice none 0 0=>some (.vs true 0 [])
 | .map none=>some .qD
 | .func f a b=>match EB a.toList,EB b.toList with
  | some x,some y=>some (.fn f x y)
  | _,_=>none
 | .nilFunc=>some .lX
 | .nilIface=>some .jc
 | .iface t v=>match w8 v with
  | some d=>some (.eM t d)
  | none=>none
 | .agg cs=>match EB cs.toList with
  | some l=>match l.all D.sc with
   | true=>some (.agg l)
   | false=>none
  | none=>none
 | .tuple cs=>match EB cs.toList with
  | some l=>some (.gW l)
  | none=>none
 | _=>none
def EB:List Value->Option (List D)
 | []=>some []
 | v::r=>match w8 v,EB r with
  | some d,some l=>some (d::l)
  | _,_=>none
end
abbrev Gl:=Nat->Option D
def ew (G:Gl):Operand->Option bO
 | .tmp t=>some (.t t)
 | .const v=>(w8 v).map .c
 | .func f=>some (.c (.fn (.func f) [] []))
 | .global g=>(G g).map fun d=> .c (.jJ d 0)
def rW (G:Gl)(l:Array Operand):Option (List bO):=l.toList.mapM (ew G)
def sT (G:Gl):Option Operand->Option (Option bO)
 | none=>some none
 | some x=>(ew G x).map some
def oQ (P:Program)(t:TypeId):Option Bool:=
 match P.underlying t with
 | some (.struct _)=>some true
 | some (.array _ _)=>some true
 | some _=>some false
 | none=>none
def dC (P:Program)(t:TypeId):Option Nat:=(P.info? t).map (·.size)
def iH (P:Program)(t:TypeId):Option (Option Nat):=
 match oQ P t,dC P t with
 | some true,some s=>some (some s)
 | some false,some 1=>some none
 | _,_=>none
def jA (P:Program)(t:TypeId):Option D:=((P.info? t).bind (·.zero)).bind w8
def sR (P:Program):Nat->TypeId->Option ET
 | 0,_=>none
 | d+1,t=>match P.underlying t with
  | some .bool=>some .bool
  | some (.int _)=>some .int
  | some .string=>some .str
  | some (.pointer e)=>match dC P e with
   | some (_+1)=>some .ptr
   | _=>none
  | some (.interface _)=>some .iface
  | some (.slice _)=>some .slice
  | some (.map _ _)=>some .map
  | some (.func _ _ _)=>some .func
  | some (.struct fs)=>match P.stoodInHeld t with
   | true=>none
   | false=>(fieldsB (sR P d) fs.toList).map .st
  | _=>none
 where
 fieldsB (f:TypeId->Option ET):List Field->Option Vq
  | []=>some .nil
  | x :: r => match x.name == "_" with
   | true=>none
   | false=>match iH P x.type,f x.type,fieldsB f r with
    | some s,some e,some l=>some (.cons x.offset s e l)
    | _,_,_=>none
def tC:Operand->Bool
 | .const _=>true
 | _=>false
def kC:Option TypeDesc->Nat
 | some (.pointer _)=>0
 | some (.interface _)=>2
 | some _=>1
 | none=>2
def IT (P:Program)(t:TypeId)(path:List FieldStep)(ptr:Bool):Option Recv:=
 match path with
 | []=>match kC (P.underlying t),ptr with
  | 0,true=>some .self
  | 1,false=>some .self
  | _,_=>none
 | [st]=>match P.underlying st.struct with
  | some (.struct fs)=>match fs[st.index]? with
   | some fl=>match st.deref with
    | true=>match Nat.beq (kC (P.underlying fl.type)) 1 && ptr with
     | true=>match dC P fl.type with
      | some (_+1)=>some (.addr fl.offset)
      | _=>none
     | false=>match (Nat.beq (kC (P.underlying fl.type)) 0 && ptr) || (Nat.beq (kC (P.underlying fl.type)) 1 && !ptr),dC P fl.type,iH P fl.type with
      | true,some (_+1),some sz=>some (.load fl.offset sz)
      | _,_,_=>none
    | false=>match (Nat.beq (kC (P.underlying fl.type)) 0 && ptr) || (Nat.beq (kC (P.underlying fl.type)) 1 && !ptr),iH P fl.type with
     | true,some sz=>some (.part fl.offset sz)
     | _,_=>none
   | none=>none
  | _=>none
 | _=>none
def nM (P:Program)(name:String):List (Nat×Nat×Recv):=
 (P.types.toList.zipIdx.filterMap fun (i,t)=>
  match i.methods.find? (·.name==name) with
  | some m=>match m.func with
   | some (f,ptr)=>(IT P t m.path.toList ptr).map fun r=>(t,f,r)
   | none=>none
  | none=>none)
def Pv (want:Array (String×TypeId))(got:Array Method):List (String×TypeId):=want.toList.filter fun x=> !got.toList.any fun m=>m.name==x.1 && m.sig==x.2
def Ij (P:Program)(want:Array (String×TypeId)):List Nat:=
 P.types.toList.zipIdx.filterMap fun (i,t)=>match Pv want i.methods with
  | []=>some t
  | _::_=>none
abbrev ig:=Nat->Option Ext
def wG:Option TypeDesc->Bool
 | some (.slice _)=>true
 | some .string=>true
 | _=>false
def Dw (P:Program)(G:Gl)(c:Call)(b:Builtin):Option eE:=
 match b,c.args.toList,c.argTypes.toList with
 | .len,[x],[t]=>match P.underlying t with
  | some .string=>(ew G x).map (.len 0)
  | some (.slice _)=>(ew G x).map (.len 1)
  | some (.map _ _)=>(ew G x).map (.len 2)
  | _=>none
 | .append,[x,y],[t,u]=>do
  let .slice e ← P.underlying t | none
  if wG (P.underlying u) then
   let s ← dC P e
   let z ← jA P e
   let i ← P.info? e
   let a ← ew G x
   let b ← ew G y
   if Nat.blt 0 s && eC s [z] then pure (.append s i.bytes e a b) else none
  else none
 | .unsafeSliceData,[x],[t]=>match P.underlying t with
  | some (.slice _)=>(ew G x).map .qM
  | _=>none
 | .unsafeString,[x,y],[t,_]=>match P.underlying t with
  | some (.pointer e)=>match dC P e with
   | some 1=>do pure (.CW e (← ew G x) (← ew G y))
   | _=>none
  | _=>none
 | .copy,[x,y],[t,_]=>do
  let .slice e ← P.underlying t | none
  let s ← dC P e
  if s=0 then none
  let a ← ew G x
  let b ← ew G y
  pure (.copy s a b)
 | .delete,[x,y],[t,_]=>do
  let .map q _ ← P.underlying t | none
  let et ← sR P 8 q
  let a ← ew G x
  let b ← ew G y
  pure (.delete et a b)
 | .clear,[x],[t]=>match P.underlying t with
  | some (.slice e)=>do
   let s ← dC P e
   if s=0 then none
   pure (.clear s (← jA P e) (← ew G x))
  | some (.map _ _)=>do pure (.clear 1 (.gW []) (← ew G x))
  | _=>none
 | .min,l,_=>do pure (.tT false (← l.mapM (ew G)))
 | .max,l,_=>do pure (.tT true (← l.mapM (ew G)))
 | _,_,_=>none
def Uj (P:Program)(G:Gl)(X:ig)(ro:Bool)(c:Call):Option eE:=
 match c.callee with
 | .builtin b=>Dw P G c b
 | .value (.func f)=>do
  let fn ← P.funcs[f]?
  if fn.body.isNone then
   match X f with
   | some e=>pure (.ext e (← rW G c.args))
   | none=>none
  else if fn.name == "runtime.NumGoroutine" then none
  else pure (.call ro f (← rW G c.args))
 | .value x=>do pure (.oG (← ew G x) (← rW G c.args))
 | .invoke x name=>do pure (.invoke (nM P name) (← ew G x) (← rW G c.args))
def X1 (P:Program)(G:Gl)(fs:Array Field)(parts:Array (Nat×Operand)):Option (List (Nat×Nat×bO)):=
 parts.toList.mapM fun (i,x)=>do
  let f ← fs[i]?
  let s ← dC P f.type
  let d ← ew G x
  pure (f.offset,s,d)
structure mT where
 pr:List Nat
 ros:List Nat
 roots:List (Nat×Nat)
 ks:List (List Nat)
 nt:Nat
def mT.Pu (A:mT):Option Nat->Bool
 | some a=>A.pr.contains a
 | none=>false
def mT.aaC (A:mT):Option Nat->Bool
 | some a=>A.ros.contains a
 | none=>false
def ET.aaD:ET->Bool
 | .st _=>true
 | _=>false
def eqB (op:BinOp)(et:ET)(oc:Bool)(a b:bO):Option eE:=
 match op with
 | .eql=>some (.eq et false oc a b)
 | .neq=>some (.eq et true oc a b)
 | _=>none
def rootOf (A:mT):Operand->Option Nat
 | .tmp t=>if A.pr.contains t then some t else QD A.roots t
 | _=>none
def YP (P:Program)(G:Gl)(X:ig)(A:mT)(o:Oper):Option eE:=
 match o.op with
 | .move x | .assign x=>(ew G x).map .mv
 | .pick c a b=>do pure (.pick (← ew G c) (← ew G a) (← ew G b))
 | .alloc e=>do
  let z ← jA P e
  match A.Pu o.dst with
  | true=>pure (.mZ (.c z))
  | false=>pure (.box e (.c z))
 | .box e x=>do
  let a ← ew G x
  match A.Pu o.dst with
  | true=>pure (.mZ a)
  | false=>pure (.box e a)
 | .build t parts=>do
  let z ← jA P t
  match P.underlying t with
  | some (.struct fs)=>if fs.toList.all fun f=>(dC P f.type).isSome then pure (.build z.flat (← X1 P G fs parts)) else none
  | some (.array _ e)=>
   let s ← dC P e
   let l ← parts.toList.mapM fun (i,x)=>do let d ← ew G x; pure (i * s,s,d)
   pure (.build z.flat l)
  | _=>none
 | .buildSlice t len parts=>do
  let .slice e ← P.underlying t | none
  let s ← dC P e
  if s=0 || len * s > 2 ^ 24 then none
  let z ← jA P e
  let l ← parts.toList.mapM fun (i,x)=>do let d ← ew G x; pure (i,d)
  match A.Pu o.dst with
  | true=>pure (.pP s z len l)
  | false=>pure (.tw s e z len l)
 | .load t x=>do
  let s ← iH P t
  match rootOf A x with
  | some a=>pure (.tf a s (← ew G x))
  | none=>pure (.load s (← ew G x))
 | .store t x v=>do
  let s ← dC P t
  if s=0 then none
  match rootOf A x with
  | some a=>pure (.iX a s (← ew G x) (← ew G v))
  | none=>pure (.store s (← ew G x) (← ew G v))
 | .nilCheck x=>do pure (.rU (← ew G x))
 | .binOp op t x y _=>do
  let a ← ew G x
  let b ← ew G y
  let d ← P.underlying t
  match d with
  | .int _=>pure (.bin op a b)
  | .string=>pure (.bin op a b)
  | _=>
   let et ← sR P 8 t
   match et.aaD && P.eqGuardType P.depth t with
   | true=>none
   | false=>eqB op et (tC x || tC y) a b
 | .unOp op t x=>do
  let d ← P.underlying t
  match d with
  | .int _=>pure (.un op (← ew G x))
  | .bool=>pure (.un op (← ew G x))
  | _=>none
 | .convert src dst x=>do
  let a ← ew G x
  match P.underlying src,P.underlying dst with
  | some (.int _),some (.int k)=>pure (.toInt k a)
  | some (.int _),some .string=>pure (.rO a)
  | some .string,some .string=>pure (.Fm a)
  | some (.pointer e),some .unsafePointer=>match dC P e with
   | some (_+1)=>pure (.Fz a)
   | _=>none
  | some .unsafePointer,some (.pointer e)=>match dC P e with
   | some (n+1)=>pure (.upto [(e,0,n+1)] a)
   | _=>none
  | some .string,some (.slice e)=>match P.underlying e with
   | some (.int .u8)=>pure (.oZ e a)
   | _=>none
  | some (.slice e),some .string=>match P.underlying e with
   | some (.int .u8)=>pure (.kS a)
   | some (.int .i32)=>pure (.kW a)
   | _=>none
  | some (.slice _),some (.slice e)=>match P.underlying e with
   | some (.int .u8)=>if src==dst then pure (.uk a) else none
   | _=>none
  | _,_=>none
 | .makeInterface t x=>match P.underlying t with
  | some (.interface _)=>none
  | none=>none
  | some _=>do pure (.Py t (← ew G x))
 | .makeFunc f a b=>do pure (.Kq f (← rW G a) (← rW G b))
 | .makeMap t r=>do
  let .map _ _ ← P.underlying t | none
  pure (.zr (← sT G r))
 | .makeSlice t l c=>do
  let .slice e ← P.underlying t | none
  let s ← dC P e
  if s=0 then none
  let z ← jA P e
  pure (.nN s (P.bytesOf e) e z (← ew G l) (← ew G c))
 | .slice t x lo hi mx=>match P.underlying t with
  | some .string=>match mx with
   | none=>do pure (.pa (← ew G x) (← sT G lo) (← sT G hi))
   | some _=>none
  | some (.slice e)=>do
   let s ← dC P e
   if s=0 || (mx.isSome && hi.isNone) then none
   pure (.KT s (← ew G x) (← sT G lo) (← sT G hi) (← sT G mx))
  | some (.array n e)=>match dC P e,lo,hi,mx with
   | some 1,none,none,none=>(ew G x).map (.yj n)
   | _,_,_,_=>none
  | _=>none
 | .fieldAddr t x f=>do
  let .struct fs ← P.underlying t | none
  let f ← fs[f]?
  let s ← dC P f.type
  if s=0 then none
  pure (.wU f.offset (← ew G x))
 | .field t x f=>do
  let .struct fs ← P.underlying t | none
  let f ← fs[f]?
  let s ← iH P f.type
  pure (.field f.offset s (← ew G x))
 | .indexAddr t x i=>match P.underlying t with
  | some (.slice e)=>do
   let s ← dC P e
   if s=0 then none
   pure (.oP s (← ew G x) (← ew G i))
  | some (.array n e)=>do
   let s ← dC P e
   if s=0 then none
   pure (.rM n s (← ew G x) (← ew G i))
  | _=>none
 | .index t x i=>match P.underlying t with
  | some .string=>do pure (.KR (← ew G x) (← ew G i))
  | some (.array n e)=>do
   let s ← iH P e
   pure (.LO n (s.getD 1) s.isSome (← ew G x) (← ew G i))
  | _=>none
 | .lookup t x k ok=>do
  let .map q e ← P.underlying t | none
  let et ← sR P 8 q
  let z ← jA P e
  pure (.lookup et z ok (← ew G x) (← ew G k))
 | .mapUpdate t m k v | .insert t m k v=>do
  let .map q _ ← P.underlying t | none
  let et ← sR P 8 q
  pure (.AF et (← ew G m) (← ew G k) (← ew G v))
 | .mapEntry t m k=>do
  let .map q e ← P.underlying t | none
  let et ← sR P 8 q
  let z ← jA P e
  pure (.tS et z (← ew G m) (← ew G k))
 | .entryStore _ m s v=>do pure (.pt (← ew G m) (← ew G s) (← ew G v))
 | .range t x=>match P.underlying t with
  | some .string=>do pure (.range (← ew G x))
  | _=>none
 | .next x true=>do pure (.uO (← ew G x))
 | .typeAssert x _ t ok=>do
  let a ← ew G x
  match P.underlying t with
  | some (.interface want)=>match jA P t with
   | some .jc=>pure (.r9 P.types.size (Ij P want) ok a)
   | _=>none
  | some _=>pure (.sO t (← jA P t) ok a)
  | none=>none
 | .extract x i=>do pure (.extract i (← ew G x))
 | .call c=>Uj P G X (A.aaC o.dst) c
 | .defer { callee:= .value x,args,.. }=>do pure (.defer (← ew G x) (← rW G args))
 | _=>none
def XV:eE->Bool
 | .uk _ | .bad | .mZ _ | .iX .. | .defer .. =>false
 | _=>true
def spec (P:Program)(G:Gl)(A:mT)(o:Oper):Option eE:=
 match o.op with
 | .alloc e=>match A.Pu o.dst with
  | true=>(jA P e).map fun z=> .mZ (.c z)
  | false=>none
 | .box _ x=>match A.Pu o.dst with
  | true=>(ew G x).map .mZ
  | false=>none
 | .store t x v=>match rootOf A x with
  | some a=>match dC P t,ew G x,ew G v with
   | some sz,some x,some v=>some (.iX a sz x v)
   | _,_,_=>none
  | none=>none
 | .defer { callee:= .value x,args,.. }=>match ew G x,rW G args with
  | some x,some l=>some (.defer x l)
  | _,_=>none
 | _=>none
def nameOf (ops:Array Oper)(o:Oper):Option String:=match o.op with
 | .nilCheck (.tmp t)=>ops.toList.findSome? fun q=>match q.dst,q.op with
  | some d,.makeFunc (.method n) _ _=>match Nat.beq d t with
   | true=>some n
   | false=>none
  | _,_=>none
 | _=>none
def XQ (P:Program)(G:Gl)(nm:Option String)(o:Oper):Option eE:=match nm,o.op with
 | some n,.nilCheck x=>(ew G x).map fun x=> .Bx n (nM P n) x
 | _,_=>none
def xz (P:Program)(G:Gl)(X:ig)(A:mT)(nm:Option String)(o:Oper):eE:=
 match XQ P G nm o with
 | some p=>p
 | none=>match spec P G A o with
  | some p=>p
  | none=>match YP P G X A o with
   | some p=>match XV p with
    | true=>p
    | false=> .bad
   | none=> .bad
def fB (P:Program)(G:Gl)(X:ig)(A:mT)(ops:Array Oper)(o:Oper):bz:=
 match (match o.guard with
  | none=>some none
  | some (j,b)=>match (ops[j]?).bind (·.dst) with
   | some t=>some (some (t,b))
   | none=>none) with
 | some g=>match (match o.dst with | some t=>Nat.blt t A.nt | none=>true) with
  | true=>⟨o.dst,xz P G X A (nameOf ops o) o,g,none⟩
  | false=>⟨o.dst,.bad,none,none⟩
 | none=>⟨o.dst,.bad,none,none⟩
def direct (o:Oper):List Nat:=o.after.toList.filterMap fun e=>if Region.binds .any e then some e.on else none
def uf:List (List Nat)->List (List Nat)->List (List Nat)
 | acc,[]=>acc
 | acc,d::r=>uf (acc++ [(d++d.flatMap fun i=>acc.getD i []).eraseDups]) r
def LN (ds:List (List Nat)):List (List Nat):=uf [] ds
def S0:Nat->List (List Nat)->Bool
 | _,[]=>true
 | j,d::r=>d.all (fun i=>Nat.blt i j) && S0 (j+1) r
def th (a b:Nat):Nat:=
 if a==0 || b==0 then 0
 else if a==7 || b==7 then (if a==6 || b==6 || a==b then 2 else 0)
 else if a==6 || b==6 then 0
 else if a==1 && b==1 then 0
 else if a==4 && b==4 then 0
 else if (a==3 && b==4) || (a==4 && b==3) then 0
 else if (a==1 && b==4) || (a==4 && b==1) then 0
 else if (a==1 && b==5) || (a==5 && b==1) then 1
 else if (a<=3 || a==9) && (b<=3 || b==9) then 1
 else 2
def eE.own:eE->Option Nat
 | .tf a _ _=>some a
 | .iX a _ _ _=>some a
 | _=>none
def qT (x y:eE):Nat:=match x.own,y.own with
 | some a,some b=>match Nat.beq a b with
  | true=>th x.kind y.kind
  | false=>0
 | _,_=>th x.kind y.kind
def Ea (o:eE):Bool:=o.kind==3 || o.kind==9
def bz.sl (o:bz):List Nat:=match o.guard with
 | some (g,_)=>g::o.op.sl
 | none=>o.op.sl
def tH (d:Option Nat)(l:List Nat):Bool:=match d with
 | some t=>pM t l
 | none=>false
def mA (x y:bz):Bool:= !(tH x.dst y.sl) && (!(tH y.dst x.sl) && !(tH x.dst y.dst.toList))
def lQ (o:bz):Bool:=(match o.op with | .mZ _=>false | _=>true) && (o.al.isSome==Ea o.op)
def mb:List bz->Nat->List bz×Nat
 | [],k=>([],k)
 | o::r,k=>if Ea o.op then
   let x:=mb r (k+1)
   ({ o with al:=some k}::x.1,x.2)
  else
   let x:=mb r k
   (o::x.1,x.2)
def DC (y:bz)(ah:List Nat):Nat->List bz->Option (List Nat)
 | _,[]=>some []
 | i,x::r=>match DC y ah (i+1) r with
  | none=>none
  | some l=>match pM i ah with
   | true=>some l
   | false=>match mA x y with
    | false=>none
    | true=>match qT x.op y.op with
     | 0=>some l
     | 1=>some (i::l)
     | _=>none
def NF (ahs:List (List Nat)):List bz->List bz->Option (List (bz×List Nat))
 | _,[]=>some []
 | bef,o::r=>match lQ o,DC o (ahs.getD bef.length []) 0 bef,NF ahs (bef++ [o]) r with
  | true,some l,some x=>some ((o,l)::x)
  | _,_,_=>none
def HV (l:List bz)(ds:List (List Nat)):Option (Nat×List (bz×List Nat)):=
 let x:=mb l 0
 match S0 0 ds,NF (LN ds) [] x.1 with
 | true,some y=>some (x.2,y)
 | _,_=>none
def Ve (l:List bz)(ds:List (List Nat)):Bool:=match l.drop (l.length - 2),ds.drop (l.length - 2) with
 | [⟨some a,.mZ (.c _),none,none⟩,_],[[],d]=>((List.range (l.length - 1)).all (fun i=>pM i d) && d.all fun i=>Nat.blt i (l.length - 1)) && (l.take (l.length - 2)).all fun o=> !(pM a o.sl) && !(tH o.dst [a])
 | _,_=>false
def KN (P:Program)(G:Gl)(X:ig)(A:mT)(ops:Array Oper)(draw:Bool):AC:=
 let l:=ops.toList.map (fB P G X A ops)
 match draw with
 | false=> .AL l
 | true=>
  let ds:=ops.toList.map direct
  match HV l ds with
  | some (k,y)=> .yF k y
  | none=>match Ve l ds with
   | true=>match HV (l.take (l.length - 2)) (ds.take (l.length - 2)) with
    | some (k,y)=> .seq (.yF k y) (.AL (l.drop (l.length - 2)))
    | none=> .bad
   | false=> .bad
def eE.nd:eE->Bool
 | .defer .. =>false
 | _=>true
def AC.nd:AC->Bool
 | .AL l=>l.all fun o=>o.op.nd
 | .yF _ l=>l.all fun o=>o.1.op.nd
 | .seq a b=>a.nd && b.nd
 | .cond _ a b=>a.nd && b.nd
 | .block _ a=>a.nd
 | .loop _ a=>a.nd
 | .iF .. =>false
 | _=>true
def AC.iD:AC->Bool
 | .iF .. =>true
 | _=>false
def compile (P:Program)(G:Gl)(X:ig)(A:mT):Code->List (List Nat)->AC×List (List Nat)
 | .skip,ks=>(.skip,ks)
 | .region _ ops d,ks=>(KN P G X A ops d,ks)
 | .seq a b,ks=>
  let x:=compile P G X A a ks
  let y:=compile P G X A b x.2
  (.seq x.1 y.1,y.2)
 | .cond c a b,ks=>match ew G c with
  | some c=>
   let x:=compile P G X A a ks
   let y:=compile P G X A b x.2
   (.cond c x.1 y.1,y.2)
  | none=>(.bad,ks)
 | .block id a,ks=>
  let x:=compile P G X A a ks
  (.block id x.1,x.2)
 | .loop a,k::ks=>
  let x:=compile P G X A a ks
  match x.1.iD with
  | true=>(.bad,ks)
  | false=>(.loop k x.1,x.2)
 | .rangeFunc g ps a b,k::ks=>match ew G g with
  | some g' =>
   let x:=compile P G X A a ks
   let y:=compile P G X A b x.2
   match x.1.nd && (y.1.nd && ps.toList.all fun t=>Nat.blt t A.nt) with
   | true=>(.iF k g' ps.toList x.1 y.1,y.2)
   | false=>(.bad,ks)
  | none=>(.bad,ks)
 | .exit id,ks=>(.exit id,ks)
 | .ret,ks=>(.ret,ks)
 | .scope a,ks=>compile P G X A a ks
 | .label _,ks=>(.skip,ks)
 | _,ks=>(.bad,ks)
def Ql (P:Program):ResultVar->Option xl
 | .tmp t=>some (.tmp t)
 | .cell a t=>(iH P t).map (.cell a)
def nS (P:Program)(G:Gl)(X:ig)(fn:Func)(A:mT):Option dJ:=
 match fn.body,fn.results.toList.mapM (Ql P) with
 | some c,some rs=>some ⟨rs,(compile P G X { A with nt:=fn.ntmps} c A.ks).1⟩
 | _,_=>none
theorem jy (T:Nat->Option dJ)(H:au)(n:Nat)(bM kp:List Nat)(g:bO)(ps:List Nat)(x y:AC)(fr:Fr)(s:St):
  eT T H (n+1) bM (.iF kp g ps x y) fr s=nh (fun k e=>cV T (jP k ps e (bN (cV T H n) (eT T H n) x) (bN (cV T H n) (eT T H n) y) H) n) kp g fr s:=by
 rw [eT]
theorem ib (T:Nat->Option dJ)(H:au)(n:Nat)(bM:List Nat){a:AC}(h:a.iD=false)(fr:Fr)(s:St):
  eT T H (n+1) bM a fr s=match bN (cV T H n) (eT T H n) a { fr with env:=fr.env.bM bM} s with
   | some (.normal,fr',s')=>eT T H n bM a fr' s'
   | r=>r:=by
 cases a <;> first | (cases h; done) | rfl
theorem BG {C' :Nat->Env->au}{bM:List Nat}{g:bO}{fr:Fr}{s:St}(h:s.ro=true):nh C' bM g fr s=none:=by
 unfold nh;rw [h];split
 ·rename_i hh; cases hh
 ·rfl
inductive Own where
 | za | qH | obj (o:Nat)
 deriving DecidableEq
inductive Kd where
 | fresh | live (sz:Nat) | dead
 deriving DecidableEq
structure Gh where
 own:Nat->Own
 sh:Nat->Nat
 ext:Nat->Nat
 cap:Nat->Nat
 kd:Nat->Kd
 lp:Nat->Nat×Go.Loop
def bS (w:World)(b x:Nat)(v:Value):Prop:=∀j,j < v.cells.size->w.cell? ⟨b,x+j,none⟩=v.cells[j]?
def Gh.at (ρ:Gh)(o:Nat)(dd:Prop)(Q:Nat->Nat->Prop):Prop:=
 match ρ.kd o with
 | .fresh=>False
 | .dead=>dd
 | .live sz=>∃b,ρ.own b= .obj o/\Q sz b
variable [eh]
mutual
def aR (ρ:Gh)(w:World):D->Value->Prop
 | .bool b,v=>v= .bool b
 | .int k n,v=>v= .int k n
 | .str s,v=>v= .string ⟨⟨s⟩⟩
 | .dU,v=>v= .pointer none
 | .ptr o c,v=>ρ.at o (∃a,v= .pointer (some a)) fun _ b=>v= .pointer (some ⟨b,c,none⟩)
 | .jN o i c e,v=>ρ.at o (∃a,v= .pointer (some a)) fun sz b=>ρ.sh b<=i/\i < e/\e<=ρ.ext b/\v= .pointer (some ⟨b,(i - ρ.sh b) * sz+c,none⟩)
 | .jJ e c,v=>∃b x u,ρ.own b= .za/\aR ρ w e u/\bS w b x u/\(0 < u.cells.size/\e.st=true)/\v= .pointer (some ⟨b,x+c,none⟩)
 | .vs nl sz l,v=>(nl=true/\l=[]/\v= .slice none 0 0)\/
   (nl=false/\∃ad cap,v= .slice (some ad) l.length cap/\l.length<=cap/\(l=[]\/∃b x,ad=⟨b,x,none⟩/\ρ.own b= .za/\fJ ρ w sz b x l))
 | .sl o off len cp,v=>ρ.at o (∃a cap,v= .slice (some a) len cap) fun sz b=>ρ.sh b<=off/\off+cp<=ρ.ext b/\len<=cp/\∃x cap,v= .slice (some ⟨b,x,none⟩) len cap/\cp<=cap/\
   (cap=0\/x=(off - ρ.sh b) * sz)/\(off - ρ.sh b)+cap<=ρ.cap b
 | .qD,v=>v= .map none
 | .mp o,v=>ρ.at o (∃b,v= .map (some b)) fun _ b=>v= .map (some b)
 | .fn f a c,v=>∃va vc,v= .func f va vc/\bu ρ w a va.toList/\bu ρ w c vc.toList
 | .lX,v=>v= .nilFunc
 | .eM t d,v=>∃u,v= .iface t u/\aR ρ w d u
 | .jc,v=>v= .nilIface
 | .agg l,v=>∃vs,v= .agg vs/\bu ρ w l vs.toList/\l.all D.sc=true
 | .gW l,v=>∃vs,v= .tuple vs/\bu ρ w l vs.toList
 | .lv _,_=>False
 | .iE _ _,_=>False
 | .sint k a lo hi,v=>v= .int k a.val/\lo<=a.val/\a.val<=hi
 | .pa i ex lo hi,v=>v= .string ⟨⟨eh.vs i⟩⟩/\eh.vs i ∉ ex/\lo<=(eh.vs i).length/\(eh.vs i).length<=hi
 | .rY i,v=>v= .bool (eh.vb i)
 | .yl o,v=>ρ.kd o= .dead/\v= .func (.yield (ρ.lp o).1) #[] #[]
def bu (ρ:Gh)(w:World):List D->List Value->Prop
 | [],vs=>vs=[]
 | d::l,vs=>∃v r,vs=v::r/\aR ρ w d v/\bu ρ w l r
def fJ (ρ:Gh)(w:World)(sz b:Nat):Nat->List D->Prop
 | _,[]=>True
 | x,d::l=>(∃v,aR ρ w d v/\v.cells.size=sz/\0 < sz/\bS w b x v/\d.st=true)/\fJ ρ w sz b (x+sz) l
end
def LB (ρ:Gh)(w:World)(sz b x:Nat)(d:D):Prop:=∃v,aR ρ w d v/\v.cells.size=sz/\bS w b x v
def fv (ρ:Gh)(w:World):List (Nat×D×D)->List MapEntry->Prop
 | [],es=>es=[]
 | (n,k,v)::l,es=>∃e r,es=e::r/\e.born=n/\aR ρ w k e.key/\aR ρ w v e.val/\fv ρ w l r
def jO (r:Go.Loop):Rq->Go.Loop
 | .ready=> { r with state:= .ready,pending:=none}
 | .busy=> { r with state:= .busy,pending:=none}
 | .exit i=> { r with state:= .done,pending:=some (.exit i)}
 | .ret=> { r with state:= .done,pending:=some .ret}
def Gh.one (ρ:Gh)(o b:Nat):Prop:=ρ.own b= .obj o/\∀b',ρ.own b' = .obj o->b' =b
structure sg (ρ:Gh)(w:World)(sz ty:Nat)(es:List D)(st:Nat)(b:Nat):Prop where
 ext:ρ.ext b<=es.length
 sh:ρ.sh b<=ρ.ext b
 room:ρ.ext b - ρ.sh b<=ρ.cap b
 cells:∀j,j < ρ.cap b * sz->(w.cell? ⟨b,j,none⟩).isSome/\w.frozen? ⟨b,j,none⟩=false
 shape:∃cs f,w.heap[b]? =some (.cells cs ty f)
 elems:st<=ρ.ext b->∀i d,ρ.sh b<=i->i < ρ.ext b->es[i]? =some d->LB ρ w sz b ((i - ρ.sh b) * sz) d
def oC (ρ:Gh)(w:World)(o:Nat):Obj->Prop
 | .var ty d=>∃b v,ρ.kd o= .live 1/\ρ.one o b/\aR ρ w d v/\w.heap[b]? =some (.cells v.cells ty (0,0))/\0 < v.cells.size/\d.st=true
 | .arr sz ty es st=>0 < sz/\ρ.kd o= .live sz/\st<=es.length/\(∃cur,ρ.own cur= .obj o/\ρ.ext cur=es.length/\∀b,ρ.own b= .obj o->ρ.ext b=es.length->b=cur)/\
   (∀b,ρ.own b= .obj o->sg ρ w sz ty es st b)/\eC sz es=true
 | .map es c=>∃b ces,ρ.kd o= .live 1/\ρ.one o b/\w.heap[b]? =some (.map ces c)/\fv ρ w es ces.toList
 | .oW l pos=>∃b,ρ.kd o= .live 1/\ρ.one o b/\w.heap[b]? =some (.stringIter ⟨⟨l⟩⟩ pos)
 | .dead=>ρ.kd o= .dead
 | .loop k st=>ρ.kd o= .live 1/\ρ.kd k= .dead/\ρ.one o (ρ.lp k).1/\w.heap[(ρ.lp k).1]? =some (.loop (jO (ρ.lp k).2 st))
structure bK (ρ:Gh)(s:St)(w:World):Prop where
 lt:∀o x,s.get o=some x->o < s.n
 ok:∀o x,s.get o=some x->oC ρ w o x
 no:∀o,s.get o=none->ρ.kd o= .fresh
 live:∀b o,ρ.own b= .obj o->ρ.kd o≠ .fresh
 size:∀b,w.heap.size<=b->ρ.own b= .za
structure Kp (ρ:Gh)(w:World) (ρ' :Gh) (w' :World):Prop where
 os:w'.os=w.os
 tape:w'.tape=w.tape
 output:w'.output=w.output
 size:w.heap.size<=w'.heap.size
 kept:∀b,b < w.heap.size->(∀o,ρ.own b≠ .obj o)->w'.heap[b]? =w.heap[b]? /\ρ'.own b=ρ.own b
 dead:∀o,ρ.kd o= .dead->ρ'.kd o= .dead/\ρ'.lp o=ρ.lp o
 live:∀o sz,ρ.kd o= .live sz->ρ'.kd o= .dead\/(ρ'.kd o= .live sz/\∀b,ρ.own b= .obj o->ρ'.own b= .obj o/\ρ'.sh b=ρ.sh b/\ρ.ext b<=ρ'.ext b/\ρ'.cap b=ρ.cap b)
theorem Kp.refl (ρ:Gh)(w:World):Kp ρ w ρ w:=⟨rfl,rfl,rfl,aq _,fun _ _ _=>⟨rfl,rfl⟩,fun _ h=>⟨h,rfl⟩,fun _ _ h=> .inr ⟨h,fun _ hb=>⟨hb,rfl,aq _,rfl⟩⟩⟩
theorem Kp.trans {ρ ρ' ρ'' :Gh} {w w' w'' :World}(h:Kp ρ w ρ' w')(k:Kp ρ' w' ρ'' w''):Kp ρ w ρ'' w'' :=by
 refine⟨k.os.trans h.os,k.tape.trans h.tape,k.output.trans h.output,bW h.size k.size,fun b hb hn=> ?_,fun o ho=>⟨(k.dead o (h.dead o ho).1).1,(k.dead o (h.dead o ho).1).2.trans (h.dead o ho).2⟩,fun o sz ho=> ?_⟩
 ·obtain⟨h1,h2⟩:=h.kept b hb hn;obtain⟨k1,k2⟩:=k.kept b (cC hb h.size) (fun o=>by rw [h2]; exact hn o);exact⟨k1.trans h1,k2.trans h2⟩
 ·rcases h.live o sz ho with h1 | ⟨h1,h2⟩
  ·exact .inl (k.dead o h1).1
  ·rcases k.live o sz h1 with k1 | ⟨k1,k2⟩
   ·exact .inl k1
   ·refine .inr ⟨k1,fun b hb=> ?_⟩;obtain⟨a1,a2,a3,a4⟩:=h2 b hb;obtain⟨b1,b2,b3,b4⟩:=k2 b a1;exact⟨b1,b2.trans a2,bW a3 b3,b4.trans a4⟩
theorem cell?_lt {w:World}{b x:Nat}{v:Value}(h:w.cell? ⟨b,x,none⟩=some v):b < w.heap.size:=by
 unfold World.cell? at h;rcases aP b w.heap.size with hb | hb
 ·exact hb
 ·simp [cq hb]at h
theorem cell?_of_heap {w w' :World}{b:Nat}(h:w'.heap[b]? =w.heap[b]?)(x:Nat):w'.cell? ⟨b,x,none⟩=w.cell? ⟨b,x,none⟩:=by
 unfold World.cell?; simp only [h]
theorem frozen?_of_heap {w w' :World}{b:Nat}(h:w'.heap[b]? =w.heap[b]?)(x:Nat):w'.frozen? ⟨b,x,none⟩=w.frozen? ⟨b,x,none⟩:=by
 unfold World.frozen?; simp only [h]
theorem bS.lt {w:World}{b x:Nat}{v:Value}(h:bS w b x v)(hp:0 < v.cells.size):b < w.heap.size:=by
 have h0:=h 0 hp;rw [cw hp]at h0;exact cell?_lt h0
theorem bS.of_heap {w w' :World}{b x:Nat}{v:Value}(hw:w'.heap[b]? =w.heap[b]?)(h:bS w b x v):bS w' b x v:=fun j hj=>by
 rw [cell?_of_heap hw]; exact h j hj
structure Kr (ρ:Gh)(w:World) (ρ' :Gh) (w' :World):Prop where
 za:∀b,b < w.heap.size->ρ.own b= .za->w'.heap[b]? =w.heap[b]? /\ρ'.own b= .za
 dead:∀o,ρ.kd o= .dead->ρ'.kd o= .dead/\ρ'.lp o=ρ.lp o
 live:∀o sz,ρ.kd o= .live sz->ρ'.kd o= .dead\/(ρ'.kd o= .live sz/\∀b,ρ.own b= .obj o->ρ'.own b= .obj o/\ρ'.sh b=ρ.sh b/\ρ.ext b<=ρ'.ext b/\ρ'.cap b=ρ.cap b)
theorem Kp.r {ρ ρ' :Gh} {w w' :World}(h:Kp ρ w ρ' w'):Kr ρ w ρ' w' :=
 ⟨fun b hb hi=>by
  obtain⟨h1,h2⟩:=h.kept b hb (fun o=>by rw [hi]; simp);exact⟨h1,h2.trans hi⟩,h.dead,h.live⟩
theorem Gh.xE {ρ ρ' :Gh} {w w' :World}(h:Kr ρ w ρ' w'){o:Nat}{dd:Prop} {Q Q' :Nat->Nat->Prop}(hd:∀sz b,Q sz b->dd)(hq:∀sz b,ρ.own b= .obj o->ρ'.sh b=ρ.sh b->ρ.ext b<=ρ'.ext b->ρ'.cap b=ρ.cap b->Q sz b->Q' sz b)(ha:ρ.at o dd Q):ρ'.at o dd Q' :=by
 unfold Gh.at at *;cases hk:ρ.kd o with
 | fresh=>simp [hk]at ha
 | dead=>simp only [hk]at ha; simpa [(h.dead o hk).1] using ha
 | live sz=>
  simp only [hk]at ha;obtain⟨b,hb,hQ⟩:=ha;rcases h.live o sz hk with h1 | ⟨h1,h2⟩
  ·simpa [h1] using hd sz b hQ
  ·obtain⟨a1,a2,a3,a4⟩:=h2 b hb;simp only [h1];exact⟨b,a1,hq sz b hb a2 a3 a4 hQ⟩
mutual
theorem aR.fX {ρ ρ' :Gh} {w w' :World}(h:Kr ρ w ρ' w'):∀(d:D) (v:Value),aR ρ w d v->aR ρ' w' d v
 | .bool _,_,r=>by simpa only [aR] using r
 | .int _ _,_,r=>by simpa only [aR] using r
 | .str _,_,r=>by simpa only [aR] using r
 | .dU,_,r=>by simpa only [aR] using r
 | .ptr o c,_,r=>by
  simp only [aR]at *;exact Gh.xE h (fun _ _ q=>⟨_,q⟩) (fun _ _ _ _ _ _ q=>q) r
 | .jN o i c e,_,r=>by
  simp only [aR]at *;refine Gh.xE h (fun _ _ q=>⟨_,q.2.2.2⟩) (fun sz b _ h1 h2 _ ⟨q1,q2,q3,q4⟩=> ?_) r;rw [h1]; exact ⟨q1,q2,bW q3 h2,q4⟩
 | .jJ e c,_,r=>by
  simp only [aR]at *;obtain⟨b,x,u,h1,h2,h3,h4,h5⟩:=r;obtain⟨k1,k2⟩:=h.za b (h3.lt h4.1) h1;exact⟨b,x,u,k2,aR.fX h e u h2,h3.of_heap k1,h4,h5⟩
 | .vs nl sz l,_,r=>by
  simp only [aR]at *;rcases r with r | ⟨r1,ad,cap,r2,r3,r4⟩
  ·exact .inl r
  ·refine .inr ⟨r1,ad,cap,r2,r3, ?_⟩;rcases r4 with r4 | ⟨b,x,r0,r4,r5⟩
   ·exact .inl r4
   ·cases l with
    | nil=>exact .inl rfl
    | cons d l=>
     have hb:b < w.heap.size:=by
      simp only [fJ]at r5;obtain⟨⟨v,_,e1,e2,e3,_⟩,_⟩:=r5;exact e3.lt (by omega)
     obtain⟨k1,k2⟩:=h.za b hb r4;exact .inr ⟨b,x,r0,k2,fJ.fX h sz b k1 x (d::l) r5⟩
 | .sl o off len cp,_,r=>by
  simp only [aR]at *;refine Gh.xE h (fun _ _ ⟨_,_,_,_,_,q4,_⟩=>⟨_,_,q4⟩) (fun sz b _ h1 h2 h3 ⟨q1,q2,q3,x,cap,q4,q5,q6,q7⟩=> ?_) r;rw [h1,h3]; exact ⟨q1,bW q2 h2,q3,x,cap,q4,q5,q6,q7⟩
 | .qD,_,r=>by simpa only [aR] using r
 | .mp o,_,r=>by
  simp only [aR]at *;exact Gh.xE h (fun _ _ q=>⟨_,q⟩) (fun _ _ _ _ _ _ q=>q) r
 | .fn f a c,_,r=>by
  simp only [aR]at *;obtain⟨va,vc,h1,h2,h3⟩:=r;exact⟨va,vc,h1,bu.fX h a _ h2,bu.fX h c _ h3⟩
 | .lX,_,r=>by simpa only [aR] using r
 | .eM t d,_,r=>by
  simp only [aR]at *;obtain⟨u,h1,h2⟩:=r;exact⟨u,h1,aR.fX h d u h2⟩
 | .jc,_,r=>by simpa only [aR] using r
 | .agg l,_,r=>by
  simp only [aR]at *;obtain⟨vs,h1,h2,h3⟩:=r;exact⟨vs,h1,bu.fX h l _ h2,h3⟩
 | .gW l,_,r=>by
  simp only [aR]at *;obtain⟨vs,h1,h2⟩:=r;exact⟨vs,h1,bu.fX h l _ h2⟩
 | .lv _,_,r=>by simp only [aR]at r
 | .iE _ _,_,r=>by simp only [aR]at r
 | .sint _ _ _ _,_,r=>by simpa only [aR] using r
 | .pa _ _ _ _,_,r=>by simpa only [aR] using r
 | .rY _,_,r=>by simpa only [aR] using r
 | .yl o,_,r=>by
  simp only [aR]at *;exact⟨(h.dead o r.1).1,by rw [(h.dead o r.1).2]; exact r.2⟩
theorem bu.fX {ρ ρ' :Gh} {w w' :World}(h:Kr ρ w ρ' w'):∀(l:List D) (vs:List Value),bu ρ w l vs->bu ρ' w' l vs
 | [],_,r=>by simpa only [bu] using r
 | d::l,_,r=>by
  simp only [bu]at *;obtain⟨v,t,h1,h2,h3⟩:=r;exact⟨v,t,h1,aR.fX h d v h2,bu.fX h l t h3⟩
theorem fJ.fX {ρ ρ' :Gh} {w w' :World}(h:Kr ρ w ρ' w')(sz b:Nat)(hb:w'.heap[b]? =w.heap[b]?):∀(x:Nat) (l:List D),fJ ρ w sz b x l->fJ ρ' w' sz b x l
 | _,[],_=>by simp only [fJ]
 | x,d::l,r=>by
  simp only [fJ]at *;obtain⟨⟨v,h1,h2,h3,h4,h6⟩,h5⟩:=r;exact⟨⟨v,aR.fX h d v h1,h2,h3,h4.of_heap hb,h6⟩,fJ.fX h sz b hb (x+sz) l h5⟩
end
theorem fv.fX {ρ ρ' :Gh} {w w' :World}(h:Kr ρ w ρ' w'):∀(l:List (Nat×D×D)) (es:List MapEntry),fv ρ w l es->fv ρ' w' l es
 | [],_,r=>by simpa only [fv] using r
 | (n,k,v)::l,_,r=>by
  simp only [fv]at *;obtain⟨e,t,h1,h2,h3,h4,h5⟩:=r;exact⟨e,t,h1,h2,aR.fX h _ _ h3,aR.fX h _ _ h4,fv.fX h l t h5⟩
theorem aR.mono {ρ ρ' :Gh} {w w' :World}{d:D}{v:Value}(r:aR ρ w d v)(h:Kp ρ w ρ' w'):aR ρ' w' d v:=aR.fX h.r d v r
theorem bu.mono {ρ ρ' :Gh} {w w' :World}{l:List D}{vs:List Value}(r:bu ρ w l vs)(h:Kp ρ w ρ' w'):bu ρ' w' l vs:=bu.fX h.r l vs r
theorem fv.mono {ρ ρ' :Gh} {w w' :World}{l:List (Nat×D×D)}{es:List MapEntry}(r:fv ρ w l es)(h:Kp ρ w ρ' w'):fv ρ' w' l es:=fv.fX h.r l es r
def dV (ρ:Gh)(w:World)(lo:Nat)(e:Env)(tmps:Array Value)(t:Nat)(d:D):Prop:=
 match d with
 | .lv x=>∃b v el,tmps[t]? =some (.pointer (some ⟨b,0,none⟩))/\ρ.own b= .qH/\lo<=b/\aR ρ w x v/\w.heap[b]? =some (.cells v.cells el (0,0))/\x.st=true
 | .iE a c=>∀x,e.get a=some (.lv x)->∃b,tmps[a]? =some (.pointer (some ⟨b,0,none⟩))/\tmps[t]? =some (.pointer (some ⟨b,c,none⟩))
 | d=>∃v,tmps[t]? =some v/\aR ρ w d v
structure dW (ρ:Gh)(w:World)(lo:Nat)(e:Env)(tmps:Array Value):Prop where
 slot:∀t d,e.get t=some d->dV ρ w lo e tmps t d
 inj:∀t t' x x' b,t≠t' ->e.get t=some (.lv x)->e.get t' =some (.lv x')->tmps[t]? =some (.pointer (some ⟨b,0,none⟩))->tmps[t']? ≠some (.pointer (some ⟨b,0,none⟩))
theorem dW.mono {ρ ρ' :Gh} {w w' :World}{lo:Nat}{e:Env}{tmps:Array Value}(h:Kp ρ w ρ' w')(r:dW ρ w lo e tmps):dW ρ' w' lo e tmps:=by
 refine⟨fun t d hd=> ?_,r.inj⟩;have:=r.slot t d hd;cases d with
 | lv x=>
  simp only [dV]at *;obtain⟨b,v,el,h1,h2,h3,h4,h5,h6⟩:=this;have hb:b < w.heap.size:=by
   rcases aP b w.heap.size with hb | hb
   ·exact hb
   ·simp [cq hb]at h5
  obtain⟨k1,k2⟩:=h.kept b hb (fun o=>by rw [h2]; simp);exact⟨b,v,el,h1,k2.trans h2,h3,h4.mono h,k1.trans h5,h6⟩
 | iE a c=>exact this
 | _=>
  simp only [dV]at *;obtain⟨v,h1,h2⟩:=this;exact⟨v,h1,h2.mono h⟩
end Go.Ab
