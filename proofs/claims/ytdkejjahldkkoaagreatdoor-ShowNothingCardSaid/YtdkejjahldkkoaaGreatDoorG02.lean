/- Part. -/
import Derived.Test.YtdkejjahldkkoaaGreatDoorG01
import Derived.RangeFuncSeq
import Derived.RangeFuncIn
import Derived.OrdersIn
set_option linter.unusedSectionVars false
set_option linter.unusedSimpArgs false
set_option linter.unusedVariables false
namespace Go.Ab
open Go
mutual
def wK:Value->Option D
 | .bool b=>some (.bool b)
 | .int k n=>some (.int k n)
 | .string s=>some (.str s.data.toList)
 | .pointer none=>some .cT
 | .slice none 0 0=>some (.vs true 0 [])
 | .map none=>some .qz
 | .func f a b=>match D1 a.toList,D1 b.toList with
  | some x,some y=>some (.fn f x y)
  | _,_=>none
 | .nilFunc=>some .mf
 | .nilIface=>some .nv
 | .iface t v=>match wK v with
  | some d=>some (.ig t d)
  | none=>none
 | .agg cs=>match D1 cs.toList with
  | some l=>match l.all D.sc with
   | true=>some (.agg l)
   | false=>none
  | none=>none
 | .tuple cs=>match D1 cs.toList with
  | some l=>some (.gJ l)
  | none=>none
 | _=>none
def D1:List Value->Option (List D)
 | []=>some []
 | v::r=>match wK v,D1 r with
  | some d,some l=>some (d::l)
  | _,_=>none
end
abbrev Gl:=Nat->Option D
def eK (G:Gl):Operand->Option bP
 | .tmp t=>some (.t t)
 | .const v=>(wK v).map .c
 | .func f=>some (.c (.fn (.func f) [] []))
 | .global g=>(G g).map fun d=> .c (.jE d 0)
def rV (G:Gl)(l:Array Operand):Option (List bP):=l.toList.mapM (eK G)
def sQ (G:Gl):Option Operand->Option (Option bP)
 | none=>some none
 | some x=>(eK G x).map some
def oV (P:Program)(t:TypeId):Option Bool:=
 match P.underlying t with
 | some (.struct _)=>some true
 | some (.array _ _)=>some true
 | some _=>some false
 | none=>none
def dM (P:Program)(t:TypeId):Option Nat:=(P.info? t).map (·.size)
def iN (P:Program)(t:TypeId):Option (Option Nat):=
 match oV P t,dM P t with
 | some true,some s=>some (some s)
 | some false,some 1=>some none
 | _,_=>none
def jI (P:Program)(t:TypeId):Option D:=((P.info? t).bind (·.zero)).bind wK
def sP (P:Program):Nat->TypeId->Option ET
 | 0,_=>none
 | d+1,t=>match P.underlying t with
  | some .bool=>some .bool
  | some (.int _)=>some .int
  | some .string=>some .str
  | some (.pointer e)=>match dM P e with
   | some (_+1)=>some .ptr
   | _=>none
  | some (.interface _)=>some .iface
  | some (.slice _)=>some .slice
  | some (.map _ _)=>some .map
  | some (.func _ _ _)=>some .func
  | some (.struct fs)=>match P.stoodInHeld t with
   | true=>none
   | false=>(fieldsB (sP P d) fs.toList).map .st
  | _=>none
 where
 fieldsB (f:TypeId->Option ET):List Field->Option VC
  | []=>some .nil
  | x :: r => match x.name == "_" with
   | true=>none
   | false=>match iN P x.type,f x.type,fieldsB f r with
    | some s,some e,some l=>some (.cons x.offset s e l)
    | _,_,_=>none
def tI:Operand->Bool
 | .const _=>true
 | _=>false
def kT:Option TypeDesc->Nat
 | some (.pointer _)=>0
 | some (.interface _)=>2
 | some _=>1
 | none=>2
def I3 (P:Program)(t:TypeId)(path:List FieldStep)(ptr:Bool):Option Recv:=
 match path with
 | []=>match kT (P.underlying t),ptr with
  | 0,true=>some .self
  | 1,false=>some .self
  | _,_=>none
 | [st]=>match P.underlying st.struct with
  | some (.struct fs)=>match fs[st.index]? with
   | some fl=>match st.deref with
    | true=>match Nat.beq (kT (P.underlying fl.type)) 1 && ptr with
     | true=>match dM P fl.type with
      | some (_+1)=>some (.addr fl.offset)
      | _=>none
     | false=>match (Nat.beq (kT (P.underlying fl.type)) 0 && ptr) || (Nat.beq (kT (P.underlying fl.type)) 1 && !ptr),dM P fl.type,iN P fl.type with
      | true,some (_+1),some sz=>some (.load fl.offset sz)
      | _,_,_=>none
    | false=>match (Nat.beq (kT (P.underlying fl.type)) 0 && ptr) || (Nat.beq (kT (P.underlying fl.type)) 1 && !ptr),iN P fl.type with
     | true,some sz=>some (.part fl.offset sz)
     | _,_=>none
   | none=>none
  | _=>none
 | _=>none
def oo (P:Program)(name:String):List (Nat×Nat×Recv):=
 (P.types.toList.zipIdx.filterMap fun (i,t)=>
  match i.methods.find? (·.name==name) with
  | some m=>match m.func with
   | some (f,ptr)=>(I3 P t m.path.toList ptr).map fun r=>(t,f,r)
   | none=>none
  | none=>none)
def Mu (want:Array (String×TypeId))(got:Array Method):List (String×TypeId):=want.toList.filter fun x=> !got.toList.any fun m=>m.name==x.1 && m.sig==x.2
def HD (P:Program)(want:Array (String×TypeId)):List Nat:=
 P.types.toList.zipIdx.filterMap fun (i,t)=>match Mu want i.methods with
  | []=>some t
  | _::_=>none
abbrev iJ:=Nat->Option Ext
def wB:Option TypeDesc->Bool
 | some (.slice _)=>true
 | some .string=>true
 | _=>false
def DH (P:Program)(G:Gl)(c:Call)(b:Builtin):Option eN:=
 match b,c.args.toList,c.argTypes.toList with
 | .len,[x],[t]=>match P.underlying t with
  | some .string=>(eK G x).map (.len 0)
  | some (.slice _)=>(eK G x).map (.len 1)
  | some (.map _ _)=>(eK G x).map (.len 2)
  | _=>none
 | .append,[x,y],[t,u]=>do
  let .slice e ← P.underlying t | none
  if wB (P.underlying u) then
   let s ← dM P e
   let z ← jI P e
   let i ← P.info? e
   let a ← eK G x
   let b ← eK G y
   if Nat.blt 0 s && eG s [z] then pure (.append s i.bytes e a b) else none
  else none
 | .unsafeSliceData,[x],[t]=>match P.underlying t with
  | some (.slice _)=>(eK G x).map .qL
  | _=>none
 | .unsafeString,[x,y],[t,_]=>match P.underlying t with
  | some (.pointer e)=>match dM P e with
   | some 1=>do pure (.Cr e (← eK G x) (← eK G y))
   | _=>none
  | _=>none
 | .copy,[x,y],[t,_]=>do
  let .slice e ← P.underlying t | none
  let s ← dM P e
  if s=0 then none
  let a ← eK G x
  let b ← eK G y
  pure (.copy s a b)
 | .delete,[x,y],[t,_]=>do
  let .map q _ ← P.underlying t | none
  let et ← sP P 8 q
  let a ← eK G x
  let b ← eK G y
  pure (.delete et a b)
 | .clear,[x],[t]=>match P.underlying t with
  | some (.slice e)=>do
   let s ← dM P e
   if s=0 then none
   pure (.clear s (← jI P e) (← eK G x))
  | some (.map _ _)=>do pure (.clear 1 (.gJ []) (← eK G x))
  | _=>none
 | .min,l,_=>do pure (.tS false (← l.mapM (eK G)))
 | .max,l,_=>do pure (.tS true (← l.mapM (eK G)))
 | _,_,_=>none
def U4 (P:Program)(G:Gl)(X:iJ)(ro:Bool)(c:Call):Option eN:=
 match c.callee with
 | .builtin b=>DH P G c b
 | .value (.func f)=>do
  let fn ← P.funcs[f]?
  if fn.body.isNone then
   match X f with
   | some e=>pure (.ext e (← rV G c.args))
   | none=>none
  else if fn.name == "runtime.NumGoroutine" then none
  else pure (.call ro f (← rV G c.args))
 | .value x=>do pure (.pe (← eK G x) (← rV G c.args))
 | .invoke x name=>do pure (.invoke (oo P name) (← eK G x) (← rV G c.args))
def Vt (P:Program)(G:Gl)(fs:Array Field)(parts:Array (Nat×Operand)):Option (List (Nat×Nat×bP)):=
 parts.toList.mapM fun (i,x)=>do
  let f ← fs[i]?
  let s ← dM P f.type
  let d ← eK G x
  pure (f.offset,s,d)
structure nJ where
 pr:List Nat
 ros:List Nat
 roots:List (Nat×Nat)
 ks:List (List Nat)
 nt:Nat
def nJ.M1 (A:nJ):Option Nat->Bool
 | some a=>A.pr.contains a
 | none=>false
def nJ.YG (A:nJ):Option Nat->Bool
 | some a=>A.ros.contains a
 | none=>false
def ET.Yl:ET->Bool
 | .st _=>true
 | _=>false
def eqB (op:BinOp)(et:ET)(oc:Bool)(a b:bP):Option eN:=
 match op with
 | .eql=>some (.eq et false oc a b)
 | .neq=>some (.eq et true oc a b)
 | _=>none
def rootOf (A:nJ):Operand->Option Nat
 | .tmp t=>if A.pr.contains t then some t else OB A.roots t
 | _=>none
def XS (P:Program)(G:Gl)(X:iJ)(A:nJ)(o:Oper):Option eN:=
 match o.op with
 | .move x | .assign x=>(eK G x).map .mv
 | .pick c a b=>do pure (.pick (← eK G c) (← eK G a) (← eK G b))
 | .alloc e=>do
  let z ← jI P e
  match A.M1 o.dst with
  | true=>pure (.nC (.c z))
  | false=>pure (.box e (.c z))
 | .box e x=>do
  let a ← eK G x
  match A.M1 o.dst with
  | true=>pure (.nC a)
  | false=>pure (.box e a)
 | .build t parts=>do
  let z ← jI P t
  match P.underlying t with
  | some (.struct fs)=>if fs.toList.all fun f=>(dM P f.type).isSome then pure (.build z.flat (← Vt P G fs parts)) else none
  | some (.array _ e)=>
   let s ← dM P e
   let l ← parts.toList.mapM fun (i,x)=>do let d ← eK G x; pure (i * s,s,d)
   pure (.build z.flat l)
  | _=>none
 | .buildSlice t len parts=>do
  let .slice e ← P.underlying t | none
  let s ← dM P e
  if s=0 || len * s > 2 ^ 24 then none
  let z ← jI P e
  let l ← parts.toList.mapM fun (i,x)=>do let d ← eK G x; pure (i,d)
  match A.M1 o.dst with
  | true=>pure (.qe s z len l)
  | false=>pure (.tQ s e z len l)
 | .load t x=>do
  let s ← iN P t
  match rootOf A x with
  | some a=>pure (.sW a s (← eK G x))
  | none=>pure (.load s (← eK G x))
 | .store t x v=>do
  let s ← dM P t
  if s=0 then none
  match rootOf A x with
  | some a=>pure (.iY a s (← eK G x) (← eK G v))
  | none=>pure (.store s (← eK G x) (← eK G v))
 | .nilCheck x=>do pure (.sg (← eK G x))
 | .binOp op t x y _=>do
  let a ← eK G x
  let b ← eK G y
  let d ← P.underlying t
  match d with
  | .int _=>pure (.bin op a b)
  | .string=>pure (.bin op a b)
  | _=>
   let et ← sP P 8 t
   match et.Yl && P.eqGuardType P.depth t with
   | true=>none
   | false=>eqB op et (tI x || tI y) a b
 | .unOp op t x=>do
  let d ← P.underlying t
  match d with
  | .int _=>pure (.un op (← eK G x))
  | .bool=>pure (.un op (← eK G x))
  | _=>none
 | .convert src dst x=>do
  let a ← eK G x
  match P.underlying src,P.underlying dst with
  | some (.int _),some (.int k)=>pure (.toInt k a)
  | some (.int _),some .string=>pure (.rQ a)
  | some .string,some .string=>pure (.ER a)
  | some (.pointer e),some .unsafePointer=>match dM P e with
   | some (_+1)=>pure (.Dv a)
   | _=>none
  | some .unsafePointer,some (.pointer e)=>match dM P e with
   | some (n+1)=>pure (.upto [(e,0,n+1)] a)
   | _=>none
  | some .string,some (.slice e)=>match P.underlying e with
   | some (.int .u8)=>pure (.oX e a)
   | _=>none
  | some (.slice e),some .string=>match P.underlying e with
   | some (.int .u8)=>pure (.lK a)
   | some (.int .i32)=>pure (.kE a)
   | _=>none
  | some (.slice _),some (.slice e)=>match P.underlying e with
   | some (.int .u8)=>if src==dst then pure (.uy a) else none
   | _=>none
  | _,_=>none
 | .makeInterface t x=>match P.underlying t with
  | some (.interface _)=>none
  | none=>none
  | some _=>do pure (.Ni t (← eK G x))
 | .makeFunc f a b=>do pure (.KY f (← rV G a) (← rV G b))
 | .makeMap t r=>do
  let .map _ _ ← P.underlying t | none
  pure (.zy (← sQ G r))
 | .makeSlice t l c=>do
  let .slice e ← P.underlying t | none
  let s ← dM P e
  if s=0 then none
  let z ← jI P e
  pure (.oq s (P.bytesOf e) e z (← eK G l) (← eK G c))
 | .slice t x lo hi mx=>match P.underlying t with
  | some .string=>match mx with
   | none=>do pure (.pz (← eK G x) (← sQ G lo) (← sQ G hi))
   | some _=>none
  | some (.slice e)=>do
   let s ← dM P e
   if s=0 || (mx.isSome && hi.isNone) then none
   pure (.H8 s (← eK G x) (← sQ G lo) (← sQ G hi) (← sQ G mx))
  | some (.array n e)=>match dM P e,lo,hi,mx with
   | some 1,none,none,none=>(eK G x).map (.zq n)
   | _,_,_,_=>none
  | _=>none
 | .fieldAddr t x f=>do
  let .struct fs ← P.underlying t | none
  let f ← fs[f]?
  let s ← dM P f.type
  if s=0 then none
  pure (.wG f.offset (← eK G x))
 | .field t x f=>do
  let .struct fs ← P.underlying t | none
  let f ← fs[f]?
  let s ← iN P f.type
  pure (.field f.offset s (← eK G x))
 | .indexAddr t x i=>match P.underlying t with
  | some (.slice e)=>do
   let s ← dM P e
   if s=0 then none
   pure (.nA s (← eK G x) (← eK G i))
  | some (.array n e)=>do
   let s ← dM P e
   if s=0 then none
   pure (.ry n s (← eK G x) (← eK G i))
  | _=>none
 | .index t x i=>match P.underlying t with
  | some .string=>do pure (.Ja (← eK G x) (← eK G i))
  | some (.array n e)=>do
   let s ← iN P e
   pure (.Oe n (s.getD 1) s.isSome (← eK G x) (← eK G i))
  | _=>none
 | .lookup t x k ok=>do
  let .map q e ← P.underlying t | none
  let et ← sP P 8 q
  let z ← jI P e
  pure (.lookup et z ok (← eK G x) (← eK G k))
 | .mapUpdate t m k v | .insert t m k v=>do
  let .map q _ ← P.underlying t | none
  let et ← sP P 8 q
  pure (.Ac et (← eK G m) (← eK G k) (← eK G v))
 | .mapEntry t m k=>do
  let .map q e ← P.underlying t | none
  let et ← sP P 8 q
  let z ← jI P e
  pure (.tN et z (← eK G m) (← eK G k))
 | .entryStore _ m s v=>do pure (.pE (← eK G m) (← eK G s) (← eK G v))
 | .range t x=>match P.underlying t with
  | some .string=>do pure (.range (← eK G x))
  | _=>none
 | .next x true=>do pure (.uF (← eK G x))
 | .typeAssert x _ t ok=>do
  let a ← eK G x
  match P.underlying t with
  | some (.interface want)=>match jI P t with
   | some .nv=>pure (.rS P.types.size (HD P want) ok a)
   | _=>none
  | some _=>pure (.sF t (← jI P t) ok a)
  | none=>none
 | .extract x i=>do pure (.extract i (← eK G x))
 | .call c=>U4 P G X (A.YG o.dst) c
 | .defer { callee:= .value x,args,.. }=>do pure (.defer (← eK G x) (← rV G args))
 | _=>none
def V6:eN->Bool
 | .uy _ | .bad | .nC _ | .iY .. | .defer .. =>false
 | _=>true
def spec (P:Program)(G:Gl)(A:nJ)(o:Oper):Option eN:=
 match o.op with
 | .alloc e=>match A.M1 o.dst with
  | true=>(jI P e).map fun z=> .nC (.c z)
  | false=>none
 | .box _ x=>match A.M1 o.dst with
  | true=>(eK G x).map .nC
  | false=>none
 | .store t x v=>match rootOf A x with
  | some a=>match dM P t,eK G x,eK G v with
   | some sz,some x,some v=>some (.iY a sz x v)
   | _,_,_=>none
  | none=>none
 | .defer { callee:= .value x,args,.. }=>match eK G x,rV G args with
  | some x,some l=>some (.defer x l)
  | _,_=>none
 | _=>none
def nameOf (ops:Array Oper)(o:Oper):Option String:=match o.op with
 | .nilCheck (.tmp t)=>ops.toList.findSome? fun q=>match q.dst,q.op with
  | some d,.makeFunc (.method n) _ _=>match Nat.beq d t with
   | true=>some n
   | false=>none
  | _,_=>none
 | _=>none
def Vy (P:Program)(G:Gl)(nm:Option String)(o:Oper):Option eN:=match nm,o.op with
 | some n,.nilCheck x=>(eK G x).map fun x=> .Au n (oo P n) x
 | _,_=>none
def xf (P:Program)(G:Gl)(X:iJ)(A:nJ)(nm:Option String)(o:Oper):eN:=
 match Vy P G nm o with
 | some p=>p
 | none=>match spec P G A o with
  | some p=>p
  | none=>match XS P G X A o with
   | some p=>match V6 p with
    | true=>p
    | false=> .bad
   | none=> .bad
def fQ (P:Program)(G:Gl)(X:iJ)(A:nJ)(ops:Array Oper)(o:Oper):bj:=
 match (match o.guard with
  | none=>some none
  | some (j,b)=>match (ops[j]?).bind (·.dst) with
   | some t=>some (some (t,b))
   | none=>none) with
 | some g=>match (match o.dst with | some t=>Nat.blt t A.nt | none=>true) with
  | true=>⟨o.dst,xf P G X A (nameOf ops o) o,g,none⟩
  | false=>⟨o.dst,.bad,none,none⟩
 | none=>⟨o.dst,.bad,none,none⟩
def direct (o:Oper):List Nat:=o.after.toList.filterMap fun e=>if Region.binds .any e then some e.on else none
def ve:List (List Nat)->List (List Nat)->List (List Nat)
 | acc,[]=>acc
 | acc,d::r=>ve (acc++ [(d++d.flatMap fun i=>acc.getD i []).eraseDups]) r
def Om (ds:List (List Nat)):List (List Nat):=ve [] ds
def Rp:Nat->List (List Nat)->Bool
 | _,[]=>true
 | j,d::r=>d.all (fun i=>Nat.blt i j) && Rp (j+1) r
def tn (a b:Nat):Nat:=
 if a==0 || b==0 then 0
 else if a==7 || b==7 then (if a==6 || b==6 || a==b then 2 else 0)
 else if a==6 || b==6 then 0
 else if a==1 && b==1 then 0
 else if a==4 && b==4 then 0
 else if (a==3 && b==4) || (a==4 && b==3) then 0
 else if (a==1 && b==4) || (a==4 && b==1) then 0
 else if (a==1 && b==5) || (a==5 && b==1) then 1
 else if (a<=3 || a==9) && (b<=3 || b==9) then 1
 else 2
def eN.own:eN->Option Nat
 | .sW a _ _=>some a
 | .iY a _ _ _=>some a
 | _=>none
def rj (x y:eN):Nat:=match x.own,y.own with
 | some a,some b=>match Nat.beq a b with
  | true=>tn x.kind y.kind
  | false=>0
 | _,_=>tn x.kind y.kind
def DT (o:eN):Bool:=o.kind==3 || o.kind==9
def bj.sl (o:bj):List Nat:=match o.guard with
 | some (g,_)=>g::o.op.sl
 | none=>o.op.sl
def tw (d:Option Nat)(l:List Nat):Bool:=match d with
 | some t=>pX t l
 | none=>false
def mJ (x y:bj):Bool:= !(tw x.dst y.sl) && (!(tw y.dst x.sl) && !(tw x.dst y.dst.toList))
def lZ (o:bj):Bool:=(match o.op with | .nC _=>false | _=>true) && (o.al.isSome==DT o.op)
def mz:List bj->Nat->List bj×Nat
 | [],k=>([],k)
 | o::r,k=>if DT o.op then
   let x:=mz r (k+1)
   ({ o with al:=some k}::x.1,x.2)
  else
   let x:=mz r k
   (o::x.1,x.2)
def Er (y:bj)(ah:List Nat):Nat->List bj->Option (List Nat)
 | _,[]=>some []
 | i,x::r=>match Er y ah (i+1) r with
  | none=>none
  | some l=>match pX i ah with
   | true=>some l
   | false=>match mJ x y with
    | false=>none
    | true=>match rj x.op y.op with
     | 0=>some l
     | 1=>some (i::l)
     | _=>none
def Po (ahs:List (List Nat)):List bj->List bj->Option (List (bj×List Nat))
 | _,[]=>some []
 | bef,o::r=>match lZ o,Er o (ahs.getD bef.length []) 0 bef,Po ahs (bef++ [o]) r with
  | true,some l,some x=>some ((o,l)::x)
  | _,_,_=>none
def IK (l:List bj)(ds:List (List Nat)):Option (Nat×List (bj×List Nat)):=
 let x:=mz l 0
 match Rp 0 ds,Po (Om ds) [] x.1 with
 | true,some y=>some (x.2,y)
 | _,_=>none
def Up (l:List bj)(ds:List (List Nat)):Bool:=match l.drop (l.length - 2),ds.drop (l.length - 2) with
 | [⟨some a,.nC (.c _),none,none⟩,_],[[],d]=>((List.range (l.length - 1)).all (fun i=>pX i d) && d.all fun i=>Nat.blt i (l.length - 1)) && (l.take (l.length - 2)).all fun o=> !(pX a o.sl) && !(tw o.dst [a])
 | _,_=>false
def Jt (P:Program)(G:Gl)(X:iJ)(A:nJ)(ops:Array Oper)(draw:Bool):AC:=
 let l:=ops.toList.map (fQ P G X A ops)
 match draw with
 | false=> .Aa l
 | true=>
  let ds:=ops.toList.map direct
  match IK l ds with
  | some (k,y)=> .yO k y
  | none=>match Up l ds with
   | true=>match IK (l.take (l.length - 2)) (ds.take (l.length - 2)) with
    | some (k,y)=> .seq (.yO k y) (.Aa (l.drop (l.length - 2)))
    | none=> .bad
   | false=> .bad
def eN.nd:eN->Bool
 | .defer .. =>false
 | _=>true
def AC.nd:AC->Bool
 | .Aa l=>l.all fun o=>o.op.nd
 | .yO _ l=>l.all fun o=>o.1.op.nd
 | .seq a b=>a.nd && b.nd
 | .cond _ a b=>a.nd && b.nd
 | .block _ a=>a.nd
 | .loop _ a=>a.nd
 | .iA .. =>false
 | _=>true
def AC.il:AC->Bool
 | .iA .. =>true
 | _=>false
def compile (P:Program)(G:Gl)(X:iJ)(A:nJ):Code->List (List Nat)->AC×List (List Nat)
 | .skip,ks=>(.skip,ks)
 | .region _ ops d,ks=>(Jt P G X A ops d,ks)
 | .seq a b,ks=>
  let x:=compile P G X A a ks
  let y:=compile P G X A b x.2
  (.seq x.1 y.1,y.2)
 | .cond c a b,ks=>match eK G c with
  | some c=>
   let x:=compile P G X A a ks
   let y:=compile P G X A b x.2
   (.cond c x.1 y.1,y.2)
  | none=>(.bad,ks)
 | .block id a,ks=>
  let x:=compile P G X A a ks
  (.block id x.1,x.2)
 | .loop a,k::ks=>
  let x:=compile P G X A a ks
  match x.1.il with
  | true=>(.bad,ks)
  | false=>(.loop k x.1,x.2)
 | .rangeFunc g ps a b,k::ks=>match eK G g with
  | some g' =>
   let x:=compile P G X A a ks
   let y:=compile P G X A b x.2
   match x.1.nd && (y.1.nd && ps.toList.all fun t=>Nat.blt t A.nt) with
   | true=>(.iA k g' ps.toList x.1 y.1,y.2)
   | false=>(.bad,ks)
  | none=>(.bad,ks)
 | .exit id,ks=>(.exit id,ks)
 | .ret,ks=>(.ret,ks)
 | .scope a,ks=>compile P G X A a ks
 | .label _,ks=>(.skip,ks)
 | _,ks=>(.bad,ks)
def MU (P:Program):ResultVar->Option xb
 | .tmp t=>some (.tmp t)
 | .cell a t=>(iN P t).map (.cell a)
def oJ (P:Program)(G:Gl)(X:iJ)(fn:Func)(A:nJ):Option dS:=
 match fn.body,fn.results.toList.mapM (MU P) with
 | some c,some rs=>some ⟨rs,(compile P G X { A with nt:=fn.ntmps} c A.ks).1⟩
 | _,_=>none
theorem jH (T:Nat->Option dS)(H:au)(n:Nat)(bR kp:List Nat)(g:bP)(ps:List Nat)(x y:AC)(fr:Fr)(s:St):
  fc T H (n+1) bR (.iA kp g ps x y) fr s=nK (fun k e=>dH T (jX k ps e (bW (dH T H n) (fc T H n) x) (bW (dH T H n) (fc T H n) y) H) n) kp g fr s:=by
 rw [fc]
theorem iC (T:Nat->Option dS)(H:au)(n:Nat)(bR:List Nat){a:AC}(h:a.il=false)(fr:Fr)(s:St):
  fc T H (n+1) bR a fr s=match bW (dH T H n) (fc T H n) a { fr with env:=fr.env.bR bR} s with
   | some (.normal,fr',s')=>fc T H n bR a fr' s'
   | r=>r:=by
 cases a <;> first | (cases h; done) | rfl
theorem Bl {C' :Nat->Env->au}{bR:List Nat}{g:bP}{fr:Fr}{s:St}(h:s.ro=true):nK C' bR g fr s=none:=by
 unfold nK;rw [h];split
 ·rename_i hh; cases hh
 ·rfl
inductive Own where
 | zC | qG | obj (o:Nat)
 deriving DecidableEq
inductive Kd where
 | fresh | live (sz:Nat) | dead
 deriving DecidableEq
structure Gh where
 own:Nat->Own
 sh:Nat->Nat
 ext:Nat->Nat
 cap:Nat->Nat
 kd:Nat->Kd
 lp:Nat->Nat×Go.Loop
def cl (w:World)(b x:Nat)(v:Value):Prop:=∀j,j < v.cells.size->w.cell? ⟨b,x+j,none⟩=v.cells[j]?
def Gh.at (ρ:Gh)(o:Nat)(dd:Prop)(Q:Nat->Nat->Prop):Prop:=
 match ρ.kd o with
 | .fresh=>False
 | .dead=>dd
 | .live sz=>∃b,ρ.own b= .obj o/\Q sz b
variable [eW]
mutual
def aS (ρ:Gh)(w:World):D->Value->Prop
 | .bool b,v=>v= .bool b
 | .int k n,v=>v= .int k n
 | .str s,v=>v= .string ⟨⟨s⟩⟩
 | .cT,v=>v= .pointer none
 | .ptr o c,v=>ρ.at o (∃a,v= .pointer (some a)) fun _ b=>v= .pointer (some ⟨b,c,none⟩)
 | .jK o i c e,v=>ρ.at o (∃a,v= .pointer (some a)) fun sz b=>ρ.sh b<=i/\i < e/\e<=ρ.ext b/\v= .pointer (some ⟨b,(i - ρ.sh b) * sz+c,none⟩)
 | .jE e c,v=>∃b x u,ρ.own b= .zC/\aS ρ w e u/\cl w b x u/\(0 < u.cells.size/\e.st=true)/\v= .pointer (some ⟨b,x+c,none⟩)
 | .vs nl sz l,v=>(nl=true/\l=[]/\v= .slice none 0 0)\/
   (nl=false/\∃ad cap,v= .slice (some ad) l.length cap/\l.length<=cap/\(l=[]\/∃b x,ad=⟨b,x,none⟩/\ρ.own b= .zC/\fX ρ w sz b x l))
 | .sl o off len cp,v=>ρ.at o (∃a cap,v= .slice (some a) len cap) fun sz b=>ρ.sh b<=off/\off+cp<=ρ.ext b/\len<=cp/\∃x cap,v= .slice (some ⟨b,x,none⟩) len cap/\cp<=cap/\
   (cap=0\/x=(off - ρ.sh b) * sz)/\(off - ρ.sh b)+cap<=ρ.cap b
 | .qz,v=>v= .map none
 | .mp o,v=>ρ.at o (∃b,v= .map (some b)) fun _ b=>v= .map (some b)
 | .fn f a c,v=>∃va vc,v= .func f va vc/\br ρ w a va.toList/\br ρ w c vc.toList
 | .mf,v=>v= .nilFunc
 | .ig t d,v=>∃u,v= .iface t u/\aS ρ w d u
 | .nv,v=>v= .nilIface
 | .agg l,v=>∃vs,v= .agg vs/\br ρ w l vs.toList/\l.all D.sc=true
 | .gJ l,v=>∃vs,v= .tuple vs/\br ρ w l vs.toList
 | .lv _,_=>False
 | .iI _ _,_=>False
 | .sint k a lo hi,v=>v= .int k a.val/\lo<=a.val/\a.val<=hi
 | .pz i ex lo hi,v=>v= .string ⟨⟨eW.vs i⟩⟩/\eW.vs i ∉ ex/\lo<=(eW.vs i).length/\(eW.vs i).length<=hi
 | .rN i,v=>v= .bool (eW.vb i)
 | .yl o,v=>ρ.kd o= .dead/\v= .func (.yield (ρ.lp o).1) #[] #[]
def br (ρ:Gh)(w:World):List D->List Value->Prop
 | [],vs=>vs=[]
 | d::l,vs=>∃v r,vs=v::r/\aS ρ w d v/\br ρ w l r
def fX (ρ:Gh)(w:World)(sz b:Nat):Nat->List D->Prop
 | _,[]=>True
 | x,d::l=>(∃v,aS ρ w d v/\v.cells.size=sz/\0 < sz/\cl w b x v/\d.st=true)/\fX ρ w sz b (x+sz) l
end
def Xg (ρ:Gh)(w:World)(sz b x:Nat)(d:D):Prop:=∃v,aS ρ w d v/\v.cells.size=sz/\cl w b x v
def fO (ρ:Gh)(w:World):List (Nat×D×D)->List MapEntry->Prop
 | [],es=>es=[]
 | (n,k,v)::l,es=>∃e r,es=e::r/\e.born=n/\aS ρ w k e.key/\aS ρ w v e.val/\fO ρ w l r
def jY (r:Go.Loop):QC->Go.Loop
 | .ready=> { r with state:= .ready,pending:=none}
 | .busy=> { r with state:= .busy,pending:=none}
 | .exit i=> { r with state:= .done,pending:=some (.exit i)}
 | .ret=> { r with state:= .done,pending:=some .ret}
def Gh.one (ρ:Gh)(o b:Nat):Prop:=ρ.own b= .obj o/\∀b',ρ.own b' = .obj o->b' =b
structure su (ρ:Gh)(w:World)(sz ty:Nat)(es:List D)(st:Nat)(b:Nat):Prop where
 ext:ρ.ext b<=es.length
 sh:ρ.sh b<=ρ.ext b
 room:ρ.ext b - ρ.sh b<=ρ.cap b
 cells:∀j,j < ρ.cap b * sz->(w.cell? ⟨b,j,none⟩).isSome/\w.frozen? ⟨b,j,none⟩=false
 shape:∃cs f,w.heap[b]? =some (.cells cs ty f)
 elems:st<=ρ.ext b->∀i d,ρ.sh b<=i->i < ρ.ext b->es[i]? =some d->Xg ρ w sz b ((i - ρ.sh b) * sz) d
def pN (ρ:Gh)(w:World)(o:Nat):Obj->Prop
 | .var ty d=>∃b v,ρ.kd o= .live 1/\ρ.one o b/\aS ρ w d v/\w.heap[b]? =some (.cells v.cells ty (0,0))/\0 < v.cells.size/\d.st=true
 | .arr sz ty es st=>0 < sz/\ρ.kd o= .live sz/\st<=es.length/\(∃cur,ρ.own cur= .obj o/\ρ.ext cur=es.length/\∀b,ρ.own b= .obj o->ρ.ext b=es.length->b=cur)/\
   (∀b,ρ.own b= .obj o->su ρ w sz ty es st b)/\eG sz es=true
 | .map es c=>∃b ces,ρ.kd o= .live 1/\ρ.one o b/\w.heap[b]? =some (.map ces c)/\fO ρ w es ces.toList
 | .lz l pos=>∃b,ρ.kd o= .live 1/\ρ.one o b/\w.heap[b]? =some (.stringIter ⟨⟨l⟩⟩ pos)
 | .dead=>ρ.kd o= .dead
 | .loop k st=>ρ.kd o= .live 1/\ρ.kd k= .dead/\ρ.one o (ρ.lp k).1/\w.heap[(ρ.lp k).1]? =some (.loop (jY (ρ.lp k).2 st))
structure bZ (ρ:Gh)(s:St)(w:World):Prop where
 lt:∀o x,s.get o=some x->o < s.n
 ok:∀o x,s.get o=some x->pN ρ w o x
 no:∀o,s.get o=none->ρ.kd o= .fresh
 live:∀b o,ρ.own b= .obj o->ρ.kd o≠ .fresh
 size:∀b,w.heap.size<=b->ρ.own b= .zC
structure Kp (ρ:Gh)(w:World) (ρ' :Gh) (w' :World):Prop where
 os:w'.os=w.os
 tape:w'.tape=w.tape
 output:w'.output=w.output
 size:w.heap.size<=w'.heap.size
 kept:∀b,b < w.heap.size->(∀o,ρ.own b≠ .obj o)->w'.heap[b]? =w.heap[b]? /\ρ'.own b=ρ.own b
 dead:∀o,ρ.kd o= .dead->ρ'.kd o= .dead/\ρ'.lp o=ρ.lp o
 live:∀o sz,ρ.kd o= .live sz->ρ'.kd o= .dead\/(ρ'.kd o= .live sz/\∀b,ρ.own b= .obj o->ρ'.own b= .obj o/\ρ'.sh b=ρ.sh b/\ρ.ext b<=ρ'.ext b/\ρ'.cap b=ρ.cap b)
theorem Kp.refl (ρ:Gh)(w:World):Kp ρ w ρ w:=⟨rfl,rfl,rfl,an _,fun _ _ _=>⟨rfl,rfl⟩,fun _ h=>⟨h,rfl⟩,fun _ _ h=> .inr ⟨h,fun _ hb=>⟨hb,rfl,an _,rfl⟩⟩⟩
theorem Kp.trans {ρ ρ' ρ'' :Gh} {w w' w'' :World}(h:Kp ρ w ρ' w')(k:Kp ρ' w' ρ'' w''):Kp ρ w ρ'' w'' :=by
 refine⟨k.os.trans h.os,k.tape.trans h.tape,k.output.trans h.output,cU h.size k.size,fun b hb hn=> ?_,fun o ho=>⟨(k.dead o (h.dead o ho).1).1,(k.dead o (h.dead o ho).1).2.trans (h.dead o ho).2⟩,fun o sz ho=> ?_⟩
 ·obtain⟨h1,h2⟩:=h.kept b hb hn;obtain⟨k1,k2⟩:=k.kept b (eX hb h.size) (fun o=>by rw [h2]; exact hn o);exact⟨k1.trans h1,k2.trans h2⟩
 ·rcases h.live o sz ho with h1 | ⟨h1,h2⟩
  ·exact .inl (k.dead o h1).1
  ·rcases k.live o sz h1 with k1 | ⟨k1,k2⟩
   ·exact .inl k1
   ·refine .inr ⟨k1,fun b hb=> ?_⟩;obtain⟨a1,a2,a3,a4⟩:=h2 b hb;obtain⟨b1,b2,b3,b4⟩:=k2 b a1;exact⟨b1,b2.trans a2,cU a3 b3,b4.trans a4⟩
theorem cell?_lt {w:World}{b x:Nat}{v:Value}(h:w.cell? ⟨b,x,none⟩=some v):b < w.heap.size:=by
 unfold World.cell? at h;rcases aG b w.heap.size with hb | hb
 ·exact hb
 ·simp [cw hb]at h
theorem cell?_of_heap {w w' :World}{b:Nat}(h:w'.heap[b]? =w.heap[b]?)(x:Nat):w'.cell? ⟨b,x,none⟩=w.cell? ⟨b,x,none⟩:=by
 unfold World.cell?; simp only [h]
theorem frozen?_of_heap {w w' :World}{b:Nat}(h:w'.heap[b]? =w.heap[b]?)(x:Nat):w'.frozen? ⟨b,x,none⟩=w.frozen? ⟨b,x,none⟩:=by
 unfold World.frozen?; simp only [h]
theorem cl.lt {w:World}{b x:Nat}{v:Value}(h:cl w b x v)(hp:0 < v.cells.size):b < w.heap.size:=by
 have h0:=h 0 hp;rw [cz hp]at h0;exact cell?_lt h0
theorem cl.of_heap {w w' :World}{b x:Nat}{v:Value}(hw:w'.heap[b]? =w.heap[b]?)(h:cl w b x v):cl w' b x v:=fun j hj=>by
 rw [cell?_of_heap hw]; exact h j hj
structure Kr (ρ:Gh)(w:World) (ρ' :Gh) (w' :World):Prop where
 zC:∀b,b < w.heap.size->ρ.own b= .zC->w'.heap[b]? =w.heap[b]? /\ρ'.own b= .zC
 dead:∀o,ρ.kd o= .dead->ρ'.kd o= .dead/\ρ'.lp o=ρ.lp o
 live:∀o sz,ρ.kd o= .live sz->ρ'.kd o= .dead\/(ρ'.kd o= .live sz/\∀b,ρ.own b= .obj o->ρ'.own b= .obj o/\ρ'.sh b=ρ.sh b/\ρ.ext b<=ρ'.ext b/\ρ'.cap b=ρ.cap b)
theorem Kp.r {ρ ρ' :Gh} {w w' :World}(h:Kp ρ w ρ' w'):Kr ρ w ρ' w' :=
 ⟨fun b hb hi=>by
  obtain⟨h1,h2⟩:=h.kept b hb (fun o=>by rw [hi]; simp);exact⟨h1,h2.trans hi⟩,h.dead,h.live⟩
theorem Gh.xH {ρ ρ' :Gh} {w w' :World}(h:Kr ρ w ρ' w'){o:Nat}{dd:Prop} {Q Q' :Nat->Nat->Prop}(hd:∀sz b,Q sz b->dd)(hq:∀sz b,ρ.own b= .obj o->ρ'.sh b=ρ.sh b->ρ.ext b<=ρ'.ext b->ρ'.cap b=ρ.cap b->Q sz b->Q' sz b)(ha:ρ.at o dd Q):ρ'.at o dd Q' :=by
 unfold Gh.at at *;cases hk:ρ.kd o with
 | fresh=>simp [hk]at ha
 | dead=>simp only [hk]at ha; simpa [(h.dead o hk).1] using ha
 | live sz=>
  simp only [hk]at ha;obtain⟨b,hb,hQ⟩:=ha;rcases h.live o sz hk with h1 | ⟨h1,h2⟩
  ·simpa [h1] using hd sz b hQ
  ·obtain⟨a1,a2,a3,a4⟩:=h2 b hb;simp only [h1];exact⟨b,a1,hq sz b hb a2 a3 a4 hQ⟩
mutual
theorem aS.gn {ρ ρ' :Gh} {w w' :World}(h:Kr ρ w ρ' w'):∀(d:D) (v:Value),aS ρ w d v->aS ρ' w' d v
 | .bool _,_,r=>by simpa only [aS] using r
 | .int _ _,_,r=>by simpa only [aS] using r
 | .str _,_,r=>by simpa only [aS] using r
 | .cT,_,r=>by simpa only [aS] using r
 | .ptr o c,_,r=>by
  simp only [aS]at *;exact Gh.xH h (fun _ _ q=>⟨_,q⟩) (fun _ _ _ _ _ _ q=>q) r
 | .jK o i c e,_,r=>by
  simp only [aS]at *;refine Gh.xH h (fun _ _ q=>⟨_,q.2.2.2⟩) (fun sz b _ h1 h2 _ ⟨q1,q2,q3,q4⟩=> ?_) r;rw [h1]; exact ⟨q1,q2,cU q3 h2,q4⟩
 | .jE e c,_,r=>by
  simp only [aS]at *;obtain⟨b,x,u,h1,h2,h3,h4,h5⟩:=r;obtain⟨k1,k2⟩:=h.zC b (h3.lt h4.1) h1;exact⟨b,x,u,k2,aS.gn h e u h2,h3.of_heap k1,h4,h5⟩
 | .vs nl sz l,_,r=>by
  simp only [aS]at *;rcases r with r | ⟨r1,ad,cap,r2,r3,r4⟩
  ·exact .inl r
  ·refine .inr ⟨r1,ad,cap,r2,r3, ?_⟩;rcases r4 with r4 | ⟨b,x,r0,r4,r5⟩
   ·exact .inl r4
   ·cases l with
    | nil=>exact .inl rfl
    | cons d l=>
     have hb:b < w.heap.size:=by
      simp only [fX]at r5;obtain⟨⟨v,_,e1,e2,e3,_⟩,_⟩:=r5;exact e3.lt (by omega)
     obtain⟨k1,k2⟩:=h.zC b hb r4;exact .inr ⟨b,x,r0,k2,fX.gn h sz b k1 x (d::l) r5⟩
 | .sl o off len cp,_,r=>by
  simp only [aS]at *;refine Gh.xH h (fun _ _ ⟨_,_,_,_,_,q4,_⟩=>⟨_,_,q4⟩) (fun sz b _ h1 h2 h3 ⟨q1,q2,q3,x,cap,q4,q5,q6,q7⟩=> ?_) r;rw [h1,h3]; exact ⟨q1,cU q2 h2,q3,x,cap,q4,q5,q6,q7⟩
 | .qz,_,r=>by simpa only [aS] using r
 | .mp o,_,r=>by
  simp only [aS]at *;exact Gh.xH h (fun _ _ q=>⟨_,q⟩) (fun _ _ _ _ _ _ q=>q) r
 | .fn f a c,_,r=>by
  simp only [aS]at *;obtain⟨va,vc,h1,h2,h3⟩:=r;exact⟨va,vc,h1,br.gn h a _ h2,br.gn h c _ h3⟩
 | .mf,_,r=>by simpa only [aS] using r
 | .ig t d,_,r=>by
  simp only [aS]at *;obtain⟨u,h1,h2⟩:=r;exact⟨u,h1,aS.gn h d u h2⟩
 | .nv,_,r=>by simpa only [aS] using r
 | .agg l,_,r=>by
  simp only [aS]at *;obtain⟨vs,h1,h2,h3⟩:=r;exact⟨vs,h1,br.gn h l _ h2,h3⟩
 | .gJ l,_,r=>by
  simp only [aS]at *;obtain⟨vs,h1,h2⟩:=r;exact⟨vs,h1,br.gn h l _ h2⟩
 | .lv _,_,r=>by simp only [aS]at r
 | .iI _ _,_,r=>by simp only [aS]at r
 | .sint _ _ _ _,_,r=>by simpa only [aS] using r
 | .pz _ _ _ _,_,r=>by simpa only [aS] using r
 | .rN _,_,r=>by simpa only [aS] using r
 | .yl o,_,r=>by
  simp only [aS]at *;exact⟨(h.dead o r.1).1,by rw [(h.dead o r.1).2]; exact r.2⟩
theorem br.gn {ρ ρ' :Gh} {w w' :World}(h:Kr ρ w ρ' w'):∀(l:List D) (vs:List Value),br ρ w l vs->br ρ' w' l vs
 | [],_,r=>by simpa only [br] using r
 | d::l,_,r=>by
  simp only [br]at *;obtain⟨v,t,h1,h2,h3⟩:=r;exact⟨v,t,h1,aS.gn h d v h2,br.gn h l t h3⟩
theorem fX.gn {ρ ρ' :Gh} {w w' :World}(h:Kr ρ w ρ' w')(sz b:Nat)(hb:w'.heap[b]? =w.heap[b]?):∀(x:Nat) (l:List D),fX ρ w sz b x l->fX ρ' w' sz b x l
 | _,[],_=>by simp only [fX]
 | x,d::l,r=>by
  simp only [fX]at *;obtain⟨⟨v,h1,h2,h3,h4,h6⟩,h5⟩:=r;exact⟨⟨v,aS.gn h d v h1,h2,h3,h4.of_heap hb,h6⟩,fX.gn h sz b hb (x+sz) l h5⟩
end
theorem fO.gn {ρ ρ' :Gh} {w w' :World}(h:Kr ρ w ρ' w'):∀(l:List (Nat×D×D)) (es:List MapEntry),fO ρ w l es->fO ρ' w' l es
 | [],_,r=>by simpa only [fO] using r
 | (n,k,v)::l,_,r=>by
  simp only [fO]at *;obtain⟨e,t,h1,h2,h3,h4,h5⟩:=r;exact⟨e,t,h1,h2,aS.gn h _ _ h3,aS.gn h _ _ h4,fO.gn h l t h5⟩
theorem aS.mono {ρ ρ' :Gh} {w w' :World}{d:D}{v:Value}(r:aS ρ w d v)(h:Kp ρ w ρ' w'):aS ρ' w' d v:=aS.gn h.r d v r
theorem br.mono {ρ ρ' :Gh} {w w' :World}{l:List D}{vs:List Value}(r:br ρ w l vs)(h:Kp ρ w ρ' w'):br ρ' w' l vs:=br.gn h.r l vs r
theorem fO.mono {ρ ρ' :Gh} {w w' :World}{l:List (Nat×D×D)}{es:List MapEntry}(r:fO ρ w l es)(h:Kp ρ w ρ' w'):fO ρ' w' l es:=fO.gn h.r l es r
def ej (ρ:Gh)(w:World)(lo:Nat)(e:Env)(tmps:Array Value)(t:Nat)(d:D):Prop:=
 match d with
 | .lv x=>∃b v el,tmps[t]? =some (.pointer (some ⟨b,0,none⟩))/\ρ.own b= .qG/\lo<=b/\aS ρ w x v/\w.heap[b]? =some (.cells v.cells el (0,0))/\x.st=true
 | .iI a c=>∀x,e.get a=some (.lv x)->∃b,tmps[a]? =some (.pointer (some ⟨b,0,none⟩))/\tmps[t]? =some (.pointer (some ⟨b,c,none⟩))
 | d=>∃v,tmps[t]? =some v/\aS ρ w d v
structure eu (ρ:Gh)(w:World)(lo:Nat)(e:Env)(tmps:Array Value):Prop where
 slot:∀t d,e.get t=some d->ej ρ w lo e tmps t d
 inj:∀t t' x x' b,t≠t' ->e.get t=some (.lv x)->e.get t' =some (.lv x')->tmps[t]? =some (.pointer (some ⟨b,0,none⟩))->tmps[t']? ≠some (.pointer (some ⟨b,0,none⟩))
theorem eu.mono {ρ ρ' :Gh} {w w' :World}{lo:Nat}{e:Env}{tmps:Array Value}(h:Kp ρ w ρ' w')(r:eu ρ w lo e tmps):eu ρ' w' lo e tmps:=by
 refine⟨fun t d hd=> ?_,r.inj⟩;have:=r.slot t d hd;cases d with
 | lv x=>
  simp only [ej]at *;obtain⟨b,v,el,h1,h2,h3,h4,h5,h6⟩:=this;have hb:b < w.heap.size:=by
   rcases aG b w.heap.size with hb | hb
   ·exact hb
   ·simp [cw hb]at h5
  obtain⟨k1,k2⟩:=h.kept b hb (fun o=>by rw [h2]; simp);exact⟨b,v,el,h1,k2.trans h2,h3,h4.mono h,k1.trans h5,h6⟩
 | iI a c=>exact this
 | _=>
  simp only [ej]at *;obtain⟨v,h1,h2⟩:=this;exact⟨v,h1,h2.mono h⟩
end Go.Ab
