/- What is not known in NativeRows, and the callers. -/
import Derived.Test.YtmclonbopcnoeaaN0
import Derived.Test.YtmclonbopcnoeaaTP
import Derived.Test.YtmclonbopcnoeaaA31
namespace Go.Proofs.Ytmclonbopcnoeaa.Tab
open Go Go.Ab

abbrev V (n kind : Int) (name : List UInt8) (mt : List (Int × Int × List (List UInt8 × Int))) : Vals where
  vi := fun i => match i with
    | 0 => n
    | 1 => kind
    | 2 => (pickI rowZ rowTab n).2.1
    | 3 => (pickI rowZ rowTab n).2.2.1
    | 4 => pickS 0 findTab name
    | 5 => pickS 0 (pickI [] mt kind) name
    | 6 => pickS 0 whyTab name
    | _ => 0
  vs := fun i => match i with
    | 0 => name
    | 1 => (pickI rowZ rowTab n).1
    | 2 => pickI [] classTab n
    | _ => []
  vb := fun _ => (pickI rowZ rowTab n).2.2.2

def nT : D := .sint .i64 (.i 0) minI64 maxI64
def kT : D := .sint .i64 (.i 1) minI64 maxI64
def sT : D := .sstr 0 [] 0 3000
def sL : D := .sstr 0 [] 3001 9223372036854775807
def tk (i : Nat) : D := .sint .i64 (.i i) 0 1000
def st1 (i : Nat) : D := .sstr i [] 0 100

def nameR (q : RowT) : D := .str q.1
def takesR (q : RowT) : D := .tup [.int .i64 q.2.1, .int .i64 q.2.2.1, .bool q.2.2.2]
def intR (n : Int) : D := .int .i64 n
/-- the kinds: none; below, above -/
def kinds : List (Int × Int) := [(minI64, -1), (1, maxI64)]
def kTr (lo hi : Int) : D := .sint .i64 (.i 1) lo hi
def methodTabN : List (Int × Int × List (List UInt8 × Int)) := [(minI64, -1, [])]
def methodTabP : List (Int × Int × List (List UInt8 × Int)) := (1, 5, []) :: methodTab.drop 3
def e10 : Ent := entI 10 [] (.i 0) rowTab (st1 1) nameR
def e8 : Ent := entI 8 [] (.i 0) rowTab (.tup [tk 2, tk 3, .sbool 0]) takesR
def e16 : Ent := entI 16 [] (.i 0) classTab (st1 2) .str
def e12 : Ent := entS 12 [] 0 3000 findTab 0 (tk 4) intR
def e18 : Ent := entS 18 [] 0 3000 whyTab 0 (tk 6) intR
def e14N : Ent := entM minI64 (-1) 14 [] (.i 1) 0 3000 methodTabN 0 (tk 5) intR
def e14P : Ent := entM 1 maxI64 14 [] (.i 1) 0 3000 methodTabP 0 (tk 5) intR
def e14Z : Ent := ⟨14, [.tok (.int .i64 0), .tok sT], [([some (.int .i64 0), some sT], .int .i64 0)], .int .i64 0⟩
def e5 : Ent := ⟨5, [], [([], .bool true)], .bool true⟩
def pents0 : List Ent := [e5, e8, e10, e12, e16, e18]
def pentsZ : List Ent := e14Z :: pents0
def pentsN : List Ent := e14N :: pents0
def pentsP : List Ent := e14P :: pents0
def b9 : Ent := entI 9 [.obj] (.i 0) rowTab (st1 1) nameR
def b7 : Ent := entI 7 [.obj] (.i 0) rowTab (.tup [tk 2, tk 3, .sbool 0]) takesR
def b15 : Ent := entI 15 [.obj] (.i 0) classTab (st1 2) .str
def b11 : Ent := entS 11 [.obj] 0 3000 findTab 0 (tk 4) intR
def b17 : Ent := entS 17 [.obj] 0 3000 whyTab 0 (tk 6) intR
def b13N : Ent := entM minI64 (-1) 13 [.obj] (.i 1) 0 3000 methodTabN 0 (tk 5) intR
def b13P : Ent := entM 1 maxI64 13 [.obj] (.i 1) 0 3000 methodTabP 0 (tk 5) intR
def ents0 : List Ent := [b9, b7, b15, b11, b17]
def entsN : List Ent := b13N :: ents0
def entsP : List Ent := b13P :: ents0

noncomputable def C0 : Caller := callX tab0 noCall 200
noncomputable def C1 (ps : List Ent) : Caller := callX (without tab0 [5, 8, 10, 12, 14, 16, 18]) (purC ps noCall) 200
noncomputable def C2 (ps es : List Ent) : Caller := callX (without tab0 [5, 7, 8, 9, 10, 11, 12, 13, 14, 15, 16, 17, 18]) (hook es (C1 ps)) 200
end Go.Proofs.Ytmclonbopcnoeaa.Tab
