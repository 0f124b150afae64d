/- NativeBack: the runs. -/
import Derived.Test.YtmclonbopcnoeaaN1
namespace Go.Proofs.Ytmclonbopcnoeaa.Tab
open Go Go.Ab
noncomputable def B1 : Caller := callX (without tab0 [5]) (purC [e5] noCall) 200
/-- Three classes of kinds. -/
noncomputable def back (n : Int) : Bool := isTrue (B1 4 [.int .i64 n, kTr minI64 (-1)] st0) && (isTrue (B1 4 [.int .i64 n, kTr 0 20] st0) && isTrue (B1 4 [.int .i64 n, kTr 21 maxI64] st0))
noncomputable def backL (l : List Int) : Bool := l.all back
/-- No such number. -/
noncomputable def gap (lo hi : Int) : Bool := isTrue (B1 4 [.sint .i64 (.i 0) lo hi, kT] st0)
end Go.Proofs.Ytmclonbopcnoeaa.Tab
