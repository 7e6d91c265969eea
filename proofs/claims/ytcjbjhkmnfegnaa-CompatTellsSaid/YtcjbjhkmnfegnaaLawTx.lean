/-
  The law CompatTells, in the shape that its last text asks for.
-/
import Derived.Test.YtcjbjhkmnfegnaaLawT
import Derived.Test.YtcjbjhkmnfegnaaLawPx
namespace Go.Proofs.Ytcjbjhkmnfegnaa
open Go.RowKit Go.ChangeShapes Go.WideShapes Go.Deep
theorem lawTellsAt (A3 : Option Addr) (m c3 : Nat) (Rw : Nat → R) (A1 : Option Addr) (n c1 : Nat) (S : Nat → U) (A2 : Option Addr) (n2 c2 : Nat) (T : Nat → U) (a b : U) (bi : Int) (w : World) (hR : RowsIn w A3 m Rw) (hS : UnitsOk w A1 n c1 S) (hT : UnitsOk w A2 n2 c2 T) :
    Calls Try.prog 8 #[.slice A3 m c3, .slice A1 n c1, .slice A2 n2 c2, uV a, uV b, .int .i64 bi] w fun e w' => e = .returned (.bool true) ∧ Below w.heap.size w w' :=
  lawTells A1 A2 A3 m c3 n c1 n2 c2 Rw S T a b bi w hR hS.2.2.1 hT.2.2.1 hS.2.2.2 hS.1
end Go.Proofs.Ytcjbjhkmnfegnaa
