/-
  The law CompatSafe, in the shape that its last text asks for.
-/
import Derived.Test.YtcjbjhkmnfegnaaLawF
import Derived.Test.YtcjbjhkmnfegnaaLawBx
namespace Go.Proofs.Ytcjbjhkmnfegnaa
open Go.RowKit Go.ChangeShapes Go.WideShapes Go.Deep
theorem lawSafeAt (A3 : Option Addr) (m c3 : Nat) (Rw : Nat → R) (A1 : Option Addr) (n c1 : Nat) (S : Nat → U) (A2 : Option Addr) (n2 c2 : Nat) (T : Nat → U) (w : World) (hR : RowsIn w A3 m Rw) (hS : UnitsOk w A1 n c1 S) (hT : UnitsOk w A2 n2 c2 T) :
    Calls Try.prog 9 #[.slice A3 m c3, .slice A1 n c1, .slice A2 n2 c2] w fun e w' => e = .returned (.bool true) ∧ Below w.heap.size w w' :=
  lawSafe A1 A2 A3 m c3 n c1 n2 c2 Rw S T w hR hS.2.2.1 hT.2.2.1 hS.2.2.2 hT.2.2.2 hS.1 hT.1 (Nat.le_trans hS.1 hS.2.1)
end Go.Proofs.Ytcjbjhkmnfegnaa
