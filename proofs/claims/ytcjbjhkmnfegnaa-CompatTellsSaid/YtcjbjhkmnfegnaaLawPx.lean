/-
  The law CompatPairs, in the shape that its last text asks for.
-/
import Derived.Test.YtcjbjhkmnfegnaaLawP
import Derived.Test.YtcjbjhkmnfegnaaLawBx
namespace Go.Proofs.Ytcjbjhkmnfegnaa
open Go.RowKit Go.ChangeShapes Go.WideShapes Go.Deep
/-- a unit that came in -/
theorem unit_in {H : Type} {enc : TypeId × Value → H} {w : World} {base : Nat} {sp : Nat → Bool} {held : Bool} {fuel : Nat} {v : Value} {r : Reach} {b0 : Nat} {x : DataW H × List MemPlace}
    (hv : Value.okWide Try.prog w r b0 40 v) (h : DataW.trod enc Try.prog w base sp held fuel 40 v.cells.toList = some x) : ∃ u : U, v = uV u ∧ u.1.size ≤ maxLen := by
  obtain ⟨cs, rfl, hsz⟩ := okWide_struct Try.underlying40 hv
  rw [show Try.prog.cellsOf 40 = 2 from by kernel_rfl] at hsz
  obtain ⟨l⟩ := cs
  match l, hsz with
  | [c0, c1], _ =>
  obtain ⟨y0, y1, m, hx, _, hy0, hy1⟩ := trod_struct2 Try.underlying40 h
  obtain ⟨a, e0, _, s0⟩ := DataW.trod_string Try.underlying9 hy0
  obtain ⟨b, e1, _, _⟩ := DataW.trod_int Try.underlying3 hy1
  have e0' : c0 = .string a := by simpa [Value.cells, show Try.prog.cellsOf 9 = 1 from by kernel_rfl] using e0
  have e1' : c1 = .int .i64 b := by simpa [Value.cells, show Try.prog.cellsOf 3 = 1 from by kernel_rfl] using e1
  exact ⟨(a, b), by rw [e0', e1'], s0⟩
theorem lawPairsAt (A3 : Option Addr) (m c3 : Nat) (Rw : Nat → R) (A1 : Option Addr) (n c1 : Nat) (S : Nat → U) (u : U) (w : World) (hR : RowsIn w A3 m Rw) (hS : UnitsOk w A1 n c1 S) :
    Calls Try.prog 6 #[.slice A3 m c3, .slice A1 n c1, uV u] w fun e w' => e = .returned (.bool true) ∧ Below w.heap.size w w' :=
  lawPairs A1 A3 m c3 n c1 Rw S u w hR hS.2.2.1 hS.2.2.2 hS.1 hS.2.1
end Go.Proofs.Ytcjbjhkmnfegnaa
