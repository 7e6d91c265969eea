/-
  The law CompatBack, in the shape that its last text asks for.
-/
import Derived.Test.YtcjbjhkmnfegnaaLawB
namespace Go.Proofs.Ytcjbjhkmnfegnaa
open Go.RowKit Go.ChangeShapes Go.WideShapes Go.Deep
/-- a slice of units that came in: names are strings that can be -/
def UnitsOk (w : World) (A : Option Addr) (n c : Nat) (S : Nat → U) : Prop := n ≤ c ∧ c ≤ 9223372036854775807 ∧ UnitsIn w A n S ∧ Fits S n
theorem units_ok {H : Type} {enc : TypeId × Value → H} {w : World} {held : Bool} {A : Option Addr} {len cap fuel : Nat} {x : DataW H × List MemPlace}
    (h : DataW.trod enc Try.prog w 0 (fun _ => true) held fuel 23 [.slice A len cap] = some x) : ∃ S, UnitsOk w A len cap S := by
  obtain ⟨hl, hm, hc⟩ := fields_in Try.underlying23 Try.underlying40 (by kernel_rfl) (by kernel_rfl) (by simp) h
  unfold maxLen at hm
  rcases Nat.eq_zero_or_pos len with h0 | h0
  · exact ⟨fun _ => default, hl, by omega, ⟨by omega, fun h => by omega⟩, fun k hk => by omega⟩
  obtain ⟨b, off, rfl, hb, hi⟩ := hc h0
  have each : ∀ k, k < len → ∃ q : U, (w.cell? ⟨b, off + k * 2, none⟩ = some (.string q.1) ∧ w.cell? ⟨b, off + k * 2 + 1, none⟩ = some (.int .i64 q.2)) ∧ q.1.size ≤ maxLen := fun k hk => by
    obtain ⟨v0, y0, n0, c0, t0⟩ := hi k hk 0 _ rfl
    obtain ⟨v1, y1, n1, c1, t1⟩ := hi k hk 1 _ rfl
    obtain ⟨m0, e0, _, s0⟩ := DataW.trod_string Try.underlying9 t0
    obtain ⟨m1, e1, _, _⟩ := DataW.trod_int Try.underlying3 t1
    simp only [List.cons.injEq, and_true] at e0 e1
    subst e0 e1
    exact ⟨(m0, m1), ⟨c0, c1⟩, s0⟩
  obtain ⟨q, hq⟩ := choose_lt each
  exact ⟨q, hl, by omega, ⟨by omega, fun _ => ⟨b, off, rfl, hb, fun k hk => (hq k hk).1⟩⟩, fun k hk => (hq k hk).2⟩
theorem lawBackAt (A3 : Option Addr) (m c3 : Nat) (Rw : Nat → R) (A1 : Option Addr) (n c1 : Nat) (S : Nat → U) (A2 : Option Addr) (n2 c2 : Nat) (T : Nat → U) (w : World) (hR : RowsIn w A3 m Rw) (hS : UnitsOk w A1 n c1 S) (hT : UnitsOk w A2 n2 c2 T) :
    Calls Try.prog 4 #[.slice A3 m c3, .slice A1 n c1, .slice A2 n2 c2] w fun e w' => e = .returned (.bool true) ∧ Below w.heap.size w w' :=
  lawBack A1 A2 A3 m c3 n c1 n2 c2 Rw S T w hR hS.2.2.1 hT.2.2.1 hS.2.2.2 hT.2.2.2 hS.1 hT.1 (Nat.le_trans hS.1 hS.2.1) (Nat.le_trans hT.1 hT.2.1)
end Go.Proofs.Ytcjbjhkmnfegnaa
