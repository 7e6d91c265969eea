/-
  The contract of Order, told by the computed road.
-/
import Derived.Test.YtcjbjhkmnfegnaaOB
import Derived.Test.YtcjbjhkmnfegnaaP3
namespace Go.Proofs.Ytcjbjhkmnfegnaa
open Go.RowKit Go.Shelf
/-- the road, if there is one -/
def OrdR (m : Nat) (Rw : Nat → R) (n : Nat) (S T : Nat → U) : Option (List Nat) := if cmp m Rw S n = true then ordF m Rw n S T else none
/-- Order's answer for a change: a road and OK, or nothing and None -/
def OrdTell (r : Option (List Nat)) (w : World) (e : Ending) (w' : World) : Prop :=
  Below w.heap.size w w' ∧ ((r = none ∧ e = .returned (.tuple #[.slice none 0 0, .int .i64 6])) ∨
    (∃ p A c, r = some p ∧ e = .returned (.tuple #[.slice A p.length c, .int .i64 0]) ∧ NumsIn w' A p))
theorem order_any (A1 A2 A3 : Option Addr) (n c1 c2 m c3 : Nat) (S T : Nat → U) (Rw : Nat → R) (w : World) (hS : UnitsIn w A1 n S) (hT : UnitsIn w A2 n T) (hR : RowsIn w A3 m Rw) (hF : Fits S n) (hnc : n ≤ c1) (hv : chg n n S T = true) :
    Calls Try.prog 12 #[.slice A3 m c3, .slice A1 n c1, .slice A2 n c2] w (OrdTell (OrdR m Rw n S T) w) := by
  obtain ⟨h8, _, _, _⟩ := chg_parts hv
  refine (order_ok A1 A2 A3 n c1 c2 m c3 S T Rw w hS hT hR hF hnc hv).mono ?_
  rintro e w' ⟨hb, (⟨h1, rfl⟩ | ⟨h1, (⟨p, h2, A, c, rfl, h3⟩ | ⟨p, b, h2, h3, h4, rfl⟩)⟩)⟩
  · exact ⟨hb, .inl ⟨by simp [OrdR, h1], rfl⟩⟩
  · exact ⟨hb, .inr ⟨p, A, c, by simp only [OrdR, h1, if_true]; exact h2.done h8, rfl, h3⟩⟩
  · exact ⟨hb, .inl ⟨by simp only [OrdR, h1, if_true]; exact h2.stuck h8 h3 h4, rfl⟩⟩

/-! the law's own example -/
def eS (v u : Int) : Nat → U := fun k => if k = 0 then ((⟨#[97]⟩ : ByteArray), v) else ((⟨#[98]⟩ : ByteArray), u)
def eR (l : List (Int × Int)) : Nat → R := fun k => (((⟨#[97]⟩ : ByteArray), (l.getD k (0, 0)).1), ((⟨#[98]⟩ : ByteArray), (l.getD k (0, 0)).2))
theorem e_chg : chg 2 2 (eS 1 1) (eS 2 2) = true ∧ chg 2 2 (eS 2 2) (eS 1 1) = true := by decide +kernel
theorem e_ord1 : OrdR 3 (eR [(1, 1), (2, 1), (2, 2)]) 2 (eS 1 1) (eS 2 2) = some [0, 1] := by decide +kernel
theorem e_ord2 : OrdR 3 (eR [(1, 1), (2, 1), (2, 2)]) 2 (eS 2 2) (eS 1 1) = some [1, 0] := by decide +kernel
theorem e_ord3 : OrdR 2 (eR [(1, 1), (2, 2)]) 2 (eS 1 1) (eS 2 2) = none := by decide +kernel
theorem e_rch1 : rchL 3 (eR [(1, 1), (2, 1), (2, 2)]) 2 (eS 1 1) (eS 2 2) = [0, 1, 3] := by decide +kernel
theorem e_rch2 : rchL 2 (eR [(1, 1), (2, 2)]) 2 (eS 1 1) (eS 2 2) = [0] := by decide +kernel
end Go.Proofs.Ytcjbjhkmnfegnaa
