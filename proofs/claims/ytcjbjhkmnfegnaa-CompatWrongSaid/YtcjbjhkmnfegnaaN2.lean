/-
  Reach where the sets form no change, sets of whatever length.
-/
import Derived.Test.YtcjbjhkmnfegnaaN1
namespace Go.Proofs.Ytcjbjhkmnfegnaa
open Go.RowKit Go.Shelf
set_option maxHeartbeats 2000000 in
theorem reach_bad2 (A1 A2 A3 : Option Addr) (n c1 n2 c2 m c3 : Nat) (S T : Nat → U) (w : World) (hS : UnitsIn w A1 n S) (hT : UnitsIn w A2 n2 T) (hF : Fits S n) (hn : n ≤ 9223372036854775807) (hv : chg n n2 S T = false) :
    Calls Try.prog 11 #[.slice A3 m c3, .slice A1 n c1, .slice A2 n2 c2] w fun e w' => e = .returned (.tuple #[.slice none 0 0, .int .i64 2]) ∧ Below w.heap.size w w' := by
  have HS := Lib.hid hS
  have HT := Lib.hid hT
  have HF := Lib.hid hF
  have HV := Lib.hid hv
  clear hS hT hF hv
  go_enter Try.func11, Try.ntmps11
  go_wp2_with fail
  obtain ⟨W, hW⟩ : ∃ W, w.alloc (.cells #[.slice A1 n c1, .slice A2 n2 c2, .slice A3 m c3] 56) = W := ⟨_, rfl⟩
  rw [hW]
  have k : Below w.heap.size w W := by rw [← hW]; exact (Below.refl _ _).alloc (Nat.le_refl _) _
  refine (change_big A1 A2 A3 n c1 n2 c2 m c3 S T W (HS.out.below k (Nat.le_refl _)) (HT.out.below k (Nat.le_refl _)) HF.out hn).mono ?_
  rintro e w1 ⟨rfl, k1⟩
  rw [HV.out]
  have K1 := Lib.hid (k.trans (k1.mono k.size))
  clear k k1 hW
  go_wp2_with fail
  go_ret2
  exact ⟨rfl, K1.out⟩

end Go.Proofs.Ytcjbjhkmnfegnaa
