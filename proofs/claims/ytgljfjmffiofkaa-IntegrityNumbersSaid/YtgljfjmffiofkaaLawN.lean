/-
  The walk of the law IntegrityNumbers: at every two ints it returns true and leaves what was there as it was. No condition.
-/
import Derived.Test.YtgljfjmffiofkaaAw
import Derived.Test.YtgljfjmffiofkaaRd
namespace Go.Proofs.Ytgljfjmffiofkaa
open Go.RowKit
set_option maxHeartbeats 4000000 in
theorem lawNumbers (a b : Int) (w : World) : Calls Try.prog 3 #[.int .i64 a, .int .i64 b] w fun e w' => e = .returned (.bool true) ∧ Below w.heap.size w w' := by
  go_enter Try.func3, Try.ntmps3
  go_wp2_with fail
  refine (next_any _ _).mono ?_
  rintro e w' ⟨rfl, rfl⟩
  go_wp2_with fail
  refine (refNext_any _ _).mono ?_
  rintro e w' ⟨rfl, rfl⟩
  go_wp2_with fail
  refine (distance_any _ _ _).mono ?_
  rintro e w1 ⟨rfl, k1⟩
  go_wp2_with fail
  refine (refDistance_any _ _ _).mono ?_
  rintro e w2 ⟨rfl, k2⟩
  go_wp2_with fail
  refine (distance_any _ _ _).mono ?_
  rintro e w3 ⟨rfl, k3⟩
  go_wp2_with fail
  refine (refDistance_any _ _ _).mono ?_
  rintro e w4 ⟨rfl, k4⟩
  go_wp2_with fail
  refine (awake_any _).mono ?_
  rintro e w5 ⟨rfl, k5⟩
  go_wp2_with fail
  go_ret
  have l1 := k1.trans (k2.mono k1.size)
  have l2 := l1.trans (k3.mono l1.size)
  have l3 := l2.trans (k4.mono l2.size)
  exact ⟨rfl, l3.trans (k5.mono l3.size)⟩
end Go.Proofs.Ytgljfjmffiofkaa
