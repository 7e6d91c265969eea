/-
  The law RedundancyTells: the walk, which answers true. Conditions: the calls lie as given.
-/
import Derived.Test.YtllabfbebidjiaaOf
import Derived.Test.YtllabfbebidjiaaCa
namespace Go.Proofs.Ytllabfbebidjiaa
open Go.RowKit
set_option maxRecDepth 100000 in
set_option maxHeartbeats 4000000 in
theorem lawTells (skew : Int) (A : Option Addr) (n c : Nat) (N Q T : Nat → Int) (w : World) (hA : ArrIn w A n N Q T) :
    Calls Try.prog 9 #[.int .i64 skew, .slice A n c] w fun e w' => e = .returned (.bool true) ∧ Below w.heap.size w w' := by
  by_cases hn : 300 < n
  · go_enter Try.func9, Try.ntmps9
    go_wp2_with fail
    refine (awake_any w).mono ?_
    rintro e w1 ⟨rfl, k1⟩
    go_wp2_with fail
    go_ret
    exact ⟨rfl, k1⟩
  · have HM := Lib.hid (offers_any skew A n c N Q T w hA (by omega))
    clear hA
    go_enter Try.func9, Try.ntmps9
    go_wp2_with fail
    refine HM.out.mono ?_
    rintro e w1 ⟨rfl, k1⟩
    have K1 := Lib.hid k1
    clear k1
    go_wp2_with fail
    refine (awake_any w1).mono ?_
    rintro e w2 ⟨rfl, k2⟩
    have K2 := Lib.hid (K1.out.trans (k2.mono K1.out.size))
    clear k2
    go_wp2_with fail
    go_ret
    exact ⟨rfl, K2.out⟩
end Go.Proofs.Ytllabfbebidjiaa
