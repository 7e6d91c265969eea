/-
  The law RedundancyMerges: the walk, which answers true. Conditions: the arrivals lie as given.
-/
import Derived.Test.YtllabfbebidjiaaM1
namespace Go.Proofs.Ytllabfbebidjiaa
open Go.RowKit
def ArrNil (w : World) (A : Option Addr) (n c : Nat) (N Q T : Nat → Int) : Prop := ArrIn w A n N Q T ∧ (A = none → n = 0 ∧ c = 0)
section
open Go.ChangeShapes Go.WideShapes Go.Deep
theorem arrs_nil {H : Type} {enc : TypeId × Value → H} {w : World} {held : Bool} {A : Option Addr} {len cap fuel : Nat} {x : DataW H × List MemPlace}
    (h : DataW.trod enc Try.prog w 0 (fun _ => true) held fuel 22 [.slice A len cap] = some x) : ∃ N Q T, ArrNil w A len cap N Q T := by
  obtain ⟨N, Q, T, hA⟩ := arrs_in h
  refine ⟨N, Q, T, hA, fun hn => ?_⟩
  rcases open_slice Try.underlying22 h with ⟨h0, _⟩ | ⟨a, l, c, m, n, D, Pl, hcs, _⟩
  · simp only [List.cons.injEq, Value.slice.injEq, and_true] at h0
    exact ⟨h0.2.1, h0.2.2⟩
  · simp only [List.cons.injEq, Value.slice.injEq, and_true] at hcs
    rw [hcs.1] at hn
    cases hn
end
set_option maxRecDepth 100000 in
set_option maxHeartbeats 4000000 in
theorem lawMerges (skew : Int) (A : Option Addr) (n c : Nat) (N Q T : Nat → Int) (w : World) (hA : ArrNil w A n c N Q T) :
    Calls Try.prog 3 #[.int .i64 skew, .slice A n c] w fun e w' => e = .returned (.bool true) ∧ Below w.heap.size w w' := by
  by_cases hn : 300 < n
  · go_enter Try.func3, Try.ntmps3
    go_wp2_with fail
    refine (awake_any w).mono ?_
    rintro e w1 ⟨rfl, k1⟩
    go_wp2_with fail
    go_ret
    exact ⟨rfl, k1⟩
  · have HM := Lib.hid (merges_any skew A n c N Q T w hA.1 hA.2 (by omega))
    clear hA
    go_enter Try.func3, Try.ntmps3
    go_wp2_with fail
    refine HM.out.mono ?_
    rintro e w1 ⟨rfl, k1⟩
    have K1 := Lib.hid k1
    clear k1
    go_wp2_with fail
    refine (awake_any w1).mono ?_
    rintro e w2 ⟨rfl, k2⟩
    have K2 := Lib.hid (K1.out.trans (k2.mono K1.out.size))
    clear k2
    go_wp2_with fail
    go_ret
    exact ⟨rfl, K2.out⟩
end Go.Proofs.Ytllabfbebidjiaa
