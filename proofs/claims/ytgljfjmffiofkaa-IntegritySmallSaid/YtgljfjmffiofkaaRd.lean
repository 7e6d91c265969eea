/-
  The contract of the document's Distance, at every two integers. No condition.
-/
import Derived.Test.YtgljfjmffiofkaaSq
namespace Go.Proofs.Ytgljfjmffiofkaa
open Go.RowKit

set_option maxRecDepth 100000 in
set_option maxHeartbeats 4000000 in
theorem refDistance_any (a b : Int) (w : World) :
    Calls Try.prog 15 #[.int .i64 a, .int .i64 b] w fun e w' => e = .returned (.int .i64 (dst a b)) ∧ Below w.heap.size w w' := by
  cases ha : isN a with
  | false =>
    have hd : Hid (dst a b = -1) := Lib.hid (dst_not (by rw [ha]; simp))
    go_enter Try.func15, Try.ntmps15
    go_wp2_with fail
    refine (refNumber_to a _ ha).mono ?_
    rintro e w1 ⟨rfl, rfl⟩
    go_wp2_with fail
    go_ret
    exact ⟨ret_int hd.out.symm, Below.refl _ _⟩
  | true =>
    cases hb : isN b with
    | false =>
      have hd : Hid (dst a b = -1) := Lib.hid (dst_not (by rw [hb]; simp))
      go_enter Try.func15, Try.ntmps15
      go_wp2_with fail
      refine (refNumber_to a _ ha).mono ?_
      rintro e w1 ⟨rfl, rfl⟩
      go_wp2_with fail
      refine (refNumber_to b _ hb).mono ?_
      rintro e w1 ⟨rfl, rfl⟩
      go_wp2_with fail
      go_ret
      exact ⟨ret_int hd.out.symm, Below.refl _ _⟩
    | true =>
      have HA := Lib.hid ha
      have HB := Lib.hid hb
      clear ha hb
      go_enter Try.func15, Try.ntmps15
      go_wp2_with fail
      refine (refNumber_to a _ HA.out).mono ?_
      rintro e w1 ⟨rfl, rfl⟩
      go_wp2_with fail
      refine (refNumber_to b _ HB.out).mono ?_
      rintro e w1 ⟨rfl, rfl⟩
      go_wp2_with fail
      go_loopw [0, 5] (fun n d wr => ∃ k : Nat, k ≤ 256 ∧ d = .int .i64 k ∧ n = .int .i64 (itr a k) ∧ (∀ i, i < k → itr a i ≠ b) ∧ Below w.heap.size w wr)
        (fun _ d _ => 256 - (intOf d).toNat)
      case atStart => exact ⟨0, Nat.zero_le _, rfl, rfl, fun i hi => by omega, Below.refl _ _⟩
      case round =>
        obtain ⟨k, hk, rfl, rfl, hne, kB⟩ := hrel
        have HN := Lib.hid hne
        clear hne
        by_cases hlt : k < 256
        · by_cases hy : itr a k = b
          · have hd : Hid (dst a b = k) := Lib.hid (dst_at HA.out HB.out (by omega) HN.out hy)
            rw [hy]
            clear hy
            go_wp2_with fail
            go_ret
            exact ⟨ret_int hd.out.symm, kB⟩
          · have he' : (itr a k == b) = false := by simpa using hy
            have HN2 : Hid (∀ i, i < k + 1 → itr a i ≠ b) := Lib.hid (fun i hi => (Nat.lt_or_ge i k).elim (HN.out i) (fun h => (by have e : i = k := (by omega); subst e; exact hy)))
            have HK := Lib.hid (show itr a (k + 1) = nx (itr a k) from rfl)
            clear hy
            go_wp2_with fail
            refine (refNext_any _ _).mono ?_
            rintro e w1 ⟨rfl, rfl⟩
            go_wp2_with fail
            go_roundw
            case rel => exact ⟨k + 1, by omega, by go_num, by rw [HK.out], HN2.out, kB⟩
            case measure => simp [intOf]; omega
        · obtain rfl : k = 256 := by omega
          have hd : Hid (dst a b = -1) := Lib.hid (dst_none HA.out HB.out HN.out)
          go_wp2_with fail
          go_ret
          exact ⟨ret_int hd.out.symm, kB⟩
end Go.Proofs.Ytgljfjmffiofkaa
