/-
  The contract of the law's own Few, at two sets. No condition.
-/
import Derived.Test.YtcjbjhkmnfegnaaM2
namespace Go.Proofs.Ytcjbjhkmnfegnaa
open Go.RowKit Go.Shelf
/-- is a set's length one that Few takes -/
def fewS (n : Nat) : Bool := !(decide (5 < n) && decide (n ≤ 8) || decide (12 < n))
def few (m n n2 : Nat) : Bool := (fewS n && fewS n2) && decide (m ≤ 40)
theorem fewS_parts {n : Nat} : fewS n = true ↔ (n ≤ 5 ∨ 8 < n) ∧ n ≤ 12 := by
  simp [fewS]
set_option maxRecDepth 100000 in
set_option maxHeartbeats 2000000 in
theorem few_any (A1 A2 A3 : Option Addr) (m c3 n c1 n2 c2 g : Nat) (w : World) (hb : Blk w g 23 #[.slice A1 n c1, .slice A2 n2 c2]) :
    Calls Try.prog 18 #[.slice A3 m c3, .slice (some ⟨g, 0, none⟩) 2 2] w fun e w' => e = .returned (.bool (few m n n2)) ∧ Below w.heap.size w w' := by
  have HB := Lib.hid hb
  have HG := Lib.hid hb.lt
  clear hb
  go_enter Try.func18, Try.ntmps18
  go_wp2_with fail
  go_loopw [9] (fun iv wr => ∃ k : Nat, k ≤ 2 ∧ iv = .int .i64 k ∧ Hid ((0 < k → fewS n = true) ∧ (1 < k → fewS n2 = true)) ∧ Below w.heap.size w wr) (fun i _ => 2 - (intOf i).toNat)
  case atStart => exact ⟨0, Nat.zero_le _, rfl, Lib.hid ⟨fun h => absurd h (by omega), fun h => absurd h (by omega)⟩, Below.refl _ _⟩
  case round =>
    obtain ⟨k, hk, rfl, hf, kr⟩ := hrel
    have HF := hf
    have KR := Lib.hid kr
    clear hf kr
    by_cases hlt : k < 2
    · have B2 := HB.out.below KR.out HG.out
      obtain ⟨A, x, c, hx, hxx⟩ : ∃ A x c, wr.cell? ⟨g, k, none⟩ = some (.slice A x c) ∧ ((k = 0 ∧ x = n) ∨ (k = 1 ∧ x = n2)) := by
        rcases (show k = 0 ∨ k = 1 by omega) with rfl | rfl
        · exact ⟨A1, n, c1, B2.cell 0, .inl ⟨rfl, rfl⟩⟩
        · exact ⟨A2, n2, c2, B2.cell 1, .inr ⟨rfl, rfl⟩⟩
      have HNO : Hid (fewS x = false → few m n n2 = false) := Lib.hid (fun h => by
        rcases hxx with ⟨_, rfl⟩ | ⟨_, rfl⟩
        · simp [few, h]
        · simp [few, h])
      have HYES : Hid (fewS x = true → ((0 < k + 1 → fewS n = true) ∧ (1 < k + 1 → fewS n2 = true))) := Lib.hid (fun h => by
        rcases hxx with ⟨h0, rfl⟩ | ⟨h0, rfl⟩
        · exact ⟨fun _ => h, fun h' => absurd h' (by omega)⟩
        · exact ⟨fun _ => HF.out.1 (by omega), fun _ => h⟩)
      clear hxx B2
      have g1 : decide (2 ≤ k) = false := decide_eq_false (by omega)
      have g2 : decide ((k : Int) < 0) = false := decide_eq_false (by omega)
      have g3 : (k : Int) < 2 := by omega
      by_cases h5 : 5 < x
      · have i5 : decide (5 < x) = true := decide_eq_true h5
        by_cases h8 : x ≤ 8
        · have i8 : decide (x ≤ 8) = true := decide_eq_true h8
          have HR := Lib.hid (HNO.out (by simp [fewS, h5, h8]))
          go_wp2_with fail
          go_ret
          exact ⟨by rw [HR.out]; rfl, KR.out⟩
        · have i8 : decide (x ≤ 8) = false := decide_eq_false h8
          by_cases h12 : 12 < x
          · have i12 : decide (12 < x) = true := decide_eq_true h12
            have HR := Lib.hid (HNO.out (by simp [fewS, h12]))
            go_wp2_with fail
            go_ret
            exact ⟨by rw [HR.out]; rfl, KR.out⟩
          · have i12 : decide (12 < x) = false := decide_eq_false h12
            have HR := Lib.hid (HYES.out (fewS_parts.2 (by omega)))
            go_wp2_with fail
            go_roundw
            case rel => exact ⟨k + 1, by omega, by go_num, Lib.hid HR.out, KR.out⟩
            case measure => simp [intOf]; omega
      · have i5 : decide (5 < x) = false := decide_eq_false h5
        have i12 : decide (12 < x) = false := decide_eq_false (by omega)
        have HR := Lib.hid (HYES.out (fewS_parts.2 (by omega)))
        go_wp2_with fail
        go_roundw
        case rel => exact ⟨k + 1, by omega, by go_num, Lib.hid HR.out, KR.out⟩
        case measure => simp [intOf]; omega
    · have g3 : decide ((k : Int) < 2) = false := decide_eq_false (by omega)
      have HR : Hid (few m n n2 = decide ((m : Int) ≤ 40)) := Lib.hid (by
        unfold few
        rw [HF.out.1 (by omega), HF.out.2 (by omega)]
        simp
        omega)
      go_wp2_with fail
      go_ret
      exact ⟨by rw [HR.out]; rfl, KR.out⟩
end Go.Proofs.Ytcjbjhkmnfegnaa
