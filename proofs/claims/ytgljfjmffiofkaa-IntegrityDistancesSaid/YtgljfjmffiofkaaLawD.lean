/-
  The walk of the law IntegrityDistances: at every two uint8s it returns true and leaves what was there as it was. No condition.
-/
import Derived.Test.YtgljfjmffiofkaaAw
namespace Go.Proofs.Ytgljfjmffiofkaa
open Go.RowKit
theorem dst_back {a : Int} (ha : isN a = true) : a ≠ 0 → dst a 0 = -1 := fun h => by
  unfold dst
  rw [if_pos ⟨ha, by decide⟩, if_neg h, if_pos rfl]
/-- the walk from a to b -/
theorem dst_walk {a b : Int} (ha : isN a = true) (hb : isN b = true) (h : ¬ (b = 0 ∧ a ≠ 0)) :
    0 ≤ dst a b ∧ dst a b ≤ 255 ∧ (∀ k : Nat, (k : Int) = dst a b → itr a k = b) ∧ (∀ k : Nat, 0 < k → (k : Int) < dst a b → itr a k ≠ b) ∧ (dst a b = 0 ↔ a = b) ∧ (a ≠ 0 → b ≠ 0 → a ≠ b → dst a b + dst b a = 255) := by
  obtain ⟨a0, a1⟩ := isN_true ha
  obtain ⟨b0, b1⟩ := isN_true hb
  have hd : dst a b = if a = 0 then b else (b - a) % 255 := by
    unfold dst
    rw [if_pos ⟨ha, hb⟩]
    split
    · rfl
    · rw [if_neg (by omega)]
  have hd2 : b ≠ 0 → dst b a = if a = 0 then -1 else (a - b) % 255 := fun hz => by
    unfold dst
    rw [if_pos ⟨hb, ha⟩, if_neg hz]
  by_cases hz : a = 0
  · subst hz
    rw [if_pos rfl] at hd
    rw [hd]
    refine ⟨b0, b1, fun k hk => ?_, fun k h0 hk => ?_, by omega, fun h => absurd rfl h⟩
    · rw [itr_zero k (by omega)]; exact hk
    · rw [itr_zero k (by omega)]; omega
  · rw [if_neg hz] at hd
    rw [hd]
    refine ⟨by omega, by omega, fun k hk => ?_, fun k h0 hk => ?_, by omega, fun _ h2 h3 => ?_⟩
    · rw [itr_pos (by omega) a1]; omega
    · rw [itr_pos (by omega) a1]; omega
    · rw [hd2 h2, if_neg hz]; omega

set_option maxHeartbeats 4000000 in
theorem lawDistances (a b : Int) (w : World) (a0 : 0 ≤ a) (a1 : a ≤ 255) (b0 : 0 ≤ b) (b1 : b ≤ 255) : Calls Try.prog 5 #[.int .u8 a, .int .u8 b] w fun e w' => e = .returned (.bool true) ∧ Below w.heap.size w w' := by
  have HA := Lib.hid (isN_mk a0 a1)
  have HB := Lib.hid (isN_mk b0 b1)
  by_cases hz : b = 0 ∧ a ≠ 0
  · obtain ⟨rfl, hz⟩ := hz
    have HD := Lib.hid (dst_back HA.out hz)
    have hz' : (a == 0) = false := by simpa using hz
    go_enter Try.func5, Try.ntmps5
    go_wp2_with fail
    refine (awake_any _).mono ?_
    rintro e wA ⟨rfl, kA⟩
    go_wp2_with fail
    refine (distance_any _ _ _).mono ?_
    rintro e w1 ⟨rfl, k1⟩
    rw [HD.out]
    go_wp2_with fail
    go_ret
    exact ⟨rfl, kA.trans (k1.mono kA.size)⟩
  · obtain ⟨d0, d1, d2, d3, d4, d5⟩ := dst_walk HA.out HB.out hz
    have HD2 := Lib.hid d2
    have HD3 := Lib.hid d3
    have HD4 := Lib.hid d4
    have HD5 := Lib.hid d5
    clear d2 d3 d4 d5
    obtain ⟨d, hd⟩ : ∃ d, dst a b = d := ⟨_, rfl⟩
    rw [hd] at d0 d1 HD2 HD3 HD4 HD5
    have HE := Lib.hid hd
    clear hd
    have hc : b = 0 ∧ a = 0 ∨ b ≠ 0 := by
      rcases Classical.em (b = 0) with h | h
      · exact .inl ⟨h, by rcases Classical.em (a = 0) with h' | h'; exact h'; exact absurd ⟨h, h'⟩ hz⟩
      · exact .inr h
    clear hz
    rcases hc with ⟨rfl, rfl⟩ | hb
    · obtain rfl : d = 0 := HD4.out.2 rfl
      go_enter Try.func5, Try.ntmps5
      go_wp2_with fail
      refine (awake_any _).mono ?_
      rintro e wA ⟨rfl, kA⟩
      go_wp2_with fail
      refine (distance_any _ _ _).mono ?_
      rintro e w1 ⟨rfl, k1⟩
      rw [HE.out]
      have K1 := Lib.hid (kA.trans (k1.mono kA.size))
      clear kA k1
      go_wp2_with fail
      go_loopw [6, 27] (fun n i wr => i = .int .i64 0 ∧ n = .int .i64 0 ∧ wr = w1)
        (fun _ _ _ => 0)
      case atStart => exact ⟨rfl, rfl, rfl⟩
      case round =>
        obtain ⟨rfl, rfl, rfl⟩ := hrel
        go_wp2_with fail
        refine (distance_any _ _ _).mono ?_
        rintro e w2 ⟨rfl, k2⟩
        rw [HE.out]
        have K2 := Lib.hid (K1.out.trans (k2.mono K1.out.size))
        clear k2
        go_wp2_with fail
        go_ret
        exact ⟨rfl, K2.out⟩
    · have hb' : (b == 0) = false := by simpa using hb
      go_enter Try.func5, Try.ntmps5
      go_wp2_with fail
      refine (awake_any _).mono ?_
      rintro e wA ⟨rfl, kA⟩
      go_wp2_with fail
      refine (distance_any _ _ _).mono ?_
      rintro e w1 ⟨rfl, k1⟩
      rw [HE.out]
      have K1 := Lib.hid (kA.trans (k1.mono kA.size))
      clear kA k1
      go_wp2_with fail
      go_loopw [6, 27] (fun n i wr => ∃ k : Nat, (k : Int) ≤ d ∧ i = .int .i64 k ∧ n = .int .i64 (itr a k) ∧ wr = w1)
        (fun _ i _ => (d - intOf i).toNat)
      case atStart => exact ⟨0, by omega, rfl, rfl, rfl⟩
      case round =>
        obtain ⟨k, hk, rfl, rfl, rfl⟩ := hrel
        by_cases hlt : (k : Int) < d
        · have HK := Lib.hid (show itr a (k + 1) = nx (itr a k) from rfl)
          rcases Nat.eq_zero_or_pos k with h0 | h0
          · subst h0
            go_wp2_with fail
            refine (next_any _ _).mono ?_
            rintro e w' ⟨rfl, rfl⟩
            go_wp2_with fail
            go_roundw
            case rel => exact ⟨1, by omega, rfl, by rw [HK.out], trivial⟩
            case measure => simp [intOf]; omega
          · have hne : (itr a k == b) = false := by simpa using HD3.out k h0 hlt
            have hk0 : (0 : Int) < k := by omega
            go_wp2_with fail
            refine (next_any _ _).mono ?_
            rintro e w' ⟨rfl, rfl⟩
            go_wp2_with fail
            go_roundw
            case rel => exact ⟨k + 1, by omega, by go_num, by rw [HK.out], trivial⟩
            case measure => simp [intOf]; omega
        · rw [HD2.out k (by omega)]
          go_wp2_with fail
          refine (distance_any _ _ _).mono ?_
          rintro e w2 ⟨rfl, k2⟩
          have K2 := Lib.hid (K1.out.trans (k2.mono K1.out.size))
          clear k2
          have hsum : a ≠ 0 → a ≠ b → d + dst b a = 255 := fun h h' => HD5.out h hb h'
          have hd4 := HD4.out
          have HS := Lib.hid hsum
          clear hsum
          generalize dst b a = d' at *
          by_cases hab : a = b
          · obtain rfl := hab
            obtain rfl : d = 0 := hd4.2 rfl
            clear hd4
            go_wp2_with fail
            go_ret
            exact ⟨rfl, K2.out⟩
          · have e1 : (a == b) = false := by simpa using hab
            have e2 : (d == 0) = false := by simpa using fun h => hab (hd4.1 h)
            by_cases ha : a = 0
            · subst ha
              clear hab hd4
              go_wp2_with fail
              go_ret
              exact ⟨rfl, K2.out⟩
            · have e3 : (a == 0) = false := by simpa using ha
              have e4 := HS.out ha hab
              obtain rfl : d' = 255 - d := by omega
              clear hab hd4 ha e4
              have e5 : d + (255 - d) = 255 := by omega
              go_wp2_with fail
              go_ret
              exact ⟨rfl, K2.out⟩
end Go.Proofs.Ytgljfjmffiofkaa
