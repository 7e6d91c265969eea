/-
  The walk of the law IntegrityGap: at every two uint8s it returns true and leaves what was there as it was. No condition.
-/
import Derived.Test.YtgljfjmffiofkaaAw
namespace Go.Proofs.Ytgljfjmffiofkaa
open Go.RowKit
theorem itr_num {a : Int} (ha : isN a = true) : ∀ k, isN (itr a k) = true ∧ (0 < k → 1 ≤ itr a k)
  | 0 => ⟨ha, fun h => by omega⟩
  | k + 1 => by
    obtain ⟨h0, h1⟩ := isN_true (itr_num ha k).1
    have e : itr a (k + 1) = if itr a k = 255 then 1 else itr a k + 1 := nx_num h0 h1
    rw [e]
    split
    · exact ⟨by decide, fun _ => by omega⟩
    · exact ⟨isN_mk (by omega) (by omega), fun _ => by omega⟩
theorem adm_dst {a n : Int} (ha : isN a = true) (h1 : 1 ≤ n) (h2 : n ≤ 255) : adm true a n = (decide (dst a n = 1) || decide (dst a n = 2)) := by
  obtain ⟨a0, a1⟩ := isN_true ha
  have hd : dst a n = if a = 0 then n else (n - a) % 255 := by
    unfold dst
    rw [if_pos ⟨ha, isN_mk (by omega) h2⟩]
    split
    · rfl
    · rw [if_neg (by omega)]
  have e1 : nx a = if a = 255 then 1 else a + 1 := nx_num a0 a1
  have e2 : nx (nx a) = if nx a = 255 then 1 else nx a + 1 := nx_num (by rw [e1]; split <;> omega) (by rw [e1]; split <;> omega)
  unfold adm
  rw [Bool.eq_iff_iff]
  simp only [Bool.or_eq_true, decide_eq_true_eq, Bool.not_true]
  rw [hd, e2, e1]
  constructor
  · intro h
    split at h <;> split <;> simp at h <;> omega
  · intro h
    split at h <;> split <;> simp <;> omega
theorem adm_next (n : Int) : adm true n (nx n) = true := by simp [adm]

set_option maxHeartbeats 4000000 in
theorem lawGap (x g : Int) (w : World) (x0 : 0 ≤ x) (x1 : x ≤ 255) (g0 : 0 ≤ g) (g1 : g ≤ 255) : Calls Try.prog 4 #[.int .u8 x, .int .u8 g] w fun e w' => e = .returned (.bool true) ∧ Below w.heap.size w w' := by
  have hN := Lib.hid (isN_mk x0 x1)
  go_enter Try.func4, Try.ntmps4
  go_wp2_with fail
  refine (awake_any _).mono ?_
  rintro e wA ⟨rfl, kA⟩
  go_wp2_with fail
  refine (new_any _).mono ?_
  rintro e wN ⟨fb, rfl, hfb, kN, hf⟩
  have K1 := Lib.hid (kA.trans (kN.mono kA.size))
  have hpw : w.heap.size ≤ fb := Nat.le_trans kA.size hfb
  go_wp2_with fail
  refine (accept_ok true fb x 0 0 0 false _ hf hN.out (by omega) (by omega) (by omega) (by omega) (by simp [adm])).mono ?_
  rintro e w2 ⟨rfl, hf2, hg2⟩
  have K2 := Lib.hid (K1.out.grown hg2 K1.out.size (fun j e => by cases e; exact hpw))
  clear kA kN hg2 hf hfb
  go_wp2_with fail
  go_loopw [6, 30] (fun n i wr => ∃ k : Nat, (k : Int) ≤ g + 1 ∧ i = .int .i64 k ∧ n = .int .i64 (itr x k) ∧ wr = w2)
    (fun _ i _ => (g + 1 - intOf i).toNat)
  case atStart => exact ⟨0, by omega, rfl, rfl, rfl⟩
  case round =>
    obtain ⟨k, hk, rfl, rfl, rfl⟩ := hrel
    by_cases hlt : (k : Int) < g + 1
    · have HK := Lib.hid (show itr x (k + 1) = nx (itr x k) from rfl)
      go_wp2_with fail
      refine (next_any _ _).mono ?_
      rintro e w' ⟨rfl, rfl⟩
      go_wp2_with fail
      go_roundw
      case rel => exact ⟨k + 1, by omega, by go_num, by rw [HK.out], trivial⟩
      case measure => simp [intOf]; omega
    · obtain ⟨n, hn⟩ : ∃ n, itr x k = n := ⟨_, rfl⟩
      obtain ⟨q1, q2⟩ := itr_num hN.out k
      rw [hn] at q1 q2
      have q3 := q2 (by omega)
      obtain ⟨q4, q5⟩ := isN_true q1
      obtain ⟨q6, q7⟩ := itr_num q1 1
      have HA := Lib.hid (adm_dst hN.out q3 q5)
      have HQ := Lib.hid q1
      have HQ2 : Hid (isN (nx n) = true) := Lib.hid q6
      rw [hn]
      clear hn q1 q2 q6 q7
      obtain ⟨b, hb⟩ : ∃ b, adm true x n = b := ⟨_, rfl⟩
      have HB := Lib.hid hb
      have hA := HA.out
      rw [hb] at hA
      have HA2 := Lib.hid hA
      clear hb hA
      go_wp2_with fail
      refine (accept_ok b fb n 1 0 x true _ hf2 HQ.out (by omega) (by omega) (by omega) (by omega) HB.out).mono ?_
      rintro e w3 ⟨rfl, hf3, hg3⟩
      have K3 := Lib.hid (K2.out.grown hg3 K2.out.size (fun j e => by cases e; exact hpw))
      clear hg3 hf2
      go_wp2_with fail
      refine (next_any _ _).mono ?_
      rintro e w' ⟨rfl, rfl⟩
      go_wp2_with fail
      refine (accept_ok true fb (nx n) _ _ n true _ hf3 HQ2.out (by cases b <;> decide) (by cases b <;> decide) (by cases b <;> decide) (by cases b <;> decide) (adm_next n)).mono ?_
      rintro e w4 ⟨rfl, hf4, hg4⟩
      have K4 := Lib.hid (K3.out.grown hg4 K3.out.size (fun j e => by cases e; exact hpw))
      clear hg4 hf3 hf4
      go_wp2_with fail
      refine (distance_any _ _ _).mono ?_
      rintro e w5 ⟨rfl, kD⟩
      have K5 := Lib.hid (K4.out.trans (kD.mono K4.out.size))
      clear kD
      generalize dst x n = d at *
      by_cases d1 : d = 1
      · subst d1
        obtain rfl : b = true := by have := HA2.out; simpa using this
        go_wp2_with fail
        go_ret
        exact ⟨rfl, K5.out⟩
      · by_cases d2 : d = 2
        · subst d2
          obtain rfl : b = true := by have := HA2.out; simpa using this
          go_wp2_with fail
          go_ret
          exact ⟨rfl, K5.out⟩
        · obtain rfl : b = false := by have := HA2.out; simpa [d1, d2] using this
          have e1 : (d == 1) = false := by simpa using d1
          have e2 : (d == 2) = false := by simpa using d2
          clear d1 d2
          go_wp2_with fail
          go_ret
          exact ⟨rfl, K5.out⟩
end Go.Proofs.Ytgljfjmffiofkaa
