/-
  The contract of the document's own Reach (nacelleref39). Conditions: the sets are a change.
-/
import Derived.Test.YtcjbjhkmnfegnaaT5
import Derived.Test.YtcjbjhkmnfegnaaO1
namespace Go.Proofs.Ytcjbjhkmnfegnaa
open Go.RowKit Go.Shelf
set_option maxRecDepth 100000 in
set_option maxHeartbeats 2000000 in
theorem rreach_any (A1 A2 A3 : Option Addr) (n c1 c2 m c3 : Nat) (S T : Nat → U) (Rw : Nat → R) (h8 : n ≤ 8) (hM : ∀ k, k < n → (S k).1 = (T k).1) (w : World) (hS : UnitsIn w A1 n S) (hT : UnitsIn w A2 n T) (hR : RowsIn w A3 m Rw) :
    Calls Try.prog 27 #[.slice A3 m c3, .slice A1 n c1, .slice A2 n c2] w fun e w' => (∃ A c, e = .returned (.slice A (rchL m Rw n S T).length c) ∧ NumsIn w' A (rchL m Rw n S T)) ∧ Below w.heap.size w w' := by
  obtain ⟨i0, hi, hz0, hz1, hz2⟩ := info_parts Try.info3'
  have hi' := Lib.hid hi
  have hz0' := Lib.hid hz0
  have hz1' := Lib.hid hz1
  have hz2' := Lib.hid hz2
  have hpw := pow8_le h8
  have HL := Lib.hid (rchL_list (m := m) (Rw := Rw) (S := S) (T := T) h8)
  have HC := Lib.hid (fun (k : Nat) (hk : k < 256) (V : World) (hV : Below w.heap.size w V) => rreachable_any A1 A2 A3 n c1 c2 m c3 S T Rw h8 hM k hk V (hS.below hV (Nat.le_refl _)) (hT.below hV (Nat.le_refl _)) (hR.below hV (Nat.le_refl _)))
  obtain ⟨f, hf⟩ : ∃ f, rch m Rw n S T = f := ⟨_, rfl⟩
  rw [hf] at HC HL
  obtain ⟨L, hL⟩ : ∃ L, rchL m Rw n S T = L := ⟨_, rfl⟩
  rw [hL] at HL
  rw [hL]
  obtain ⟨N, hN⟩ : ∃ N, 2 ^ n = N := ⟨_, rfl⟩
  rw [hN] at HL hpw
  have HN := Lib.hid hN
  clear hf hL hN hi hz0 hz1 hz2 hS hT hR hM
  go_enter Try.func27, Try.ntmps27
  go_wp2_with fail
  go_loopw [7, 8] (fun pv iv wr => ∃ k : Nat, k ≤ n ∧ iv = .int .i64 k ∧ pv = .int .i64 ((2 ^ k : Nat)) ∧ Below w.heap.size w wr)
    (fun _ i _ => n - (intOf i).toNat)
  case atStart => exact ⟨0, Nat.zero_le _, rfl, rfl, Below.refl _ _⟩
  case round =>
    obtain ⟨k, hk, rfl, rfl, kr⟩ := hrel
    have KR := Lib.hid kr
    clear kr
    by_cases hlt : k < n
    · have hp1 : 2 ^ k ≤ 128 := Nat.le_trans (Nat.pow_le_pow_right (by decide) (show k ≤ 7 by omega)) (by decide)
      have HPN : Hid (2 ^ (k + 1) = 2 * 2 ^ k) := Lib.hid (by rw [Nat.pow_succ, Nat.mul_comm])
      obtain ⟨p, hp⟩ : ∃ p, 2 ^ k = p := ⟨_, rfl⟩
      rw [hp] at hp1 HPN
      rw [hp]
      clear hp
      have g3 : (k : Int) < n := by omega
      go_wp2_with fail
      go_roundw
      case rel => exact ⟨k + 1, by omega, by go_num, by rw [HPN.out]; first | rfl | (push_cast; rfl) | go_num, KR.out⟩
      case measure => simp [intOf]; omega
    · obtain rfl : n = k := by omega
      rw [HN.out]
      have gnn : decide ((n : Int) < n) = false := decide_eq_false (by omega)
      rename World => wo
      go_wp2_with fail
      go_loopw [9, 10] (fun v bv wr => ∃ k : Nat, k ≤ N ∧ bv = .int .i64 k ∧ wr.ownsRow w.heap.size 3 1 v (rl f k).length (nV (rl f k)) ∧ Below w.heap.size w wr)
        (fun _ i _ => N - (intOf i).toNat)
      case atStart => exact ⟨0, Nat.zero_le _, rfl, World.ownsRow_nil _ _ _ _, KR.out⟩
      case round =>
        obtain ⟨b, hb, rfl, hrow, kr⟩ := hrel
        have KB := Lib.hid kr
        clear kr
        by_cases hlt : b < N
        · have hle := rl_len f b
          have hb3 : (b : Int) < N := by omega
          have H1 := Lib.hid (HC.out b (by omega) wr KB.out)
          have HRW := Lib.hid hrow
          clear hrow
          cases hfk : f b with
          | false =>
            have HR1 : Hid (rl f (b + 1) = rl f b) := Lib.hid (by rw [rl, hfk]; simp)
            rw [hfk] at H1
            clear hfk
            go_wp2_with fail
            refine H1.out.mono ?_
            rintro e wx ⟨rfl, kx⟩
            have RX := Lib.hid (own_below HRW.out kx)
            have KX := Lib.hid (KB.out.trans (kx.mono KB.out.size))
            clear kx
            go_wp2_with fail
            go_roundw
            case rel => exact ⟨b + 1, by omega, by go_num, by rw [HR1.out]; exact RX.out, KX.out⟩
            case measure => simp [intOf]; omega
          | true =>
            have HR1 : Hid (rl f (b + 1) = rl f b ++ [b]) := Lib.hid (by rw [rl, hfk]; simp)
            rw [hfk] at H1
            clear hfk
            go_wp2_with fail
            refine H1.out.mono ?_
            rintro e wx ⟨rfl, kx⟩
            have RX := Lib.hid (own_below HRW.out kx)
            have KX := Lib.hid (KB.out.trans (kx.mono KB.out.size))
            clear kx
            go_wp2_with (at_builtin; refine wpList_append_own _ rfl _ _ 25 rfl w.heap.size 3 i0 (.int .i64 0) 1 8 Try.underlying25 hi'.out hz0'.out hz1'.out hz2'.out rfl (by decide) _ _ _ rfl (RX.out.alloc _) ⟨wx.heap.size, 0, none⟩ 1 1 [.int .i64 (b : Int)] rfl rfl (new_one _ _ _) (one_one _) (by unfold maxLen; omega) (by omega) (by have := KX.out.size; simp; omega) ?_; intro v' w2 hrow2 hg2 _)
            have kB2 : Below w.heap.size w w2 := (KX.out.alloc KX.out.size _).grown hg2 (by have := KX.out.size; simp; omega) (fun j e => (RX.out.lt j e).1)
            go_roundw
            case rel => exact ⟨b + 1, by omega, by go_num, by rw [HR1.out]; simpa [nV] using hrow2, kB2⟩
            case measure => simp [intOf]; omega
        · have hbN : b = N := by omega
          have HRL : Hid (rl f b = L) := Lib.hid (by rw [hbN]; exact HL.out)
          have gbn : decide ((b : Int) < N) = false := decide_eq_false (by omega)
          rw [HRL.out] at hrow
          obtain ⟨A, c, rfl, hu⟩ := own_nums hrow
          have HU := Lib.hid hu
          clear hu hrow hbN
          go_wp2_with fail
          go_ret
          exact ⟨⟨A, c, rfl, HU.out⟩, KB.out⟩
end Go.Proofs.Ytcjbjhkmnfegnaa
