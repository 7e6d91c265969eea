/-
  The walk of the law PoliceRefills: at every three ints and a uint8 it returns true and leaves what was there as it was. No condition.
-/
import Derived.Test.YtknfhbhaencdjaaAwake
namespace Go.Proofs.Ytknfhbhaencdjaa
open Go.RowKit

def lvB (B S J q : Int) (k : Nat) : Int := S * (B + J) - (min (k : Int) q) * (S * B)
theorem lvB_step {B S J : Int} (hB : 1 ≤ B) (hS : 1 ≤ S) (hJ : 0 ≤ J) (k : Nat) :
    Pol.good B S J (lvB B S J ((B + J) / B) k) 0 0 S = decide ((k : Int) < (B + J) / B) ∧ Pol.next B S J (lvB B S J ((B + J) / B) k) 0 0 S = lvB B S J ((B + J) / B) (k + 1) := by
  have hq : 0 ≤ (B + J) / B := Int.ediv_nonneg (by omega) (by omega)
  obtain ⟨h1, h2⟩ := Pol.burst_step (i := min (k : Int) ((B + J) / B)) hB hS hJ (by omega) (by omega)
  unfold lvB
  rw [h1, h2]
  refine ⟨decide_eq_decide.2 (by omega), ?_⟩
  congr 2
  split <;> omega
theorem lvB_bd {B S J : Int} (hB : 1 ≤ B) (hS : 1 ≤ S) (hJ : 0 ≤ J) (k : Nat) : 0 ≤ lvB B S J ((B + J) / B) k ∧ lvB B S J ((B + J) / B) k ≤ S * (B + J) := by
  have hq : 0 ≤ (B + J) / B := Int.ediv_nonneg (by omega) (by omega)
  obtain ⟨r1, r2, r3⟩ := Pol.rest_bd hB hS hJ
  have hSB : 0 ≤ S * B := Int.mul_nonneg (by omega) (by omega)
  have h1 : min (k : Int) ((B + J) / B) * (S * B) ≤ (B + J) / B * (S * B) := Int.mul_le_mul_of_nonneg_right (by omega) hSB
  have h2 : 0 ≤ min (k : Int) ((B + J) / B) * (S * B) := Int.mul_nonneg (by omega) hSB
  unfold lvB
  omega

theorem Acc.drewN {w : World} {pb : Nat} {B S J L C : Int} (h : Acc w pb B S J L C) (n : Nat) : Acc (w.drewN n) pb B S J L C := h

set_option maxRecDepth 100000 in
set_option maxHeartbeats 4000000 in
theorem lawRefills (b0 s0 j0 m : Int) (w : World) (m1 : 0 ≤ m) (m2 : m ≤ 255) :
    Calls Try.prog 5 #[.int .i64 b0, .int .i64 s0, .int .i64 j0, .int .u8 m] w fun e w' => e = .returned (.bool true) ∧ Below w.heap.size w w' := by
  have hok := contract_okC b0 s0 j0
  obtain ⟨B, hB, hB1, hB2⟩ : ∃ B, 1 + b0 % 300 = B ∧ 1 ≤ B ∧ B ≤ 300 := ⟨_, rfl, by omega, by omega⟩
  obtain ⟨S, hS, hS1, hS2⟩ : ∃ S, 1 + s0 % 80 = S ∧ 1 ≤ S ∧ S ≤ 80 := ⟨_, rfl, by omega, by omega⟩
  obtain ⟨J, hJ, hJ1, hJ2⟩ : ∃ J, j0 % 501 = J ∧ 0 ≤ J ∧ J ≤ 500 := ⟨_, rfl, by omega, by omega⟩
  rw [hB, hS, hJ] at hok
  have HB := Lib.hid hB
  have HS := Lib.hid hS
  have HJ := Lib.hid hJ
  obtain ⟨q, hq, hq0, hq1⟩ : ∃ q, (B + J) / B = q ∧ 0 ≤ q ∧ q ≤ 1000 := ⟨_, rfl, Int.ediv_nonneg (by omega) (by omega), Int.le_trans (Int.ediv_le_self _ (by omega)) (by omega)⟩
  have HQ := Lib.hid hq
  clear hB hS hJ hq
  have u1 : IntKind.i64.wrap (B + J) = B + J := IntWalk.i64_in _ (by omega)
  have u2 : IntKind.i64.wrap ((B + J).tdiv B) = q := by rw [wrap_quo (by omega) (by omega) hB1]; exact HQ.out
  have u3 : (B == 0) = false := by simp; omega
  go_enter Try.func5, Try.ntmps5
  go_wp2_with fail
  refine (awake_any _).mono ?_
  rintro e wA ⟨rfl, kA⟩
  go_wp2_with fail
  refine (contract_any _ _ _ _).mono ?_
  rintro e w' ⟨rfl, rfl⟩
  rw [HB.out, HS.out, HJ.out]
  go_wp2_with fail
  refine (new_ok _ _ _ _ hok).mono ?_
  rintro e wN ⟨pb, rfl, hpb, kN, hacc⟩
  have kW : Below w.heap.size w wN := kA.trans (kN.mono kA.size)
  have hpw : w.heap.size ≤ pb := Nat.le_trans kA.size hpb
  go_wp2_with fail
  go_quiet ((go_at_call 18; exact Calls.quiet_of_same ((level_any pb _ _ _ _ _ _ (hacc.drewN _)).mono fun _ _ h => ⟨h.1, h.2.symm⟩)))
  go_wp2_with fail
  have kD : Below w.heap.size w (wN.drewN nq) := ⟨kW.os, kW.tape, kW.output, kW.size, kW.block⟩
  have HLS : Hid (∀ k : Nat, Pol.good B S J (lvB B S J q k) 0 0 S = decide ((k : Int) < q) ∧ Pol.next B S J (lvB B S J q k) 0 0 S = lvB B S J q (k + 1)) := Lib.hid (by rw [← HQ.out]; exact lvB_step hB1 hS1 hJ1)
  have HLB : Hid (∀ k : Nat, 0 ≤ lvB B S J q k ∧ lvB B S J q k ≤ S * (B + J)) := Lib.hid (by rw [← HQ.out]; exact lvB_bd hB1 hS1 hJ1)
  go_loopw [14] (fun i wr => ∃ k : Nat, (k : Int) ≤ q + 1 ∧ i = .int .i64 k ∧ Acc wr pb B S J (lvB B S J q k) 0 ∧ Below w.heap.size w wr)
    (fun i _ => (q + 1 - intOf i).toNat)
  case atStart => exact ⟨0, by omega, rfl, by rw [show lvB B S J q 0 = S * (B + J) by unfold lvB; rw [Int.min_eq_left (by omega), Int.natCast_zero, Int.zero_mul, Int.sub_zero]]; exact hacc.drewN _, kD⟩
  case round =>
    obtain ⟨k, hk, rfl, hac, kB⟩ := hrel
    have hsz := kB.size
    obtain ⟨hl1, hl2⟩ := HLB.out k
    by_cases hlt : (k : Int) ≤ q
    · by_cases hq : (k : Int) < q
      · go_wp2_with (go_at_call 16; refine (pass_to (b := true) pb _ _ _ _ _ _ _ _ hok hac hl1 hl2 (by omega) (by omega) (by omega) (by omega) (by omega) (by rw [(HLS.out k).1]; simp [hq]) (HLS.out k).2).mono ?_; rintro e w1 ⟨rfl, hac1, hg1⟩)
        have kB1 : Below w.heap.size w w1 := kB.grown hg1 hsz (fun j e => by cases e; exact hpw)
        go_roundw
        case rel => exact ⟨k + 1, by omega, by go_num, hac1, kB1⟩
        case measure => simp [intOf]; omega
      · go_wp2_with (go_at_call 16; refine (pass_to (b := false) pb _ _ _ _ _ _ _ _ hok hac hl1 hl2 (by omega) (by omega) (by omega) (by omega) (by omega) (by rw [(HLS.out k).1]; simp; omega) (HLS.out k).2).mono ?_; rintro e w1 ⟨rfl, hac1, hg1⟩)
        have kB1 : Below w.heap.size w w1 := kB.grown hg1 hsz (fun j e => by cases e; exact hpw)
        go_roundw
        case rel => exact ⟨k + 1, by omega, by go_num, hac1, kB1⟩
        case measure => simp [intOf]; omega
    · have ek : (k : Int) = q + 1 := by omega
      obtain ⟨L, hL⟩ : ∃ L, L = lvB B S J q k := ⟨_, rfl⟩
      have hr := Pol.rest_bd hB1 hS1 hJ1
      rw [HQ.out] at hr
      have eL : L = S * (B + J) - q * (S * B) := by rw [hL, lvB, Int.min_eq_right (by omega)]
      rw [← eL] at hr
      obtain ⟨x0, x1, x2⟩ := hr
      rw [← hL] at hac
      have HRS : Hid (∀ C : Int, Pol.good B S J L C (C + B) S = true ∧ Pol.next B S J L C (C + B) S = L ∧ Pol.good B S J L (C + B) (C + B) S = false ∧ Pol.next B S J L (C + B) (C + B) S = L) := Lib.hid (fun C => Pol.refill_step hB1 hS1 hJ1 x0 x1 x2)
      have HFA : Hid (∀ C : Int, Pol.good B S J L C (C + B + J) (S + 1) = false ∧ Pol.next B S J L C (C + B + J) (S + 1) = S * (B + J)) := Lib.hid (fun C => Pol.full_again hB1 hS1 hJ1 x0)
      have hLc : L ≤ S * (B + J) := by rw [hL]; exact hl2
      have hmd : 0 ≤ m % 20 ∧ m % 20 < 20 := by omega
      obtain ⟨md0, md1⟩ := hmd
      have HE := Lib.hid ek
      clear hL eL ek
      go_wp2
      obtain ⟨wo, rfl⟩ : ∃ wo : World, wo = wr := ⟨_, rfl⟩
      go_loopw [13, 17] (fun t i wr => ∃ (k : Nat) (C : Int), (k : Int) ≤ m % 20 ∧ i = .int .i64 k ∧ t = .int .i64 C ∧ 0 ≤ C ∧ C ≤ 300 * k ∧ Acc wr pb B S J L C ∧ Below w.heap.size w wr)
        (fun _ i _ => (20 - intOf i).toNat)
      case atStart => exact ⟨0, 0, by omega, rfl, rfl, by omega, by omega, hac, kB⟩
      case round =>
        obtain ⟨k2, C, hk2, rfl, rfl, hC0, hC1, hac2, kB2⟩ := hrel
        have hsz2 := kB2.size
        by_cases hlt2 : (k2 : Int) < m % 20
        · go_wp2_with fail
          refine (pass_to (b := true) (L' := L) pb _ _ _ _ _ _ _ _ hok hac2 x0 hLc (by omega) (by omega) (by omega) (by omega) (by omega) (HRS.out C).1 (HRS.out C).2.1).mono ?_
          rintro e w1 ⟨rfl, hac3, hg3⟩
          have kB3 : Below w.heap.size w w1 := kB2.grown hg3 hsz2 (fun j e => by cases e; exact hpw)
          go_wp2_with fail
          refine (pass_to (b := false) (L' := L) pb _ _ _ _ _ _ _ _ hok hac3 x0 hLc (by omega) (by omega) (by omega) (by omega) (by omega) (HRS.out C).2.2.1 (HRS.out C).2.2.2).mono ?_
          rintro e w2 ⟨rfl, hac4, hg4⟩
          have kB4 : Below w.heap.size w w2 := kB3.grown hg4 kB3.size (fun j e => by cases e; exact hpw)
          go_wp2_with fail
          go_roundw
          case rel => exact ⟨k2 + 1, C + B, by omega, by go_num, rfl, by omega, by omega, hac4, kB4⟩
          case measure => simp [intOf]; omega
        · go_wp2_with fail
          refine (pass_to (b := false) (L' := S * (B + J)) pb _ _ _ _ _ _ _ _ hok hac2 x0 hLc (by omega) (by omega) (by omega) (by omega) (by omega) (HFA.out C).1 (HFA.out C).2).mono ?_
          rintro e w1 ⟨rfl, hac3, hg3⟩
          have kB3 : Below w.heap.size w w1 := kB2.grown hg3 hsz2 (fun j e => by cases e; exact hpw)
          have hm0 : 0 ≤ S * (B + J) := Int.mul_nonneg (by omega) (by omega)
          have hm1 : S * (B + J) ≤ 80 * (B + J) := Int.mul_le_mul_of_nonneg_right hS2 (by omega)
          have hm2 : S * (B + J) ≤ 64000 := by omega
          clear hm1 x1 x2 u1 u2 u3 hLc x0 hl1 hl2 hlt hk hac hac2 kB kB2
          go_wp2_with fail
          refine (level_any pb _ _ _ _ _ _ hac3).mono ?_
          rintro e w' ⟨rfl, rfl⟩
          go_wp2_with fail
          go_ret
          exact ⟨rfl, kB3⟩
end Go.Proofs.Ytknfhbhaencdjaa
