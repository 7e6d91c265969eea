/-
  The contract of the law's own helper Units, at two equal slices of units. And of a road: the numbers that it goes through. No condition.
-/
import Derived.Test.YtcjbjhkmnfegnaaN1
import Derived.Test.YtcjbjhkmnfegnaaP5
import Derived.Test.YtcjbjhkmnfegnaaM3
import Derived.Test.YtcjbjhkmnfegnaaAW
import Derived.Test.YtcjbjhkmnfegnaaM1
import Derived.BigQuiet
namespace Go.Proofs.Ytcjbjhkmnfegnaa
open Go.RowKit Go.Shelf
set_option maxHeartbeats 4000000 in
theorem units_same (A1 A2 : Option Addr) (n c1 c2 : Nat) (S : Nat → U) (w : World) (hS : UnitsIn w A1 n S) (hT : UnitsIn w A2 n S) :
    Calls Try.prog 23 #[.slice A1 n c1, .slice A2 n c2] w fun e w' => e = .returned (.bool true) ∧ Below w.heap.size w w' := by
  have HS := Lib.hid hS
  have HT := Lib.hid hT
  have hmax := hS.1
  clear hS hT
  go_enter Try.func23, Try.ntmps23
  go_wp2_with fail
  go_loopw [13] (fun i wr => ∃ k : Nat, k ≤ n ∧ i = .int .i64 k ∧ Below w.heap.size w wr) (fun i _ => n - (intOf i).toNat)
  case atStart => exact ⟨0, Nat.zero_le _, rfl, Below.refl _ _⟩
  case round =>
    obtain ⟨k, hk, rfl, kr⟩ := hrel
    by_cases hlt : k < n
    · obtain ⟨ob, off, rfl, hob, hcell⟩ := HS.out.2 (by omega)
      obtain ⟨q6, q7⟩ := hcell k hlt
      clear hcell
      obtain ⟨ob2, off2, rfl, hob2, hcell⟩ := HT.out.2 (by omega)
      obtain ⟨q8, q9⟩ := hcell k hlt
      clear hcell
      have y6 := (kr.cell (p := ⟨ob, off + k * 2, none⟩) hob).trans q6
      have y7 := (kr.cell (p := ⟨ob, off + k * 2 + 1, none⟩) hob).trans q7
      have y8 := (kr.cell (p := ⟨ob2, off2 + k * 2, none⟩) hob2).trans q8
      have y9 := (kr.cell (p := ⟨ob2, off2 + k * 2 + 1, none⟩) hob2).trans q9
      clear q6 q7 q8 q9
      generalize (S k).1 = sa at *
      generalize (S k).2 = sv at *
      have g1 : decide (n ≤ k) = false := decide_eq_false (by omega)
      have g2 : decide ((k : Int) < 0) = false := decide_eq_false (by omega)
      have g3 : (k : Int) < n := by omega
      have KR := Lib.hid kr
      clear kr
      go_wp2_with (go_quiet (fail))
      go_roundw
      case rel => exact ⟨k + 1, by omega, by go_num, belowN KR.out⟩
      case measure => simp [intOf]; omega
    · have g3 : decide ((k : Int) < n) = false := decide_eq_false (by omega)
      go_wp2_with fail
      go_ret
      exact ⟨rfl, kr⟩
/-! ### the numbers of a road -/
section
variable {m : Nat} {Rw : Nat → R} {n : Nat} {S T : Nat → U}
theorem Gp.fold {p : List Nat} {b : Nat} (h : Gp m Rw n S T p b) : b = p.foldl up 0 := by
  induction h with
  | start => rfl
  | more h _ _ ih => rw [List.foldl_append, ← ih]; rfl
theorem Gp.pre {p : List Nat} {c : Nat} (h : Gp m Rw n S T p c) : ∀ j, ∃ b, Gp m Rw n S T (p.take j) b := by
  induction h with
  | start => intro j; exact ⟨0, by simpa using Gp.start⟩
  | @more p b k h h1 h2 ih =>
    intro j
    by_cases hj : j ≤ p.length
    · rw [List.take_append_of_le_length hj]
      exact ih j
    · rw [List.take_of_length_le (by simp; omega)]
      exact ⟨_, .more h h1 h2⟩
theorem sub_lt {b : Nat} (h : Sub S T n b) : b < 2 ^ n := by
  refine Nat.lt_pow_two_of_testBit _ (fun j hj => ?_)
  cases hb : b.testBit j with
  | false => rfl
  | true =>
    have := h j hb
    rw [gl_bit] at this
    simp [show ¬ j < n by omega] at this
theorem fits_mix {b : Nat} (h1 : Fits S n) (h2 : Fits T n) : Fits (mx S T b) n := by
  intro k hk
  unfold mx
  split
  · exact h2 k hk
  · exact h1 k hk
theorem valid_mix {b : Nat} (h : chg n n S T = true) : (decide (n ≤ 8) && dis (mx S T b) n) = true := by
  obtain ⟨h1, _, h3, h4⟩ := chg_parts h
  rw [dis_congr (Y := S) (fun k hk => by unfold mx; split <;> simp [h4 k hk]), h3]
  simp [h1]
end
end Go.Proofs.Ytcjbjhkmnfegnaa
