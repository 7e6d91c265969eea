/-
  Plain law: the marks of Reach are the numbers to which a road leads. No program in sight.
-/
import Derived.Test.YtcjbjhkmnfegnaaP5
namespace Go.Proofs.Ytcjbjhkmnfegnaa
open Go.RowKit
variable {m n : Nat} {Rw : Nat → R} {S T : Nat → U}
theorem Rd.tail {b c : Nat} (h : Rd m Rw n S T b c) : b = c ∨ ∃ a k, Rd m Rw n S T b a ∧ k < n ∧ stp m Rw n S T a k = true ∧ c = up a k := by
  induction h with
  | refl => exact .inl rfl
  | @step b k c hk hs hr ih =>
    rcases ih with rfl | ⟨a, k2, h1, h2, h3, h4⟩
    · exact .inr ⟨b, k, .refl _, hk, hs, rfl⟩
    · exact .inr ⟨a, k2, .step hk hs h1, h2, h3, h4⟩
theorem mk_mono {i j b : Nat} (h : i ≤ j) (hm : mk m Rw n S T i b = true) : mk m Rw n S T j b = true := by
  induction j with
  | zero => obtain rfl : i = 0 := by omega
            exact hm
  | succ j ih =>
    by_cases e : i = j + 1
    · rw [← e]; exact hm
    · rw [mk, ih (by omega)]
      rfl
theorem mk_rd : ∀ (j b : Nat), mk m Rw n S T j b = true → cmp m Rw S n = true ∧ Rd m Rw n S T 0 b
  | 0, b, h => by
    rw [mk] at h
    simp only [Bool.and_eq_true, decide_eq_true_eq] at h
    exact ⟨h.2, by rw [h.1]; exact .refl _⟩
  | j + 1, b, h => by
    rw [mk] at h
    simp only [Bool.or_eq_true, Bool.and_eq_true, List.any_eq_true, beq_iff_eq] at h
    rcases h with h | ⟨h1, x, hx, hb⟩
    · exact mk_rd j b h
    · obtain ⟨i1, i2⟩ := mk_rd j j h1
      obtain ⟨e1, e2, e3⟩ := elsS_mem hx
      exact ⟨i1, i2.trans (.step e1 e2 (by rw [← e3, hb]; exact .refl _))⟩
theorem rd_mk (hn : n ≤ 8) (hc : cmp m Rw S n = true) (j b : Nat) (hj : b ≤ j) (h : Rd m Rw n S T 0 b) : mk m Rw n S T j b = true := by
  induction b using Nat.strongRecOn generalizing j with
  | _ b ih =>
    rcases h.tail with rfl | ⟨a, k, h1, h2, h3, rfl⟩
    · exact mk_mono (Nat.zero_le _) (by simp [mk, hc])
    · have ha := (h1.le hn (by omega)).2
      have hu := stp_up hn ha h2 h3
      refine mk_mono (i := a + 1) (by omega) ?_
      rw [mk, ih a hu.1 a (Nat.le_refl _) h1]
      simp only [Bool.true_and, Bool.or_eq_true, List.any_eq_true, beq_iff_eq]
      exact .inr ⟨_, elsS_has h2 h3, rfl⟩
theorem Rd.sub {b c : Nat} (h : Rd m Rw n S T b c) : Sub S T n b → Sub S T n c := by
  induction h with
  | refl => exact id
  | step hk hs _ ih => exact fun hb => ih (hb.up hk (stp_parts hs).2.1)
theorem sub_pow {b : Nat} (h : Sub S T n b) : b < 2 ^ n := Nat.lt_pow_two_of_testBit _ fun j hj => by
  cases hb : b.testBit j with
  | false => rfl
  | true =>
    have := h j hb
    rw [gl_bit] at this
    simp [show ¬ j < n by omega] at this
/-- a number is marked just where the old set is compatible and a road leads to it -/
theorem mk_iff (hn : n ≤ 8) (b : Nat) : mk m Rw n S T (2 ^ n) b = true ↔ (cmp m Rw S n = true ∧ Rd m Rw n S T 0 b) :=
  ⟨mk_rd _ b, fun h => rd_mk hn h.1 _ b (Nat.le_of_lt (sub_pow (h.2.sub Sub.zero))) h.2⟩
/-- the goal is marked just where there is an order -/
theorem mk_goal (hn : n ≤ 8) : mk m Rw n S T (2 ^ n) (gl S T n) = true ↔ ∃ p, OrdR m Rw n S T = some p := by
  rw [mk_iff hn, OrdR_iff hn]
end Go.Proofs.Ytcjbjhkmnfegnaa
