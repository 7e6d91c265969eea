/-
  Plain law: what CompatComplete asks of Reach's numbers. No program in sight.
-/
import Derived.Test.YtcjbjhkmnfegnaaP6
import Derived.Test.YtcjbjhkmnfegnaaC8
namespace Go.Proofs.Ytcjbjhkmnfegnaa
open Go.RowKit
variable {m n : Nat} {Rw : Nat → R} {S T : Nat → U}
theorem rl_mem {f : Nat → Bool} {x : Nat} : ∀ {k : Nat}, x ∈ rl f k ↔ (x < k ∧ f x = true)
  | 0 => by simp [rl]
  | k + 1 => by
    rw [rl, List.mem_append, rl_mem]
    by_cases e : x = k
    · subst e
      cases h : f x <;> simp
    · constructor
      · rintro (⟨h1, h2⟩ | h)
        · exact ⟨by omega, h2⟩
        · split at h
          · simp at h; exact absurd h e
          · cases h
      · rintro ⟨h1, h2⟩
        exact .inl ⟨by omega, h2⟩
theorem rch_mem (hn : n ≤ 8) {x : Nat} : x ∈ rchL m Rw n S T ↔ (cmp m Rw S n = true ∧ Rd m Rw n S T 0 x) := by
  unfold rchL
  rw [rl_mem, mk_iff hn]
  exact ⟨fun h => h.2, fun h => ⟨(h.2.le hn (by omega)).2, h⟩⟩
theorem rch_zero (hn : n ≤ 8) : (rchL m Rw n S T).contains 0 = cmp m Rw S n := by
  rw [Bool.eq_iff_iff, List.contains_iff_mem, rch_mem hn]
  exact ⟨fun h => h.1, fun h => ⟨h, .refl _⟩⟩
theorem rch_goal (hn : n ≤ 8) : (rchL m Rw n S T).contains (gl S T n) = (OrdR m Rw n S T).isSome := by
  rw [Bool.eq_iff_iff, List.contains_iff_mem, rch_mem hn, ← OrdR_iff hn, Option.isSome_iff_exists]
/-- closed under the single changes that lead to a compatible set -/
theorem rch_step (hn : n ≤ 8) {b k : Nat} (h : b ∈ rchL m Rw n S T) (hk : k < n) (hd : df S T k = true) (hb : b.testBit k = false) : (rchL m Rw n S T).contains (up b k) = cmp m Rw (mx S T (up b k)) n := by
  obtain ⟨h1, h2⟩ := (rch_mem hn).1 h
  rw [Bool.eq_iff_iff, List.contains_iff_mem, rch_mem hn]
  constructor
  · rintro ⟨_, h3⟩
    rcases h3.tail with e | ⟨a, k2, _, _, h5, h6⟩
    · have := up_bit b k k
      rw [← e] at this
      simp at this
    · rw [h6]
      exact (stp_parts h5).2.2
  · intro h3
    exact ⟨h1, h2.trans (.step hk (by simp [stp, hb, hd, h3]) (.refl _))⟩
/-- each marked number but 0 comes from another -/
theorem rch_from (hn : n ≤ 8) {b : Nat} (h : b ∈ rchL m Rw n S T) (h0 : b ≠ 0) : ∃ a k, a ∈ rchL m Rw n S T ∧ k < n ∧ df S T k = true ∧ a.testBit k = false ∧ b = up a k := by
  obtain ⟨h1, h2⟩ := (rch_mem hn).1 h
  rcases h2.tail with e | ⟨a, k, h3, h4, h5, h6⟩
  · exact absurd e.symm h0
  · exact ⟨a, k, (rch_mem hn).2 ⟨h1, h3⟩, h4, (stp_parts h5).2.1, (stp_parts h5).1, h6⟩
theorem rch_sub (hn : n ≤ 8) {b : Nat} (h : b ∈ rchL m Rw n S T) : Sub S T n b := ((rch_mem hn).1 h).2.sub Sub.zero
theorem rl_sorted (f : Nat → Bool) : ∀ k, (rl f k).Pairwise (· < ·)
  | 0 => List.Pairwise.nil
  | k + 1 => by
    rw [rl, List.pairwise_append]
    refine ⟨rl_sorted f k, by split <;> simp, fun x hx y hy => ?_⟩
    have := (rl_mem.1 hx).1
    split at hy
    · simp at hy; omega
    · cases hy
end Go.Proofs.Ytcjbjhkmnfegnaa
