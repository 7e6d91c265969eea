/-
  Contracts of the small functions of package police and of the kit: Pick, valid, capacity, New. Conditions: Pick's second number is from 1 to 100000; the others at contracts that are ones, and New at those that are not.
-/
import Derived.Test.YtknfhbhaencdjaaProg
import Derived.Test.YtknfhbhaencdjaaMem
import Derived.Test.YtknfhbhaencdjaaPlain
import Derived.WalkSpells
import Derived.WalkLawsBesides
import Derived.Deep.QuietTactic
import Derived.BigQuiet
import Derived.Deep.RegionWith
import Derived.Deep.RegionHeld3
import Derived.Lib.Hide
import Derived.Outline
namespace Go.Proofs.Ytknfhbhaencdjaa
open Go.RowKit
/-- what 'valid' says of three numbers -/
def okC (B S J : Int) : Bool := decide (1 ≤ B) && decide (B ≤ 12800) && decide (1 ≤ S) && decide (S ≤ 2048) && decide (0 ≤ J) && decide (J ≤ 1048576)
theorem okC_true {B S J : Int} (h : okC B S J = true) : 1 ≤ B ∧ B ≤ 12800 ∧ 1 ≤ S ∧ S ≤ 2048 ∧ 0 ≤ J ∧ J ≤ 1048576 := by
  simp only [okC, Bool.and_eq_true, decide_eq_true_eq] at h
  obtain ⟨⟨⟨⟨⟨h1, h2⟩, h3⟩, h4⟩, h5⟩, h6⟩ := h
  exact ⟨h1, h2, h3, h4, h5, h6⟩
theorem okC_mk {B S J : Int} (h : 1 ≤ B ∧ B ≤ 12800 ∧ 1 ≤ S ∧ S ≤ 2048 ∧ 0 ≤ J ∧ J ≤ 1048576) : okC B S J = true := by
  obtain ⟨h1, h2, h3, h4, h5, h6⟩ := h
  simp [okC, h1, h2, h3, h4, h5, h6]

theorem emod_of_tmod (x n : Int) (_h1 : 1 ≤ n) : x % n = (x.tmod n) % n := by
  have h := Int.mul_tdiv_add_tmod x n
  rw [← h]
  rw [Int.add_comm, Int.add_mul_emod_self_left]
  congr 1
  rw [Int.add_comm, h]
theorem emod_neg {x n : Int} (h1 : 1 ≤ n) (h : x.tmod n < 0) (h2 : -n < x.tmod n) : x.tmod n + n = x % n := by
  rw [emod_of_tmod x n h1, ← Int.add_emod_right, Int.emod_eq_of_lt (by omega) (by omega)]
theorem emod_pos {x n : Int} (h1 : 1 ≤ n) (h : 0 ≤ x.tmod n) (h2 : x.tmod n < n) : x.tmod n = x % n := by
  rw [emod_of_tmod x n h1, Int.emod_eq_of_lt h h2]

set_option maxHeartbeats 400000 in
theorem pick_any (x n : Int) (w : World) (h1 : 1 ≤ n) (h2 : n ≤ 100000) :
    Calls Try.prog 15 #[.int .i64 x, .int .i64 n] w fun e w' => e = .returned (.int .i64 (x % n)) ∧ w = w' := by
  have hn : ¬ n < 1 := by omega
  have hb1 : x.tmod n < n := Int.tmod_lt_of_pos _ (by omega)
  have hb2 : -n < x.tmod n := by have := Int.lt_tmod_of_pos x (show 0 < n by omega); omega
  by_cases hc : x.tmod n < 0
  · go_enter Try.func15, Try.ntmps15
    go_wp2
    go_ret
    exact ⟨ret_int (emod_neg h1 hc hb2), rfl⟩
  · have hc' : 0 ≤ x.tmod n := by omega
    go_enter Try.func15, Try.ntmps15
    go_wp2
    go_ret
    exact ⟨ret_int (emod_pos h1 hc' hb1), rfl⟩

set_option maxHeartbeats 400000 in
theorem valid_true (B S J : Int) (w : World) (h : okC B S J = true) :
    Calls Try.prog 22 #[.agg #[.int .i64 B, .int .i64 S, .int .i64 J]] w fun e w' => e = .returned (.bool true) ∧ w.alloc (.cells #[.int .i64 B, .int .i64 S, .int .i64 J] 49) = w' := by
  obtain ⟨h1, h2, h3, h4, h5, h6⟩ := okC_true h
  clear h
  go_enter Try.func22, Try.ntmps22
  go_wp2
  go_ret
  exact ⟨rfl, rfl⟩

set_option maxHeartbeats 400000 in
theorem cap_any (B S J : Int) (w : World) (h : okC B S J = true) :
    Calls Try.prog 23 #[.agg #[.int .i64 B, .int .i64 S, .int .i64 J]] w fun e w' => e = .returned (.int .i64 (S * (B + J))) ∧ w.alloc (.cells #[.int .i64 B, .int .i64 S, .int .i64 J] 49) = w' := by
  obtain ⟨h1, h2, h3, h4, h5, h6⟩ := okC_true h
  clear h
  have hm1 : S * (B + J) ≤ 2048 * (B + J) := Int.mul_le_mul_of_nonneg_right h4 (by omega)
  have hm0 : 0 ≤ S * (B + J) := Int.mul_nonneg (by omega) (by omega)
  go_enter Try.func23, Try.ntmps23
  go_wp2
  go_ret
  exact ⟨rfl, rfl⟩

set_option maxHeartbeats 400000 in
theorem valid_false (B S J : Int) (w : World) (h : okC B S J = false) :
    Calls Try.prog 22 #[.agg #[.int .i64 B, .int .i64 S, .int .i64 J]] w fun e w' => e = .returned (.bool false) ∧ w.alloc (.cells #[.int .i64 B, .int .i64 S, .int .i64 J] 49) = w' := by
  by_cases h1 : 1 ≤ B
  · by_cases h2 : B ≤ 12800
    · by_cases h3 : 1 ≤ S
      · by_cases h4 : S ≤ 2048
        · by_cases h5 : 0 ≤ J
          · by_cases h6 : J ≤ 1048576
            · exact absurd (okC_mk ⟨h1, h2, h3, h4, h5, h6⟩) (by rw [h]; simp)
            · clear h
              go_enter Try.func22, Try.ntmps22
              go_wp2
              go_ret
              exact ⟨rfl, rfl⟩
          · clear h
            go_enter Try.func22, Try.ntmps22
            go_wp2
            go_ret
            exact ⟨rfl, rfl⟩
        · clear h
          go_enter Try.func22, Try.ntmps22
          go_wp2
          go_ret
          exact ⟨rfl, rfl⟩
      · clear h
        go_enter Try.func22, Try.ntmps22
        go_wp2
        go_ret
        exact ⟨rfl, rfl⟩
    · clear h
      go_enter Try.func22, Try.ntmps22
      go_wp2
      go_ret
      exact ⟨rfl, rfl⟩
  · clear h
    go_enter Try.func22, Try.ntmps22
    go_wp2
    go_ret
    exact ⟨rfl, rfl⟩

/-- the account lies in block pb -/
def Acc (w : World) (pb : Nat) (B S J L C : Int) : Prop := Blk w pb 51 #[.int .i64 B, .int .i64 S, .int .i64 J, .int .i64 L, .int .i64 C]

set_option maxHeartbeats 1000000 in
theorem new_ok (B S J : Int) (w : World) (h : okC B S J = true) :
    Calls Try.prog 14 #[.int .i64 B, .int .i64 S, .int .i64 J] w fun e w' => ∃ pb, e = .returned (.tuple #[.pointer (some ⟨pb, 0, none⟩), .int .i64 0]) ∧ w.heap.size ≤ pb ∧ Below w.heap.size w w' ∧ Acc w' pb B S J (S * (B + J)) 0 := by
  go_enter Try.func14, Try.ntmps14
  go_wp2_with (go_at_call 22; refine (valid_true _ _ _ _ h).mono ?_; rintro e w' ⟨rfl, rfl⟩)
  go_region_held3 (fun w' : World => w'.cell? ⟨w.heap.size, 0, none⟩ = some (.int .i64 B) ∧ w'.cell? ⟨w.heap.size, 1, none⟩ = some (.int .i64 S) ∧ w'.cell? ⟨w.heap.size, 2, none⟩ = some (.int .i64 J)) (go_keep) ((go_at_call 23; refine (cap_any _ _ _ _ h).mono ?_; rintro e w' ⟨rfl, rfl⟩))
  all_goals go_wp2
  all_goals go_ret2
  all_goals refine ⟨_, rfl, by omega, Below.drew (((((Below.refl _ _).alloc (Nat.le_refl _) _).alloc (by simp) _).alloc (by simp; omega) _).alloc (by simp; omega) _), ?_⟩
  all_goals exact (Blk.made_at _ _ _ (by simp)).drew

set_option maxHeartbeats 400000 in
theorem new_bad (B S J : Int) (w : World) (h : okC B S J = false) :
    Calls Try.prog 14 #[.int .i64 B, .int .i64 S, .int .i64 J] w fun e w' => e = .returned (.tuple #[.pointer none, .int .i64 2]) ∧ Below w.heap.size w w' := by
  go_enter Try.func14, Try.ntmps14
  go_wp2_with (go_at_call 22; refine (valid_false _ _ _ _ h).mono ?_; rintro e w' ⟨rfl, rfl⟩)
  go_ret2
  exact ⟨rfl, ((Below.refl _ _).alloc (Nat.le_refl _) _).alloc (by simp) _⟩
end Go.Proofs.Ytknfhbhaencdjaa
