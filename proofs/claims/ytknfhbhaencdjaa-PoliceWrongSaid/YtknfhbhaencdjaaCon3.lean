/-
  Contracts of Level, Bound, the reference's Bound and Contract, the law's contract(). Conditions: contracts that are ones and ticks from 0 to MaxTime; or none.
-/
import Derived.Test.YtknfhbhaencdjaaCon1
namespace Go.Proofs.Ytknfhbhaencdjaa
open Go.RowKit

set_option maxHeartbeats 400000 in
theorem level_any (pb : Nat) (B S J L C : Int) (w : World) (hp : Acc w pb B S J L C) :
    Calls Try.prog 18 #[.pointer (some ⟨pb, 0, none⟩)] w fun e w' => e = .returned (.int .i64 L) ∧ w = w' := by
  have c3 : w.cell? ⟨pb, 3, none⟩ = some (.int .i64 L) := hp.cell 3
  clear hp
  go_enter Try.func18, Try.ntmps18
  go_wp2
  go_ret
  exact ⟨rfl, rfl⟩

set_option maxHeartbeats 400000 in
theorem level_nil (w : World) :
    Calls Try.prog 18 #[.pointer none] w fun e w' => e = .returned (.int .i64 0) ∧ w = w' := by
  go_enter Try.func18, Try.ntmps18
  go_wp2
  go_ret
  exact ⟨rfl, rfl⟩

/-- what Bound returns where its numbers are a contract and ticks -/
def bnd (B S J T : Int) : Int := (S * (B + J) + S * T) / B

theorem bnd_bounds {B S J T : Int} (h : okC B S J = true) (hT0 : 0 ≤ T) :
    0 ≤ S * (B + J) ∧ S * (B + J) ≤ 2048 * (B + J) ∧ 0 ≤ S * T ∧ S * T ≤ 2048 * T := by
  obtain ⟨o1, o2, o3, o4, o5, o6⟩ := okC_true h
  exact ⟨Int.mul_nonneg (by omega) (by omega), Int.mul_le_mul_of_nonneg_right o4 (by omega), Int.mul_nonneg (by omega) (by omega), Int.mul_le_mul_of_nonneg_right o4 (by omega)⟩

theorem wrap_quo {X B : Int} (hX : 0 ≤ X) (hX2 : X ≤ 9000000000000000000) (hB : 1 ≤ B) : IntKind.i64.wrap (X.tdiv B) = X / B := by
  rw [Int.tdiv_eq_ediv_of_nonneg hX]
  have h1 : 0 ≤ X / B := Int.ediv_nonneg hX (by omega)
  have h2 : X / B ≤ X := Int.ediv_le_self _ hX
  exact IntWalk.i64_in _ (by omega)

set_option maxHeartbeats 1000000 in
theorem bound_ok (B S J T : Int) (w : World) (h : okC B S J = true) (hT0 : 0 ≤ T) (hT : T ≤ 1073741824) :
    Calls Try.prog 10 #[.int .i64 B, .int .i64 S, .int .i64 J, .int .i64 T] w fun e w' => e = .returned (.tuple #[.int .i64 (bnd B S J T), .int .i64 0]) ∧ Below w.heap.size w w' := by
  obtain ⟨o1, o2, o3, o4, o5, o6⟩ := okC_true h
  obtain ⟨m1, m2, m3, m4⟩ := bnd_bounds h hT0
  have hq : ¬ B = 0 := by omega
  have hq' : (B == 0) = false := by simp; omega
  have u2 : IntKind.i64.wrap (S * T) = S * T := IntWalk.i64_in _ (by omega)
  have u3 : IntKind.i64.wrap (S * (B + J) + S * T) = S * (B + J) + S * T := IntWalk.i64_in _ (by omega)
  have u4 : IntKind.i64.wrap ((S * (B + J) + S * T).tdiv B) = bnd B S J T := wrap_quo (by omega) (by omega) o1
  go_enter Try.func10, Try.ntmps10
  go_wp2_with (go_at_call 22; refine (valid_true _ _ _ _ h).mono ?_; rintro e w' ⟨rfl, rfl⟩)
  go_region_held3 (fun w' : World => w'.cell? ⟨w.heap.size, 0, none⟩ = some (.int .i64 B) ∧ w'.cell? ⟨w.heap.size, 1, none⟩ = some (.int .i64 S) ∧ w'.cell? ⟨w.heap.size, 2, none⟩ = some (.int .i64 J)) (go_keep) ((go_at_call 23; refine (cap_any _ _ _ _ h).mono ?_; rintro e w' ⟨rfl, rfl⟩))
  all_goals go_wp2
  all_goals go_ret2
  all_goals exact ⟨rfl, Below.drew ((((Below.refl _ _).alloc (Nat.le_refl _) _).alloc (by simp) _).alloc (by simp; omega) _)⟩

set_option maxHeartbeats 400000 in
theorem bound_bad (B S J T : Int) (w : World) (h : okC B S J = false ∨ T < 0 ∨ 1073741824 < T) :
    Calls Try.prog 10 #[.int .i64 B, .int .i64 S, .int .i64 J, .int .i64 T] w fun e w' => e = .returned (.tuple #[.int .i64 0, .int .i64 2]) ∧ Below w.heap.size w w' := by
  cases hc : okC B S J with
  | false =>
    clear h
    go_enter Try.func10, Try.ntmps10
    go_wp2_with (go_at_call 22; refine (valid_false _ _ _ _ hc).mono ?_; rintro e w' ⟨rfl, rfl⟩)
    go_ret2
    exact ⟨rfl, ((Below.refl _ _).alloc (Nat.le_refl _) _).alloc (by simp) _⟩
  | true =>
    have h1 : T < 0 ∨ 1073741824 < T := by
      rcases h with h | h
      · rw [hc] at h; cases h
      · exact h
    clear h
    by_cases h2 : T < 0
    · clear h1
      go_enter Try.func10, Try.ntmps10
      go_wp2_with (go_at_call 22; refine (valid_true _ _ _ _ hc).mono ?_; rintro e w' ⟨rfl, rfl⟩)
      go_ret2
      exact ⟨rfl, ((Below.refl _ _).alloc (Nat.le_refl _) _).alloc (by simp) _⟩
    · have h3 : 1073741824 < T := by omega
      clear h1
      go_enter Try.func10, Try.ntmps10
      go_wp2_with (go_at_call 22; refine (valid_true _ _ _ _ hc).mono ?_; rintro e w' ⟨rfl, rfl⟩)
      go_ret2
      exact ⟨rfl, ((Below.refl _ _).alloc (Nat.le_refl _) _).alloc (by simp) _⟩

/-! ### the reference -/
set_option maxHeartbeats 400000 in
theorem ctr_true (B S J : Int) (w : World) (h : okC B S J = true) :
    Calls Try.prog 24 #[.int .i64 B, .int .i64 S, .int .i64 J] w fun e w' => e = .returned (.bool true) ∧ w = w' := by
  obtain ⟨h1, h2, h3, h4, h5, h6⟩ := okC_true h
  clear h
  go_enter Try.func24, Try.ntmps24
  go_wp2
  go_ret
  exact ⟨rfl, rfl⟩

set_option maxHeartbeats 400000 in
theorem ctr_false (B S J : Int) (w : World) (h : okC B S J = false) :
    Calls Try.prog 24 #[.int .i64 B, .int .i64 S, .int .i64 J] w fun e w' => e = .returned (.bool false) ∧ w = w' := by
  by_cases h1 : 1 ≤ B
  · by_cases h2 : B ≤ 12800
    · by_cases h3 : 1 ≤ S
      · by_cases h4 : S ≤ 2048
        · by_cases h5 : 0 ≤ J
          · by_cases h6 : J ≤ 1048576
            · exact absurd (okC_mk ⟨h1, h2, h3, h4, h5, h6⟩) (by rw [h]; simp)
            · (clear h; go_enter Try.func24, Try.ntmps24; go_wp2; go_ret; exact ⟨rfl, rfl⟩)
          · (clear h; go_enter Try.func24, Try.ntmps24; go_wp2; go_ret; exact ⟨rfl, rfl⟩)
        · (clear h; go_enter Try.func24, Try.ntmps24; go_wp2; go_ret; exact ⟨rfl, rfl⟩)
      · (clear h; go_enter Try.func24, Try.ntmps24; go_wp2; go_ret; exact ⟨rfl, rfl⟩)
    · (clear h; go_enter Try.func24, Try.ntmps24; go_wp2; go_ret; exact ⟨rfl, rfl⟩)
  · (clear h; go_enter Try.func24, Try.ntmps24; go_wp2; go_ret; exact ⟨rfl, rfl⟩)

set_option maxHeartbeats 1000000 in
theorem refb_ok (B S J T : Int) (w : World) (h : okC B S J = true) (hT0 : 0 ≤ T) (hT : T ≤ 1073741824) :
    Calls Try.prog 11 #[.int .i64 B, .int .i64 S, .int .i64 J, .int .i64 T] w fun e w' => e = .returned (.tuple #[.int .i64 (bnd B S J T), .int .i64 0]) ∧ w = w' := by
  obtain ⟨o1, o2, o3, o4, o5, o6⟩ := okC_true h
  obtain ⟨m1, m2, m3, m4⟩ := bnd_bounds h hT0
  have hq : ¬ B = 0 := by omega
  have hq' : (B == 0) = false := by simp; omega
  have e4 : (S * (B + J) + S * T) / B = bnd B S J T := rfl
  go_enter Try.func11, Try.ntmps11
  go_wp2_with (go_at_call 24; refine (ctr_true _ _ _ _ h).mono ?_; rintro e w' ⟨rfl, rfl⟩)
  go_ret2
  exact ⟨rfl, rfl⟩

set_option maxHeartbeats 400000 in
theorem refb_bad (B S J T : Int) (w : World) (h : okC B S J = false ∨ T < 0 ∨ 1073741824 < T) :
    Calls Try.prog 11 #[.int .i64 B, .int .i64 S, .int .i64 J, .int .i64 T] w fun e w' => e = .returned (.tuple #[.int .i64 0, .int .i64 2]) ∧ w = w' := by
  cases hc : okC B S J with
  | false =>
    clear h
    go_enter Try.func11, Try.ntmps11
    go_wp2_with (go_at_call 24; refine (ctr_false _ _ _ _ hc).mono ?_; rintro e w' ⟨rfl, rfl⟩)
    go_ret2
    exact ⟨rfl, rfl⟩
  | true =>
    have h1 : T < 0 ∨ 1073741824 < T := by
      rcases h with h | h
      · rw [hc] at h; cases h
      · exact h
    clear h
    by_cases h2 : T < 0
    · clear h1
      go_enter Try.func11, Try.ntmps11
      go_wp2_with (go_at_call 24; refine (ctr_true _ _ _ _ hc).mono ?_; rintro e w' ⟨rfl, rfl⟩)
      go_ret2
      exact ⟨rfl, rfl⟩
    · have h3 : 1073741824 < T := by omega
      clear h1
      go_enter Try.func11, Try.ntmps11
      go_wp2_with (go_at_call 24; refine (ctr_true _ _ _ _ hc).mono ?_; rintro e w' ⟨rfl, rfl⟩)
      go_ret2
      exact ⟨rfl, rfl⟩

/-! ### the law's own contract -/
set_option maxHeartbeats 400000 in
theorem contract_any (b s j : Int) (w : World) :
    Calls Try.prog 13 #[.int .i64 b, .int .i64 s, .int .i64 j] w fun e w' => e = .returned (.tuple #[.int .i64 (1 + b % 300), .int .i64 (1 + s % 80), .int .i64 (j % 501)]) ∧ w = w' := by
  have p1 : 0 ≤ b % 300 ∧ b % 300 < 300 := by omega
  have p2 : 0 ≤ s % 80 ∧ s % 80 < 80 := by omega
  obtain ⟨p1, p3⟩ := p1
  obtain ⟨p2, p4⟩ := p2
  go_enter Try.func13, Try.ntmps13
  go_wp2_with (go_at_call 15; refine (pick_any _ _ _ (by omega) (by omega)).mono ?_; rintro e w' ⟨rfl, rfl⟩)
  go_ret3
  exact ⟨rfl, rfl⟩
theorem contract_okC (b s j : Int) : okC (1 + b % 300) (1 + s % 80) (j % 501) = true := okC_mk (by omega)
end Go.Proofs.Ytknfhbhaencdjaa
