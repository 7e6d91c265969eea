/-
  Contracts of the document's own filter (nacelleref20: New, Accept). No condition but bounds on the counts.
-/
import Derived.Test.YtllabfbebidjiaaR2
namespace Go.Proofs.Ytllabfbebidjiaa
open Go.RowKit
set_option linter.unusedVariables false
/-- the document's previous number: -1 where there is none -/
def rp (s : Bool) (p : Int) : Int := if s = true then p else -1
set_option maxHeartbeats 400000 in
theorem refNew_any (w : World) : Calls Try.prog 41 #[] w fun e w' => e = .returned (.agg #[.int .i64 (rp false 0), .int .i64 0, .int .i64 0]) ∧ Below w.heap.size w w' := by
  rw [show rp false 0 = -1 from rfl]
  go_enter Try.func41, Try.ntmps41
  go_wp2
  exact bodyPost_ret (v := .agg #[.int .i64 (-1), .int .i64 0, .int .i64 0]) (by simp [results, Try.results41, go_sem]) rfl ⟨rfl, (Below.refl _ _).alloc (Nat.le_refl _) _⟩

set_option maxHeartbeats 1000000 in
theorem refAcc_new (n a r : Int) (w : World) (h0 : 0 ≤ a) (h1 : a ≤ 1000000000000) (h2 : 0 ≤ r) (h3 : r ≤ 1000000000000) :
    Calls Try.prog 42 #[.agg #[.int .i64 (-1), .int .i64 a, .int .i64 r], .int .i64 n] w fun e w' => e = .returned (.tuple #[.agg #[.int .i64 n, .int .i64 (a + 1), .int .i64 r], .bool true]) ∧ Below w.heap.size w w' := by
  go_enter Try.func42, Try.ntmps42
  go_wp2_with (go_at_call 48; refine (refNext_any _ _).mono ?_; rintro e w' ⟨rfl, rfl⟩)
  exact bodyPost_ret (v := .tuple #[.agg #[.int .i64 (n), .int .i64 (a + 1), .int .i64 r], .bool true]) (by simp [results, Try.results42, go_sem]) rfl ⟨rfl, ((Below.refl _ _).alloc (Nat.le_refl _) _).alloc (by simp) _⟩
set_option maxHeartbeats 1000000 in
theorem refAcc_zero (p n a r : Int) (w : World) (h0 : 0 ≤ a) (h1 : a ≤ 1000000000000) (h2 : 0 ≤ r) (h3 : r ≤ 1000000000000) (p0 : 0 ≤ p) (hn : n = 0) :
    Calls Try.prog 42 #[.agg #[.int .i64 p, .int .i64 a, .int .i64 r], .int .i64 n] w fun e w' => e = .returned (.tuple #[.agg #[.int .i64 n, .int .i64 (a + 1), .int .i64 r], .bool true]) ∧ Below w.heap.size w w' := by
  subst hn
  go_enter Try.func42, Try.ntmps42
  go_wp2_with (go_at_call 48; refine (refNext_any _ _).mono ?_; rintro e w' ⟨rfl, rfl⟩)
  exact bodyPost_ret (v := .tuple #[.agg #[.int .i64 (0), .int .i64 (a + 1), .int .i64 r], .bool true]) (by simp [results, Try.results42, go_sem]) rfl ⟨rfl, ((Below.refl _ _).alloc (Nat.le_refl _) _).alloc (by simp) _⟩
set_option maxHeartbeats 1000000 in
theorem refAcc_one (p n a r : Int) (w : World) (h0 : 0 ≤ a) (h1 : a ≤ 1000000000000) (h2 : 0 ≤ r) (h3 : r ≤ 1000000000000) (p0 : 0 ≤ p) (hz : (n == 0) = false) (hn : n = nx p) :
    Calls Try.prog 42 #[.agg #[.int .i64 p, .int .i64 a, .int .i64 r], .int .i64 n] w fun e w' => e = .returned (.tuple #[.agg #[.int .i64 n, .int .i64 (a + 1), .int .i64 r], .bool true]) ∧ Below w.heap.size w w' := by
  subst hn
  go_enter Try.func42, Try.ntmps42
  go_wp2_with (go_at_call 48; refine (refNext_any _ _).mono ?_; rintro e w' ⟨rfl, rfl⟩)
  exact bodyPost_ret (v := .tuple #[.agg #[.int .i64 (nx p), .int .i64 (a + 1), .int .i64 r], .bool true]) (by simp [results, Try.results42, go_sem]) rfl ⟨rfl, ((Below.refl _ _).alloc (Nat.le_refl _) _).alloc (by simp) _⟩
set_option maxHeartbeats 1000000 in
theorem refAcc_two (p n a r : Int) (w : World) (h0 : 0 ≤ a) (h1 : a ≤ 1000000000000) (h2 : 0 ≤ r) (h3 : r ≤ 1000000000000) (p0 : 0 ≤ p) (hz : (n == 0) = false) (hy : (n == nx p) = false) (hn : n = nx (nx p)) :
    Calls Try.prog 42 #[.agg #[.int .i64 p, .int .i64 a, .int .i64 r], .int .i64 n] w fun e w' => e = .returned (.tuple #[.agg #[.int .i64 n, .int .i64 (a + 1), .int .i64 r], .bool true]) ∧ Below w.heap.size w w' := by
  subst hn
  go_enter Try.func42, Try.ntmps42
  go_wp2_with (go_at_call 48; refine (refNext_any _ _).mono ?_; rintro e w' ⟨rfl, rfl⟩)
  exact bodyPost_ret (v := .tuple #[.agg #[.int .i64 (nx (nx p)), .int .i64 (a + 1), .int .i64 r], .bool true]) (by simp [results, Try.results42, go_sem]) rfl ⟨rfl, ((Below.refl _ _).alloc (Nat.le_refl _) _).alloc (by simp) _⟩
set_option maxHeartbeats 1000000 in
theorem refAcc_no (p n a r : Int) (w : World) (h0 : 0 ≤ a) (h1 : a ≤ 1000000000000) (h2 : 0 ≤ r) (h3 : r ≤ 1000000000000) (p0 : 0 ≤ p) (hz : (n == 0) = false) (hy : (n == nx p) = false) (hx : (n == nx (nx p)) = false) :
    Calls Try.prog 42 #[.agg #[.int .i64 p, .int .i64 a, .int .i64 r], .int .i64 n] w fun e w' => e = .returned (.tuple #[.agg #[.int .i64 n, .int .i64 a, .int .i64 (r + 1)], .bool false]) ∧ Below w.heap.size w w' := by
  go_enter Try.func42, Try.ntmps42
  go_wp2_with (go_at_call 48; refine (refNext_any _ _).mono ?_; rintro e w' ⟨rfl, rfl⟩)
  exact bodyPost_ret (v := .tuple #[.agg #[.int .i64 (n), .int .i64 a, .int .i64 (r + 1)], .bool false]) (by simp [results, Try.results42, go_sem, p0]) rfl ⟨rfl, ((Below.refl _ _).alloc (Nat.le_refl _) _).alloc (by simp) _⟩

theorem refAcc_to (b : Bool) (s : Bool) (p n a r : Int) (w : World) (h0 : 0 ≤ a) (h1 : a ≤ 1000000000000) (h2 : 0 ≤ r) (h3 : r ≤ 1000000000000) (hp : s = true → isN p = true) (hb : adm s p n = b) :
    Calls Try.prog 42 #[.agg #[.int .i64 (rp s p), .int .i64 a, .int .i64 r], .int .i64 n] w fun e w' => e = .returned (.tuple #[.agg #[.int .i64 (rp true n), .int .i64 (if b then a + 1 else a), .int .i64 (if b then r else r + 1)], .bool b]) ∧ Below w.heap.size w w' := by
  cases s with
  | false =>
    obtain rfl : b = true := by rw [← hb]; rfl
    exact refAcc_new n a r w h0 h1 h2 h3
  | true =>
    have p0 := (isN_true (hp rfl)).1
    by_cases hz : n = 0
    · obtain rfl : b = true := by rw [← hb]; simp [adm, hz]
      exact refAcc_zero p n a r w h0 h1 h2 h3 p0 hz
    · by_cases hy : n = nx p
      · obtain rfl : b = true := by rw [← hb]; simp [adm, hy]
        exact refAcc_one p n a r w h0 h1 h2 h3 p0 (by simpa using hz) hy
      · by_cases hx : n = nx (nx p)
        · obtain rfl : b = true := by rw [← hb]; simp [adm, hx]
          exact refAcc_two p n a r w h0 h1 h2 h3 p0 (by simpa using hz) (by simpa using hy) hx
        · obtain rfl : b = false := by rw [← hb]; simp [adm, hx, hy, hz]
          exact refAcc_no p n a r w h0 h1 h2 h3 p0 (by simpa using hz) (by simpa using hy) (by simpa using hx)

end Go.Proofs.Ytllabfbebidjiaa
