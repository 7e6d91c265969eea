/-
  The walk of the law PoliceBound: at every four ints it returns true and leaves what was there as it was. No condition.
-/
import Derived.Test.YtknfhbhaencdjaaAwake
namespace Go.Proofs.Ytknfhbhaencdjaa
open Go.RowKit

/-- what Bound and its reference return -/
def bd (B S J T : Int) : Int × Int := if okC B S J = true ∧ 0 ≤ T ∧ T ≤ 1073741824 then (bnd B S J T, 0) else (0, 2)
theorem bound_all (B S J T : Int) (w : World) :
    Calls Try.prog 10 #[.int .i64 B, .int .i64 S, .int .i64 J, .int .i64 T] w fun e w' => e = .returned (.tuple #[.int .i64 (bd B S J T).1, .int .i64 (bd B S J T).2]) ∧ Below w.heap.size w w' := by
  by_cases h : okC B S J = true ∧ 0 ≤ T ∧ T ≤ 1073741824
  · rw [bd, if_pos h]; exact bound_ok B S J T w h.1 h.2.1 h.2.2
  · rw [bd, if_neg h]
    refine bound_bad B S J T w ?_
    cases hc : okC B S J with
    | false => exact .inl rfl
    | true => exact .inr (by simp [hc] at h; omega)
theorem refb_all (B S J T : Int) (w : World) :
    Calls Try.prog 11 #[.int .i64 B, .int .i64 S, .int .i64 J, .int .i64 T] w fun e w' => e = .returned (.tuple #[.int .i64 (bd B S J T).1, .int .i64 (bd B S J T).2]) ∧ w = w' := by
  by_cases h : okC B S J = true ∧ 0 ≤ T ∧ T ≤ 1073741824
  · rw [bd, if_pos h]; exact refb_ok B S J T w h.1 h.2.1 h.2.2
  · rw [bd, if_neg h]
    refine refb_bad B S J T w ?_
    cases hc : okC B S J with
    | false => exact .inl rfl
    | true => exact .inr (by simp [hc] at h; omega)

set_option maxHeartbeats 400000 in
theorem lawBound (B S J T : Int) (w : World) (_w0 : (Lit.int .i64 B).wf = true) (_w1 : (Lit.int .i64 S).wf = true) (_w2 : (Lit.int .i64 J).wf = true) (_w3 : (Lit.int .i64 T).wf = true) :
    Calls Try.prog 3 #[.int .i64 B, .int .i64 S, .int .i64 J, .int .i64 T] w fun e w' => e = .returned (.bool true) ∧ Below w.heap.size w w' := by
  clear _w0 _w1 _w2 _w3
  go_enter Try.func3, Try.ntmps3
  go_wp2_with fail
  refine (bound_all B S J T _).mono ?_
  rintro e w1 ⟨rfl, hB1⟩
  go_wp2_with fail
  refine (refb_all B S J T _).mono ?_
  rintro e w' ⟨rfl, rfl⟩
  generalize (bd B S J T).1 = x
  generalize (bd B S J T).2 = y
  go_wp2_with fail
  refine (awake_any _).mono ?_
  rintro e w2 ⟨rfl, hB2⟩
  go_wp2_with fail
  go_ret
  exact ⟨rfl, hB1.trans (hB2.mono hB1.size)⟩
end Go.Proofs.Ytknfhbhaencdjaa
