/-
  Contracts of number, Next (package integrity) and of the document's own (Number, Next), at every integer. No condition.
-/
import Derived.Test.YtllabfbebidjiaaProg
import Derived.Test.YtllabfbebidjiaaMem
import Derived.WalkSpells
import Derived.WalkLawsBesides
import Derived.Deep.QuietTactic
import Derived.BigQuiet
import Derived.Lib.Hide
import Derived.Outline
namespace Go.Proofs.Ytllabfbebidjiaa
open Go.RowKit
def isN (n : Int) : Bool := decide (0 ≤ n) && decide (n ≤ 255)
theorem isN_true {n : Int} (h : isN n = true) : 0 ≤ n ∧ n ≤ 255 := by simpa [isN] using h
theorem isN_mk {n : Int} (h0 : 0 ≤ n) (h1 : n ≤ 255) : isN n = true := by simp [isN, h0, h1]
theorem isN_false {n : Int} (h : isN n = false) : n < 0 ∨ 255 < n := by
  simp only [isN, Bool.and_eq_false_iff, decide_eq_false_iff_not] at h
  omega
/-- the successor; -1 where there is none -/
def nx (n : Int) : Int := if isN n = true then (if n = 255 then 1 else n + 1) else -1

set_option maxHeartbeats 400000 in
theorem number_any (n : Int) (w : World) : Calls Try.prog 25 #[.int .i64 n] w fun e w' => e = .returned (.bool (isN n)) ∧ w = w' := by
  by_cases h0 : 0 ≤ n
  · by_cases h1 : n ≤ 255
    · have hb := Lib.hid (isN_mk h0 h1)
      go_enter Try.func25, Try.ntmps25
      go_wp2
      go_ret
      exact ⟨ret_bool hb.out.symm, rfl⟩
    · have hb : Hid (isN n = false) := Lib.hid (by simp [isN]; omega)
      go_enter Try.func25, Try.ntmps25
      go_wp2
      go_ret
      exact ⟨ret_bool hb.out.symm, rfl⟩
  · have hb : Hid (isN n = false) := Lib.hid (by simp [isN]; omega)
    go_enter Try.func25, Try.ntmps25
    go_wp2
    go_ret
    exact ⟨ret_bool hb.out.symm, rfl⟩

set_option maxHeartbeats 400000 in
theorem refNumber_any (n : Int) (w : World) : Calls Try.prog 40 #[.int .i64 n] w fun e w' => e = .returned (.bool (isN n)) ∧ w = w' := by
  by_cases h0 : 0 ≤ n
  · by_cases h1 : n ≤ 255
    · have hb := Lib.hid (isN_mk h0 h1)
      go_enter Try.func40, Try.ntmps40
      go_wp2
      go_ret
      exact ⟨ret_bool hb.out.symm, rfl⟩
    · have hb : Hid (isN n = false) := Lib.hid (by simp [isN]; omega)
      go_enter Try.func40, Try.ntmps40
      go_wp2
      go_ret
      exact ⟨ret_bool hb.out.symm, rfl⟩
  · have hb : Hid (isN n = false) := Lib.hid (by simp [isN]; omega)
    go_enter Try.func40, Try.ntmps40
    go_wp2
    go_ret
    exact ⟨ret_bool hb.out.symm, rfl⟩

theorem number_to {b : Bool} (n : Int) (w : World) (h : isN n = b) : Calls Try.prog 25 #[.int .i64 n] w fun e w' => e = .returned (.bool b) ∧ w = w' := by
  subst h
  exact number_any n w
theorem refNumber_to {b : Bool} (n : Int) (w : World) (h : isN n = b) : Calls Try.prog 40 #[.int .i64 n] w fun e w' => e = .returned (.bool b) ∧ w = w' := by
  subst h
  exact refNumber_any n w

set_option maxHeartbeats 400000 in
theorem next_any (n : Int) (w : World) : Calls Try.prog 14 #[.int .i64 n] w fun e w' => e = .returned (.int .i64 (nx n)) ∧ w = w' := by
  cases hb : isN n with
  | false =>
    have HB := Lib.hid hb
    have hr : Hid (nx n = -1) := Lib.hid (by unfold nx; rw [hb]; rfl)
    clear hb
    go_enter Try.func14, Try.ntmps14
    go_wp2_with (go_at_call 25; refine (number_to _ _ HB.out).mono ?_; rintro e w' ⟨rfl, rfl⟩)
    go_ret
    exact ⟨ret_int hr.out.symm, rfl⟩
  | true =>
    have HB := Lib.hid hb
    obtain ⟨h0, h1⟩ := isN_true hb
    by_cases h2 : n = 255
    · have hr : Hid (nx n = 1) := Lib.hid (by unfold nx; rw [hb, if_pos rfl, if_pos h2])
      subst h2
      clear hb
      go_enter Try.func14, Try.ntmps14
      go_wp2_with (go_at_call 25; refine (number_to _ _ HB.out).mono ?_; rintro e w' ⟨rfl, rfl⟩)
      go_ret
      exact ⟨ret_int hr.out.symm, rfl⟩
    · have hr : Hid (nx n = n + 1) := Lib.hid (by unfold nx; rw [hb, if_pos rfl, if_neg h2])
      clear hb
      go_enter Try.func14, Try.ntmps14
      go_wp2_with (go_at_call 25; refine (number_to _ _ HB.out).mono ?_; rintro e w' ⟨rfl, rfl⟩)
      go_ret
      exact ⟨ret_int hr.out.symm, rfl⟩

set_option maxHeartbeats 400000 in
theorem refNext_any (n : Int) (w : World) : Calls Try.prog 48 #[.int .i64 n] w fun e w' => e = .returned (.int .i64 (nx n)) ∧ w = w' := by
  cases hb : isN n with
  | false =>
    have HB := Lib.hid hb
    have hr : Hid (nx n = -1) := Lib.hid (by unfold nx; rw [hb]; rfl)
    clear hb
    go_enter Try.func48, Try.ntmps48
    go_wp2_with (go_at_call 40; refine (refNumber_to _ _ HB.out).mono ?_; rintro e w' ⟨rfl, rfl⟩)
    go_ret
    exact ⟨ret_int hr.out.symm, rfl⟩
  | true =>
    have HB := Lib.hid hb
    obtain ⟨h0, h1⟩ := isN_true hb
    by_cases h2 : n = 255
    · have hr : Hid (nx n = 1) := Lib.hid (by unfold nx; rw [hb, if_pos rfl, if_pos h2])
      subst h2
      clear hb
      go_enter Try.func48, Try.ntmps48
      go_wp2_with (go_at_call 40; refine (refNumber_to _ _ HB.out).mono ?_; rintro e w' ⟨rfl, rfl⟩)
      go_ret
      exact ⟨ret_int hr.out.symm, rfl⟩
    · have hr : Hid (nx n = n + 1) := Lib.hid (by unfold nx; rw [hb, if_pos rfl, if_neg h2])
      clear hb
      go_enter Try.func48, Try.ntmps48
      go_wp2_with (go_at_call 40; refine (refNumber_to _ _ HB.out).mono ?_; rintro e w' ⟨rfl, rfl⟩)
      go_ret
      exact ⟨ret_int hr.out.symm, rfl⟩
end Go.Proofs.Ytllabfbebidjiaa
