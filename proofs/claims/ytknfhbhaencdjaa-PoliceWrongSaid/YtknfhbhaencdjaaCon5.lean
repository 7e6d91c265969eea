/-
  Pass where it reports an error: at an account, where the time goes back or is too great or the size is none (ErrArg; nothing has changed); without an account (ErrNil).
-/
import Derived.Test.YtknfhbhaencdjaaCon1
namespace Go.Proofs.Ytknfhbhaencdjaa
open Go.RowKit

def badB (C t s : Int) : Bool := decide (t < C) || decide (1073741824 < t) || decide (s < 1) || decide (2048 < s)

set_option maxHeartbeats 2000000 in
theorem pass_bad (pb : Nat) (B S J L C t s : Int) (w : World) (h : okC B S J = true) (hp : Acc w pb B S J L C) (hb : badB C t s = true) :
    Calls Try.prog 16 #[.pointer (some ⟨pb, 0, none⟩), .int .i64 t, .int .i64 s] w fun e w' => e = .returned (.tuple #[.bool false, .int .i64 2]) ∧ Acc w' pb B S J L C ∧ w.grownBy w' (some pb) := by
  have c0 : w.cell? ⟨pb, 0, none⟩ = some (.int .i64 B) := hp.cell 0
  have c1 : w.cell? ⟨pb, 1, none⟩ = some (.int .i64 S) := hp.cell 1
  have c2 : w.cell? ⟨pb, 2, none⟩ = some (.int .i64 J) := hp.cell 2
  have c3 : w.cell? ⟨pb, 3, none⟩ = some (.int .i64 L) := hp.cell 3
  have c4 : w.cell? ⟨pb, 4, none⟩ = some (.int .i64 C) := hp.cell 4
  have hlt : pb < w.heap.size := hp.lt
  have hne : ¬ w.heap.size = pb := by omega
  have HP := Lib.hid hp
  have hb' : t < C ∨ 1073741824 < t ∨ s < 1 ∨ 2048 < s := by
    simp only [badB, Bool.or_eq_true, decide_eq_true_eq] at hb
    omega
  clear hp hb
  by_cases k1 : t < C
  · clear hb'
    go_enter Try.func16, Try.ntmps16
    go_wp2_with (go_at_call 22; refine (valid_true _ _ _ _ h).mono ?_; rintro e w' ⟨rfl, rfl⟩)
    go_ret2
    exact ⟨rfl, HP.out.alloc _, gb_alloc (World.grownBy.refl _ _) _⟩
  · by_cases k2 : 1073741824 < t
    · clear hb'
      go_enter Try.func16, Try.ntmps16
      go_wp2_with (go_at_call 22; refine (valid_true _ _ _ _ h).mono ?_; rintro e w' ⟨rfl, rfl⟩)
      go_ret2
      exact ⟨rfl, HP.out.alloc _, gb_alloc (World.grownBy.refl _ _) _⟩
    · by_cases k3 : s < 1
      · clear hb'
        go_enter Try.func16, Try.ntmps16
        go_wp2_with (go_at_call 22; refine (valid_true _ _ _ _ h).mono ?_; rintro e w' ⟨rfl, rfl⟩)
        go_ret2
        exact ⟨rfl, HP.out.alloc _, gb_alloc (World.grownBy.refl _ _) _⟩
      · have k4 : 2048 < s := by omega
        clear hb'
        go_enter Try.func16, Try.ntmps16
        go_wp2_with (go_at_call 22; refine (valid_true _ _ _ _ h).mono ?_; rintro e w' ⟨rfl, rfl⟩)
        go_ret2
        exact ⟨rfl, HP.out.alloc _, gb_alloc (World.grownBy.refl _ _) _⟩

set_option maxHeartbeats 400000 in
theorem pass_nil (t s : Int) (w : World) :
    Calls Try.prog 16 #[.pointer none, .int .i64 t, .int .i64 s] w fun e w' => e = .returned (.tuple #[.bool false, .int .i64 1]) ∧ Below w.heap.size w w' := by
  go_enter Try.func16, Try.ntmps16
  go_wp2
  go_ret2
  exact ⟨rfl, Below.refl _ _⟩

set_option maxHeartbeats 400000 in
theorem pass_none (pb : Nat) (t s L C : Int) (w : World) (hp : Acc w pb 0 0 0 L C) :
    Calls Try.prog 16 #[.pointer (some ⟨pb, 0, none⟩), .int .i64 t, .int .i64 s] w fun e w' => e = .returned (.tuple #[.bool false, .int .i64 1]) ∧ Acc w' pb 0 0 0 L C ∧ Below w.heap.size w w' := by
  have c0 : w.cell? ⟨pb, 0, none⟩ = some (.int .i64 0) := hp.cell 0
  have c1 : w.cell? ⟨pb, 1, none⟩ = some (.int .i64 0) := hp.cell 1
  have c2 : w.cell? ⟨pb, 2, none⟩ = some (.int .i64 0) := hp.cell 2
  have HP := Lib.hid hp
  clear hp
  go_enter Try.func16, Try.ntmps16
  go_wp2_with (go_at_call 22; refine (valid_false _ _ _ _ (by decide)).mono ?_; rintro e w' ⟨rfl, rfl⟩)
  go_ret2
  exact ⟨rfl, HP.out.alloc _, (Below.refl _ _).alloc (Nat.le_refl _) _⟩
end Go.Proofs.Ytknfhbhaencdjaa
