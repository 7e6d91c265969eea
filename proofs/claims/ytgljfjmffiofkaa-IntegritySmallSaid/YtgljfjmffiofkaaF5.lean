/-
  Contracts of Previous, Counts and Reset, at a filter that New has made, at none, and at one that New has not made. No condition.
-/
import Derived.Test.YtgljfjmffiofkaaI4
namespace Go.Proofs.Ytgljfjmffiofkaa
open Go.RowKit

set_option maxHeartbeats 400000 in
theorem previous_any (fb : Nat) (a r p : Int) (s : Bool) (w : World) (hf : Flt w fb a r p s) :
    Calls Try.prog 25 #[.pointer (some ⟨fb, 0, none⟩)] w fun e w' => e = .returned (.tuple #[.int .i64 (if s then p else 0), .bool s]) ∧ w = w' := by
  have c2 : w.cell? ⟨fb, 2, none⟩ = some (.int .i64 p) := hf.cell 2
  have c3 : w.cell? ⟨fb, 3, none⟩ = some (.bool s) := hf.cell 3
  have HF := Lib.hid hf
  clear hf
  cases s with
  | true =>
    go_enter Try.func25, Try.ntmps25
    go_wp2_with fail
    refine (made_yes fb a r p true _ HF.out).mono ?_
    rintro e w1 ⟨rfl, rfl⟩
    go_wp2_with fail
    go_ret2
    exact ⟨rfl, rfl⟩
  | false =>
    go_enter Try.func25, Try.ntmps25
    go_wp2_with fail
    refine (made_yes fb a r p false _ HF.out).mono ?_
    rintro e w1 ⟨rfl, rfl⟩
    go_wp2_with fail
    go_ret2
    exact ⟨rfl, rfl⟩
set_option maxHeartbeats 400000 in
theorem previous_nil (w : World) : Calls Try.prog 25 #[.pointer none] w fun e w' => e = .returned (.tuple #[.int .i64 0, .bool false]) ∧ w = w' := by
  go_enter Try.func25, Try.ntmps25
  go_wp2_with fail
  refine (made_nil _).mono ?_
  rintro e w1 ⟨rfl, rfl⟩
  go_wp2_with fail
  go_ret2
  exact ⟨rfl, rfl⟩
set_option maxHeartbeats 400000 in
theorem previous_no (fb : Nat) (w : World) (hf : w.cell? ⟨fb, 4, none⟩ = some (.pointer none)) : Calls Try.prog 25 #[.pointer (some ⟨fb, 0, none⟩)] w fun e w' => e = .returned (.tuple #[.int .i64 0, .bool false]) ∧ w = w' := by
  have HF := Lib.hid hf
  clear hf
  go_enter Try.func25, Try.ntmps25
  go_wp2_with fail
  refine (made_no fb _ HF.out).mono ?_
  rintro e w1 ⟨rfl, rfl⟩
  go_wp2_with fail
  go_ret2
  exact ⟨rfl, rfl⟩

set_option maxHeartbeats 1000000 in
theorem counts_any (fb : Nat) (a r p : Int) (s : Bool) (w : World) (hf : Flt w fb a r p s) :
    Calls Try.prog 19 #[.pointer (some ⟨fb, 0, none⟩)] w fun e w' => e = .returned (.tuple #[.int .i64 a, .int .i64 r]) ∧ Same w w' := by
  have c2 : w.cell? ⟨fb, 0, none⟩ = some (.int .i64 a) := hf.cell 0
  have c3 : w.cell? ⟨fb, 1, none⟩ = some (.int .i64 r) := hf.cell 1
  have HF := Lib.hid hf
  clear hf
  go_enter Try.func19, Try.ntmps19
  go_wp2_with fail
  refine (made_yes fb a r p s _ HF.out).mono ?_
  rintro e w1 ⟨rfl, rfl⟩
  go_wp2_with fail
  go_quiet (fail)
  go_wp2_with fail
  go_ret2
  exact ⟨rfl, Same.drewN _ _⟩
set_option maxHeartbeats 400000 in
theorem counts_nil (w : World) : Calls Try.prog 19 #[.pointer none] w fun e w' => e = .returned (.tuple #[.int .i64 0, .int .i64 0]) ∧ w = w' := by
  go_enter Try.func19, Try.ntmps19
  go_wp2_with fail
  refine (made_nil _).mono ?_
  rintro e w1 ⟨rfl, rfl⟩
  go_wp2_with fail
  go_ret2
  exact ⟨rfl, rfl⟩
set_option maxHeartbeats 400000 in
theorem counts_no (fb : Nat) (w : World) (hf : w.cell? ⟨fb, 4, none⟩ = some (.pointer none)) : Calls Try.prog 19 #[.pointer (some ⟨fb, 0, none⟩)] w fun e w' => e = .returned (.tuple #[.int .i64 0, .int .i64 0]) ∧ w = w' := by
  have HF := Lib.hid hf
  clear hf
  go_enter Try.func19, Try.ntmps19
  go_wp2_with fail
  refine (made_no fb _ HF.out).mono ?_
  rintro e w1 ⟨rfl, rfl⟩
  go_wp2_with fail
  go_ret2
  exact ⟨rfl, rfl⟩

set_option maxHeartbeats 1000000 in
theorem reset_any (fb : Nat) (a r p : Int) (s : Bool) (w : World) (hf : Flt w fb a r p s) :
    Calls Try.prog 20 #[.pointer (some ⟨fb, 0, none⟩)] w fun e w' => e = .returned (.int .i64 0) ∧ Flt w' fb a r 0 false ∧ w.grownBy w' (some fb) := by
  have c2 : w.cell? ⟨fb, 2, none⟩ = some (.int .i64 p) := hf.cell 2
  have c3 : w.cell? ⟨fb, 3, none⟩ = some (.bool s) := hf.cell 3
  have f2 : w.frozen? ⟨fb, 2, none⟩ = false := hf.free 2
  have f3 : w.frozen? ⟨fb, 3, none⟩ = false := hf.free 3
  have HF := Lib.hid hf
  clear hf
  go_enter Try.func20, Try.ntmps20
  go_wp2_with fail
  refine (made_yes fb a r p s _ HF.out).mono ?_
  rintro e w1 ⟨rfl, rfl⟩
  go_wp2_with fail
  go_ret
  exact ⟨rfl, (HF.out.put 2 _).put 3 _, gb_put (gb_put (World.grownBy.refl _ _) 2 _) 3 _⟩
set_option maxHeartbeats 400000 in
theorem reset_nil (w : World) : Calls Try.prog 20 #[.pointer none] w fun e w' => e = .returned (.int .i64 1) ∧ w = w' := by
  go_enter Try.func20, Try.ntmps20
  go_wp2_with fail
  refine (made_nil _).mono ?_
  rintro e w1 ⟨rfl, rfl⟩
  go_wp2_with fail
  go_ret
  exact ⟨rfl, rfl⟩
set_option maxHeartbeats 400000 in
theorem reset_no (fb : Nat) (w : World) (hf : w.cell? ⟨fb, 4, none⟩ = some (.pointer none)) : Calls Try.prog 20 #[.pointer (some ⟨fb, 0, none⟩)] w fun e w' => e = .returned (.int .i64 1) ∧ w = w' := by
  have HF := Lib.hid hf
  clear hf
  go_enter Try.func20, Try.ntmps20
  go_wp2_with fail
  refine (made_no fb _ HF.out).mono ?_
  rintro e w1 ⟨rfl, rfl⟩
  go_wp2_with fail
  go_ret
  exact ⟨rfl, rfl⟩
end Go.Proofs.Ytgljfjmffiofkaa
