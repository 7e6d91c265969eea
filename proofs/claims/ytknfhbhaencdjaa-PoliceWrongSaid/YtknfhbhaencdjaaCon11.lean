/-
  Conforms at a contract that is none, without a frame: false. Filter where some frame is wrong: nothing and ErrArg. No condition.
-/
import Derived.Test.YtknfhbhaencdjaaCon9
namespace Go.Proofs.Ytknfhbhaencdjaa
open Go.RowKit
set_option maxHeartbeats 2000000 in
theorem conforms_none (B S J : Int) (w : World) (h : okC B S J = false) :
    Calls Try.prog 17 #[.int .i64 B, .int .i64 S, .int .i64 J, .slice none 0 0] w fun e w' => e = .returned (.bool false) ∧ Below w.heap.size w w' := by
  go_enter Try.func17, Try.ntmps17
  go_wp2
  go_loopw [21] (fun i wr => i = .int .i64 0 ∧ Blk wr w.heap.size 49 #[.int .i64 B, .int .i64 S, .int .i64 J] ∧ Below w.heap.size w wr)
    (fun _ _ => 0)
  case atStart => exact ⟨rfl, (Blk.made _ _ _).alloc _, ((Below.refl _ _).alloc (Nat.le_refl _) _).alloc (by simp) _⟩
  case round =>
    obtain ⟨rfl, hc, hB⟩ := hrel
    have d0 : wr.cell? ⟨w.heap.size, 0, none⟩ = some (.int .i64 B) := hc.cell 0
    have d1 : wr.cell? ⟨w.heap.size, 1, none⟩ = some (.int .i64 S) := hc.cell 1
    have d2 : wr.cell? ⟨w.heap.size, 2, none⟩ = some (.int .i64 J) := hc.cell 2
    clear hc
    go_wp2_with (go_at_call 22; refine (valid_false _ _ _ _ h).mono ?_; rintro e w' ⟨rfl, rfl⟩)
    go_ret
    exact ⟨rfl, hB.alloc hB.size _⟩

theorem filter_wrong (B S J : Int) (A : Option Addr) (m c : Nat) (t s : Nat → Int) (i : Nat) (w : World) (hok : okC B S J = true) (hF : Flow w A m t s) (hi : i < m) (hb : Pol.bad t s i = true) :
    Calls Try.prog 20 #[.int .i64 B, .int .i64 S, .int .i64 J, .slice A m c] w fun e w' => e = .returned (.tuple #[.slice none 0 0, .int .i64 2]) ∧ Below w.heap.size w w' := by
  refine (filter_ok B S J A m c t s w hok hF).mono ?_
  rintro e w' ⟨hB, ⟨h, _⟩ | ⟨_, rfl⟩⟩
  · rw [h i hi] at hb
    cases hb
  · exact ⟨rfl, hB⟩

/-- two frames -/
def two (a b : Int) : Nat → Int
  | 0 => a
  | _ => b
theorem two_flow {w : World} {g : Nat} {t0 s0 t1 s1 : Int} (h : Blk w g 37 #[.int .i64 t0, .int .i64 s0, .int .i64 t1, .int .i64 s1]) : Flow w (some ⟨g, 0, none⟩) 2 (two t0 t1) (two s0 s1) := by
  refine ⟨by omega, fun _ => ⟨g, rfl, h.lt, fun k hk => ?_⟩⟩
  rw [h.cell, h.cell]
  match k with
  | 0 => exact ⟨rfl, rfl⟩
  | 1 => exact ⟨rfl, rfl⟩
  | k + 2 => omega
theorem two_bad {t0 s0 t1 s1 : Int} (h : badB t0 t1 s1 = true) : Pol.bad (two t0 t1) (two s0 s1) 1 = true := h
end Go.Proofs.Ytknfhbhaencdjaa
