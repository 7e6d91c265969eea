/-
  The contract of SameInts at one and the same list of indices: true. No condition.
-/
import Derived.Test.YtknfhbhaencdjaaCon9
import Derived.Test.YtknfhbhaencdjaaReg
namespace Go.Proofs.Ytknfhbhaencdjaa
open Go.RowKit
set_option maxRecDepth 100000 in
set_option maxHeartbeats 4000000 in
theorem same_idx (A : Option Addr) (c : Nat) (A' : Option Addr) (c' : Nat) (l : List Nat) (w : World) (hn : l.length ≤ 1000000) (h1 : IdxR w A l) (h2 : IdxR w A' l) :
    Calls Try.prog 21 #[.slice A l.length c, .slice A' l.length c'] w fun e w' => e = .returned (.bool true) ∧ Below w.heap.size w w' := by
  have H1 := Lib.hid h1
  have H2 := Lib.hid h2
  clear h1 h2
  go_enter Try.func21, Try.ntmps21
  go_wp2_with fail
  go_loopw [5] (fun i wr => ∃ k : Nat, k ≤ l.length ∧ i = .int .i64 k ∧ Below w.heap.size w wr)
    (fun i _ => l.length - (intOf i).toNat)
  case atStart => exact ⟨0, Nat.zero_le _, rfl, Below.refl _ _⟩
  case round =>
    obtain ⟨k, hk, rfl, kB⟩ := hrel
    by_cases hlt : k < l.length
    · obtain ⟨g1, rfl, hg1, hc1⟩ := H1.out (by omega)
      obtain ⟨g2, rfl, hg2, hc2⟩ := H2.out (by omega)
      have y0 := (kB.cell (p := ⟨g1, k, none⟩) hg1).trans (hc1 k hlt)
      have y1 := (kB.cell (p := ⟨g2, k, none⟩) hg2).trans (hc2 k hlt)
      clear hc1 hc2
      generalize l.getD k 0 = a at *
      go_wp2_with fail
      go_quiet (fail)
      go_wp2_with fail
      go_roundw
      case rel => exact ⟨k + 1, by omega, by go_num, ⟨kB.os, kB.tape, kB.output, kB.size, kB.block⟩⟩
      case measure => simp [intOf]; omega
    · go_wp2_with fail
      go_ret
      exact ⟨rfl, kB⟩
end Go.Proofs.Ytknfhbhaencdjaa
