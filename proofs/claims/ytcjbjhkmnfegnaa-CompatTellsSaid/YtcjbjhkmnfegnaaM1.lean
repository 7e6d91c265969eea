/-
  The contract of Mixed. It takes that the modules' names are no longer than a string can be.
-/
import Derived.Test.YtcjbjhkmnfegnaaC6
import Derived.Test.YtcjbjhkmnfegnaaC8
namespace Go.Proofs.Ytcjbjhkmnfegnaa
open Go.RowKit Go.Shelf
theorem two_pow8 : ∀ n : Fin 9, IntKind.i64.wrap ((2 : Int) ^ n.val) = ((2 ^ n.val : Nat) : Int) := by decide +kernel
theorem two_pow8' {n : Nat} (h : n ≤ 8) : IntKind.i64.wrap ((2 : Int) ^ n) = ((2 ^ n : Nat) : Int) := two_pow8 ⟨n, by omega⟩
theorem pow8_le {n : Nat} (h : n ≤ 8) : 2 ^ n ≤ 256 := Nat.pow_le_pow_right (by decide) h
/-- a set is refused -/
def BadPost (w : World) (e : Ending) (w' : World) : Prop := e = .returned (.tuple #[.slice none 0 0, .int .i64 2]) ∧ Below w.heap.size w w'
/-- the mixed set comes back -/
def MixPost (n : Nat) (S T : Nat → U) (b : Nat) (w : World) (e : Ending) (w' : World) : Prop := (∃ A c, n ≤ c ∧ e = .returned (.tuple #[.slice A n c, .int .i64 0]) ∧ UnitsIn w' A n (mx S T b)) ∧ Below w.heap.size w w'
set_option maxHeartbeats 2000000 in
theorem mixed_bad (A1 A2 : Option Addr) (n c1 n2 c2 : Nat) (S T : Nat → U) (bi : Int) (w : World) (hS : UnitsIn w A1 n S) (hT : UnitsIn w A2 n2 T) (hF : Fits S n) (hn : n ≤ 140737488355328) (hv : chg n n2 S T = false) :
    Calls Try.prog 16 #[.slice A1 n c1, .slice A2 n2 c2, .int .i64 bi] w (BadPost w) := by
  have HS := Lib.hid hS
  have HT := Lib.hid hT
  have HF := Lib.hid hF
  have HV := Lib.hid hv
  clear hS hT hF hv
  go_enter Try.func16, Try.ntmps16
  go_wp2_with fail
  obtain ⟨W, hW⟩ : ∃ W, w.alloc (.cells #[.slice A1 n c1, .slice A2 n2 c2, .slice none 0 0] 56) = W := ⟨_, rfl⟩
  rw [hW]
  have k : Below w.heap.size w W := by rw [← hW]; exact (Below.refl _ _).alloc (Nat.le_refl _) _
  refine (change_any A1 A2 none n c1 n2 c2 0 0 S T W (HS.out.below k (Nat.le_refl _)) (HT.out.below k (Nat.le_refl _)) HF.out hn).mono ?_
  rintro e w1 ⟨rfl, k1⟩
  rw [HV.out]
  have K1 := Lib.hid (k.trans (k1.mono k.size))
  clear k k1 hW
  go_wp2_with fail
  go_ret2
  exact ⟨rfl, K1.out⟩
set_option maxHeartbeats 2000000 in
theorem mixed_out (A1 A2 : Option Addr) (n c1 n2 c2 : Nat) (S T : Nat → U) (bi : Int) (w : World) (hS : UnitsIn w A1 n S) (hT : UnitsIn w A2 n2 T) (hF : Fits S n) (hv : chg n n2 S T = true) (hb : bi < 0 ∨ ((2 ^ n : Nat) : Int) ≤ bi) :
    Calls Try.prog 16 #[.slice A1 n c1, .slice A2 n2 c2, .int .i64 bi] w (BadPost w) := by
  obtain ⟨h8, rfl, _, _⟩ := chg_parts hv
  have hwr := two_pow8' h8
  have HS := Lib.hid hS
  have HT := Lib.hid hT
  have HF := Lib.hid hF
  have HV := Lib.hid hv
  clear hS hT hF hv
  go_enter Try.func16, Try.ntmps16
  go_wp2_with fail
  obtain ⟨W, hW⟩ : ∃ W, w.alloc (.cells #[.slice A1 n c1, .slice A2 n c2, .slice none 0 0] 56) = W := ⟨_, rfl⟩
  rw [hW]
  have k : Below w.heap.size w W := by rw [← hW]; exact (Below.refl _ _).alloc (Nat.le_refl _) _
  refine (change_any A1 A2 none n c1 n c2 0 0 S T W (HS.out.below k (Nat.le_refl _)) (HT.out.below k (Nat.le_refl _)) HF.out (by omega)).mono ?_
  rintro e w1 ⟨rfl, k1⟩
  rw [HV.out]
  have K1 := Lib.hid (k.trans (k1.mono k.size))
  clear k k1 hW
  by_cases h0 : bi < 0
  · have g0 : decide (bi < 0) = true := decide_eq_true h0
    go_wp2_with fail
    go_ret2
    exact ⟨rfl, K1.out⟩
  · have g0 : decide (bi < 0) = false := decide_eq_false h0
    obtain ⟨N, hN⟩ : ∃ N : Nat, 2 ^ n = N := ⟨_, rfl⟩
    rw [hN] at hwr hb
    have g1 : decide ((N : Int) ≤ bi) = true := decide_eq_true (by omega)
    have g2 : decide (bi < (N : Int)) = false := decide_eq_false (by omega)
    clear hN
    go_wp2_with fail
    go_ret2
    exact ⟨rfl, K1.out⟩
set_option maxHeartbeats 2000000 in
theorem mixed_ok (A1 A2 : Option Addr) (n c1 n2 c2 b : Nat) (S T : Nat → U) (w : World) (hS : UnitsIn w A1 n S) (hT : UnitsIn w A2 n2 T) (hF : Fits S n) (hv : chg n n2 S T = true) (hb : b < 2 ^ n) :
    Calls Try.prog 16 #[.slice A1 n c1, .slice A2 n2 c2, .int .i64 (b : Int)] w (MixPost n S T b w) := by
  obtain ⟨h8, rfl, _, _⟩ := chg_parts hv
  have hwr := two_pow8' h8
  have h256 := pow8_le h8
  have HS := Lib.hid hS
  have HT := Lib.hid hT
  have HF := Lib.hid hF
  have HV := Lib.hid hv
  clear hS hT hF hv
  go_enter Try.func16, Try.ntmps16
  go_wp2_with fail
  obtain ⟨W, hW⟩ : ∃ W, w.alloc (.cells #[.slice A1 n c1, .slice A2 n c2, .slice none 0 0] 56) = W := ⟨_, rfl⟩
  rw [hW]
  have k : Below w.heap.size w W := by rw [← hW]; exact (Below.refl _ _).alloc (Nat.le_refl _) _
  have b8 : Blk W w.heap.size 56 #[.slice A1 n c1, .slice A2 n c2, .slice none 0 0] := by rw [← hW]; exact Blk.made _ _ _
  refine (change_any A1 A2 none n c1 n c2 0 0 S T W (HS.out.below k (Nat.le_refl _)) (HT.out.below k (Nat.le_refl _)) HF.out (by omega)).mono ?_
  rintro e w1 ⟨rfl, k1⟩
  rw [HV.out]
  have b9 := b8.below k1 b8.lt
  have z0 : w1.cell? ⟨w.heap.size, 0, none⟩ = some (.slice A1 n c1) := b9.cell 0
  have z1 : w1.cell? ⟨w.heap.size, 1, none⟩ = some (.slice A2 n c2) := b9.cell 1
  have z2 : w1.cell? ⟨w.heap.size, 2, none⟩ = some (.slice none 0 0) := b9.cell 2
  have K1 := Lib.hid (k.trans (k1.mono k.size))
  clear k k1 hW b8 b9
  have h1k : n ≤ 1000 := by omega
  obtain ⟨N, hN⟩ : ∃ N : Nat, 2 ^ n = N := ⟨_, rfl⟩
  rw [hN] at hwr hb h256
  have g0 : decide ((b : Int) < 0) = false := decide_eq_false (by omega)
  have g1 : decide ((N : Int) ≤ b) = false := decide_eq_false (by omega)
  have g1' : decide (N ≤ b) = false := decide_eq_false (by omega)
  have g2 : decide ((b : Int) < (N : Int)) = true := decide_eq_true (by omega)
  clear hN
  go_wp2_with fail
  refine (mixed_any A1 A2 none n c1 c2 0 0 b S T w1 (HS.out.below K1.out (Nat.le_refl _)) (HT.out.below K1.out (Nat.le_refl _)) h8 (by omega)).mono ?_
  rintro e w2 ⟨⟨A, c, rfl, hu, hnc⟩, k2⟩
  have HU := Lib.hid hu
  have K2 := Lib.hid (K1.out.trans (k2.mono K1.out.size))
  clear k2 hu z0 z1 z2
  go_wp2_with fail
  go_ret2
  exact ⟨⟨A, c, hnc, rfl, HU.out⟩, K2.out⟩
end Go.Proofs.Ytcjbjhkmnfegnaa
