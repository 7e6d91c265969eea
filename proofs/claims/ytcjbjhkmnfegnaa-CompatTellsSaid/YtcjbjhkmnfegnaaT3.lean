/-
  The contract of the document's own Mixed (nacelleref39). Conditions: at most eight units, a number below 256.
-/
import Derived.Test.YtcjbjhkmnfegnaaT2
namespace Go.Proofs.Ytcjbjhkmnfegnaa
open Go.RowKit Go.Shelf
theorem half_bit (b k : Nat) : (b / 2 ^ k) % 2 = if b.testBit k then 1 else 0 := by
  rw [Nat.testBit_eq_decide_div_mod_eq]
  by_cases h : b / 2 ^ k % 2 = 1
  · simp [h]
  · simp [h]; omega
theorem half_next (b k : Nat) : b / 2 ^ (k + 1) = b / 2 ^ k / 2 := by rw [Nat.pow_succ, Nat.div_div_eq_div_mul]
set_option maxRecDepth 100000 in
set_option maxHeartbeats 4000000 in
theorem rmixed_any (A1 A2 : Option Addr) (n c1 c2 b : Nat) (S T : Nat → U) (w : World) (hS : UnitsIn w A1 n S) (hT : UnitsIn w A2 n T) (hn : n ≤ 8) (hb : b < 256) :
    Calls Try.prog 24 #[.slice A1 n c1, .slice A2 n c2, .int .i64 b] w fun e w' => (∃ A c, e = .returned (.slice A n c) ∧ UnitsIn w' A n (mx S T b) ∧ n ≤ c) ∧ Below w.heap.size w w' := by
  have HS := Lib.hid hS
  have HT := Lib.hid hT
  clear hS hT
  go_enter Try.func24, Try.ntmps24
  go_wp2_with fail
  go_loopw [2, 7, 8] (fun bv v i wr => ∃ k : Nat, k ≤ n ∧ i = .int .i64 k ∧ bv = .int .i64 ((b / 2 ^ k : Nat)) ∧ wr.ownsRow w.heap.size 40 2 v k (ufl (mx S T b) k) ∧ Below w.heap.size w wr)
    (fun _ _ i _ => n - (intOf i).toNat)
  case atStart => exact ⟨0, Nat.zero_le _, rfl, by simp, World.ownsRow_nil _ _ _ _, Below.refl _ _⟩
  case round =>
    obtain ⟨k, hk, rfl, rfl, hrow, kr⟩ := hrel
    have HROW := Lib.hid hrow
    have KR := Lib.hid kr
    clear hrow kr
    by_cases hlt : k < n
    · obtain ⟨ob, off, rfl, hob, hcell⟩ := HS.out.2 (by omega)
      obtain ⟨c0, c1'⟩ := hcell k hlt
      clear hcell
      obtain ⟨ob2, off2, rfl, hob2, hcell⟩ := HT.out.2 (by omega)
      obtain ⟨d0, d1⟩ := hcell k hlt
      clear hcell
      have y0 := (KR.out.cell (p := ⟨ob, off + k * 2, none⟩) hob).trans c0
      have y1 := (KR.out.cell (p := ⟨ob, off + k * 2 + 1, none⟩) hob).trans c1'
      have z0 := (KR.out.cell (p := ⟨ob2, off2 + k * 2, none⟩) hob2).trans d0
      have z1 := (KR.out.cell (p := ⟨ob2, off2 + k * 2 + 1, none⟩) hob2).trans d1
      have hhb := half_bit b k
      have HHN := Lib.hid (half_next b k)
      have HMX : Hid (mx S T b k = if b.testBit k then T k else S k) := Lib.hid rfl
      have hqb : b / 2 ^ k < 256 := Nat.lt_of_le_of_lt (Nat.div_le_self _ _) hb
      obtain ⟨q, hq⟩ : ∃ q, b / 2 ^ k = q := ⟨_, rfl⟩
      rw [hq] at hhb HHN hqb
      rw [hq]
      clear hq c0 c1' d0 d1
      have g1 : decide (n ≤ k) = false := decide_eq_false (by omega)
      have g2 : decide ((k : Int) < 0) = false := decide_eq_false (by omega)
      have g3 : (k : Int) < n := by omega
      cases ht : b.testBit k with
      | true =>
        have HX := Lib.hid (show mx S T b k = T k by rw [HMX.out, ht]; rfl)
        rw [ht] at hhb
        have hq1 : q % 2 = 1 := hhb
        have hq2 : (q : Int) % 2 = 1 := by omega
        clear ht hhb y0 y1
        go_wp2_with (at_builtin; refine wpList_append_u rfl _ _ rfl w.heap.size _ k _ rfl (HROW.out.alloc _) ⟨wr.heap.size, 0, none⟩ 1 1 [.string (T k).1, .int .i64 (T k).2] rfl rfl (new_two _ _ _ _) (one_two _ _) (by omega) (by have := KR.out.size; simp; omega) ?_; intro v2 w2 r2 g2' _)
        have R2 := Lib.hid r2
        have K2 := Lib.hid ((KR.out.alloc KR.out.size _).grown g2' (by have := KR.out.size; simp; omega) (fun i e => (HROW.out.lt i e).1))
        clear r2 g2'
        go_roundw
        case rel => exact ⟨k + 1, by omega, by go_num, by rw [HHN.out]; first | rfl | (push_cast; rfl) | simp, by rw [ufl, HX.out]; exact R2.out, K2.out⟩
        case measure => simp [intOf]; omega
      | false =>
        have HX := Lib.hid (show mx S T b k = S k by rw [HMX.out, ht]; rfl)
        rw [ht] at hhb
        have hq1 : q % 2 = 0 := by simpa using hhb
        have hq2 : (q : Int) % 2 = 0 := by omega
        clear ht hhb z0 z1
        go_wp2_with (at_builtin; refine wpList_append_u rfl _ _ rfl w.heap.size _ k _ rfl (HROW.out.alloc _) ⟨wr.heap.size, 0, none⟩ 1 1 [.string (S k).1, .int .i64 (S k).2] rfl rfl (new_two _ _ _ _) (one_two _ _) (by omega) (by have := KR.out.size; simp; omega) ?_; intro v2 w2 r2 g2' _)
        have R2 := Lib.hid r2
        have K2 := Lib.hid ((KR.out.alloc KR.out.size _).grown g2' (by have := KR.out.size; simp; omega) (fun i e => (HROW.out.lt i e).1))
        clear r2 g2'
        go_roundw
        case rel => exact ⟨k + 1, by omega, by go_num, by rw [HHN.out]; first | rfl | (push_cast; rfl) | simp, by rw [ufl, HX.out]; exact R2.out, K2.out⟩
        case measure => simp [intOf]; omega
    · obtain rfl : n = k := by omega
      have gnn : decide ((n : Int) < n) = false := decide_eq_false (by omega)
      obtain ⟨A, c, rfl, hu, hc⟩ := own_units HROW.out (by omega)
      have HU := Lib.hid hu
      clear hu
      go_wp2_with fail
      go_ret
      exact ⟨⟨A, c, rfl, HU.out, hc⟩, KR.out⟩
end Go.Proofs.Ytcjbjhkmnfegnaa
