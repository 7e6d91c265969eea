/-
  The contract of mixed: the units of both sets, chosen by a number's bits. No condition.
-/
import Derived.Test.YtcjbjhkmnfegnaaC5
import Derived.OwnWalk
namespace Go.Proofs.Ytcjbjhkmnfegnaa
open Go.RowKit
/-- a mixed set -/
def mx (S T : Nat → U) (b : Nat) (k : Nat) : U := if b.testBit k then T k else S k
theorem Try.info40 : (Try.prog.info? 40).map (fun i => (i.zero, i.size, i.bytes)) = some (some (.agg #[.string ByteArray.empty, .int .i64 0]), 2, 24) := by kernel_rfl
/-- the cells of the first k units -/
def ufl (S : Nat → U) : Nat → List Value
  | 0 => []
  | k + 1 => ufl S k ++ [.string (S k).1, .int .i64 (S k).2]
theorem ufl_len (S : Nat → U) : ∀ k, (ufl S k).length = k * 2
  | 0 => rfl
  | k + 1 => by rw [ufl, List.length_append, ufl_len S k]; simp; omega
theorem ufl_at (S : Nat → U) : ∀ n k, k < n → (ufl S n)[k * 2]? = some (.string (S k).1) ∧ (ufl S n)[k * 2 + 1]? = some (.int .i64 (S k).2)
  | 0, k, h => by omega
  | n + 1, k, h => by
    have hl := ufl_len S n
    rw [ufl]
    rcases Nat.lt_or_ge k n with h' | h'
    · obtain ⟨a, b⟩ := ufl_at S n k h'
      rw [List.getElem?_append_left (by omega), List.getElem?_append_left (by omega)]
      exact ⟨a, b⟩
    · obtain rfl : k = n := by omega
      rw [List.getElem?_append_right (by omega), List.getElem?_append_right (by omega), hl]
      simp
theorem own_units {w : World} {base : Nat} {v : Value} {n : Nat} {S : Nat → U} (h : w.ownsRow base 40 2 v n (ufl S n)) (h1 : n ≤ 1000) :
    ∃ A c, v = .slice A n c ∧ UnitsIn w A n S ∧ n ≤ c := by
  rcases h.2 with ⟨rfl, h0⟩ | ⟨g, cap, cur, rfl, _, hh, hc, _⟩
  · obtain rfl : n = 0 := h0
    exact ⟨none, 0, rfl, ⟨by omega, fun h => absurd h (by omega)⟩, Nat.le_refl _⟩
  · refine ⟨_, _, rfl, ⟨by omega, fun _ => ⟨g, 0, rfl, lt_of_block hh, fun k hk => ?_⟩⟩, hc⟩
    obtain ⟨a, b⟩ := ufl_at S n k (by omega)
    have h1 := h.cells (g := g) rfl _ _ a
    have h2 := h.cells (g := g) rfl _ _ b
    rw [add_eq] at h1 h2
    exact ⟨h1, h2⟩
theorem new_two (w : World) (x y : Value) (t : TypeId) : ∀ (j : Nat) (u : Value), [x, y][j]? = some u → (w.alloc (.cells #[x, y] t)).cell? ((⟨w.heap.size, 0, none⟩ : Addr).add j) = some u := by
  intro j u hj
  have hb := Blk.made w t #[x, y]
  rw [add_eq, Nat.zero_add, hb.cell]
  simpa using hj
theorem one_two (a : ByteArray) (b : Int) : ∀ u ∈ [Value.string a, Value.int .i64 b], u.oneCell' = true := by
  intro u hu
  simp at hu
  rcases hu with rfl | rfl <;> rfl

theorem bit_tab : ∀ b : Fin 256, ∀ k : Fin 8, bits .and .i64 (((b.val : Nat) : Int) / 2 ^ k.val) 1 = if b.val.testBit k.val then 1 else 0 := by decide +kernel
theorem bit_yes {b k : Nat} (hb : b < 256) (hk : k < 8) (h : b.testBit k = true) : bits .and .i64 ((b : Int) / 2 ^ k) 1 = 1 := by
  have := bit_tab ⟨b, hb⟩ ⟨k, hk⟩
  simpa [h] using this
theorem bit_no {b k : Nat} (hb : b < 256) (hk : k < 8) (h : b.testBit k = false) : bits .and .i64 ((b : Int) / 2 ^ k) 1 = 0 := by
  have := bit_tab ⟨b, hb⟩ ⟨k, hk⟩
  simpa [h] using this
set_option maxHeartbeats 2000000 in
theorem mixed_any (A1 A2 A3 : Option Addr) (n c1 c2 m c3 b : Nat) (S T : Nat → U) (w : World) (hS : UnitsIn w A1 n S) (hT : UnitsIn w A2 n T) (hn : n ≤ 8) (hb : b < 256) :
    Calls Try.prog 33 #[.agg #[.slice A1 n c1, .slice A2 n c2, .slice A3 m c3], .int .i64 b] w fun e w' => (∃ A c, e = .returned (.slice A n c) ∧ UnitsIn w' A n (mx S T b) ∧ n ≤ c) ∧ Below w.heap.size w w' := by
  obtain ⟨i0, hi, hz0, hz1, hz2⟩ := info_parts Try.info40
  obtain ⟨W, hW⟩ : ∃ W, w.alloc (.cells #[.slice A1 n c1, .slice A2 n c2, .slice A3 m c3] 56) = W := ⟨_, rfl⟩
  have bW : Blk W w.heap.size 56 #[.slice A1 n c1, .slice A2 n c2, .slice A3 m c3] := by rw [← hW]; exact Blk.made _ _ _
  have kW : Below w.heap.size w W := by rw [← hW]; exact (Below.refl _ _).alloc (Nat.le_refl _) _
  obtain ⟨l1, hS⟩ := hS
  obtain ⟨l2, hT⟩ := hT
  have HS := Lib.hid hS
  have HT := Lib.hid hT
  have hi' := Lib.hid hi
  have hz0' := Lib.hid hz0
  have hz1' := Lib.hid hz1
  have hz2' := Lib.hid hz2
  have B := Lib.hid bW
  have K := Lib.hid kW
  have HW := Lib.hid hW
  clear hS hT hi hz0 hz1 hz2 bW kW hW
  go_enter Try.func33, Try.ntmps33
  go_wp2_with fail
  rw [HW.out]
  go_loopw [5, 10] (fun v i wr => ∃ k : Nat, k ≤ n ∧ i = .int .i64 k ∧ wr.ownsRow (w.heap.size + 1) 40 2 v k (ufl (mx S T b) k) ∧ Blk wr w.heap.size 56 #[.slice A1 n c1, .slice A2 n c2, .slice A3 m c3] ∧ Below w.heap.size w wr)
    (fun _ i _ => n - (intOf i).toNat)
  case atStart => exact ⟨0, Nat.zero_le _, rfl, World.ownsRow_nil _ _ _ _, B.out, K.out⟩
  case round =>
    obtain ⟨k, hk, rfl, hrow, hbl, kr⟩ := hrel
    by_cases hlt : k < n
    · obtain ⟨ob, off, rfl, hob, hcell⟩ := HS.out (by omega)
      obtain ⟨c0, c1'⟩ := hcell k hlt
      have y0 : wr.cell? ⟨ob, off + k * 2, none⟩ = some (.string (S k).1) := (kr.cell (p := ⟨ob, off + k * 2, none⟩) hob).trans c0
      have y1 : wr.cell? ⟨ob, off + k * 2 + 1, none⟩ = some (.int .i64 (S k).2) := (kr.cell (p := ⟨ob, off + k * 2 + 1, none⟩) hob).trans c1'
      clear hcell c0 c1'
      have z1 : wr.cell? ⟨w.heap.size, 0, none⟩ = some (.slice (some ⟨ob, off, none⟩) n c1) := hbl.cell 0
      have z2 : wr.cell? ⟨w.heap.size, 1, none⟩ = some (.slice A2 n c2) := hbl.cell 1
      cases ht : b.testBit k with
      | true =>
        obtain ⟨ob2, off2, rfl, hob2, hcell⟩ := HT.out (by omega)
        obtain ⟨c0, c1'⟩ := hcell k hlt
        have x0 : wr.cell? ⟨ob2, off2 + k * 2, none⟩ = some (.string (T k).1) := (kr.cell (p := ⟨ob2, off2 + k * 2, none⟩) hob2).trans c0
        have x1 : wr.cell? ⟨ob2, off2 + k * 2 + 1, none⟩ = some (.int .i64 (T k).2) := (kr.cell (p := ⟨ob2, off2 + k * 2 + 1, none⟩) hob2).trans c1'
        clear hcell c0 c1'
        have HX := Lib.hid (show mx S T b k = T k by simp [mx, ht])
        have hbit := bit_yes hb (by omega) ht
        clear ht
        go_wp2_with (at_builtin; refine wpList_append_own _ rfl _ _ 23 rfl (w.heap.size + 1) 40 i0 (.agg #[.string ByteArray.empty, .int .i64 0]) 2 24 Try.underlying23 hi'.out hz0'.out hz1'.out hz2'.out rfl (by decide) _ _ _ rfl (hrow.alloc _) ⟨wr.heap.size, 0, none⟩ 1 1 [.string (T k).1, .int .i64 (T k).2] rfl rfl (new_two _ _ _ _) (one_two _ _) (by unfold maxLen; omega) (by omega) (by have := hbl.lt; simp; omega) ?_; intro v' w2 hrow2 hg2 _)
        have kA : Below w.heap.size w (wr.alloc (.cells #[.string (T k).1, .int .i64 (T k).2] 40)) := kr.alloc kr.size _
        have hbl2 : Blk w2 w.heap.size 56 #[.slice (some ⟨ob, off, none⟩) n c1, .slice (some ⟨ob2, off2, none⟩) n c2, .slice A3 m c3] := (hbl.alloc _).grown hg2 (fun e => by have := (hrow.lt _ e.symm).1; omega)
        have kB2 : Below w.heap.size w w2 := kA.grown hg2 kA.size (fun j e => by have := (hrow.lt j e).1; omega)
        go_roundw
        case rel => exact ⟨k + 1, by omega, by go_num, by rw [ufl, HX.out]; exact hrow2, hbl2, kB2⟩
        case measure => simp [intOf]; omega
      | false =>
        have HX := Lib.hid (show mx S T b k = S k by simp [mx, ht])
        have hbit := bit_no hb (by omega) ht
        clear ht
        go_wp2_with (at_builtin; refine wpList_append_own _ rfl _ _ 23 rfl (w.heap.size + 1) 40 i0 (.agg #[.string ByteArray.empty, .int .i64 0]) 2 24 Try.underlying23 hi'.out hz0'.out hz1'.out hz2'.out rfl (by decide) _ _ _ rfl (hrow.alloc _) ⟨wr.heap.size, 0, none⟩ 1 1 [.string (S k).1, .int .i64 (S k).2] rfl rfl (new_two _ _ _ _) (one_two _ _) (by unfold maxLen; omega) (by omega) (by have := hbl.lt; simp; omega) ?_; intro v' w2 hrow2 hg2 _)
        have kA : Below w.heap.size w (wr.alloc (.cells #[.string (S k).1, .int .i64 (S k).2] 40)) := kr.alloc kr.size _
        have hbl2 : Blk w2 w.heap.size 56 #[.slice (some ⟨ob, off, none⟩) n c1, .slice A2 n c2, .slice A3 m c3] := (hbl.alloc _).grown hg2 (fun e => by have := (hrow.lt _ e.symm).1; omega)
        have kB2 : Below w.heap.size w w2 := kA.grown hg2 kA.size (fun j e => by have := (hrow.lt j e).1; omega)
        go_roundw
        case rel => exact ⟨k + 1, by omega, by go_num, by rw [ufl, HX.out]; exact hrow2, hbl2, kB2⟩
        case measure => simp [intOf]; omega
    · obtain rfl : k = n := by omega
      go_wp2_with fail
      go_ret
      obtain ⟨A, c, rfl, hu, hc⟩ := own_units hrow (by omega)
      exact ⟨⟨A, c, rfl, hu, hc⟩, kr⟩
end Go.Proofs.Ytcjbjhkmnfegnaa
