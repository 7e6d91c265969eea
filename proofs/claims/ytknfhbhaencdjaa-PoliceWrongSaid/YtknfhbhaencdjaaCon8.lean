/-
  The contracts of flow (the flow that a law builds of its gaps and sizes: at most 80 frames) and of Filter at a contract that is none. No condition.
-/
import Derived.Test.YtknfhbhaencdjaaCon7
namespace Go.Proofs.Ytknfhbhaencdjaa
open Go.RowKit

/-- the time after k gaps; the time and the size of frame k -/
def fAcc (g : Nat → Int) : Nat → Int
  | 0 => 0
  | k + 1 => fAcc g k + g k % 401
def fTm (g : Nat → Int) (k : Nat) : Int := fAcc g (k + 1)
def fSz (z : Nat → Int) (n : Nat) (k : Nat) : Int := if k < n then 1 + z k % 100 else 1
theorem fAcc_bd (g : Nat → Int) : ∀ k, 0 ≤ fAcc g k ∧ fAcc g k ≤ 400 * k
  | 0 => ⟨Int.le_refl _, by simp [fAcc]⟩
  | k + 1 => by
    have := fAcc_bd g k
    show 0 ≤ fAcc g k + g k % 401 ∧ fAcc g k + g k % 401 ≤ _
    omega
theorem fSz_bd (z : Nat → Int) (n k : Nat) : 1 ≤ fSz z n k ∧ fSz z n k ≤ 100 := by
  unfold fSz
  split <;> omega
theorem fClk (g : Nat → Int) (k : Nat) : Pol.clk (fTm g) k = fAcc g k := by
  cases k <;> rfl
theorem f_fine (g z : Nat → Int) (n m : Nat) (hm : m ≤ 80) : Pol.Fine (fTm g) (fSz z n) m := fun k hk => by
  have h1 := fAcc_bd g (k + 1)
  have h2 := fSz_bd z n k
  have h3 : fAcc g (k + 1) = fAcc g k + g k % 401 := rfl
  rw [fClk]
  refine ⟨by show _ ≤ fAcc g (k + 1); omega, by show fAcc g (k + 1) ≤ _; omega, h2.1, by omega⟩

set_option maxRecDepth 100000 in
set_option maxHeartbeats 4000000 in
theorem flow_any (A0 : Option Addr) (n0 c0 : Nat) (g : Nat → Int) (A1 : Option Addr) (n1 c1 : Nat) (z : Nat → Int) (w : World) (hg : Ints w A0 n0 g) (hz : Ints w A1 n1 z) :
    Calls Try.prog 19 #[.slice A0 n0 c0, .slice A1 n1 c1] w fun e w' => ∃ v, e = .returned v ∧ Rows2 w' w.heap.size v (min n0 80) (fTm g) (fSz z n1) ∧ Below w.heap.size w w' := by
  obtain ⟨i0, hi, hz0, hz1, hz2⟩ := info_parts Try.info37
  obtain ⟨l3, hg⟩ := hg
  obtain ⟨l4, hz⟩ := hz
  have HG := Lib.hid hg
  have HZ := Lib.hid hz
  have hi' := Lib.hid hi
  have hz0' := Lib.hid hz0
  have hz1' := Lib.hid hz1
  have hz2' := Lib.hid hz2
  clear hg hz hi hz0 hz1 hz2
  go_enter Try.func19, Try.ntmps19
  go_wp2_with fail
  go_loopw [5, 6, 7] (fun v t i wr => ∃ k : Nat, k ≤ n0 ∧ k ≤ 80 ∧ i = .int .i64 k ∧ t = .int .i64 (fAcc g k) ∧ Rows2 wr w.heap.size v k (fTm g) (fSz z n1) ∧ Below w.heap.size w wr)
    (fun _ _ i _ => 80 - (intOf i).toNat)
  case atStart => exact ⟨0, Nat.zero_le _, Nat.zero_le _, rfl, rfl, World.ownsRow_nil _ _ _ _, Below.refl _ _⟩
  case round =>
    obtain ⟨k, hk, hk80, rfl, rfl, hrow, kB⟩ := hrel
    by_cases hlt : k < n0 ∧ k < 80
    · obtain ⟨h3, h80⟩ := hlt
      obtain ⟨b, off, rfl, hb, hcell⟩ := HG.out (by omega)
      have y0 : wr.cell? ⟨b, off + k, none⟩ = some (.int .i64 (g k)) := (kB.cell (p := ⟨b, off + k, none⟩) hb).trans (hcell k h3)
      clear hcell
      obtain ⟨r1, r2⟩ := fAcc_bd g k
      have r3 : 0 ≤ g k % 401 := by omega
      have r4 : g k % 401 < 401 := by omega
      have eT := Lib.hid (show fAcc g (k + 1) = fAcc g k + g k % 401 from rfl)
      by_cases h4 : k < n1
      · obtain ⟨b4, o4, rfl, hb4, hc4⟩ := HZ.out (by omega)
        have y4 : wr.cell? ⟨b4, o4 + k, none⟩ = some (.int .i64 (z k)) := (kB.cell (p := ⟨b4, o4 + k, none⟩) hb4).trans (hc4 k h4)
        have m4 : 0 ≤ z k % 100 := by omega
        have m4' : z k % 100 < 100 := by omega
        have e5 := Lib.hid (show fSz z n1 k = 1 + z k % 100 from if_pos h4)
        clear hc4
        go_wp2_with (first
          | (go_at_call 15; refine (pick_any _ _ _ (by omega) (by omega)).mono ?_; rintro e w' ⟨rfl, rfl⟩)
          | (at_builtin; refine wpList_append_own _ rfl _ _ 33 rfl w.heap.size 37 i0 (.agg #[.int .i64 0, .int .i64 0]) 2 16 Try.underlying33 hi'.out hz0'.out hz1'.out hz2'.out rfl (by decide) _ _ _ rfl (hrow.alloc _) ⟨wr.heap.size, 0, none⟩ 1 1 [.int .i64 (fAcc g k + g k % 401), .int .i64 (1 + z k % 100)] rfl rfl (new_two _ _ _ _) (one_two _ _) (by unfold maxLen; omega) (by omega) (by have := kB.size; simp; omega) ?_; intro v' w2 hrow2 hg2 _))
        have kB2 : Below w.heap.size w w2 := (kB.alloc kB.size _).grown hg2 (by have := kB.size; simp; omega) (fun j e => (hrow.lt j e).1)
        go_roundw
        case rel => exact ⟨k + 1, by omega, by omega, by go_num, rfl, by show World.ownsRow _ _ _ _ _ _ (_ ++ [.int .i64 (fAcc g (k + 1)), .int .i64 (fSz z n1 k)]); rw [eT.out, e5.out]; exact hrow2, kB2⟩
        case measure => simp [intOf]; omega
      · have e5 := Lib.hid (show fSz z n1 k = 1 from if_neg h4)
        go_wp2_with (first
          | (go_at_call 15; refine (pick_any _ _ _ (by omega) (by omega)).mono ?_; rintro e w' ⟨rfl, rfl⟩)
          | (at_builtin; refine wpList_append_own _ rfl _ _ 33 rfl w.heap.size 37 i0 (.agg #[.int .i64 0, .int .i64 0]) 2 16 Try.underlying33 hi'.out hz0'.out hz1'.out hz2'.out rfl (by decide) _ _ _ rfl (hrow.alloc _) ⟨wr.heap.size, 0, none⟩ 1 1 [.int .i64 (fAcc g k + g k % 401), .int .i64 1] rfl rfl (new_two _ _ _ _) (one_two _ _) (by unfold maxLen; omega) (by omega) (by have := kB.size; simp; omega) ?_; intro v' w2 hrow2 hg2 _))
        have kB2 : Below w.heap.size w w2 := (kB.alloc kB.size _).grown hg2 (by have := kB.size; simp; omega) (fun j e => (hrow.lt j e).1)
        go_roundw
        case rel => exact ⟨k + 1, by omega, by omega, by go_num, rfl, by show World.ownsRow _ _ _ _ _ _ (_ ++ [.int .i64 (fAcc g (k + 1)), .int .i64 (fSz z n1 k)]); rw [eT.out, e5.out]; exact hrow2, kB2⟩
        case measure => simp [intOf]; omega
    · have hmin : min n0 80 = k := by omega
      have HM := Lib.hid hmin
      clear hmin
      by_cases h3 : k < n0
      · have h80 : ¬ k < 80 := by omega
        clear hlt
        go_wp2_with fail
        go_ret
        exact ⟨_, rfl, by rw [HM.out]; exact hrow, kB⟩
      · have h80 : ¬ k < n0 := by omega
        clear hlt
        go_wp2_with fail
        go_ret
        exact ⟨_, rfl, by rw [HM.out]; exact hrow, kB⟩

set_option maxHeartbeats 400000 in
theorem filter_bad (B S J : Int) (A : Option Addr) (m c : Nat) (w : World) (h : okC B S J = false) :
    Calls Try.prog 20 #[.int .i64 B, .int .i64 S, .int .i64 J, .slice A m c] w fun e w' => e = .returned (.tuple #[.slice none 0 0, .int .i64 2]) ∧ Below w.heap.size w w' := by
  go_enter Try.func20, Try.ntmps20
  go_wp2_with fail
  refine (new_bad _ _ _ _ h).mono ?_
  rintro e w1 ⟨rfl, hB1⟩
  have e0 : Blk w1 w.heap.size 27 #[.slice none 0 0] := ((Blk.made w 27 #[.slice none 0 0]).alloc _).below hB1 (by simp; omega)
  have e1 : Blk w1 (w.heap.size + 1) 22 #[.int .i64 0] := (Blk.made_at (g := w.heap.size + 1) (w.alloc (.cells #[.slice none 0 0] 27)) 22 #[.int .i64 0] (by simp)).below hB1 (by simp)
  have k1 : Below w.heap.size w w1 := (((Below.refl _ w).alloc (Nat.le_refl _) (.cells #[.slice none 0 0] 27)).alloc (by simp) (.cells #[.int .i64 0] 22)).trans (hB1.mono (by simp; omega))
  have z0 := e0.cell 0
  have z1 := e0.free 0
  have z2 := e1.cell 0
  have z3 := e1.free 0
  simp only [List.getElem?_toArray, List.getElem?_cons_zero] at z0 z2
  have K1 := Lib.hid k1
  clear k1 hB1
  go_wp2_with fail
  obtain ⟨W4, hW4⟩ : ∃ W4, (w1.setCell ⟨w.heap.size, 0, none⟩ (.slice none 0 0)).setCell ⟨w.heap.size + 1, 0, none⟩ (.int .i64 2) = W4 := ⟨_, rfl⟩
  have b0 : Blk W4 w.heap.size 27 #[.slice none 0 0] := by rw [← hW4]; exact (e0.put 0 _).far (p := ⟨w.heap.size + 1, 0, none⟩) (by show w.heap.size ≠ w.heap.size + 1; omega) _
  have b1 : Blk W4 (w.heap.size + 1) 22 #[.int .i64 2] := by rw [← hW4]; exact (e1.far (p := ⟨w.heap.size, 0, none⟩) (by show w.heap.size + 1 ≠ w.heap.size; omega) _).put 0 _
  have b2 : Below w.heap.size w W4 := by rw [← hW4]; exact (K1.out.setCell (p := ⟨w.heap.size, 0, none⟩) (Nat.le_refl _) _).setCell (p := ⟨w.heap.size + 1, 0, none⟩) (by show w.heap.size ≤ w.heap.size + 1; omega) _
  have hc1 := b0.cell 0
  have hc2 := b1.cell 0
  rw [hW4]
  refine ⟨rfl, .tuple #[.slice none 0 0, .int .i64 2], ?_, rfl, b2⟩
  simp [results, Try.f20, go_sem, hc1, hc2]
end Go.Proofs.Ytknfhbhaencdjaa
