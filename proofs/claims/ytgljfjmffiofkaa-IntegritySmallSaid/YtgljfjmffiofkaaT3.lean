/-
  The contract of run: any list of at most 1000 operations. No condition.
-/
import Derived.Test.YtgljfjmffiofkaaT2
import Derived.Test.YtgljfjmffiofkaaOp
namespace Go.Proofs.Ytgljfjmffiofkaa
open Go.RowKit

set_option maxHeartbeats 4000000 in
theorem run_any (A : Option Addr) (n c : Nat) (X Z : Nat → Int) (w : World) (hO : Ops w A n X Z) (hn : n ≤ 1000) :
    Calls Try.prog 24 #[.slice A n c] w fun e w' => e = .returned (.bool true) ∧ Below w.heap.size w w' := by
  obtain ⟨n1, hO⟩ := hO
  have HO := Lib.hid hO
  clear hO
  go_enter Try.func24, Try.ntmps24
  go_wp2_with fail
  refine (new_any _).mono ?_
  rintro e wN ⟨fb, rfl, hfb, kN, hf⟩
  go_wp2_with fail
  refine (refNew_any _).mono ?_
  rintro e wM ⟨rfl, kM⟩
  go_wp2_with fail
  obtain ⟨W, hW⟩ : ∃ W, wM.alloc (.cells #[.int .i64 (rp false 0), .int .i64 0, .int .i64 0] 43) = W := ⟨_, rfl⟩
  try rw [hW]
  have hlf := hf.lt
  have hsz := kM.size
  have hsz2 := kN.size
  have b0 := Lib.hid (show Blk W wM.heap.size 43 #[.int .i64 (rp false 0), .int .i64 0, .int .i64 0] from by rw [← hW]; exact Blk.made _ _ _)
  have f0 := Lib.hid (show Flt W fb 0 0 0 false from by rw [← hW]; exact (hf.below kM hlf).alloc _)
  have k0 := Lib.hid (show Below w.heap.size w W from by rw [← hW]; exact (kN.trans (kM.mono kN.size)).alloc (by omega) _)
  have hne : fb ≠ wM.heap.size := by omega
  have hlw : w.heap.size ≤ wM.heap.size := by omega
  clear hW hf kN kM hsz hsz2 hlf
  generalize wM.heap.size = rb at *
  go_loopw [5] (fun i wr => ∃ (k : Nat) (a r p : Int) (s : Bool), k ≤ n ∧ i = .int .i64 k ∧ 0 ≤ a ∧ a ≤ k ∧ 0 ≤ r ∧ r ≤ k ∧ (s = true → isN p = true) ∧ Blk wr rb 43 #[.int .i64 (rp s p), .int .i64 a, .int .i64 r] ∧ Flt wr fb a r p s ∧ Below w.heap.size w wr)
    (fun i _ => n - (intOf i).toNat)
  case atStart => exact ⟨0, 0, 0, 0, false, by omega, rfl, by omega, by omega, by omega, by omega, by simp, b0.out, f0.out, k0.out⟩
  case round =>
    obtain ⟨k, a, r, p, s, hk, rfl, a0, a1, r0, r1, hp, hb, hf, kr⟩ := hrel
    have HP := Lib.hid hp
    have HB := Lib.hid hb
    have HF := Lib.hid hf
    have KR := Lib.hid kr
    clear hp hb hf kr
    by_cases hlt : k < n
    · obtain ⟨ob, off, rfl, hbo, hcell⟩ := HO.out (by omega)
      obtain ⟨y0, y1, x0, x1⟩ := hcell k hlt
      have z0 : wr.cell? ⟨ob, off + k * 2, none⟩ = some (.int .u8 (X k)) := (KR.out.cell (p := ⟨ob, off + k * 2, none⟩) hbo).trans y0
      have z1 : wr.cell? ⟨ob, off + k * 2 + 1, none⟩ = some (.int .i64 (Z k)) := (KR.out.cell (p := ⟨ob, off + k * 2 + 1, none⟩) hbo).trans y1
      clear hcell y0 y1
      generalize X k = x at *
      generalize Z k = z at *
      have z2 : wr.cell? ⟨rb, 0, none⟩ = some (.int .i64 (rp s p)) := HB.out.cell 0
      have z3 : wr.cell? ⟨rb, 1, none⟩ = some (.int .i64 a) := HB.out.cell 1
      have z4 : wr.cell? ⟨rb, 2, none⟩ = some (.int .i64 r) := HB.out.cell 2
      have g0 : decide (n ≤ k) = false := decide_eq_false (by omega)
      have g1 : decide ((k : Int) < 0) = false := decide_eq_false (by omega)
      have n0 : Hid (some rb ≠ some fb) := Lib.hid (by intro e; injection e; omega)
      have n1' : Hid (ob ≠ fb) := Lib.hid (by omega)
      obtain ⟨W1, hW1⟩ : ∃ W1, wr.alloc (.cells #[.int .i64 0, .int .i64 0, .int .i64 0] 43) = W1 := ⟨_, rfl⟩
      have hb1 : Blk W1 rb 43 #[.int .i64 (rp s p), .int .i64 a, .int .i64 r] := by rw [← hW1]; exact HB.out.alloc _
      have hn1 : Blk W1 wr.heap.size 43 #[.int .i64 0, .int .i64 0, .int .i64 0] := by rw [← hW1]; exact Blk.made _ _ _
      have hf1 : Flt W1 fb a r p s := by rw [← hW1]; exact HF.out.alloc _
      have kr1 : Below w.heap.size w W1 := by rw [← hW1]; exact KR.out.alloc KR.out.size _
      have z0' : W1.cell? ⟨ob, off + k * 2, none⟩ = some (.int .u8 x) := by rw [← hW1]; exact cell_alloc' z0 _
      have z1' : W1.cell? ⟨ob, off + k * 2 + 1, none⟩ = some (.int .i64 z) := by rw [← hW1]; exact cell_alloc' z1 _
      have z2' : W1.cell? ⟨rb, 0, none⟩ = some (.int .i64 (rp s p)) := hb1.cell 0
      have z3' : W1.cell? ⟨rb, 1, none⟩ = some (.int .i64 a) := hb1.cell 1
      have z4' : W1.cell? ⟨rb, 2, none⟩ = some (.int .i64 r) := hb1.cell 2
      have hob := Lib.hid (show ob < W1.heap.size by rw [← hW1]; simp; have := KR.out.size; omega)
      have hobr := Lib.hid (show ob < wr.heap.size from Nat.lt_of_lt_of_le hbo KR.out.size)
      have hlr := HB.out.lt
      have hlf := HF.out.lt
      have n2 : Hid (some wr.heap.size ≠ some fb) := Lib.hid (by intro e; injection e; omega)
      have hwr := KR.out.size
      have hnb : rb ≠ wr.heap.size := by omega
      have hob2 : Hid (ob ≠ wr.heap.size) := Lib.hid (by omega)
      have hob3 : Hid (ob ≠ rb) := Lib.hid (by omega)
      have hfn : Hid (fb ≠ wr.heap.size) := Lib.hid (by omega)
      have HB1 := Lib.hid hb1
      have HN1 := Lib.hid hn1
      have HF1 := Lib.hid hf1
      have KR1 := Lib.hid kr1
      have HW1 := Lib.hid hW1
      clear hb1 hn1 hf1 kr1 hW1
      go_wp2_with fail
      have nb : Hid (w.heap.size ≤ wr.heap.size) := Lib.hid hwr
      go_region_held3 (fun w' : World => w'.cell? ⟨ob, off + k * 2, none⟩ = some (.int .u8 x) ∧ w'.cell? ⟨ob, off + k * 2 + 1, none⟩ = some (.int .i64 z) ∧ w'.cell? ⟨rb, 0, none⟩ = some (.int .i64 (rp s p)) ∧ w'.cell? ⟨rb, 1, none⟩ = some (.int .i64 a) ∧ w'.cell? ⟨rb, 2, none⟩ = some (.int .i64 r))
        (first | exact ⟨z0, z1, z2, z3, z4⟩ | exact ⟨cell_alloc_drew z0 _, cell_alloc_drew z1 _, cell_alloc_drew z2 _, cell_alloc_drew z3 _, cell_alloc_drew z4 _⟩ | exact ⟨y0, y1, y2, y3, y4⟩ | exact ⟨far3 hob2.out y0, far3 hob2.out y1, far3 hnb y2, far3 hnb y3, far3 hnb y4⟩ | exact ⟨cell_alloc' y0 _, cell_alloc' y1 _, cell_alloc' y2 _, cell_alloc' y3 _, cell_alloc' y4 _⟩)
        (first
          | (go_at_call 22; refine (step_any fb a r p x z s _ (by have h := HF1.out; rw [← HW1.out] at h; exact h) HP.out x0 x1 a0 (by omega) r0 (by omega)).mono ?_; rintro e w1 ⟨a', r', p', s', rfl, q1, q2, q3, q4, hp', hf', hg'⟩
             have hg : W1.grownBy w1 (some fb) := by rw [← HW1.out]; exact (gb_drew (World.grownBy.refl _ _)).trans hg'
             have hb2 := HB1.out.grown hg n0.out
             have hn2 := HN1.out.grown hg n2.out
             have v0 := hn2.cell 0
             have v1 := hn2.cell 1
             have v2 := hn2.cell 2
             have u0 := hn2.free 0
             have u1 := hn2.free 1
             have u2 := hn2.free 2
             have HN2 := Lib.hid hn2
             have y0 : w1.cell? ⟨ob, off + k * 2, none⟩ = some (.int .u8 x) := (World.cell?_of_block (hg.block ob hob.out (by intro e; injection e with e; exact n1'.out e))).trans z0'
             have y1 : w1.cell? ⟨ob, off + k * 2 + 1, none⟩ = some (.int .i64 z) := (World.cell?_of_block (hg.block ob hob.out (by intro e; injection e with e; exact n1'.out e))).trans z1'
             have y2 : w1.cell? ⟨rb, 0, none⟩ = some (.int .i64 (rp s p)) := hb2.cell 0
             have y3 : w1.cell? ⟨rb, 1, none⟩ = some (.int .i64 a) := hb2.cell 1
             have y4 : w1.cell? ⟨rb, 2, none⟩ = some (.int .i64 r) := hb2.cell 2
             have HP2 := Lib.hid hp'
             have HF2 := Lib.hid hf'
             have HB2 := Lib.hid hb2
             have KR2 := Lib.hid (KR1.out.grown hg KR1.out.size (fun j e => by cases e; omega))
             clear hp' hf' hg' hg hb2 hn2)
          | (go_at_call 22; refine (step_any fb a r p x z s _ (by exact HF.out) HP.out x0 x1 a0 (by omega) r0 (by omega)).mono ?_; rintro e w1 ⟨a', r', p', s', rfl, q1, q2, q3, q4, hp', hf', hg'⟩
             have hg : wr.grownBy w1 (some fb) := (gb_drew (World.grownBy.refl _ _)).trans hg'
             have hb2 := HB.out.grown hg n0.out
             have y0 : w1.cell? ⟨ob, off + k * 2, none⟩ = some (.int .u8 x) := (World.cell?_of_block (hg.block ob hobr.out (by intro e; injection e with e; exact n1'.out e))).trans z0
             have y1 : w1.cell? ⟨ob, off + k * 2 + 1, none⟩ = some (.int .i64 z) := (World.cell?_of_block (hg.block ob hobr.out (by intro e; injection e with e; exact n1'.out e))).trans z1
             have y2 : w1.cell? ⟨rb, 0, none⟩ = some (.int .i64 (rp s p)) := hb2.cell 0
             have y3 : w1.cell? ⟨rb, 1, none⟩ = some (.int .i64 a) := hb2.cell 1
             have y4 : w1.cell? ⟨rb, 2, none⟩ = some (.int .i64 r) := hb2.cell 2
             have HP2 := Lib.hid hp'
             have HF2 := Lib.hid hf'
             have HB2 := Lib.hid hb2
             have KR2 := Lib.hid (KR.out.grown hg KR.out.size (fun j e => by cases e; omega))
             clear hp' hf' hg' hg hb2))
      · obtain ⟨W2, hW2⟩ : ∃ W2, w1.alloc (.cells #[.int .i64 (rp s' p'), .int .i64 a', .int .i64 r'] 43) = W2 := ⟨_, rfl⟩
        have hb3 : Blk W2 rb 43 #[.int .i64 (rp s p), .int .i64 a, .int .i64 r] := by rw [← hW2]; exact HB2.out.alloc _
        have hn3 : Blk W2 w1.heap.size 43 #[.int .i64 (rp s' p'), .int .i64 a', .int .i64 r'] := by rw [← hW2]; exact Blk.made _ _ _
        have hf3 : Flt W2 fb a' r' p' s' := by rw [← hW2]; exact HF2.out.alloc _
        have kr3 : Below w.heap.size w W2 := by rw [← hW2]; exact KR2.out.alloc KR2.out.size _
        rw [hW2]
        clear hW2 z0 z1 z2 z3 z4 z0' z1' z2' z3' z4' y0 y1 y2 y3 y4
        have c0 := hb3.cell 0
        have c1 := hb3.cell 1
        have c2 := hb3.cell 2
        have d0 := hb3.free 0
        have d1 := hb3.free 1
        have d2 := hb3.free 2
        have e0 : W2.cell? ⟨w1.heap.size, 0, none⟩ = some (.int .i64 (rp s' p')) := hn3.cell 0
        have e1 : W2.cell? ⟨w1.heap.size, 1, none⟩ = some (.int .i64 a') := hn3.cell 1
        have e2 : W2.cell? ⟨w1.heap.size, 2, none⟩ = some (.int .i64 r') := hn3.cell 2
        have HB3 := Lib.hid hb3
        have HF3 := Lib.hid hf3
        have KR3 := Lib.hid kr3
        clear hb3 hn3 hf3 kr3
        go_wp2_with fail
        go_roundw
        case rel => exact ⟨k + 1, a', r', p', s', by omega, by go_num, by omega, by omega, by omega, by omega, HP2.out, put3 HB3.out, Flt.far3 HF3.out hne, ((KR3.out.setCell (p := ⟨rb, 0, none⟩) hlw _).setCell (p := ⟨rb, 1, none⟩) hlw _).setCell (p := ⟨rb, 2, none⟩) hlw _⟩
        case measure => simp [intOf]; omega
      · obtain ⟨W2, hW2⟩ : ∃ W2, (((w1.setCell ⟨wr.heap.size, 0, none⟩ (.int .i64 (rp s' p'))).setCell ⟨wr.heap.size, 1, none⟩ (.int .i64 a')).setCell ⟨wr.heap.size, 2, none⟩ (.int .i64 r')) = W2 := ⟨_, rfl⟩
        have hb3 : Blk W2 rb 43 #[.int .i64 (rp s p), .int .i64 a, .int .i64 r] := by rw [← hW2]; exact Blk.far (p := ⟨wr.heap.size, 2, none⟩) (Blk.far (p := ⟨wr.heap.size, 1, none⟩) (Blk.far (p := ⟨wr.heap.size, 0, none⟩) HB2.out hnb _) hnb _) hnb _
        have hn3 : Blk W2 wr.heap.size 43 #[.int .i64 (rp s' p'), .int .i64 a', .int .i64 r'] := by rw [← hW2]; exact put3 HN2.out
        have hf3 : Flt W2 fb a' r' p' s' := by rw [← hW2]; exact Flt.far3 HF2.out hfn.out
        have kr3 : Below w.heap.size w W2 := by rw [← hW2]; exact ((KR2.out.setCell (p := ⟨wr.heap.size, 0, none⟩) nb.out _).setCell (p := ⟨wr.heap.size, 1, none⟩) nb.out _).setCell (p := ⟨wr.heap.size, 2, none⟩) nb.out _
        rw [hW2]
        clear hW2 z0 z1 z2 z3 z4 z0' z1' z2' z3' z4' y0 y1 y2 y3 y4 v0 v1 v2 u0 u1 u2
        have c0 := hb3.cell 0
        have c1 := hb3.cell 1
        have c2 := hb3.cell 2
        have d0 := hb3.free 0
        have d1 := hb3.free 1
        have d2 := hb3.free 2
        have e0 : W2.cell? ⟨wr.heap.size, 0, none⟩ = some (.int .i64 (rp s' p')) := hn3.cell 0
        have e1 : W2.cell? ⟨wr.heap.size, 1, none⟩ = some (.int .i64 a') := hn3.cell 1
        have e2 : W2.cell? ⟨wr.heap.size, 2, none⟩ = some (.int .i64 r') := hn3.cell 2
        have HB3 := Lib.hid hb3
        have HF3 := Lib.hid hf3
        have KR3 := Lib.hid kr3
        clear hb3 hn3 hf3 kr3
        go_wp2_with fail
        go_roundw
        case rel => exact ⟨k + 1, a', r', p', s', by omega, by go_num, by omega, by omega, by omega, by omega, HP2.out, put3 HB3.out, Flt.far3 HF3.out hne, ((KR3.out.setCell (p := ⟨rb, 0, none⟩) hlw _).setCell (p := ⟨rb, 1, none⟩) hlw _).setCell (p := ⟨rb, 2, none⟩) hlw _⟩
        case measure => simp [intOf]; omega
    · go_wp2_with fail
      go_ret
      exact ⟨rfl, KR.out⟩
end Go.Proofs.Ytgljfjmffiofkaa
