/-
  The contract of step: an operation leaves the filter and the document's alike. No condition.
-/
import Derived.Test.YtgljfjmffiofkaaT1
import Derived.StillTailTactics
namespace Go.Proofs.Ytgljfjmffiofkaa
open Go.RowKit
def StepPost (fb : Nat) (a r : Int) (w : World) (e : Ending) (w' : World) : Prop :=
  ∃ (a' r' p' : Int) (s' : Bool), e = .returned (.tuple #[.agg #[.int .i64 (rp s' p'), .int .i64 a', .int .i64 r'], .bool true]) ∧ a ≤ a' ∧ a' ≤ a + 1 ∧ r ≤ r' ∧ r' ≤ r + 1 ∧ (s' = true → isN p' = true) ∧ Flt w' fb a' r' p' s' ∧ w.grownBy w' (some fb)

theorem far3 {w : World} {b c : Nat} (h : b ≠ c) {k : Nat} {v u0 u1 u2 : Value} (hc : w.cell? ⟨b, k, none⟩ = some v) :
    (((w.setCell ⟨c, 0, none⟩ u0).setCell ⟨c, 1, none⟩ u1).setCell ⟨c, 2, none⟩ u2).cell? ⟨b, k, none⟩ = some v := by
  rw [World.cell?_of_block (heap_setCell_other _ ⟨c, 2, none⟩ b u2 h), World.cell?_of_block (heap_setCell_other _ ⟨c, 1, none⟩ b u1 h), World.cell?_of_block (heap_setCell_other _ ⟨c, 0, none⟩ b u0 h)]
  exact hc
theorem put3 {w : World} {c : Nat} {t : TypeId} {v0 v1 v2 u0 u1 u2 : Value} (h : Blk w c t #[v0, v1, v2]) :
    Blk (((w.setCell ⟨c, 0, none⟩ u0).setCell ⟨c, 1, none⟩ u1).setCell ⟨c, 2, none⟩ u2) c t #[u0, u1, u2] := ((h.put 0 u0).put 1 u1).put 2 u2
theorem below_of_drew {w w' : World} (h : Below w.drew.heap.size w.drew w') : Below w.heap.size w w' := ⟨h.os, h.tape, h.output, h.size, h.block⟩
theorem Flt.far3 {w : World} {fb c : Nat} {a r p : Int} {s : Bool} {u0 u1 u2 : Value} (h : Flt w fb a r p s) (hc : fb ≠ c) :
    Flt (((w.setCell ⟨c, 0, none⟩ u0).setCell ⟨c, 1, none⟩ u1).setCell ⟨c, 2, none⟩ u2) fb a r p s :=
  Blk.far (p := ⟨c, 2, none⟩) (Blk.far (p := ⟨c, 1, none⟩) (Blk.far (p := ⟨c, 0, none⟩) h hc u0) hc u1) hc u2
theorem gb_put3 {a w : World} {c : Nat} {row : Option Nat} {u0 u1 u2 : Value} (h : a.grownBy w row) (hc : a.heap.size ≤ c) :
    a.grownBy (((w.setCell ⟨c, 0, none⟩ u0).setCell ⟨c, 1, none⟩ u1).setCell ⟨c, 2, none⟩ u2) row := gb_new (gb_new (gb_new h (p := ⟨c, 0, none⟩) hc u0) (p := ⟨c, 1, none⟩) hc u1) (p := ⟨c, 2, none⟩) hc u2

set_option maxHeartbeats 2000000 in
theorem step_reset (fb : Nat) (a r p q x z : Int) (s : Bool) (w : World) (hf : Flt w fb a r p s) (x0 : 0 ≤ x) (x1 : x ≤ 255) (h7 : (x % 8 == 7) = true) :
    Calls Try.prog 22 #[.pointer (some ⟨fb, 0, none⟩), .agg #[.int .i64 q, .int .i64 a, .int .i64 r], .agg #[.int .u8 x, .int .i64 z]] w fun e w' =>
      e = .returned (.tuple #[.agg #[.int .i64 (-1), .int .i64 a, .int .i64 r], .bool true]) ∧ Flt w' fb a r 0 false ∧ w.grownBy w' (some fb) := by
  have HF := Lib.hid hf
  have hlf := hf.lt
  clear hf
  go_enter Try.func22, Try.ntmps22
  go_wp2_with fail
  obtain ⟨W, hW⟩ : ∃ W, ((w.alloc (.cells #[.int .i64 (-1), .int .i64 a, .int .i64 r] 43)).alloc (.cells #[.int .u8 x, .int .i64 z] 39)).alloc (.cells #[.int .i64 0, .int .i64 0, .int .i64 0] 43) = W := ⟨_, rfl⟩
  rw [hW]
  have b0 : Blk W w.heap.size 43 #[.int .i64 (-1), .int .i64 a, .int .i64 r] := by rw [← hW]; exact ((Blk.made _ _ _).alloc _).alloc _
  have b2 : Blk W (w.heap.size + 1 + 1) 43 #[.int .i64 0, .int .i64 0, .int .i64 0] := by rw [← hW]; exact Blk.made_at _ _ _ (by simp)
  have bf : Flt W fb a r p s := by rw [← hW]; exact ((HF.out.alloc _).alloc _).alloc _
  have gw : w.grownBy W (some fb) := by rw [← hW]; exact gb_alloc (gb_alloc (gb_alloc (World.grownBy.refl _ _) _) _) _
  have z0 : W.cell? ⟨w.heap.size, 0, none⟩ = some (.int .i64 (-1)) := b0.cell 0
  have z1 : W.cell? ⟨w.heap.size, 1, none⟩ = some (.int .i64 a) := b0.cell 1
  have z2 : W.cell? ⟨w.heap.size, 2, none⟩ = some (.int .i64 r) := b0.cell 2
  have n0 : Hid (some w.heap.size ≠ some fb) := Lib.hid (by intro e; injection e; omega)
  have n2 : Hid (some (w.heap.size + 1 + 1) ≠ some fb) := Lib.hid (by intro e; injection e; omega)
  have B0 := Lib.hid b0
  have B2 := Lib.hid b2
  have BF := Lib.hid bf
  have GW := Lib.hid gw
  clear b0 b2 bf gw hW
  go_region_held3 (fun w' : World => w'.cell? ⟨w.heap.size, 0, none⟩ = some (.int .i64 (-1)) ∧ w'.cell? ⟨w.heap.size, 1, none⟩ = some (.int .i64 a) ∧ w'.cell? ⟨w.heap.size, 2, none⟩ = some (.int .i64 r))
    (first | exact ⟨z0, z1, z2⟩ | exact ⟨y0, y1, y2⟩ | exact ⟨x0', x1', x2'⟩ | exact ⟨far3 (by omega) x0', far3 (by omega) x1', far3 (by omega) x2'⟩)
    (first
      | (go_at_call 20; refine (reset_any fb a r p s _ (by exact BF.out)).mono ?_; rintro e w2 ⟨rfl, hf2, hg2'⟩; have hg2 : W.grownBy w2 (some fb) := (gb_drew (World.grownBy.refl _ _)).trans hg2'
         have F2 := Lib.hid hf2
         have b02 := B0.out.grown hg2 n0.out
         have y0 := b02.cell 0
         have y1 := b02.cell 1
         have y2 := b02.cell 2
         have B02 := Lib.hid b02
         have B22 := Lib.hid (B2.out.grown hg2 n2.out)
         have GW2 := Lib.hid (GW.out.trans hg2)
         clear hf2 hg2 hg2' b02)
      | (go_at_call 23; refine (same_new _ _ _ _ _ F2.out).mono ?_; rintro e w3 ⟨rfl, k3⟩
         have F3 := Lib.hid (F2.out.below k3 F2.out.lt)
         have b03 := B02.out.below k3 B02.out.lt
         have x0' := b03.cell 0
         have x1' := b03.cell 1
         have x2' := b03.cell 2
         have b23 := B22.out.below k3 B22.out.lt
         have v0 := b23.cell 0
         have v1 := b23.cell 1
         have v2 := b23.cell 2
         have f0 := b23.free 0
         have f1 := b23.free 1
         have f2 := b23.free 2
         have B23 := Lib.hid b23
         have GW3 := Lib.hid (gb_then_below GW2.out k3)
         clear k3 b03 b23))
  obtain ⟨W5, hW5⟩ : ∃ W5, (((w3.setCell ⟨w.heap.size + 1 + 1, 0, none⟩ (.int .i64 (-1))).setCell ⟨w.heap.size + 1 + 1, 1, none⟩ (.int .i64 a)).setCell ⟨w.heap.size + 1 + 1, 2, none⟩ (.int .i64 r)) = W5 := ⟨_, rfl⟩
  have b5 : Blk W5 (w.heap.size + 1 + 1) 43 #[.int .i64 (-1), .int .i64 a, .int .i64 r] := by rw [← hW5]; exact put3 B23.out
  have f5 := Lib.hid (show Flt W5 fb a r 0 false from by rw [← hW5]; exact Flt.far3 F3.out (by omega))
  have g5 : Hid (w.grownBy W5 (some fb)) := Lib.hid (by rw [← hW5]; exact gb_put3 GW3.out (by omega))
  rw [hW5]
  have c0 : W5.cell? ⟨w.heap.size + 1 + 1, 0, none⟩ = some (.int .i64 (-1)) := b5.cell 0
  have c1 : W5.cell? ⟨w.heap.size + 1 + 1, 1, none⟩ = some (.int .i64 a) := b5.cell 1
  have c2 : W5.cell? ⟨w.heap.size + 1 + 1, 2, none⟩ = some (.int .i64 r) := b5.cell 2
  clear hW5 b5 z0 z1 z2 y0 y1 y2 x0' x1' x2' v0 v1 v2 f0 f1 f2
  go_wp2_with fail
  exact bodyPost_ret (v := .tuple #[.agg #[.int .i64 (-1), .int .i64 a, .int .i64 r], .bool true]) (by simp [results, Try.results22, go_sem, c0, c1, c2]) rfl ⟨rfl, f5.out, g5.out⟩
set_option maxHeartbeats 2000000 in
theorem step_bad (fb : Nat) (a r p x z : Int) (s : Bool) (w : World) (hf : Flt w fb a r p s) (hp : s = true → isN p = true) (x0 : 0 ≤ x) (x1 : x ≤ 255) (h7 : (x % 8 == 7) = false) (hz : isN z = false) :
    Calls Try.prog 22 #[.pointer (some ⟨fb, 0, none⟩), .agg #[.int .i64 (rp s p), .int .i64 a, .int .i64 r], .agg #[.int .u8 x, .int .i64 z]] w fun e w' =>
      e = .returned (.tuple #[.agg #[.int .i64 (rp s p), .int .i64 a, .int .i64 r], .bool true]) ∧ Flt w' fb a r p s ∧ w.grownBy w' (some fb) := by
  have HF := Lib.hid hf
  have hlf := hf.lt
  have HP := Lib.hid hp
  have HZ := Lib.hid hz
  clear hf hp hz
  go_enter Try.func22, Try.ntmps22
  go_wp2_with fail
  obtain ⟨W, hW⟩ : ∃ W, ((w.alloc (.cells #[.int .i64 (rp s p), .int .i64 a, .int .i64 r] 43)).alloc (.cells #[.int .u8 x, .int .i64 z] 39)).alloc (.cells #[.int .i64 0, .int .i64 0, .int .i64 0] 43) = W := ⟨_, rfl⟩
  rw [hW]
  have b0 : Blk W w.heap.size 43 #[.int .i64 (rp s p), .int .i64 a, .int .i64 r] := by rw [← hW]; exact ((Blk.made _ _ _).alloc _).alloc _
  have b1 : Blk W (w.heap.size + 1) 39 #[.int .u8 x, .int .i64 z] := by rw [← hW]; exact (Blk.made_at _ _ _ (by simp)).alloc _
  have b2 : Blk W (w.heap.size + 1 + 1) 43 #[.int .i64 0, .int .i64 0, .int .i64 0] := by rw [← hW]; exact Blk.made_at _ _ _ (by simp)
  have bf : Flt W fb a r p s := by rw [← hW]; exact ((HF.out.alloc _).alloc _).alloc _
  have gw : w.grownBy W (some fb) := by rw [← hW]; exact gb_alloc (gb_alloc (gb_alloc (World.grownBy.refl _ _) _) _) _
  have n0 : Hid (some w.heap.size ≠ some fb) := Lib.hid (by intro e; injection e; omega)
  have n1 : Hid (some (w.heap.size + 1) ≠ some fb) := Lib.hid (by intro e; injection e; omega)
  have n2 : Hid (some (w.heap.size + 1 + 1) ≠ some fb) := Lib.hid (by intro e; injection e; omega)
  have B0 := Lib.hid b0
  have B1 := Lib.hid b1
  have B2 := Lib.hid b2
  have BF := Lib.hid bf
  have GW := Lib.hid gw
  clear b0 b1 b2 bf gw hW
  obtain ⟨q, hq⟩ : ∃ q, rp s p = q := ⟨_, rfl⟩
  have HQ := Lib.hid hq
  rw [hq] at B0
  rw [hq]
  clear hq
  refine (accept_bad fb z a r p s W BF.out HZ.out).mono ?_
  rintro e w2 ⟨rfl, hf2, k2⟩
  have F2 := Lib.hid hf2
  have b02 := B0.out.below k2 B0.out.lt
  have y0 : w2.cell? ⟨w.heap.size, 0, none⟩ = some (.int .i64 q) := b02.cell 0
  have y1 : w2.cell? ⟨w.heap.size, 1, none⟩ = some (.int .i64 a) := b02.cell 1
  have y2 : w2.cell? ⟨w.heap.size, 2, none⟩ = some (.int .i64 r) := b02.cell 2
  have y3 : w2.cell? ⟨w.heap.size + 1, 1, none⟩ = some (.int .i64 z) := (B1.out.below k2 B1.out.lt).cell 1
  have B02 := Lib.hid b02
  have B22 := Lib.hid (B2.out.below k2 B2.out.lt)
  have GW2 := Lib.hid (gb_then_below GW.out k2)
  clear hf2 k2 b02
  go_wp2_with fail
  refine (refNumber_to _ _ HZ.out).mono ?_
  rintro e w' ⟨rfl, rfl⟩
  go_wp2_with fail
  clear y3
  go_region_held3 (fun w' : World => w'.cell? ⟨w.heap.size, 0, none⟩ = some (.int .i64 q) ∧ w'.cell? ⟨w.heap.size, 1, none⟩ = some (.int .i64 a) ∧ w'.cell? ⟨w.heap.size, 2, none⟩ = some (.int .i64 r))
    (first | exact ⟨y0, y1, y2⟩ | exact ⟨x0', x1', x2'⟩ | exact ⟨far3 (by omega) x0', far3 (by omega) x1', far3 (by omega) x2'⟩)
    (first
      | (go_at_call 23; refine ((show Calls Try.prog 23 #[.pointer (some ⟨fb, 0, none⟩), .agg #[.int .i64 q, .int .i64 a, .int .i64 r]] _ _ from by rw [← HQ.out]; exact same_to fb a r p s _ (by exact F2.out) HP.out)).mono ?_; rintro e w3 ⟨rfl, k3'⟩
         have k3 := below_of_drew k3'
         have F3 := Lib.hid (F2.out.below k3 F2.out.lt)
         have b03 := B02.out.below k3 B02.out.lt
         have x0' := b03.cell 0
         have x1' := b03.cell 1
         have x2' := b03.cell 2
         have b23 := B22.out.below k3 B22.out.lt
         have v0 := b23.cell 0
         have v1 := b23.cell 1
         have v2 := b23.cell 2
         have f0 := b23.free 0
         have f1 := b23.free 1
         have f2 := b23.free 2
         have B23 := Lib.hid b23
         have GW3 := Lib.hid (gb_then_below GW2.out k3)
         clear k3 k3' b03 b23))
  obtain ⟨W5, hW5⟩ : ∃ W5, (((w3.setCell ⟨w.heap.size + 1 + 1, 0, none⟩ (.int .i64 q)).setCell ⟨w.heap.size + 1 + 1, 1, none⟩ (.int .i64 a)).setCell ⟨w.heap.size + 1 + 1, 2, none⟩ (.int .i64 r)) = W5 := ⟨_, rfl⟩
  have b5 : Blk W5 (w.heap.size + 1 + 1) 43 #[.int .i64 q, .int .i64 a, .int .i64 r] := by rw [← hW5]; exact put3 B23.out
  have f5 := Lib.hid (show Flt W5 fb a r p s from by rw [← hW5]; exact Flt.far3 F3.out (by omega))
  have g5 : Hid (w.grownBy W5 (some fb)) := Lib.hid (by rw [← hW5]; exact gb_put3 GW3.out (by omega))
  rw [hW5]
  have c0 : W5.cell? ⟨w.heap.size + 1 + 1, 0, none⟩ = some (.int .i64 q) := b5.cell 0
  have c1 : W5.cell? ⟨w.heap.size + 1 + 1, 1, none⟩ = some (.int .i64 a) := b5.cell 1
  have c2 : W5.cell? ⟨w.heap.size + 1 + 1, 2, none⟩ = some (.int .i64 r) := b5.cell 2
  clear hW5 b5 y0 y1 y2 x0' x1' x2' v0 v1 v2 f0 f1 f2
  go_wp2_with fail
  exact bodyPost_ret (v := .tuple #[.agg #[.int .i64 q, .int .i64 a, .int .i64 r], .bool true]) (by simp [results, Try.results22, go_sem, c0, c1, c2]) rfl ⟨by rw [HQ.out], f5.out, g5.out⟩
set_option maxHeartbeats 2000000 in
theorem step_good (fb : Nat) (a r p x z : Int) (s : Bool) (w : World) (hf : Flt w fb a r p s) (hp : s = true → isN p = true) (x0 : 0 ≤ x) (x1 : x ≤ 255) (h7 : (x % 8 == 7) = false) (hz : isN z = true) (h0 : 0 ≤ a) (h1 : a ≤ 1000000) (h2 : 0 ≤ r) (h3 : r ≤ 1000000) :
    Calls Try.prog 22 #[.pointer (some ⟨fb, 0, none⟩), .agg #[.int .i64 (rp s p), .int .i64 a, .int .i64 r], .agg #[.int .u8 x, .int .i64 z]] w fun e w' =>
      ∃ a' r' : Int, a ≤ a' ∧ a' ≤ a + 1 ∧ r ≤ r' ∧ r' ≤ r + 1 ∧ e = .returned (.tuple #[.agg #[.int .i64 (rp true z), .int .i64 a', .int .i64 r'], .bool true]) ∧ Flt w' fb a' r' z true ∧ w.grownBy w' (some fb) := by
  have HF := Lib.hid hf
  have hlf := hf.lt
  have HP := Lib.hid hp
  have HZ := Lib.hid hz
  clear hf hp hz
  obtain ⟨b, hb⟩ : ∃ b, adm s p z = b := ⟨_, rfl⟩
  obtain ⟨a', ha⟩ : ∃ a' : Int, (if b = true then a + 1 else a) = a' := ⟨_, rfl⟩
  obtain ⟨r', hr⟩ : ∃ r' : Int, (if b = true then r else r + 1) = r' := ⟨_, rfl⟩
  have q1 : a ≤ a' ∧ a' ≤ a + 1 := by rw [← ha]; split <;> omega
  have q2 : r ≤ r' ∧ r' ≤ r + 1 := by rw [← hr]; split <;> omega
  have HB := Lib.hid hb
  have HA := Lib.hid ha
  have HR := Lib.hid hr
  clear hb ha hr
  go_enter Try.func22, Try.ntmps22
  go_wp2_with fail
  obtain ⟨W, hW⟩ : ∃ W, ((w.alloc (.cells #[.int .i64 (rp s p), .int .i64 a, .int .i64 r] 43)).alloc (.cells #[.int .u8 x, .int .i64 z] 39)).alloc (.cells #[.int .i64 0, .int .i64 0, .int .i64 0] 43) = W := ⟨_, rfl⟩
  rw [hW]
  have b0 : Blk W w.heap.size 43 #[.int .i64 (rp s p), .int .i64 a, .int .i64 r] := by rw [← hW]; exact ((Blk.made _ _ _).alloc _).alloc _
  have b1 : Blk W (w.heap.size + 1) 39 #[.int .u8 x, .int .i64 z] := by rw [← hW]; exact (Blk.made_at _ _ _ (by simp)).alloc _
  have b2 : Blk W (w.heap.size + 1 + 1) 43 #[.int .i64 0, .int .i64 0, .int .i64 0] := by rw [← hW]; exact Blk.made_at _ _ _ (by simp)
  have bf : Flt W fb a r p s := by rw [← hW]; exact ((HF.out.alloc _).alloc _).alloc _
  have gw : w.grownBy W (some fb) := by rw [← hW]; exact gb_alloc (gb_alloc (gb_alloc (World.grownBy.refl _ _) _) _) _
  have n0 : Hid (some w.heap.size ≠ some fb) := Lib.hid (by intro e; injection e; omega)
  have n1 : Hid (some (w.heap.size + 1) ≠ some fb) := Lib.hid (by intro e; injection e; omega)
  have n2 : Hid (some (w.heap.size + 1 + 1) ≠ some fb) := Lib.hid (by intro e; injection e; omega)
  have B0 := Lib.hid b0
  have B1 := Lib.hid b1
  have B2 := Lib.hid b2
  have BF := Lib.hid bf
  have GW := Lib.hid gw
  clear b0 b1 b2 bf gw hW
  obtain ⟨q, hq⟩ : ∃ q, rp s p = q := ⟨_, rfl⟩
  have HQ := Lib.hid hq
  rw [hq] at B0
  rw [hq]
  clear hq
  refine (accept_ok b fb z a r p s W BF.out HZ.out (by omega) (by omega) (by omega) (by omega) HB.out).mono ?_
  rintro e w1 ⟨rfl, hf1, hg1⟩
  rw [HA.out, HR.out] at hf1
  have F1 := Lib.hid hf1
  have b01 := B0.out.grown hg1 n0.out
  have y0 : w1.cell? ⟨w.heap.size, 0, none⟩ = some (.int .i64 q) := b01.cell 0
  have y1 : w1.cell? ⟨w.heap.size, 1, none⟩ = some (.int .i64 a) := b01.cell 1
  have y2 : w1.cell? ⟨w.heap.size, 2, none⟩ = some (.int .i64 r) := b01.cell 2
  have y3 : w1.cell? ⟨w.heap.size + 1, 1, none⟩ = some (.int .i64 z) := (B1.out.grown hg1 n1.out).cell 1
  have B21 := Lib.hid (B2.out.grown hg1 n2.out)
  have GW1 := Lib.hid (GW.out.trans hg1)
  clear hf1 hg1 b01
  go_wp2_with fail
  refine (refNumber_to _ _ HZ.out).mono ?_
  rintro e w' ⟨rfl, rfl⟩
  go_wp2_with fail
  refine (show Calls Try.prog 36 #[.agg #[.int .i64 q, .int .i64 a, .int .i64 r], .int .i64 z] _ _ from by rw [← HQ.out]; exact refAcc_to b s p z a r w1 (by omega) (by omega) (by omega) (by omega) HP.out HB.out).mono ?_
  rintro e wA ⟨rfl, kA⟩
  rw [HA.out, HR.out, show rp true z = z from rfl]
  clear y0 y1 y2 y3
  have F1A := F1.out.below kA F1.out.lt
  have B2A := B21.out.below kA B21.out.lt
  have GWA := gb_then_below GW1.out kA
  go_wp2_with fail
  obtain ⟨w2, hw2⟩ : ∃ w2, wA.alloc (.cells #[.int .i64 z, .int .i64 a', .int .i64 r'] 43) = w2 := ⟨_, rfl⟩
  rw [hw2]
  have b02 : Blk w2 wA.heap.size 43 #[.int .i64 z, .int .i64 a', .int .i64 r'] := by rw [← hw2]; exact Blk.made _ _ _
  have f2 : Flt w2 fb a' r' z true := by rw [← hw2]; exact F1A.alloc _
  have b22 : Blk w2 (w.heap.size + 1 + 1) 43 #[.int .i64 0, .int .i64 0, .int .i64 0] := by rw [← hw2]; exact B2A.alloc _
  have gw2 : w.grownBy w2 (some fb) := by rw [← hw2]; exact gb_alloc GWA _
  have hsz := B2A.lt
  have y0 : w2.cell? ⟨wA.heap.size, 0, none⟩ = some (.int .i64 z) := b02.cell 0
  have y1 : w2.cell? ⟨wA.heap.size, 1, none⟩ = some (.int .i64 a') := b02.cell 1
  have y2 : w2.cell? ⟨wA.heap.size, 2, none⟩ = some (.int .i64 r') := b02.cell 2
  have F2 := Lib.hid f2
  have B02 := Lib.hid b02
  have B22 := Lib.hid b22
  have GW2 := Lib.hid gw2
  clear hw2 b02 f2 b22 gw2 F1A B2A GWA kA
  generalize wA.heap.size = g at *
  go_region_held3 (fun w' : World => w'.cell? ⟨g, 0, none⟩ = some (.int .i64 z) ∧ w'.cell? ⟨g, 1, none⟩ = some (.int .i64 a') ∧ w'.cell? ⟨g, 2, none⟩ = some (.int .i64 r'))
    (first | exact ⟨y0, y1, y2⟩ | exact ⟨x0', x1', x2'⟩ | exact ⟨far3 (by omega) x0', far3 (by omega) x1', far3 (by omega) x2'⟩)
    (first
      | (go_at_call 23; refine ((show Calls Try.prog 23 #[.pointer (some ⟨fb, 0, none⟩), .agg #[.int .i64 z, .int .i64 a', .int .i64 r']] _ _ from same_some fb a' r' z _ (by exact F2.out) HZ.out)).mono ?_; rintro e w3 ⟨rfl, k3'⟩
         have k3 := below_of_drew k3'
         have F3 := Lib.hid (F2.out.below k3 F2.out.lt)
         have b03 := B02.out.below k3 B02.out.lt
         have x0' := b03.cell 0
         have x1' := b03.cell 1
         have x2' := b03.cell 2
         have b23 := B22.out.below k3 B22.out.lt
         have v0 := b23.cell 0
         have v1 := b23.cell 1
         have v2 := b23.cell 2
         have f0 := b23.free 0
         have f1 := b23.free 1
         have f2 := b23.free 2
         have B23 := Lib.hid b23
         have GW3 := Lib.hid (gb_then_below GW2.out k3)
         clear k3 k3' b03 b23))
  obtain ⟨W5, hW5⟩ : ∃ W5, (((w3.setCell ⟨w.heap.size + 1 + 1, 0, none⟩ (.int .i64 z)).setCell ⟨w.heap.size + 1 + 1, 1, none⟩ (.int .i64 a')).setCell ⟨w.heap.size + 1 + 1, 2, none⟩ (.int .i64 r')) = W5 := ⟨_, rfl⟩
  have b5 : Blk W5 (w.heap.size + 1 + 1) 43 #[.int .i64 z, .int .i64 a', .int .i64 r'] := by rw [← hW5]; exact put3 B23.out
  have f5 := Lib.hid (show Flt W5 fb a' r' z true from by rw [← hW5]; exact Flt.far3 F3.out (by omega))
  have g5 : Hid (w.grownBy W5 (some fb)) := Lib.hid (by rw [← hW5]; exact gb_put3 GW3.out (by omega))
  rw [hW5]
  have c0 : W5.cell? ⟨w.heap.size + 1 + 1, 0, none⟩ = some (.int .i64 z) := b5.cell 0
  have c1 : W5.cell? ⟨w.heap.size + 1 + 1, 1, none⟩ = some (.int .i64 a') := b5.cell 1
  have c2 : W5.cell? ⟨w.heap.size + 1 + 1, 2, none⟩ = some (.int .i64 r') := b5.cell 2
  clear hW5 b5 y0 y1 y2 x0' x1' x2' v0 v1 v2 f0 f1 f2
  go_wp2_with fail
  exact bodyPost_ret (v := .tuple #[.agg #[.int .i64 z, .int .i64 a', .int .i64 r'], .bool true]) (by simp [results, Try.results22, go_sem, c0, c1, c2]) rfl ⟨a', r', q1.1, q1.2, q2.1, q2.2, rfl, f5.out, g5.out⟩

theorem step_any (fb : Nat) (a r p x z : Int) (s : Bool) (w : World) (hf : Flt w fb a r p s) (hp : s = true → isN p = true) (x0 : 0 ≤ x) (x1 : x ≤ 255) (h0 : 0 ≤ a) (h1 : a ≤ 1000000) (h2 : 0 ≤ r) (h3 : r ≤ 1000000) :
    Calls Try.prog 22 #[.pointer (some ⟨fb, 0, none⟩), .agg #[.int .i64 (rp s p), .int .i64 a, .int .i64 r], .agg #[.int .u8 x, .int .i64 z]] w (StepPost fb a r w) := by
  cases h7 : (x % 8 == 7) with
  | true => exact (step_reset fb a r p (rp s p) x z s w hf x0 x1 h7).mono fun e w' ⟨h, hf', hg⟩ => ⟨a, r, 0, false, h, by omega, by omega, by omega, by omega, (fun h => absurd h (by decide)), hf', hg⟩
  | false =>
    cases hz : isN z with
    | false => exact (step_bad fb a r p x z s w hf hp x0 x1 h7 hz).mono fun e w' ⟨h, hf', hg⟩ => ⟨a, r, p, s, h, by omega, by omega, by omega, by omega, hp, hf', hg⟩
    | true => exact (step_good fb a r p x z s w hf hp x0 x1 h7 hz h0 h1 h2 h3).mono fun e w' ⟨a', r', q1, q2, q3, q4, h, hf', hg⟩ => ⟨a', r', z, true, h, q1, q2, q3, q4, fun _ => hz, hf', hg⟩
end Go.Proofs.Ytgljfjmffiofkaa
