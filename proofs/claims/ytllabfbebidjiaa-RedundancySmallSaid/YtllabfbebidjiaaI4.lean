/-
  The contract of Accept, at a filter that New has made (every integer), at none and at one that New has not made; Previous, Counts, Reset. No condition.
-/
import Derived.Test.YtllabfbebidjiaaI3
namespace Go.Proofs.Ytllabfbebidjiaa
open Go.RowKit

theorem row4 {w : World} {g qb nb : Nat} (h : Blk w g 23 #[.func (.func 30) #[] #[.pointer (some ⟨qb, 0, none⟩)], .func (.func 31) #[] #[.pointer (some ⟨nb, 0, none⟩)],
    .func (.func 32) #[] #[.pointer (some ⟨nb, 0, none⟩), .pointer (some ⟨qb, 0, none⟩)], .func (.func 33) #[] #[.pointer (some ⟨nb, 0, none⟩), .pointer (some ⟨qb, 0, none⟩)]]) :
    ∀ k, k < 4 → w.cell? ⟨g, k, none⟩ = some (.func (.func (gsF k)) #[] (lsF qb nb k)) := by
  intro k hk
  rw [h.cell]
  match k, hk with
  | 0, _ => rfl
  | 1, _ => rfl
  | 2, _ => rfl
  | 3, _ => rfl

set_option maxHeartbeats 2000000 in
theorem accept_ok (b : Bool) (fb : Nat) (n a r p : Int) (s : Bool) (w : World) (hf : Flt w fb a r p s) (hn : isN n = true) (h0 : 0 ≤ a) (h1 : a ≤ 1000000000000) (h2 : 0 ≤ r) (h3 : r ≤ 1000000000000) (hb : adm s p n = b) :
    Calls Try.prog 19 #[.pointer (some ⟨fb, 0, none⟩), .int .i64 n] w fun e w' => e = .returned (.tuple #[.bool b, .int .i64 0]) ∧ Flt w' fb (if b then a + 1 else a) (if b then r else r + 1) n true ∧ w.grownBy w' (some fb) := by
  have HF := Lib.hid hf
  have HN := Lib.hid hn
  have HB := Lib.hid hb
  have hlt := hf.lt
  clear hf hn hb
  go_enter Try.func19, Try.ntmps19
  go_wp2_with fail
  refine (made_yes fb a r p s _ ((HF.out.alloc _).alloc _)).mono ?_
  rintro e w1 ⟨rfl, rfl⟩
  go_wp2_with fail
  refine (number_to _ _ HN.out).mono ?_
  rintro e w1 ⟨rfl, rfl⟩
  go_wp2_with fail
  obtain ⟨W0, hW0⟩ : ∃ W0, ((w.alloc (.cells #[.pointer (some ⟨fb, 0, none⟩)] 49)).alloc (.cells #[.int .i64 n] 3)).alloc (.cells #[.func (.func 30) #[] #[.pointer (some ⟨w.heap.size, 0, none⟩)], .func (.func 31) #[] #[.pointer (some ⟨w.heap.size + 1, 0, none⟩)],
    .func (.func 32) #[] #[.pointer (some ⟨w.heap.size + 1, 0, none⟩), .pointer (some ⟨w.heap.size, 0, none⟩)], .func (.func 33) #[] #[.pointer (some ⟨w.heap.size + 1, 0, none⟩), .pointer (some ⟨w.heap.size, 0, none⟩)]] 23) = W0 := ⟨_, rfl⟩
  have bq : Blk W0 w.heap.size 49 #[.pointer (some ⟨fb, 0, none⟩)] := by rw [← hW0]; exact ((Blk.made w _ _).alloc _).alloc _
  have bn : Blk W0 (w.heap.size + 1) 3 #[.int .i64 n] := by rw [← hW0]; exact (Blk.made_at _ _ _ (by simp)).alloc _
  have br := row4 (w := W0) (g := w.heap.size + 1 + 1) (qb := w.heap.size) (nb := w.heap.size + 1) (by rw [← hW0]; exact Blk.made_at _ _ _ (by simp))
  have bf : Flt W0 fb a r p s := by rw [← hW0]; exact ((HF.out.alloc _).alloc _).alloc _
  have gw : w.grownBy W0 (some fb) := by rw [← hW0]; exact gb_alloc (gb_alloc (gb_alloc (World.grownBy.refl _ _) _) _) _
  rw [hW0]
  have HR := Lib.hid br
  clear br hW0
  refine (one4 (w.heap.size + 1 + 1) w.heap.size (w.heap.size + 1) fb 4 n a r p s W0 HR.out (bq.cell 0) (bn.cell 0) bf).mono ?_
  rintro e W1 ⟨rfl, hs⟩
  rw [HB.out]
  have bq1 := hs.blk bq
  have bn1 := hs.blk bn
  have bf1 : Flt W1 fb a r p s := hs.blk bf
  have gw1 : w.grownBy W1 (some fb) := gb_then_below gw hs.below
  have z0 : W1.cell? ⟨w.heap.size, 0, none⟩ = some (.pointer (some ⟨fb, 0, none⟩)) := bq1.cell 0
  have z1 : W1.cell? ⟨w.heap.size + 1, 0, none⟩ = some (.int .i64 n) := bn1.cell 0
  have z2 : W1.cell? ⟨fb, 2, none⟩ = some (.int .i64 p) := bf1.cell 2
  have z3 : W1.cell? ⟨fb, 3, none⟩ = some (.bool s) := bf1.cell 3
  have z4 : W1.frozen? ⟨fb, 2, none⟩ = false := bf1.free 2
  have z5 : W1.frozen? ⟨fb, 3, none⟩ = false := bf1.free 3
  have ne1 : ¬ w.heap.size = fb := by omega
  have ne2 : ¬ w.heap.size + 1 = fb := by omega
  have GW := Lib.hid gw1
  have BF := Lib.hid bf1
  have BQ := Lib.hid bq1
  clear bq bn gw bf hs bq1 bn1 gw1 bf1
  go_wp2_with fail
  have kS : ∀ (W : World) (i : Nat) (u : Value), (fun w' : World => w'.cell? ⟨w.heap.size, 0, none⟩ = some (.pointer (some ⟨fb, 0, none⟩)) ∧ w'.cell? ⟨w.heap.size + 1, 0, none⟩ = some (.int .i64 n)) W → (fun w' : World => w'.cell? ⟨w.heap.size, 0, none⟩ = some (.pointer (some ⟨fb, 0, none⟩)) ∧ w'.cell? ⟨w.heap.size + 1, 0, none⟩ = some (.int .i64 n)) (W.setCell ⟨fb, i, none⟩ u) := fun W i u h =>
    ⟨(World.cell?_of_block (heap_setCell_other W ⟨fb, i, none⟩ w.heap.size u (by show w.heap.size ≠ fb; omega))).trans h.1, (World.cell?_of_block (heap_setCell_other W ⟨fb, i, none⟩ (w.heap.size + 1) u (by show w.heap.size + 1 ≠ fb; omega))).trans h.2⟩
  have KS := Lib.hid kS
  clear kS
  go_region_held3 (fun w' : World => w'.cell? ⟨w.heap.size, 0, none⟩ = some (.pointer (some ⟨fb, 0, none⟩)) ∧ w'.cell? ⟨w.heap.size + 1, 0, none⟩ = some (.int .i64 n)) (first | exact ⟨z0, z1⟩ | exact KS.out W1 _ _ ⟨z0, z1⟩ | exact KS.out (W1.setCell _ _) _ _ (KS.out W1 _ _ ⟨z0, z1⟩)) (fail)
  · obtain ⟨W3, hW3⟩ : ∃ W3, (W1.setCell ⟨fb, 2, none⟩ (.int .i64 n)).setCell ⟨fb, 3, none⟩ (.bool true) = W3 := ⟨_, rfl⟩
    have bf3 : Flt W3.drew fb a r n true := by rw [← hW3]; exact (BF.out.put 2 _).put 3 _
    have gw3 : w.grownBy W3.drew (some fb) := by rw [← hW3]; exact gb_drew (gb_put (gb_put GW.out 2 _) 3 _)
    have y0 : W3.drew.cell? ⟨w.heap.size, 0, none⟩ = some (.pointer (some ⟨fb, 0, none⟩)) := by rw [← hW3]; exact (KS.out (W1.setCell _ _) _ _ (KS.out W1 _ _ ⟨z0, z1⟩)).1
    have hW4 : ((W1.setCell ⟨fb, 2, none⟩ (.int .i64 n)).setCell ⟨fb, 3, none⟩ (.bool true)).drew = W3.drew := by rw [hW3]
    first | rw [hW4] | (change Exit.then _ _ _ _ W3.drew)
    have BF3 := Lib.hid bf3
    have GW3 := Lib.hid gw3
    clear hW3 hW4 bf3 gw3 z0 z1 z2 z3 z4 z5
    generalize W3.drew = W5 at *
    have N1 := Lib.hid ne1
    clear ne1 ne2
    cases b with
    | true =>
      go_wp2_with fail
      refine (count_yes fb a r n true _ BF3.out h0 h1).mono ?_
      rintro e w2 ⟨⟨v, rfl⟩, rfl⟩
      go_wp2_with fail
      go_ret2
      exact ⟨rfl, BF3.out.put 0 _, gb_put GW3.out 0 _⟩
    | false =>
      go_wp2_with fail
      refine (count_no fb a r n true _ BF3.out h2 h3).mono ?_
      rintro e w2 ⟨⟨v, rfl⟩, rfl⟩
      go_wp2_with fail
      go_ret2
      exact ⟨rfl, BF3.out.put 1 _, gb_put GW3.out 1 _⟩

set_option maxHeartbeats 1000000 in
theorem accept_bad (fb : Nat) (n a r p : Int) (s : Bool) (w : World) (hf : Flt w fb a r p s) (hn : isN n = false) :
    Calls Try.prog 19 #[.pointer (some ⟨fb, 0, none⟩), .int .i64 n] w fun e w' => e = .returned (.tuple #[.bool false, .int .i64 2]) ∧ Flt w' fb a r p s ∧ Below w.heap.size w w' := by
  have HF := Lib.hid hf
  have HN := Lib.hid hn
  clear hf hn
  go_enter Try.func19, Try.ntmps19
  go_wp2_with fail
  refine (made_yes fb a r p s _ ((HF.out.alloc _).alloc _)).mono ?_
  rintro e w1 ⟨rfl, rfl⟩
  go_wp2_with fail
  refine (number_to _ _ HN.out).mono ?_
  rintro e w1 ⟨rfl, rfl⟩
  go_wp2_with fail
  go_ret2
  exact ⟨rfl, (HF.out.alloc _).alloc _, ((Below.refl _ _).alloc (Nat.le_refl _) _).alloc (by simp) _⟩

set_option maxHeartbeats 1000000 in
theorem accept_nil (n : Int) (w : World) :
    Calls Try.prog 19 #[.pointer none, .int .i64 n] w fun e w' => e = .returned (.tuple #[.bool false, .int .i64 1]) ∧ Below w.heap.size w w' := by
  go_enter Try.func19, Try.ntmps19
  go_wp2_with fail
  refine (made_nil _).mono ?_
  rintro e w1 ⟨rfl, rfl⟩
  go_wp2_with fail
  go_ret2
  exact ⟨rfl, ((Below.refl _ _).alloc (Nat.le_refl _) _).alloc (by simp) _⟩

set_option maxHeartbeats 1000000 in
theorem accept_no (fb : Nat) (n : Int) (w : World) (hf : w.cell? ⟨fb, 4, none⟩ = some (.pointer none)) :
    Calls Try.prog 19 #[.pointer (some ⟨fb, 0, none⟩), .int .i64 n] w fun e w' => e = .returned (.tuple #[.bool false, .int .i64 1]) ∧ Below w.heap.size w w' := by
  have HF := Lib.hid hf
  clear hf
  go_enter Try.func19, Try.ntmps19
  go_wp2_with fail
  refine (made_no fb _ (cell_alloc' (cell_alloc' HF.out _) _)).mono ?_
  rintro e w1 ⟨rfl, rfl⟩
  go_wp2_with fail
  go_ret2
  exact ⟨rfl, ((Below.refl _ _).alloc (Nat.le_refl _) _).alloc (by simp) _⟩
end Go.Proofs.Ytllabfbebidjiaa
