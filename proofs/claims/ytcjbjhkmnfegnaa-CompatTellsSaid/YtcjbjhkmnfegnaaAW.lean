/-
  The contract of the law's own helper awake: the example answers as it says.
-/
import Derived.Test.YtcjbjhkmnfegnaaO2
import Derived.Test.YtcjbjhkmnfegnaaM2
namespace Go.Proofs.Ytcjbjhkmnfegnaa
open Go.RowKit Go.Shelf
theorem units_built {W : World} {g : Nat} {v u : Int} {t : TypeId} (h : Blk W g t #[.string ⟨#[97]⟩, .int .i64 v, .string ⟨#[98]⟩, .int .i64 u]) : UnitsIn W (some ⟨g, 0, none⟩) 2 (eS v u) := by
  refine ⟨by omega, fun _ => ⟨g, 0, rfl, h.lt, fun k hk => ?_⟩⟩
  rcases (show k = 0 ∨ k = 1 by omega) with rfl | rfl
  · exact ⟨h.cell _, h.cell _⟩
  · exact ⟨h.cell _, h.cell _⟩
theorem rows_built3 {W : World} {g : Nat} {t : TypeId} (h : Blk W g t #[.string ⟨#[97]⟩, .int .i64 1, .string ⟨#[98]⟩, .int .i64 1, .string ⟨#[97]⟩, .int .i64 2, .string ⟨#[98]⟩, .int .i64 1, .string ⟨#[97]⟩, .int .i64 2, .string ⟨#[98]⟩, .int .i64 2]) : RowsIn W (some ⟨g, 0, none⟩) 3 (eR [(1, 1), (2, 1), (2, 2)]) := by
  refine ⟨by omega, fun _ => ⟨g, 0, rfl, h.lt, fun k hk => ?_⟩⟩
  rcases (show k = 0 ∨ k = 1 ∨ k = 2 by omega) with rfl | rfl | rfl
  · exact ⟨h.cell _, h.cell _, h.cell _, h.cell _⟩
  · exact ⟨h.cell _, h.cell _, h.cell _, h.cell _⟩
  · exact ⟨h.cell _, h.cell _, h.cell _, h.cell _⟩
theorem rows_built2 {W : World} {g : Nat} {t : TypeId} (h : Blk W g t #[.string ⟨#[97]⟩, .int .i64 1, .string ⟨#[98]⟩, .int .i64 1, .string ⟨#[97]⟩, .int .i64 2, .string ⟨#[98]⟩, .int .i64 2]) : RowsIn W (some ⟨g, 0, none⟩) 2 (eR [(1, 1), (2, 2)]) := by
  refine ⟨by omega, fun _ => ⟨g, 0, rfl, h.lt, fun k hk => ?_⟩⟩
  rcases (show k = 0 ∨ k = 1 by omega) with rfl | rfl
  · exact ⟨h.cell _, h.cell _, h.cell _, h.cell _⟩
  · exact ⟨h.cell _, h.cell _, h.cell _, h.cell _⟩
theorem fits_e (v u : Int) : Fits (eS v u) 2 := by
  intro k _
  unfold eS maxLen
  split
  · show (1 : Nat) ≤ _
    omega
  · show (1 : Nat) ≤ _
    omega
theorem nums_built {W : World} {g : Nat} {t : TypeId} {z : List Nat} (h : Blk W g t (nV z).toArray) : NumsIn W (some ⟨g, 0, none⟩) z := fun _ => ⟨g, rfl, h.lt, fun k hk => by
  rw [h.cell]
  simp [nV, hk]⟩
/-- what stays behind the calls of the example -/
def S9 (w : World) (B1 B2 B3 B4 : Option Addr) (W : World) : Prop := NumsIn W B1 [0, 1] ∧ NumsIn W B2 [0, 1, 3] ∧ NumsIn W B3 [1, 0] ∧ NumsIn W B4 [0] ∧ Below w.heap.size w W
theorem S9.below {w W W' : World} {B1 B2 B3 B4 : Option Addr} (h : S9 w B1 B2 B3 B4 W) (hb : Below W.heap.size W W') : S9 w B1 B2 B3 B4 W' :=
  ⟨h.1.below hb (Nat.le_refl _), h.2.1.below hb (Nat.le_refl _), h.2.2.1.below hb (Nat.le_refl _), h.2.2.2.1.below hb (Nat.le_refl _), h.2.2.2.2.trans (hb.mono h.2.2.2.2.size)⟩
set_option maxRecDepth 100000 in
set_option maxHeartbeats 4000000 in
theorem awake_any (w : World) : Calls Try.prog 10 #[] w fun e w' => e = .returned (.bool true) ∧ Below w.heap.size w w' := by
  go_enter Try.func10, Try.ntmps10
  go_wp2_with fail
  obtain ⟨W, hW⟩ : ∃ W, w.alloc (.cells #[.string ⟨#[97]⟩, .int .i64 1, .string ⟨#[98]⟩, .int .i64 1, .string ⟨#[97]⟩, .int .i64 2, .string ⟨#[98]⟩, .int .i64 1, .string ⟨#[97]⟩, .int .i64 2, .string ⟨#[98]⟩, .int .i64 2] 37) = W := ⟨_, rfl⟩
  rw [hW]
  have b1 : Blk W w.heap.size 37 #[.string ⟨#[97]⟩, .int .i64 1, .string ⟨#[98]⟩, .int .i64 1, .string ⟨#[97]⟩, .int .i64 2, .string ⟨#[98]⟩, .int .i64 1, .string ⟨#[97]⟩, .int .i64 2, .string ⟨#[98]⟩, .int .i64 2] := by rw [← hW]; exact Blk.made _ _ _
  have k1 : Below w.heap.size w W := by rw [← hW]; exact (Below.refl _ _).alloc (Nat.le_refl _) _
  clear hW
  refine wp_region_held_drew (S := (fun w' : World => w'.cell? ⟨w.heap.size, 0, none⟩ = some (.string ⟨#[97]⟩) ∧ w'.cell? ⟨w.heap.size, 1, none⟩ = some (.int .i64 1) ∧ w'.cell? ⟨w.heap.size, 2, none⟩ = some (.string ⟨#[98]⟩) ∧ w'.cell? ⟨w.heap.size, 3, none⟩ = some (.int .i64 1) ∧ w'.cell? ⟨w.heap.size, 8, none⟩ = some (.string ⟨#[97]⟩) ∧ w'.cell? ⟨w.heap.size, 9, none⟩ = some (.int .i64 2) ∧ w'.cell? ⟨w.heap.size, 10, none⟩ = some (.string ⟨#[98]⟩) ∧ w'.cell? ⟨w.heap.size, 11, none⟩ = some (.int .i64 2))) (by kernel_rfl) ⟨b1.cell 0, b1.cell 1, b1.cell 2, b1.cell 3, b1.cell 8, b1.cell 9, b1.cell 10, b1.cell 11⟩ (fun hS0 => ?_)
  refine ah_take (i := 0) (v := ?_) (some 19) rfl rfl (by kernel_rfl) (by kernel_rfl) (by kernel_rfl) (fun _ _ _ h => h) (by kernel_rfl) ?_ (by assumption) ?_
  rotate_left
  · (intro w hSw; (try dsimp only at hSw); go_simp; (first | done | with_reducible rfl))
  simp only [Act.put, List.setIfInBounds_toArray, List.set_cons_zero, List.set_cons_succ]
  refine ah_take (i := 1) (v := ?_) (some 20) rfl rfl (by kernel_rfl) (by kernel_rfl) (by kernel_rfl) (fun _ _ _ h => h) (by kernel_rfl) ?_ (by assumption) ?_
  rotate_left
  · (intro w hSw; (try dsimp only at hSw); go_simp; (first | done | with_reducible rfl))
  simp only [Act.put, List.setIfInBounds_toArray, List.set_cons_zero, List.set_cons_succ]
  refine ah_take (i := 2) (v := ?_) (some 21) rfl rfl (by kernel_rfl) (by kernel_rfl) (by kernel_rfl) (fun _ _ _ h => h) (by kernel_rfl) ?_ (by assumption) ?_
  rotate_left
  · (intro w hSw; (try dsimp only at hSw); go_simp; (first | done | with_reducible rfl))
  simp only [Act.put, List.setIfInBounds_toArray, List.set_cons_zero, List.set_cons_succ]
  refine ah_take (i := 3) (v := ?_) (some 22) rfl rfl (by kernel_rfl) (by kernel_rfl) (by kernel_rfl) (fun _ _ _ h => h) (by kernel_rfl) ?_ (by assumption) ?_
  rotate_left
  · (intro w hSw; (try dsimp only at hSw); go_simp; (first | done | with_reducible rfl))
  simp only [Act.put, List.setIfInBounds_toArray, List.set_cons_zero, List.set_cons_succ]
  refine ah_take (i := 4) (v := ?_) (some 23) rfl rfl (by kernel_rfl) (by kernel_rfl) (by kernel_rfl) (fun _ _ _ h => h) (by kernel_rfl) ?_ (by assumption) ?_
  rotate_left
  · (intro w hSw; (try dsimp only at hSw); go_simp; (first | done | with_reducible rfl))
  simp only [Act.put, List.setIfInBounds_toArray, List.set_cons_zero, List.set_cons_succ]
  refine ah_take (i := 5) (v := ?_) (some 24) rfl rfl (by kernel_rfl) (by kernel_rfl) (by kernel_rfl) (fun _ _ _ h => h) (by kernel_rfl) ?_ (by assumption) ?_
  rotate_left
  · (intro w hSw; (try dsimp only at hSw); go_simp; (first | done | with_reducible rfl))
  simp only [Act.put, List.setIfInBounds_toArray, List.set_cons_zero, List.set_cons_succ]
  refine wpAnyH_ready (rs := [6]) (by kernel_rfl) (by simp) ?_
  refine AllReadyH.cons rfl (fun K hK => ?_) AllReadyH.nil
  go_simp
  refine hK.out _ _ ⟨cell_alloc' (b1.cell 0) _, cell_alloc' (b1.cell 1) _, cell_alloc' (b1.cell 2) _, cell_alloc' (b1.cell 3) _, cell_alloc' (b1.cell 8) _, cell_alloc' (b1.cell 9) _, cell_alloc' (b1.cell 10) _, cell_alloc' (b1.cell 11) _⟩ (fun hS1 => ?_)
  try simp only [Act.put, List.setIfInBounds_toArray, List.set_cons_zero, List.set_cons_succ]
  clear hK K
  refine ah_take (i := 7) (v := ?_) (some 2) rfl rfl (by kernel_rfl) (by kernel_rfl) (by kernel_rfl) (fun _ _ _ h => h) (by kernel_rfl) ?_ (by assumption) ?_
  rotate_left
  · (intro w hSw; (try dsimp only at hSw); go_simp; (first | done | with_reducible rfl))
  simp only [Act.put, List.setIfInBounds_toArray, List.set_cons_zero, List.set_cons_succ]
  refine wpAnyH_done (by kernel_rfl) ?_ _
  clear hS0 hS1
  obtain ⟨W2, hW2⟩ : ∃ W2, (W.alloc (.cells #[.string ⟨#[97]⟩, .int .i64 1, .string ⟨#[98]⟩, .int .i64 1, .string ⟨#[97]⟩, .int .i64 2, .string ⟨#[98]⟩, .int .i64 2] 37)).drew = W2 := ⟨_, rfl⟩
  rw [hW2]
  have b2 : Blk W2 W.heap.size 37 #[.string ⟨#[97]⟩, .int .i64 1, .string ⟨#[98]⟩, .int .i64 1, .string ⟨#[97]⟩, .int .i64 2, .string ⟨#[98]⟩, .int .i64 2] := by rw [← hW2]; exact (Blk.made W 37 _).drew
  have k2 : Below W.heap.size W W2 := by rw [← hW2]; exact Below.drew ((Below.refl _ _).alloc (Nat.le_refl _) _)
  clear hW2
  have b1' := b1.below k2 b1.lt
  go_wp2_with fail
  obtain ⟨W3, hW3⟩ : ∃ W3, (W2.alloc (.cells #[.string ⟨#[97]⟩, .int .i64 1, .string ⟨#[98]⟩, .int .i64 1] 40)).alloc (.cells #[.string ⟨#[97]⟩, .int .i64 2, .string ⟨#[98]⟩, .int .i64 2] 40) = W3 := ⟨_, rfl⟩
  rw [hW3]
  have u1 : Blk W3 W2.heap.size 40 #[.string ⟨#[97]⟩, .int .i64 1, .string ⟨#[98]⟩, .int .i64 1] := by rw [← hW3]; exact (Blk.made _ _ _).alloc _
  have u2 : Blk W3 (W2.heap.size + 1) 40 #[.string ⟨#[97]⟩, .int .i64 2, .string ⟨#[98]⟩, .int .i64 2] := by rw [← hW3]; exact Blk.made_at _ _ _ (by simp)
  have k3 : Below W2.heap.size W2 W3 := by rw [← hW3]; exact ((Below.refl _ _).alloc (Nat.le_refl _) _).alloc (by simp) _
  clear hW3
  have R1 := Lib.hid (rows_built3 (b1'.below k3 b1'.lt))
  have R2 := Lib.hid (rows_built2 (b2.below k3 b2.lt))
  have U1 := Lib.hid (units_built u1)
  have U2 := Lib.hid (units_built u2)
  have K3 := Lib.hid ((k1.trans (k2.mono k1.size)).trans (k3.mono (Nat.le_trans k1.size k2.size)))
  clear b1 b2 k1 k2 k3 b1' u1 u2
  refine (order_any _ _ _ 2 2 2 3 3 (eS 1 1) (eS 2 2) (eR [(1, 1), (2, 1), (2, 2)]) W3 U1.out U2.out R1.out (fits_e _ _) (Nat.le_refl _) e_chg.1).mono ?_
  rw [e_ord1]
  rintro e W4 ⟨k1, (⟨h, _⟩ | ⟨p, B1, cB1, hp, rfl, n1⟩)⟩
  · cases h
  cases hp
  have K4 := Lib.hid k1
  have N1 := Lib.hid n1
  clear k1 n1
  go_wp2_with fail
  refine (reach_ok _ _ _ 2 2 2 2 3 3 (eS 1 1) (eS 2 2) (eR [(1, 1), (2, 1), (2, 2)]) W4 (U1.out.below K4.out (Nat.le_refl _)) (U2.out.below K4.out (Nat.le_refl _)) (R1.out.below K4.out (Nat.le_refl _)) (fits_e _ _) (Nat.le_refl _) e_chg.1).mono ?_
  rw [e_rch1]
  rintro e W5 ⟨⟨B2, cB2, rfl, n2⟩, k2⟩
  have K5 := Lib.hid (K4.out.trans (k2.mono K4.out.size))
  have K45 := Lib.hid k2
  have N2 := Lib.hid n2
  clear k2 n2
  go_wp2_with fail
  refine (order_any _ _ _ 2 2 2 3 3 (eS 2 2) (eS 1 1) (eR [(1, 1), (2, 1), (2, 2)]) W5 (U2.out.below K5.out (Nat.le_refl _)) (U1.out.below K5.out (Nat.le_refl _)) (R1.out.below K5.out (Nat.le_refl _)) (fits_e _ _) (Nat.le_refl _) e_chg.2).mono ?_
  rw [e_ord2]
  rintro e W6 ⟨k3, (⟨h, _⟩ | ⟨p, B3, cB3, hp, rfl, n3⟩)⟩
  · cases h
  cases hp
  have K6 := Lib.hid (K5.out.trans (k3.mono K5.out.size))
  have K56 := Lib.hid k3
  have N3 := Lib.hid n3
  clear k3 n3
  go_wp2_with fail
  refine (order_any _ _ _ 2 2 2 2 2 (eS 1 1) (eS 2 2) (eR [(1, 1), (2, 2)]) W6 (U1.out.below K6.out (Nat.le_refl _)) (U2.out.below K6.out (Nat.le_refl _)) (R2.out.below K6.out (Nat.le_refl _)) (fits_e _ _) (Nat.le_refl _) e_chg.1).mono ?_
  rw [e_ord3]
  rintro e W7 ⟨k5, (⟨_, rfl⟩ | ⟨p, B5, cB5, hp, _, n5⟩)⟩
  rotate_left
  · cases hp
  have K7 := Lib.hid (K6.out.trans (k5.mono K6.out.size))
  have K67 := Lib.hid k5
  clear k5
  go_wp2_with fail
  refine (reach_ok _ _ _ 2 2 2 2 2 2 (eS 1 1) (eS 2 2) (eR [(1, 1), (2, 2)]) W7 (U1.out.below K7.out (Nat.le_refl _)) (U2.out.below K7.out (Nat.le_refl _)) (R2.out.below K7.out (Nat.le_refl _)) (fits_e _ _) (Nat.le_refl _) e_chg.1).mono ?_
  rw [e_rch2]
  rintro e W8 ⟨⟨B4, cB4, rfl, n4⟩, k4⟩
  have K8 := Lib.hid (K7.out.trans (k4.mono K7.out.size))
  have h9 : S9 w B1 B2 B3 B4 W8 := by
    refine ⟨?_, ?_, ?_, n4, K3.out.trans (K8.out.mono K3.out.size)⟩
    · exact (((N1.out.below K45.out (Nat.le_refl _)).below K56.out (Nat.le_refl _)).below K67.out (Nat.le_refl _)).below k4 (Nat.le_refl _)
    · exact ((N2.out.below K56.out (Nat.le_refl _)).below K67.out (Nat.le_refl _)).below k4 (Nat.le_refl _)
    · exact (N3.out.below K67.out (Nat.le_refl _)).below k4 (Nat.le_refl _)
  clear k4 n4
  go_wp2_with fail
  obtain ⟨V0, hV0⟩ : ∃ V0, W8.alloc (.cells #[.int .i64 0, .int .i64 1] 3) = V0 := ⟨_, rfl⟩
  rw [hV0]
  have m0 : NumsIn V0 (some ⟨W8.heap.size, 0, none⟩) [0, 1] := nums_built (by rw [← hV0]; exact Blk.made _ _ _)
  have g0 := h9.below (show Below W8.heap.size W8 V0 by rw [← hV0]; exact (Below.refl _ _).alloc (Nat.le_refl _) _)
  clear hV0 h9
  refine (ints_any B1 (some ⟨W8.heap.size, 0, none⟩) _ _ [0, 1] [0, 1] V0 g0.1 m0 (by decide)).mono ?_
  rintro e X0 ⟨rfl, q0⟩
  rw [show (decide (([0, 1] : List Nat) = [0, 1])) = true from by decide]
  have h90 := g0.below q0
  clear q0 g0 m0
  go_wp2_with fail
  obtain ⟨V1, hV1⟩ : ∃ V1, X0.alloc (.cells #[.int .i64 0, .int .i64 1, .int .i64 3] 3) = V1 := ⟨_, rfl⟩
  rw [hV1]
  have m1 : NumsIn V1 (some ⟨X0.heap.size, 0, none⟩) [0, 1, 3] := nums_built (by rw [← hV1]; exact Blk.made _ _ _)
  have g1 := h90.below (show Below X0.heap.size X0 V1 by rw [← hV1]; exact (Below.refl _ _).alloc (Nat.le_refl _) _)
  clear hV1 h90
  refine (ints_any B2 (some ⟨X0.heap.size, 0, none⟩) _ _ [0, 1, 3] [0, 1, 3] V1 g1.2.1 m1 (by decide)).mono ?_
  rintro e X1 ⟨rfl, q1⟩
  rw [show (decide (([0, 1, 3] : List Nat) = [0, 1, 3])) = true from by decide]
  have h91 := g1.below q1
  clear q1 g1 m1
  go_wp2_with fail
  obtain ⟨V2, hV2⟩ : ∃ V2, X1.alloc (.cells #[.int .i64 1, .int .i64 0] 3) = V2 := ⟨_, rfl⟩
  rw [hV2]
  have m2 : NumsIn V2 (some ⟨X1.heap.size, 0, none⟩) [1, 0] := nums_built (by rw [← hV2]; exact Blk.made _ _ _)
  have g2 := h91.below (show Below X1.heap.size X1 V2 by rw [← hV2]; exact (Below.refl _ _).alloc (Nat.le_refl _) _)
  clear hV2 h91
  refine (ints_any B3 (some ⟨X1.heap.size, 0, none⟩) _ _ [1, 0] [1, 0] V2 g2.2.2.1 m2 (by decide)).mono ?_
  rintro e X2 ⟨rfl, q2⟩
  rw [show (decide (([1, 0] : List Nat) = [1, 0])) = true from by decide]
  have h92 := g2.below q2
  clear q2 g2 m2
  go_wp2_with fail
  obtain ⟨V3, hV3⟩ : ∃ V3, X2.alloc (.cells #[.int .i64 0] 3) = V3 := ⟨_, rfl⟩
  rw [hV3]
  have m3 : NumsIn V3 (some ⟨X2.heap.size, 0, none⟩) [0] := nums_built (by rw [← hV3]; exact Blk.made _ _ _)
  have g3 := h92.below (show Below X2.heap.size X2 V3 by rw [← hV3]; exact (Below.refl _ _).alloc (Nat.le_refl _) _)
  clear hV3 h92
  refine (ints_any B4 (some ⟨X2.heap.size, 0, none⟩) _ _ [0] [0] V3 g3.2.2.2.1 m3 (by decide)).mono ?_
  rintro e X3 ⟨rfl, q3⟩
  rw [show (decide (([0] : List Nat) = [0])) = true from by decide]
  have h93 := g3.below q3
  clear q3 g3 m3
  go_wp2_with fail
  go_ret
  exact ⟨rfl, h93.2.2.2.2⟩
end Go.Proofs.Ytcjbjhkmnfegnaa
