/-
  The contract of Pass at an account, at a time that is not behind its clock and a size that is one. Its last region draws the order in which two fields are read beside a call: it is walked by hand, in both orders.
-/
import Derived.Test.YtknfhbhaencdjaaCon1
namespace Go.Proofs.Ytknfhbhaencdjaa
open Go.RowKit
set_option linter.unusedSimpArgs false

theorem cell_off (w : World) (b o o' : Nat) (v : Value) (h : o ≠ o') : (w.setCell ⟨b, o, none⟩ v).cell? ⟨b, o', none⟩ = w.cell? ⟨b, o', none⟩ :=
  World.cell?_setCell_other w _ _ v (fun e => h (by injection e))
theorem far_cell {w : World} {pb o o' : Nat} {u : Value} (hlt : pb < w.heap.size) (h : w.cell? ⟨pb, o', none⟩ = some u) (hne : o ≠ o') (v : Value) (o1 o2 : Obj) : (((w.setCell ⟨pb, o, none⟩ v).alloc o1).alloc o2).drew.cell? ⟨pb, o', none⟩ = some u := by
  show (((w.setCell ⟨pb, o, none⟩ v).alloc o1).alloc o2).cell? ⟨pb, o', none⟩ = some u
  have hz : (w.setCell ⟨pb, o, none⟩ v).heap.size = w.heap.size := by simp [World.setCell]
  rw [World.cell?_alloc_lt _ _ _ (by simp [hz]; omega), World.cell?_alloc_lt _ _ _ (by simp [hz]; omega), cell_off _ _ _ _ _ hne]
  exact h
theorem after_store {w : World} {pb : Nat} {x0 x1 x2 x4 : Value} (hlt : pb < w.heap.size) (c0 : w.cell? ⟨pb, 0, none⟩ = some x0) (c1 : w.cell? ⟨pb, 1, none⟩ = some x1) (c2 : w.cell? ⟨pb, 2, none⟩ = some x2) (c4 : w.cell? ⟨pb, 4, none⟩ = some x4) (v : Value) (o1 o2 : Obj) :
    (((w.setCell ⟨pb, 3, none⟩ v).alloc o1).alloc o2).drew.cell? ⟨pb, 0, none⟩ = some x0 ∧ (((w.setCell ⟨pb, 3, none⟩ v).alloc o1).alloc o2).drew.cell? ⟨pb, 1, none⟩ = some x1 ∧ (((w.setCell ⟨pb, 3, none⟩ v).alloc o1).alloc o2).drew.cell? ⟨pb, 2, none⟩ = some x2 ∧ (((w.setCell ⟨pb, 3, none⟩ v).alloc o1).alloc o2).drew.cell? ⟨pb, 4, none⟩ = some x4 :=
  ⟨far_cell hlt c0 (by omega) v o1 o2, far_cell hlt c1 (by omega) v o1 o2, far_cell hlt c2 (by omega) v o1 o2, far_cell hlt c4 (by omega) v o1 o2⟩
theorem adv_if (B S J L C t : Int) : (if L + S * (t - C) < S * (B + J) then L + S * (t - C) else S * (B + J)) = Pol.adv B S J L C t := by
  unfold Pol.adv; split <;> omega

set_option maxHeartbeats 2000000 in
theorem pass_any (pb : Nat) (B S J L C t s : Int) (w : World) (h : okC B S J = true) (hp : Acc w pb B S J L C) (hL0 : 0 ≤ L) (hL : L ≤ S * (B + J)) (hC0 : 0 ≤ C) (hCt : C ≤ t) (ht : t ≤ 1073741824) (hs1 : 1 ≤ s) (hs2 : s ≤ 2048) :
    Calls Try.prog 16 #[.pointer (some ⟨pb, 0, none⟩), .int .i64 t, .int .i64 s] w fun e w' => e = .returned (.tuple #[.bool (Pol.good B S J L C t s), .int .i64 0]) ∧ Acc w' pb B S J (Pol.next B S J L C t s) t ∧ w.grownBy w' (some pb) := by
  obtain ⟨o1, o2, o3, o4, o5, o6⟩ := okC_true h
  have c0 : w.cell? ⟨pb, 0, none⟩ = some (.int .i64 B) := hp.cell 0
  have c1 : w.cell? ⟨pb, 1, none⟩ = some (.int .i64 S) := hp.cell 1
  have c2 : w.cell? ⟨pb, 2, none⟩ = some (.int .i64 J) := hp.cell 2
  have c3 : w.cell? ⟨pb, 3, none⟩ = some (.int .i64 L) := hp.cell 3
  have c4 : w.cell? ⟨pb, 4, none⟩ = some (.int .i64 C) := hp.cell 4
  have f3 : w.frozen? ⟨pb, 3, none⟩ = false := hp.free 3
  have f4 : w.frozen? ⟨pb, 4, none⟩ = false := hp.free 4
  have m1 : 0 ≤ S * (t - C) := Int.mul_nonneg (by omega) (by omega)
  have m2 : S * (t - C) ≤ 2048 * (t - C) := Int.mul_le_mul_of_nonneg_right o4 (by omega)
  have m3 : S * (B + J) ≤ 2048 * (B + J) := Int.mul_le_mul_of_nonneg_right o4 (by omega)
  have m4 : 0 ≤ s * B := Int.mul_nonneg (by omega) (by omega)
  have m5 : s * B ≤ 2048 * B := Int.mul_le_mul_of_nonneg_right hs2 (by omega)
  have m6 : 0 ≤ Pol.adv B S J L C t := Pol.adv_ge (Int.mul_nonneg (by omega) (by omega)) (by omega)
  have m7 : Pol.adv B S J L C t ≤ S * (B + J) := Pol.adv_le ..
  have hlt : pb < w.heap.size := hp.lt
  have hne : ¬ w.heap.size = pb := by omega
  have u1 : IntKind.i64.wrap (t - C) = t - C := IntWalk.i64_in _ (by omega)
  have u2 : IntKind.i64.wrap (S * (t - C)) = S * (t - C) := IntWalk.i64_in _ (by omega)
  have u3 : IntKind.i64.wrap (L + S * (t - C)) = L + S * (t - C) := IntWalk.i64_in _ (by omega)
  have HG : Hid (∀ b : Bool, b = (decide (s ≤ S) && decide (s * B ≤ Pol.adv B S J L C t)) → Pol.good B S J L C t s = b ∧ Pol.next B S J L C t s = if b = true then Pol.adv B S J L C t - s * B else Pol.adv B S J L C t) := by
    rintro b rfl
    exact ⟨rfl, rfl⟩
  have HP := Lib.hid hp
  clear hp
  go_enter Try.func16, Try.ntmps16
  go_wp2_with (go_at_call 22; refine (valid_true _ _ _ _ h).mono ?_; rintro e w' ⟨rfl, rfl⟩)
  refine wp_region_held_drew (S := fun w' : World => w'.cell? ⟨pb, 0, none⟩ = some (.int .i64 B) ∧ w'.cell? ⟨pb, 1, none⟩ = some (.int .i64 S) ∧ w'.cell? ⟨pb, 2, none⟩ = some (.int .i64 J) ∧ w'.cell? ⟨pb, 4, none⟩ = some (.int .i64 C)) (by kernel_rfl) (by go_keep) (fun hS0 => ?_)
  refine wpAnyH_take (i := 0) (v := ?_) rfl (by kernel_rfl) (by kernel_rfl) (by kernel_rfl) (fun _ _ _ h => h) (Or.inl ⟨by rfl, ?_⟩) (by assumption) ?_
  rotate_left
  · (intro w hSw; (try dsimp only at hSw); go_simp; (first | done | with_reducible rfl))
  try simp only [Act.put, List.setIfInBounds_toArray, List.set_cons_zero, List.set_cons_succ]
  refine wpAnyH_take (i := 1) (v := ?_) rfl (by kernel_rfl) (by kernel_rfl) (by kernel_rfl) (fun _ _ _ h => h) (Or.inl ⟨by rfl, ?_⟩) (by assumption) ?_
  rotate_left
  · (intro w hSw; (try dsimp only at hSw); go_simp; (first | done | with_reducible rfl))
  try simp only [Act.put, List.setIfInBounds_toArray, List.set_cons_zero, List.set_cons_succ]
  refine wpAnyH_take (i := 2) (v := ?_) rfl (by kernel_rfl) (by kernel_rfl) (by kernel_rfl) (fun _ _ _ h => h) (Or.inl ⟨by rfl, ?_⟩) (by assumption) ?_
  rotate_left
  · (intro w hSw; (try dsimp only at hSw); go_simp; (first | done | with_reducible rfl))
  try simp only [Act.put, List.setIfInBounds_toArray, List.set_cons_zero, List.set_cons_succ]
  refine wpAnyH_take (i := 3) (v := ?_) rfl (by kernel_rfl) (by kernel_rfl) (by kernel_rfl) (fun _ _ _ h => h) (Or.inl ⟨by rfl, ?_⟩) (by assumption) ?_
  rotate_left
  · (intro w hSw; (try dsimp only at hSw); go_simp; (first | done | with_reducible rfl))
  try simp only [Act.put, List.setIfInBounds_toArray, List.set_cons_zero, List.set_cons_succ]
  refine wpAnyH_take (i := 4) (v := ?_) rfl (by kernel_rfl) (by kernel_rfl) (by kernel_rfl) (fun _ _ _ h => h) (Or.inl ⟨by rfl, ?_⟩) (by assumption) ?_
  rotate_left
  · (intro w hSw; (try dsimp only at hSw); go_simp; (first | done | with_reducible rfl))
  try simp only [Act.put, List.setIfInBounds_toArray, List.set_cons_zero, List.set_cons_succ]
  refine wpAnyH_take (i := 6) (v := ?_) rfl (by kernel_rfl) (by kernel_rfl) (by kernel_rfl) (fun _ _ _ h => h) (Or.inl ⟨by rfl, ?_⟩) (by assumption) ?_
  rotate_left
  · (intro w hSw; (try dsimp only at hSw); go_simp; (first | done | with_reducible rfl))
  try simp only [Act.put, List.setIfInBounds_toArray, List.set_cons_zero, List.set_cons_succ]
  refine wpAnyH_take (i := 7) (v := ?_) rfl (by kernel_rfl) (by kernel_rfl) (by kernel_rfl) (fun _ _ _ h => h) (Or.inl ⟨by rfl, ?_⟩) (by assumption) ?_
  rotate_left
  · (intro w hSw; (try dsimp only at hSw); go_simp; (first | done | with_reducible rfl))
  try simp only [Act.put, List.setIfInBounds_toArray, List.set_cons_zero, List.set_cons_succ]
  refine wpAnyH_take (i := 8) (v := ?_) rfl (by kernel_rfl) (by kernel_rfl) (by kernel_rfl) (fun _ _ _ h => h) (Or.inl ⟨by rfl, ?_⟩) (by assumption) ?_
  rotate_left
  · (intro w hSw; (try dsimp only at hSw); go_simp; (first | done | with_reducible rfl))
  try simp only [Act.put, List.setIfInBounds_toArray, List.set_cons_zero, List.set_cons_succ]
  refine wpAnyH_take (i := 10) (v := ?_) rfl (by kernel_rfl) (by kernel_rfl) (by kernel_rfl) (fun _ _ _ h => h) (Or.inl ⟨by rfl, ?_⟩) (by assumption) ?_
  rotate_left
  · (intro w hSw; (try dsimp only at hSw); go_simp; (first | done | with_reducible rfl))
  try simp only [Act.put, List.setIfInBounds_toArray, List.set_cons_zero, List.set_cons_succ]
  refine wpAnyH_take (i := 11) (v := ?_) rfl (by kernel_rfl) (by kernel_rfl) (by kernel_rfl) (fun _ _ _ h => h) (Or.inl ⟨by rfl, ?_⟩) (by assumption) ?_
  rotate_left
  · (intro w hSw; (try dsimp only at hSw); go_simp; (first | done | with_reducible rfl))
  try simp only [Act.put, List.setIfInBounds_toArray, List.set_cons_zero, List.set_cons_succ]
  refine wpAnyH_take (i := 12) (v := ?_) rfl (by kernel_rfl) (by kernel_rfl) (by kernel_rfl) (fun _ _ _ h => h) (Or.inl ⟨by rfl, ?_⟩) (by assumption) ?_
  rotate_left
  · (intro w hSw; (try dsimp only at hSw); go_simp; (first | done | with_reducible rfl))
  try simp only [Act.put, List.setIfInBounds_toArray, List.set_cons_zero, List.set_cons_succ]
  refine wpAnyH_take (i := 13) (v := ?_) rfl (by kernel_rfl) (by kernel_rfl) (by kernel_rfl) (fun _ _ _ h => h) (Or.inl ⟨by rfl, ?_⟩) (by assumption) ?_
  rotate_left
  · (intro w hSw; (try dsimp only at hSw); go_simp; (first | done | with_reducible rfl))
  try simp only [Act.put, List.setIfInBounds_toArray, List.set_cons_zero, List.set_cons_succ]
  refine wpAnyH_take (i := 14) (v := ?_) rfl (by kernel_rfl) (by kernel_rfl) (by kernel_rfl) (fun _ _ _ h => h) (Or.inl ⟨by rfl, ?_⟩) (by assumption) ?_
  rotate_left
  · (intro w hSw; (try dsimp only at hSw); go_simp; (first | done | with_reducible rfl))
  try simp only [Act.put, List.setIfInBounds_toArray, List.set_cons_zero, List.set_cons_succ]
  refine wpAnyH_take (i := 15) (v := ?_) rfl (by kernel_rfl) (by kernel_rfl) (by kernel_rfl) (fun _ _ _ h => h) (Or.inl ⟨by rfl, ?_⟩) (by assumption) ?_
  rotate_left
  · (intro w hSw; (try dsimp only at hSw); go_simp; (first | done | with_reducible rfl))
  try simp only [Act.put, List.setIfInBounds_toArray, List.set_cons_zero, List.set_cons_succ]
  refine wpAnyH_take (i := 16) (v := ?_) rfl (by kernel_rfl) (by kernel_rfl) (by kernel_rfl) (fun _ _ _ h => h) (Or.inl ⟨by rfl, ?_⟩) (by assumption) ?_
  rotate_left
  · (intro w hSw; (try dsimp only at hSw); go_simp; (first | done | with_reducible rfl))
  try simp only [Act.put, List.setIfInBounds_toArray, List.set_cons_zero, List.set_cons_succ]
  refine wpAnyH_take (i := 17) (v := ?_) rfl (by kernel_rfl) (by kernel_rfl) (by kernel_rfl) (fun _ _ _ h => h) (Or.inl ⟨by rfl, ?_⟩) (by assumption) ?_
  rotate_left
  · (intro w hSw; (try dsimp only at hSw); go_simp; (first | done | with_reducible rfl))
  try simp only [Act.put, List.setIfInBounds_toArray, List.set_cons_zero, List.set_cons_succ]
  refine wpAnyH_take (i := 18) (v := ?_) rfl (by kernel_rfl) (by kernel_rfl) (by kernel_rfl) (fun _ _ _ h => h) (Or.inl ⟨by rfl, ?_⟩) (by assumption) ?_
  rotate_left
  · (intro w hSw; (try dsimp only at hSw); go_simp; (first | done | with_reducible rfl))
  try simp only [Act.put, List.setIfInBounds_toArray, List.set_cons_zero, List.set_cons_succ]
  refine wpAnyH_take (i := 19) (v := ?_) rfl (by kernel_rfl) (by kernel_rfl) (by kernel_rfl) (fun _ _ _ h => h) (Or.inl ⟨by rfl, ?_⟩) (by assumption) ?_
  rotate_left
  · (intro w hSw; (try dsimp only at hSw); go_simp; (first | done | with_reducible rfl))
  try simp only [Act.put, List.setIfInBounds_toArray, List.set_cons_zero, List.set_cons_succ]
  refine wpAnyH_take (i := 20) (v := ?_) rfl (by kernel_rfl) (by kernel_rfl) (by kernel_rfl) (fun _ _ _ h => h) (Or.inl ⟨by rfl, ?_⟩) (by assumption) ?_
  rotate_left
  · (intro w hSw; (try dsimp only at hSw); go_simp; (first | done | with_reducible rfl))
  try simp only [Act.put, List.setIfInBounds_toArray, List.set_cons_zero, List.set_cons_succ]
  refine wpAnyH_take (i := 21) (v := ?_) rfl (by kernel_rfl) (by kernel_rfl) (by kernel_rfl) (fun _ _ _ h => h) (Or.inl ⟨by rfl, ?_⟩) (by assumption) ?_
  rotate_left
  · (intro w hSw; (try dsimp only at hSw); go_simp; (first | done | with_reducible rfl))
  try simp only [Act.put, List.setIfInBounds_toArray, List.set_cons_zero, List.set_cons_succ]
  refine wpAnyH_ready (rs := [5, 9]) (by kernel_rfl) (by simp) ?_
  refine AllReadyH.cons rfl (fun K hK => ?_) ?_
  · go_simp
    (go_at_call 23; refine (cap_any _ _ _ _ h).mono ?_; rintro e w' ⟨rfl, rfl⟩)
    refine hK.out _ _ (by go_keep) (fun hHeld => ?_)
    try simp only [Act.put, List.setIfInBounds_toArray, List.set_cons_zero, List.set_cons_succ]
    clear hK K
    refine wpAnyH_ready (rs := [9]) (by kernel_rfl) (by simp) ?_
    refine AllReadyH.cons rfl (fun K hK => ?_) AllReadyH.nil
    go_simp
    refine hK.out _ _ (by go_keep) (fun hHeld2 => ?_)
    try simp only [Act.put, List.setIfInBounds_toArray, List.set_cons_zero, List.set_cons_succ]
    clear hK K
    refine wpAnyH_take (i := 22) (v := ?_) rfl (by kernel_rfl) (by kernel_rfl) (by kernel_rfl) (fun _ _ _ h => h) (Or.inl ⟨by rfl, ?_⟩) (by assumption) ?_
    rotate_left
    · (intro w hSw; (try dsimp only at hSw); go_simp; (first | done | with_reducible rfl))
    try simp only [Act.put, List.setIfInBounds_toArray, List.set_cons_zero, List.set_cons_succ]
    refine wpAnyH_take (i := 23) (v := ?_) rfl (by kernel_rfl) (by kernel_rfl) (by kernel_rfl) (fun _ _ _ h => h) (Or.inl ⟨by rfl, ?_⟩) (by assumption) ?_
    rotate_left
    · (intro w hSw; (try dsimp only at hSw); go_simp; (first | done | with_reducible rfl))
    try simp only [Act.put, List.setIfInBounds_toArray, List.set_cons_zero, List.set_cons_succ]
    refine wpAnyH_take (i := 24) (v := ?_) rfl (by kernel_rfl) (by kernel_rfl) (by kernel_rfl) (fun _ _ _ h => h) (Or.inl ⟨by rfl, ?_⟩) (by assumption) ?_
    rotate_left
    · (intro w hSw; (try dsimp only at hSw); go_simp; (first | done | with_reducible rfl))
    try simp only [Act.put, List.setIfInBounds_toArray, List.set_cons_zero, List.set_cons_succ]
    refine wpAnyH_take (i := 25) (v := ?_) rfl (by kernel_rfl) (by kernel_rfl) (by kernel_rfl) (fun _ _ _ h => h) (Or.inl ⟨by rfl, ?_⟩) (by assumption) ?_
    rotate_left
    · (intro w hSw; (try dsimp only at hSw); go_simp; (first | done | with_reducible rfl))
    try simp only [Act.put, List.setIfInBounds_toArray, List.set_cons_zero, List.set_cons_succ]
    refine wpAnyH_ready (rs := [26]) (by kernel_rfl) (by simp) ?_
    refine AllReadyH.cons rfl (fun K hK => ?_) AllReadyH.nil
    go_simp
    refine hK.out _ _ (after_store hlt c0 c1 c2 c4 _ _ _) (fun hHeld3 => ?_)
    clear hK K hHeld hHeld2 hHeld3 hS0
    refine wpAnyH_done (by kernel_rfl) ?_ _
    rw [adv_if]
    generalize Pol.adv B S J L C t = A at *
    clear u1 u2 u3 m1 m2
    by_cases k1 : s ≤ S
    · by_cases k2 : s * B ≤ A
      · go_wp2
        go_ret2
        obtain ⟨e1, e2⟩ := HG.out true (by simp [k1, k2])
        rw [e1, e2, if_pos rfl]
        exact ⟨rfl, (((((HP.out.put 3 _).put 4 _).put 3 _).alloc _).alloc _).drew, gb_drew (gb_alloc (gb_alloc (gb_put (gb_put (gb_put (World.grownBy.refl _ _) 3 _) 4 _) 3 _) _) _)⟩
      · go_wp2
        go_ret2
        obtain ⟨e1, e2⟩ := HG.out false (by simp [k1, k2])
        rw [e1, e2, if_neg (by simp)]
        exact ⟨rfl, ((((HP.out.put 3 _).put 4 _).alloc _).alloc _).drew, gb_drew (gb_alloc (gb_alloc (gb_put (gb_put (World.grownBy.refl _ _) 3 _) 4 _) _) _)⟩
    · have k0 : decide (s ≤ S) = false := by simpa using k1
      have HK := Lib.hid k0
      clear k0
      go_wp2
      go_ret2
      obtain ⟨e1, e2⟩ := HG.out false (by rw [HK.out]; rfl)
      rw [e1, e2, if_neg (by simp)]
      exact ⟨rfl, ((((HP.out.put 3 _).put 4 _).alloc _).alloc _).drew, gb_drew (gb_alloc (gb_alloc (gb_put (gb_put (World.grownBy.refl _ _) 3 _) 4 _) _) _)⟩
  · refine AllReadyH.cons rfl (fun K hK => ?_) AllReadyH.nil
    go_simp
    refine hK.out _ _ (by go_keep) (fun hHeld => ?_)
    try simp only [Act.put, List.setIfInBounds_toArray, List.set_cons_zero, List.set_cons_succ]
    clear hK K
    refine wpAnyH_take (i := 22) (v := ?_) rfl (by kernel_rfl) (by kernel_rfl) (by kernel_rfl) (fun _ _ _ h => h) (Or.inl ⟨by rfl, ?_⟩) (by assumption) ?_
    rotate_left
    · (intro w hSw; (try dsimp only at hSw); go_simp; (first | done | with_reducible rfl))
    try simp only [Act.put, List.setIfInBounds_toArray, List.set_cons_zero, List.set_cons_succ]
    refine wpAnyH_ready (rs := [5]) (by kernel_rfl) (by simp) ?_
    refine AllReadyH.cons rfl (fun K hK => ?_) AllReadyH.nil
    go_simp
    (go_at_call 23; refine (cap_any _ _ _ _ h).mono ?_; rintro e w' ⟨rfl, rfl⟩)
    refine hK.out _ _ (by go_keep) (fun hHeld2 => ?_)
    try simp only [Act.put, List.setIfInBounds_toArray, List.set_cons_zero, List.set_cons_succ]
    clear hK K
    refine wpAnyH_take (i := 23) (v := ?_) rfl (by kernel_rfl) (by kernel_rfl) (by kernel_rfl) (fun _ _ _ h => h) (Or.inl ⟨by rfl, ?_⟩) (by assumption) ?_
    rotate_left
    · (intro w hSw; (try dsimp only at hSw); go_simp; (first | done | with_reducible rfl))
    try simp only [Act.put, List.setIfInBounds_toArray, List.set_cons_zero, List.set_cons_succ]
    refine wpAnyH_take (i := 24) (v := ?_) rfl (by kernel_rfl) (by kernel_rfl) (by kernel_rfl) (fun _ _ _ h => h) (Or.inl ⟨by rfl, ?_⟩) (by assumption) ?_
    rotate_left
    · (intro w hSw; (try dsimp only at hSw); go_simp; (first | done | with_reducible rfl))
    try simp only [Act.put, List.setIfInBounds_toArray, List.set_cons_zero, List.set_cons_succ]
    refine wpAnyH_take (i := 25) (v := ?_) rfl (by kernel_rfl) (by kernel_rfl) (by kernel_rfl) (fun _ _ _ h => h) (Or.inl ⟨by rfl, ?_⟩) (by assumption) ?_
    rotate_left
    · (intro w hSw; (try dsimp only at hSw); go_simp; (first | done | with_reducible rfl))
    try simp only [Act.put, List.setIfInBounds_toArray, List.set_cons_zero, List.set_cons_succ]
    refine wpAnyH_ready (rs := [26]) (by kernel_rfl) (by simp) ?_
    refine AllReadyH.cons rfl (fun K hK => ?_) AllReadyH.nil
    go_simp
    refine hK.out _ _ (after_store hlt c0 c1 c2 c4 _ _ _) (fun hHeld3 => ?_)
    clear hK K hHeld hHeld2 hHeld3 hS0
    refine wpAnyH_done (by kernel_rfl) ?_ _
    rw [adv_if]
    generalize Pol.adv B S J L C t = A at *
    clear u1 u2 u3 m1 m2
    by_cases k1 : s ≤ S
    · by_cases k2 : s * B ≤ A
      · go_wp2
        go_ret2
        obtain ⟨e1, e2⟩ := HG.out true (by simp [k1, k2])
        rw [e1, e2, if_pos rfl]
        exact ⟨rfl, (((((HP.out.put 3 _).put 4 _).put 3 _).alloc _).alloc _).drew, gb_drew (gb_alloc (gb_alloc (gb_put (gb_put (gb_put (World.grownBy.refl _ _) 3 _) 4 _) 3 _) _) _)⟩
      · go_wp2
        go_ret2
        obtain ⟨e1, e2⟩ := HG.out false (by simp [k1, k2])
        rw [e1, e2, if_neg (by simp)]
        exact ⟨rfl, ((((HP.out.put 3 _).put 4 _).alloc _).alloc _).drew, gb_drew (gb_alloc (gb_alloc (gb_put (gb_put (World.grownBy.refl _ _) 3 _) 4 _) _) _)⟩
    · have k0 : decide (s ≤ S) = false := by simpa using k1
      have HK := Lib.hid k0
      clear k0
      go_wp2
      go_ret2
      obtain ⟨e1, e2⟩ := HG.out false (by rw [HK.out]; rfl)
      rw [e1, e2, if_neg (by simp)]
      exact ⟨rfl, ((((HP.out.put 3 _).put 4 _).alloc _).alloc _).drew, gb_drew (gb_alloc (gb_alloc (gb_put (gb_put (World.grownBy.refl _ _) 3 _) 4 _) _) _)⟩
end Go.Proofs.Ytknfhbhaencdjaa
