/-
  The law RedundancySmall: the walk, which answers true. No condition.
-/
import Derived.Test.YtllabfbebidjiaaLawS0
namespace Go.Proofs.Ytllabfbebidjiaa
open Go.RowKit
theorem Try.info44' : (Try.prog.info? 44).map (fun i => (i.zero, i.size, i.bytes)) = some (some (.agg #[.int .i64 0, .int .i64 0, .int .i64 0]), 3, 24) := by kernel_rfl
theorem ints_at {W : World} {g n : Nat} {t : TypeId} {cs : Array Value} (hb : Blk W g t cs) (hs : cs.size = n) (hi : ∀ v ∈ cs.toList, ∃ x, v = .int .i64 x) : ∀ i, i < n → ∃ x, W.cell? ⟨g, i, none⟩ = some (.int .i64 x) := fun i hl => by
  obtain ⟨x, hx⟩ := hi (cs[i]'(by omega)) (by simp)
  exact ⟨x, by rw [hb.cell, Array.getElem?_eq_getElem (by omega), hx]⟩
def T8 : Array Value := #[.int .i64 (-9223372036854775808), .int .i64 (-1), .int .i64 0, .int .i64 1, .int .i64 1073741823, .int .i64 1073741824, .int .i64 1073741825, .int .i64 9223372036854775807]
def B5 : Array Value := #[.int .i64 2, .int .i64 0, .int .i64 0, .int .i64 (-1), .int .i64 0, .int .i64 0, .int .i64 0, .int .i64 256, .int .i64 0, .int .i64 0, .int .i64 (-1), .int .i64 0, .int .i64 0, .int .i64 0, .int .i64 4]
theorem t8_int : ∀ v ∈ T8.toList, ∃ x, v = .int .i64 x := by
  intro v hv
  simp [T8] at hv
  rcases hv with h | h | h | h | h | h | h | h <;> exact ⟨_, h⟩
theorem b5_int : ∀ v ∈ B5.toList, ∃ x, v = .int .i64 x := by
  intro v hv
  simp [B5] at hv
  repeat (rcases hv with h | hv; · exact ⟨_, h⟩)
  exact ⟨_, hv⟩
set_option maxRecDepth 100000 in
set_option maxHeartbeats 8000000 in
theorem lawSmall (w : World) : Calls Try.prog 10 #[] w fun e w' => e = .returned (.bool true) ∧ Below w.heap.size w w' := by
  obtain ⟨i0, hi, hz0, hz1, hz2⟩ := info_parts Try.info31'
  have hi' := Lib.hid hi
  have hz0' := Lib.hid hz0
  have hz1' := Lib.hid hz1
  have hz2' := Lib.hid hz2
  obtain ⟨j0, hj, hy0, hy1, hy2⟩ := info_parts Try.info44'
  have hj' := Lib.hid hj
  have hy0' := Lib.hid hy0
  have hy1' := Lib.hid hy1
  have hy2' := Lib.hid hy2
  clear hi hz0 hz1 hz2 hj hy0 hy1 hy2
  go_enter Try.func10, Try.ntmps10
  go_wp2_with fail
  obtain ⟨W, hW⟩ : ∃ W, w.alloc (.cells T8 3) = W := ⟨_, rfl⟩
  have bt : Blk W w.heap.size 3 T8 := by rw [← hW]; exact Blk.made _ _ _
  have kW : Below w.heap.size w W := by rw [← hW]; exact (Below.refl _ _).alloc (Nat.le_refl _) _
  have BT := Lib.hid (ints_at (n := 8) bt rfl t8_int)
  have BL := Lib.hid bt.lt
  have KW := Lib.hid kW
  unfold T8 at hW
  rw [hW]
  clear hW bt kW
  generalize hsx : w.heap.size = tb at BT BL ⊢
  clear hsx
  go_loopw [2] (fun i wr => ∃ k : Nat, k ≤ 8 ∧ i = .int .i64 k ∧ Below W.heap.size W wr) (fun i _ => 8 - (intOf i).toNat)
  case atStart => exact ⟨0, by omega, rfl, Below.refl _ _⟩
  case round =>
    obtain ⟨k, hk, rfl, kr⟩ := hrel
    have KR := Lib.hid kr
    clear kr
    by_cases hlt : k < 8
    · rename World => wo
      have g3 : (k : Int) < 8 := by omega
      go_wp2_with fail
      go_loopw [3] (fun i wr => ∃ j : Nat, j ≤ 8 ∧ i = .int .i64 j ∧ Below W.heap.size W wr) (fun i _ => 8 - (intOf i).toNat)
      case atStart => exact ⟨0, by omega, rfl, KR.out⟩
      case round =>
        obtain ⟨j, hj, rfl, kr⟩ := hrel
        have KR2 := Lib.hid kr
        clear kr
        by_cases hjl : j < 8
        · obtain ⟨x, hx⟩ := BT.out k hlt
          obtain ⟨y, hy⟩ := BT.out j hjl
          have YR : Hid (∀ V : World, Below wr.heap.size wr V → V.cell? ⟨tb, k, none⟩ = some (.int .i64 x) ∧ V.cell? ⟨tb, j, none⟩ = some (.int .i64 y)) := Lib.hid (fun V hV =>
            ⟨((KR2.out.trans (hV.mono KR2.out.size)).cell (p := ⟨tb, k, none⟩) BL.out).trans hx, ((KR2.out.trans (hV.mono KR2.out.size)).cell (p := ⟨tb, j, none⟩) BL.out).trans hy⟩)
          clear hx hy
          have g1 : decide (8 ≤ k) = false := decide_eq_false (by omega)
          have g2 : decide ((k : Int) < 0) = false := decide_eq_false (by omega)
          have g4 : decide (8 ≤ j) = false := decide_eq_false (by omega)
          have g5 : decide ((j : Int) < 0) = false := decide_eq_false (by omega)
          have g6 : (j : Int) < 8 := by omega
          have K0 := Lib.hid (Below.refl wr.heap.size wr).drew
          go_upto_region 8 with fail
          refine wp_region_held_drew (S := (fun V : World => V.cell? ⟨tb, k, none⟩ = some (.int .i64 x) ∧ V.cell? ⟨tb, j, none⟩ = some (.int .i64 y))) (by kernel_rfl) (YR.out _ K0.out) (fun hS0 => ?_)
          refine ah_take (i := 0) (v := ?_) (some 25) rfl rfl (by kernel_rfl) (by kernel_rfl) (by kernel_rfl) (fun _ _ _ h => h) (by kernel_rfl) ?_ (by assumption) ?_
          rotate_left
          · (intro w hSw; (try dsimp only at hSw); go_simp; (first | done | with_reducible rfl))
          simp only [Act.put, List.setIfInBounds_toArray, List.set_cons_zero, List.set_cons_succ]
          refine ah_take (i := 1) (v := ?_) (some 26) rfl rfl (by kernel_rfl) (by kernel_rfl) (by kernel_rfl) (fun _ _ _ h => h) (by kernel_rfl) ?_ (by assumption) ?_
          rotate_left
          · (intro w hSw; (try dsimp only at hSw); go_simp; (first | done | with_reducible rfl))
          simp only [Act.put, List.setIfInBounds_toArray, List.set_cons_zero, List.set_cons_succ]
          refine ah_take (i := 2) (v := ?_) (some 27) rfl rfl (by kernel_rfl) (by kernel_rfl) (by kernel_rfl) (fun _ _ _ h => h) (by kernel_rfl) ?_ (by assumption) ?_
          rotate_left
          · (intro w hSw; (try dsimp only at hSw); go_simp; (first | done | with_reducible rfl))
          simp only [Act.put, List.setIfInBounds_toArray, List.set_cons_zero, List.set_cons_succ]
          refine ah_take (i := 3) (v := ?_) (some 28) rfl rfl (by kernel_rfl) (by kernel_rfl) (by kernel_rfl) (fun _ _ _ h => h) (by kernel_rfl) ?_ (by assumption) ?_
          rotate_left
          · (intro w hSw; (try dsimp only at hSw); go_simp; (first | done | with_reducible rfl))
          simp only [Act.put, List.setIfInBounds_toArray, List.set_cons_zero, List.set_cons_succ]
          refine ah_take (i := 4) (v := ?_) (some 29) rfl rfl (by kernel_rfl) (by kernel_rfl) (by kernel_rfl) (fun _ _ _ h => h) (by kernel_rfl) ?_ (by assumption) ?_
          rotate_left
          · (intro w hSw; (try dsimp only at hSw); go_simp; (first | done | with_reducible rfl))
          simp only [Act.put, List.setIfInBounds_toArray, List.set_cons_zero, List.set_cons_succ]
          refine ah_take (i := 5) (v := ?_) (some 30) rfl rfl (by kernel_rfl) (by kernel_rfl) (by kernel_rfl) (fun _ _ _ h => h) (by kernel_rfl) ?_ (by assumption) ?_
          rotate_left
          · (intro w hSw; (try dsimp only at hSw); go_simp; (first | done | with_reducible rfl))
          simp only [Act.put, List.setIfInBounds_toArray, List.set_cons_zero, List.set_cons_succ]
          refine ah_take (i := 6) (v := ?_) (some 31) rfl rfl (by kernel_rfl) (by kernel_rfl) (by kernel_rfl) (fun _ _ _ h => h) (by kernel_rfl) ?_ (by assumption) ?_
          rotate_left
          · (intro w hSw; (try dsimp only at hSw); go_simp; (first | done | with_reducible rfl))
          simp only [Act.put, List.setIfInBounds_toArray, List.set_cons_zero, List.set_cons_succ]
          refine ah_take (i := 7) (v := ?_) (some 32) rfl rfl (by kernel_rfl) (by kernel_rfl) (by kernel_rfl) (fun _ _ _ h => h) (by kernel_rfl) ?_ (by assumption) ?_
          rotate_left
          · (intro w hSw; (try dsimp only at hSw); go_simp; (first | done | with_reducible rfl))
          simp only [Act.put, List.setIfInBounds_toArray, List.set_cons_zero, List.set_cons_succ]
          refine ah_take (i := 8) (v := ?_) (some 33) rfl rfl (by kernel_rfl) (by kernel_rfl) (by kernel_rfl) (fun _ _ _ h => h) (by kernel_rfl) ?_ (by assumption) ?_
          rotate_left
          · (intro w hSw; (try dsimp only at hSw); go_simp; (first | done | with_reducible rfl))
          simp only [Act.put, List.setIfInBounds_toArray, List.set_cons_zero, List.set_cons_succ]
          refine ah_take (i := 9) (v := ?_) (some 34) rfl rfl (by kernel_rfl) (by kernel_rfl) (by kernel_rfl) (fun _ _ _ h => h) (by kernel_rfl) ?_ (by assumption) ?_
          rotate_left
          · (intro w hSw; (try dsimp only at hSw); go_simp; (first | done | with_reducible rfl))
          simp only [Act.put, List.setIfInBounds_toArray, List.set_cons_zero, List.set_cons_succ]
          refine ah_take (i := 10) (v := ?_) (some 35) rfl rfl (by kernel_rfl) (by kernel_rfl) (by kernel_rfl) (fun _ _ _ h => h) (by kernel_rfl) ?_ (by assumption) ?_
          rotate_left
          · (intro w hSw; (try dsimp only at hSw); go_simp; (first | done | with_reducible rfl))
          simp only [Act.put, List.setIfInBounds_toArray, List.set_cons_zero, List.set_cons_succ]
          refine ah_take (i := 11) (v := ?_) (some 36) rfl rfl (by kernel_rfl) (by kernel_rfl) (by kernel_rfl) (fun _ _ _ h => h) (by kernel_rfl) ?_ (by assumption) ?_
          rotate_left
          · (intro w hSw; (try dsimp only at hSw); go_simp; (first | done | with_reducible rfl))
          simp only [Act.put, List.setIfInBounds_toArray, List.set_cons_zero, List.set_cons_succ]
          refine ah_take (i := 12) (v := ?_) (some 37) rfl rfl (by kernel_rfl) (by kernel_rfl) (by kernel_rfl) (fun _ _ _ h => h) (by kernel_rfl) ?_ (by assumption) ?_
          rotate_left
          · (intro w hSw; (try dsimp only at hSw); go_simp; (first | done | with_reducible rfl))
          simp only [Act.put, List.setIfInBounds_toArray, List.set_cons_zero, List.set_cons_succ]
          refine ah_take (i := 13) (v := ?_) (some 38) rfl rfl (by kernel_rfl) (by kernel_rfl) (by kernel_rfl) (fun _ _ _ h => h) (by kernel_rfl) ?_ (by assumption) ?_
          rotate_left
          · (intro w hSw; (try dsimp only at hSw); go_simp; (first | done | with_reducible rfl))
          simp only [Act.put, List.setIfInBounds_toArray, List.set_cons_zero, List.set_cons_succ]
          refine ah_take (i := 14) (v := ?_) (some 39) rfl rfl (by kernel_rfl) (by kernel_rfl) (by kernel_rfl) (fun _ _ _ h => h) (by kernel_rfl) ?_ (by assumption) ?_
          rotate_left
          · (intro w hSw; (try dsimp only at hSw); go_simp; (first | done | with_reducible rfl))
          simp only [Act.put, List.setIfInBounds_toArray, List.set_cons_zero, List.set_cons_succ]
          refine ah_take (i := 15) (v := ?_) (some 40) rfl rfl (by kernel_rfl) (by kernel_rfl) (by kernel_rfl) (fun _ _ _ h => h) (by kernel_rfl) ?_ (by assumption) ?_
          rotate_left
          · (intro w hSw; (try dsimp only at hSw); go_simp; (first | done | with_reducible rfl))
          simp only [Act.put, List.setIfInBounds_toArray, List.set_cons_zero, List.set_cons_succ]
          refine ah_take (i := 16) (v := ?_) (some 41) rfl rfl (by kernel_rfl) (by kernel_rfl) (by kernel_rfl) (fun _ _ _ h => h) (by kernel_rfl) ?_ (by assumption) ?_
          rotate_left
          · (intro w hSw; (try dsimp only at hSw); go_simp; (first | done | with_reducible rfl))
          simp only [Act.put, List.setIfInBounds_toArray, List.set_cons_zero, List.set_cons_succ]
          refine ah_take (i := 17) (v := ?_) (some 42) rfl rfl (by kernel_rfl) (by kernel_rfl) (by kernel_rfl) (fun _ _ _ h => h) (by kernel_rfl) ?_ (by assumption) ?_
          rotate_left
          · (intro w hSw; (try dsimp only at hSw); go_simp; (first | done | with_reducible rfl))
          simp only [Act.put, List.setIfInBounds_toArray, List.set_cons_zero, List.set_cons_succ]
          refine ah_take (i := 18) (v := ?_) (some 43) rfl rfl (by kernel_rfl) (by kernel_rfl) (by kernel_rfl) (fun _ _ _ h => h) (by kernel_rfl) ?_ (by assumption) ?_
          rotate_left
          · (intro w hSw; (try dsimp only at hSw); go_simp; (first | done | with_reducible rfl))
          simp only [Act.put, List.setIfInBounds_toArray, List.set_cons_zero, List.set_cons_succ]
          refine ah_take (i := 19) (v := ?_) (some 44) rfl rfl (by kernel_rfl) (by kernel_rfl) (by kernel_rfl) (fun _ _ _ h => h) (by kernel_rfl) ?_ (by assumption) ?_
          rotate_left
          · (intro w hSw; (try dsimp only at hSw); go_simp; (first | done | with_reducible rfl))
          simp only [Act.put, List.setIfInBounds_toArray, List.set_cons_zero, List.set_cons_succ]
          refine ah_take (i := 20) (v := ?_) (some 45) rfl rfl (by kernel_rfl) (by kernel_rfl) (by kernel_rfl) (fun _ _ _ h => h) (by kernel_rfl) ?_ (by assumption) ?_
          rotate_left
          · (intro w hSw; (try dsimp only at hSw); go_simp; (first | done | with_reducible rfl))
          simp only [Act.put, List.setIfInBounds_toArray, List.set_cons_zero, List.set_cons_succ]
          refine ah_take (i := 21) (v := ?_) (some 46) rfl rfl (by kernel_rfl) (by kernel_rfl) (by kernel_rfl) (fun _ _ _ h => h) (by kernel_rfl) ?_ (by assumption) ?_
          rotate_left
          · (intro w hSw; (try dsimp only at hSw); go_simp; (first | done | with_reducible rfl))
          simp only [Act.put, List.setIfInBounds_toArray, List.set_cons_zero, List.set_cons_succ]
          refine ah_take (i := 22) (v := ?_) (some 47) rfl rfl (by kernel_rfl) (by kernel_rfl) (by kernel_rfl) (fun _ _ _ h => h) (by kernel_rfl) ?_ (by assumption) ?_
          rotate_left
          · (intro w hSw; (try dsimp only at hSw); go_simp; (first | done | with_reducible rfl))
          simp only [Act.put, List.setIfInBounds_toArray, List.set_cons_zero, List.set_cons_succ]
          refine wpAnyH_ready (rs := [23]) (by kernel_rfl) (by simp) ?_
          refine AllReadyH.cons rfl (fun K hK => ?_) AllReadyH.nil
          go_simp
          obtain ⟨wa, hwa⟩ : ∃ wa, (wr.alloc (.cells #[.int .i64 1, .int .i64 y, .int .i64 x, .int .i64 1, .int .i64 1073741824, .int .i64 y, .int .i64 2, .int .i64 y, .int .i64 0] 44)).drew = wa := ⟨_, rfl⟩
          rw [hwa]
          have Kwa := Lib.hid (show Below wr.heap.size wr wa by rw [← hwa]; exact ((Below.refl _ _).alloc (Nat.le_refl _) _).drew)
          have Lwa := Lib.hid (lies_made (show Blk wa wr.heap.size 44 #[.int .i64 1, .int .i64 y, .int .i64 x, .int .i64 1, .int .i64 1073741824, .int .i64 y, .int .i64 2, .int .i64 y, .int .i64 0] by rw [← hwa]; exact (Blk.made wr _ _).drew) [(1, y, x), (1, 1073741824, y), (2, y, 0)] rfl (by simp))
          clear hwa

          refine hK.out _ _ (YR.out _ Kwa.out) (fun hHeld1 => ?_)
          try simp only [Act.put, List.setIfInBounds_toArray, List.set_cons_zero, List.set_cons_succ]
          clear hK K
          refine wpAnyH_ready (rs := [24]) (by kernel_rfl) (by simp) ?_
          refine AllReadyH.cons rfl (fun K hK => ?_) AllReadyH.nil
          go_simp
          refine (offers_lies _ _ Lwa.out).mono ?_
          rintro e wb ⟨rfl, kx⟩
          have Kwb := Lib.hid (Kwa.out.trans (kx.mono Kwa.out.size))
          clear kx

          refine hK.out _ _ (YR.out _ Kwb.out) (fun hHeld2 => ?_)
          try simp only [Act.put, List.setIfInBounds_toArray, List.set_cons_zero, List.set_cons_succ]
          clear hK K
          refine ah_take (i := 25) (v := ?_) (some 50) rfl rfl (by kernel_rfl) (by kernel_rfl) (by kernel_rfl) (fun _ _ _ h => h) (by kernel_rfl) ?_ (by assumption) ?_
          rotate_left
          · (intro w hSw; (try dsimp only at hSw); go_simp; (first | done | with_reducible rfl))
          simp only [Act.put, List.setIfInBounds_toArray, List.set_cons_zero, List.set_cons_succ]
          refine ah_take (i := 26) (v := ?_) (some 51) rfl rfl (by kernel_rfl) (by kernel_rfl) (by kernel_rfl) (fun _ _ _ h => h) (by kernel_rfl) ?_ (by assumption) ?_
          rotate_left
          · (intro w hSw; (try dsimp only at hSw); go_simp; (first | done | with_reducible rfl))
          simp only [Act.put, List.setIfInBounds_toArray, List.set_cons_zero, List.set_cons_succ]
          refine ah_take (i := 27) (v := ?_) (some 52) rfl rfl (by kernel_rfl) (by kernel_rfl) (by kernel_rfl) (fun _ _ _ h => h) (by kernel_rfl) ?_ (by assumption) ?_
          rotate_left
          · (intro w hSw; (try dsimp only at hSw); go_simp; (first | done | with_reducible rfl))
          simp only [Act.put, List.setIfInBounds_toArray, List.set_cons_zero, List.set_cons_succ]
          refine ah_take (i := 28) (v := ?_) (some 53) rfl rfl (by kernel_rfl) (by kernel_rfl) (by kernel_rfl) (fun _ _ _ h => h) (by kernel_rfl) ?_ (by assumption) ?_
          rotate_left
          · (intro w hSw; (try dsimp only at hSw); go_simp; (first | done | with_reducible rfl))
          simp only [Act.put, List.setIfInBounds_toArray, List.set_cons_zero, List.set_cons_succ]
          refine ah_take (i := 29) (v := ?_) (some 54) rfl rfl (by kernel_rfl) (by kernel_rfl) (by kernel_rfl) (fun _ _ _ h => h) (by kernel_rfl) ?_ (by assumption) ?_
          rotate_left
          · (intro w hSw; (try dsimp only at hSw); go_simp; (first | done | with_reducible rfl))
          simp only [Act.put, List.setIfInBounds_toArray, List.set_cons_zero, List.set_cons_succ]
          refine ah_take (i := 30) (v := ?_) (some 55) rfl rfl (by kernel_rfl) (by kernel_rfl) (by kernel_rfl) (fun _ _ _ h => h) (by kernel_rfl) ?_ (by assumption) ?_
          rotate_left
          · (intro w hSw; (try dsimp only at hSw); go_simp; (first | done | with_reducible rfl))
          simp only [Act.put, List.setIfInBounds_toArray, List.set_cons_zero, List.set_cons_succ]
          refine ah_take (i := 31) (v := ?_) (some 56) rfl rfl (by kernel_rfl) (by kernel_rfl) (by kernel_rfl) (fun _ _ _ h => h) (by kernel_rfl) ?_ (by assumption) ?_
          rotate_left
          · (intro w hSw; (try dsimp only at hSw); go_simp; (first | done | with_reducible rfl))
          simp only [Act.put, List.setIfInBounds_toArray, List.set_cons_zero, List.set_cons_succ]
          refine ah_take (i := 32) (v := ?_) (some 57) rfl rfl (by kernel_rfl) (by kernel_rfl) (by kernel_rfl) (fun _ _ _ h => h) (by kernel_rfl) ?_ (by assumption) ?_
          rotate_left
          · (intro w hSw; (try dsimp only at hSw); go_simp; (first | done | with_reducible rfl))
          simp only [Act.put, List.setIfInBounds_toArray, List.set_cons_zero, List.set_cons_succ]
          refine ah_take (i := 33) (v := ?_) (some 58) rfl rfl (by kernel_rfl) (by kernel_rfl) (by kernel_rfl) (fun _ _ _ h => h) (by kernel_rfl) ?_ (by assumption) ?_
          rotate_left
          · (intro w hSw; (try dsimp only at hSw); go_simp; (first | done | with_reducible rfl))
          simp only [Act.put, List.setIfInBounds_toArray, List.set_cons_zero, List.set_cons_succ]
          refine ah_take (i := 34) (v := ?_) (some 59) rfl rfl (by kernel_rfl) (by kernel_rfl) (by kernel_rfl) (fun _ _ _ h => h) (by kernel_rfl) ?_ (by assumption) ?_
          rotate_left
          · (intro w hSw; (try dsimp only at hSw); go_simp; (first | done | with_reducible rfl))
          simp only [Act.put, List.setIfInBounds_toArray, List.set_cons_zero, List.set_cons_succ]
          refine ah_take (i := 35) (v := ?_) (some 60) rfl rfl (by kernel_rfl) (by kernel_rfl) (by kernel_rfl) (fun _ _ _ h => h) (by kernel_rfl) ?_ (by assumption) ?_
          rotate_left
          · (intro w hSw; (try dsimp only at hSw); go_simp; (first | done | with_reducible rfl))
          simp only [Act.put, List.setIfInBounds_toArray, List.set_cons_zero, List.set_cons_succ]
          refine wpAnyH_ready (rs := [36]) (by kernel_rfl) (by simp) ?_
          refine AllReadyH.cons rfl (fun K hK => ?_) AllReadyH.nil
          go_simp
          obtain ⟨wd, hwd⟩ : ∃ wd, wb.alloc (.cells #[.int .i64 0, .int .i64 0, .int .i64 y] 31) = wd := ⟨_, rfl⟩
          rw [hwd]
          have Kwd := Lib.hid (show Below wr.heap.size wr wd by rw [← hwd]; exact Kwb.out.alloc Kwb.out.size _)
          have Lwd := Lib.hid (lies_made (show Blk wd wb.heap.size 31 #[.int .i64 0, .int .i64 0, .int .i64 y] by rw [← hwd]; exact Blk.made _ _ _) [(0, 0, y)] rfl (by simp))
          clear hwd

          refine hK.out _ _ (YR.out _ Kwd.out) (fun hHeld3 => ?_)
          try simp only [Act.put, List.setIfInBounds_toArray, List.set_cons_zero, List.set_cons_succ]
          clear hK K
          refine wpAnyH_ready (rs := [37]) (by kernel_rfl) (by simp) ?_
          refine AllReadyH.cons rfl (fun K hK => ?_) AllReadyH.nil
          go_simp
          refine (merges_lies _ _ Lwd.out).mono ?_
          rintro e we ⟨rfl, kx⟩
          have Kwe := Lib.hid (Kwd.out.trans (kx.mono Kwd.out.size))
          clear kx

          refine hK.out _ _ (YR.out _ Kwe.out) (fun hHeld4 => ?_)
          try simp only [Act.put, List.setIfInBounds_toArray, List.set_cons_zero, List.set_cons_succ]
          clear hK K
          refine ah_take (i := 38) (v := ?_) (some 63) rfl rfl (by kernel_rfl) (by kernel_rfl) (by kernel_rfl) (fun _ _ _ h => h) (by kernel_rfl) ?_ (by assumption) ?_
          rotate_left
          · (intro w hSw; (try dsimp only at hSw); go_simp; (first | done | with_reducible rfl))
          simp only [Act.put, List.setIfInBounds_toArray, List.set_cons_zero, List.set_cons_succ]
          refine ah_take (i := 39) (v := ?_) (some 64) rfl rfl (by kernel_rfl) (by kernel_rfl) (by kernel_rfl) (fun _ _ _ h => h) (by kernel_rfl) ?_ (by assumption) ?_
          rotate_left
          · (intro w hSw; (try dsimp only at hSw); go_simp; (first | done | with_reducible rfl))
          simp only [Act.put, List.setIfInBounds_toArray, List.set_cons_zero, List.set_cons_succ]
          refine wpAnyH_done (by kernel_rfl) ?_ _
          try clear hHeld1 hHeld2 hHeld3 hHeld4 hS0
          go_wp2_with fail
          have kx := KR2.out.trans (Kwe.out.mono KR2.out.size)
          go_roundw
          case rel => exact ⟨j + 1, by omega, by go_num, kx⟩
          case measure => simp [intOf]; omega
        · have hj8 : decide ((j : Int) < 8) = false := decide_eq_false (by omega)
          go_wp2_with fail
          go_roundw
          case rel => exact ⟨k + 1, by omega, by go_num, KR2.out⟩
          case measure => simp [intOf]; omega
    · have hk8 : decide ((k : Int) < 8) = false := decide_eq_false (by omega)
      rename World => w1
      have K1 := Lib.hid (KW.out.trans (KR.out.mono KW.out.size))
      clear KR KW BT BL
      go_wp2_with fail
      go_loopw [4] (fun i wr => ∃ k : Nat, k ≤ 20736 ∧ i = .int .i64 k ∧ Below w1.heap.size w1 wr) (fun i _ => 20736 - (intOf i).toNat)
      case atStart => exact ⟨0, by omega, rfl, Below.refl _ _⟩
      case round =>
        obtain ⟨k, hk, rfl, kr⟩ := hrel
        have KR := Lib.hid kr
        clear kr
        by_cases hlt : k < 20736
        · rename World => wo
          have g3 : (k : Int) < 20736 := by omega
          have KO : Hid (w1.heap.size ≤ wo.heap.size) := Lib.hid KR.out.size
          go_wp2_with fail
          go_loopw [5, 6, 7, 8, 9] (fun v5 v6 vt vk vm wr => ∃ (j : Nat) (t : Int) (m : Nat) (l l' : List (Int × Int × Int)), (l.length = j ∧ l'.length = j) ∧ j ≤ 4 ∧ vk = .int .i64 j ∧ vt = .int .i64 t ∧ vm = .int .i64 m ∧ (0 ≤ t ∧ t ≤ 4 * j) ∧ m ≤ 20736 ∧
              wr.ownsRow wo.heap.size 44 3 v5 j (lit3 l) ∧ wr.ownsRow wo.heap.size 31 3 v6 j (lit3 l') ∧ Below wo.heap.size wo wr)
            (fun _ _ _ i _ _ => 4 - (intOf i).toNat)
          case atStart => exact ⟨0, 0, k, [], [], ⟨rfl, rfl⟩, by omega, rfl, rfl, rfl, by omega, by omega, World.ownsRow_nil _ _ _ _, World.ownsRow_nil _ _ _ _, Below.refl _ _⟩
          case round =>
            obtain ⟨j, t, m, l, l', ⟨hl1, hl2⟩, hj, rfl, rfl, rfl, ht, hm, hr5, hr6, kr⟩ := hrel
            have HL1 := Lib.hid hl1
            have HL2 := Lib.hid hl2
            clear hl1 hl2
            have R5 := Lib.hid hr5
            have R6 := Lib.hid hr6
            have KR2 := Lib.hid kr
            clear hr5 hr6 kr
            by_cases hjl : j < 4
            · obtain ⟨x, hx, cx⟩ := four_at wr (m % 4) (Nat.mod_lt _ (by omega))
              have hji : (j : Int) < 4 := by omega
              have hq1 : m % 4 < 4 := Nat.mod_lt _ (by omega)
              have hq2 : m / 4 % 3 < 3 := Nat.mod_lt _ (by omega)
              have hq3 : ((m / 4 % 3 : Nat) : Int) < 3 := by omega
              have hq4 : ((m % 4 : Nat) : Int) < 4 := by omega
              go_upto_region 20 with fail
              clear cx
              obtain ⟨W1, hW1⟩ : ∃ W1, wr.alloc (.cells #[.int .i64 0, .int .i64 1, .int .i64 3, .int .i64 4] 3) = W1 := ⟨_, rfl⟩
              rw [hW1]
              have R51 := Lib.hid (show W1.ownsRow wo.heap.size 44 3 u5 j (lit3 l) by rw [← hW1]; exact R5.out.alloc _)
              have R61 := Lib.hid (show W1.ownsRow wo.heap.size 31 3 u6 j (lit3 l') by rw [← hW1]; exact R6.out.alloc _)
              have K1' := Lib.hid (show Below wo.heap.size wo W1 by rw [← hW1]; exact KR2.out.alloc KR2.out.size _)
              have hsz := K1'.out.size
              clear hW1 R5 R6 KR2
              go_wp2_with (first
                | (at_builtin; refine wpList_append_own _ rfl _ _ 22 rfl wo.heap.size 31 i0 (.agg #[.int .i64 0, .int .i64 0, .int .i64 0]) 3 24 Try.underlying22 hi'.out hz0'.out hz1'.out hz2'.out rfl (by decide) _ _ _ rfl ((R63.out.alloc _).alloc _) ⟨w3.heap.size + 1, 0, none⟩ 1 1 [.int .i64 _, .int .i64 _, .int .i64 _] rfl rfl (by simpa using new_three (w3.alloc (.cells #[.int .i64 1, .int .i64 2, .int .i64 255] 3)) _ _ _ _) (three_one _ _ _) (by unfold maxLen; omega) (by omega) (by have := K3.out.size; simp; omega) ?_
                   intro v6 w5 r6 g6 _)
                | (at_builtin; refine wpList_append_own _ rfl _ _ 38 rfl wo.heap.size 44 j0 (.agg #[.int .i64 0, .int .i64 0, .int .i64 0]) 3 24 Try.underlying38 hj'.out hy0'.out hy1'.out hy2'.out rfl (by decide) _ _ _ rfl (R51.out.alloc _) ⟨W1.heap.size, 0, none⟩ 1 1 [.int .i64 _, .int .i64 _, .int .i64 _] rfl rfl (new_three _ _ _ _ _) (three_one _ _ _) (by unfold maxLen; omega) (by omega) (by simp; omega) ?_
                   intro v5 w3 r5 g5 _
                   have R63 := Lib.hid (kept_ty (R61.out.alloc _) (R51.out.alloc _) g5 (by decide))
                   have K3 := Lib.hid ((K1'.out.alloc K1'.out.size _).grown g5 (by have := K1'.out.size; simp; omega) (fun i e => (R51.out.lt i e).1))
                   have R53 := Lib.hid r5
                   obtain ⟨z, cz⟩ := three_at w3 (m / 4 % 3) (Nat.mod_lt _ (by omega))
                   clear r5 g5))
              have R6n := Lib.hid r6
              have R5n := Lib.hid (kept_ty ((R53.out.alloc (.cells #[.int .i64 1, .int .i64 2, .int .i64 255] 3)).alloc _) ((R63.out.alloc (.cells #[.int .i64 1, .int .i64 2, .int .i64 255] 3)).alloc _) g6 (by decide))
              have K5n := Lib.hid (((K3.out.alloc K3.out.size (.cells #[.int .i64 1, .int .i64 2, .int .i64 255] 3)).alloc (by have := K3.out.size; simp; omega) _).grown g6 (by have := K3.out.size; simp; omega) (fun i e => (R63.out.lt i e).1))
              clear r6 g6 cz
              go_roundw
              case rel => exact ⟨j + 1, t + x, m / 12, l ++ [((m : Int) / 4 % 3, t + x, (j : Int))], l' ++ [(((m : Int) + j) % 2, z, t + x)], ⟨by simp [HL1.out], by simp [HL2.out]⟩, by omega, by go_num, rfl, by first | rfl | go_num, ⟨by omega, by push_cast; omega⟩, by omega, by rw [lit3_app]; exact R5n.out, by rw [lit3_app]; exact R6n.out, K5n.out⟩
              case measure => simp [intOf]; omega
            · have hj4 : decide ((j : Int) < 4) = false := decide_eq_false (by omega)
              rename World => wb
              obtain ⟨A5, c5, rfl, h5⟩ := own_lies R5.out HL1.out (by omega) (by omega)
              obtain ⟨A6, c6, rfl, h6⟩ := own_lies R6.out HL2.out (by omega) (by omega)
              have HO := Lib.hid (offers_lies 3 c5 h5)
              have H6 := Lib.hid h6
              clear h5 h6
              go_wp2_with fail
              refine HO.out.mono ?_
              rintro e wc ⟨rfl, k2⟩
              have HM := Lib.hid (merges_lies 3 c6 (H6.out.below k2))
              have KC := Lib.hid (KR2.out.trans (k2.mono KR2.out.size))
              clear k2 HO H6
              go_wp2_with fail
              refine HM.out.mono ?_
              rintro e wd ⟨rfl, k3⟩
              have KD := Lib.hid (KR.out.trans ((KC.out.trans (k3.mono KC.out.size)).mono KO.out))
              clear k3 HM
              go_wp2_with fail
              go_roundw
              case rel => exact ⟨k + 1, by omega, by go_num, KD.out⟩
              case measure => simp [intOf]; omega
        · have hk20736 : decide ((k : Int) < 20736) = false := decide_eq_false (by omega)
          rename World => w2
          have K2 := Lib.hid (K1.out.trans (KR.out.mono K1.out.size))
          clear K1 KR
          go_upto_region 25 with fail
          obtain ⟨W5, hW5⟩ : ∃ W5, w2.alloc (.cells B5 31) = W5 := ⟨_, rfl⟩
          have b5 : Blk W5 w2.heap.size 31 B5 := by rw [← hW5]; exact Blk.made _ _ _
          have k5 : Below w.heap.size w W5 := by rw [← hW5]; exact K2.out.alloc K2.out.size _
          have BB := Lib.hid (ints_at (n := 15) b5 rfl b5_int)
          have BL5 := Lib.hid b5.lt
          have K5 := Lib.hid k5
          unfold B5 at hW5
          rw [hW5]
          clear hW5 b5 k5 K2
          generalize hsx : w2.heap.size = bb at BB BL5 ⊢
          clear hsx
          go_wp2_with fail
          go_loopw [11] (fun i wr => ∃ k : Nat, k ≤ 5 ∧ i = .int .i64 k ∧ Below W5.heap.size W5 wr) (fun i _ => 5 - (intOf i).toNat)
          case atStart => exact ⟨0, by omega, rfl, Below.refl _ _⟩
          case round =>
            obtain ⟨k, hk, rfl, kr⟩ := hrel
            have KR := Lib.hid kr
            clear kr
            by_cases hlt : k < 5
            · obtain ⟨x, hx⟩ := BB.out (k * 3) (by omega)
              obtain ⟨y, hy⟩ := BB.out (k * 3 + 1) (by omega)
              obtain ⟨z, hz⟩ := BB.out (k * 3 + 2) (by omega)
              have YR : Hid (∀ V : World, Below wr.heap.size wr V → V.cell? ⟨bb, k * 3, none⟩ = some (.int .i64 x) ∧ V.cell? ⟨bb, k * 3 + 1, none⟩ = some (.int .i64 y) ∧ V.cell? ⟨bb, k * 3 + 2, none⟩ = some (.int .i64 z)) := Lib.hid (fun V hV =>
                ⟨((KR.out.trans (hV.mono KR.out.size)).cell (p := ⟨bb, k * 3, none⟩) BL5.out).trans hx, ((KR.out.trans (hV.mono KR.out.size)).cell (p := ⟨bb, k * 3 + 1, none⟩) BL5.out).trans hy, ((KR.out.trans (hV.mono KR.out.size)).cell (p := ⟨bb, k * 3 + 2, none⟩) BL5.out).trans hz⟩)
              clear hx hy hz
              obtain ⟨y0, y1, y2⟩ := YR.out wr (Below.refl _ _)
              have g1 : decide (5 ≤ k) = false := decide_eq_false (by omega)
              have g2 : decide ((k : Int) < 0) = false := decide_eq_false (by omega)
              have g3 : (k : Int) < 5 := by omega
              go_wp2_with fail
              have ka := (Below.refl wr.heap.size wr).alloc (Nat.le_refl _) (.cells #[.int .i64 x, .int .i64 y, .int .i64 z] 31)
              refine (merges_lies 3 _ (lies_made (Blk.made wr 31 #[.int .i64 x, .int .i64 y, .int .i64 z]) [(x, y, z)] rfl (by simp))).mono ?_
              rintro e wb ⟨rfl, kx⟩
              have KB := Lib.hid (ka.trans (kx.mono (by simp)))
              clear kx ka y0 y1 y2
              obtain ⟨y0, y1, y2⟩ := YR.out wb KB.out
              go_wp2_with fail
              have ka := KB.out.alloc KB.out.size (.cells #[.int .i64 0, .int .i64 0, .int .i64 5, .int .i64 x, .int .i64 y, .int .i64 z] 31)
              refine (merges_lies 3 _ (lies_made (Blk.made wb 31 #[.int .i64 0, .int .i64 0, .int .i64 5, .int .i64 x, .int .i64 y, .int .i64 z]) [(0, 0, 5), (x, y, z)] rfl (by simp))).mono ?_
              rintro e wd ⟨rfl, kx⟩
              have KD := Lib.hid (KR.out.trans ((ka.trans (kx.mono ka.size)).mono KR.out.size))
              clear kx ka y0 y1 y2
              go_wp2_with fail
              go_roundw
              case rel => exact ⟨k + 1, by omega, by go_num, KD.out⟩
              case measure => simp [intOf]; omega
            · have hk5 : decide ((k : Int) < 5) = false := decide_eq_false (by omega)
              rename World => w6
              have K6 := Lib.hid (K5.out.trans (KR.out.mono K5.out.size))
              clear K5 KR
              go_wp2_with fail
              have ka := K6.out.alloc K6.out.size (.cells #[.int .i64 256, .int .i64 1, .int .i64 0, .int .i64 (-1), .int .i64 1, .int .i64 0, .int .i64 255, .int .i64 1, .int .i64 0, .int .i64 0, .int .i64 0, .int .i64 0] 44)
              refine (offers_lies 5 _ (lies_made (Blk.made w6 44 #[.int .i64 256, .int .i64 1, .int .i64 0, .int .i64 (-1), .int .i64 1, .int .i64 0, .int .i64 255, .int .i64 1, .int .i64 0, .int .i64 0, .int .i64 0, .int .i64 0]) [(256, 1, 0), (-1, 1, 0), (255, 1, 0), (0, 0, 0)] rfl (by simp))).mono ?_
              rintro e wb ⟨rfl, kx⟩
              have KB := Lib.hid (ka.trans (kx.mono ka.size))
              clear kx ka K6
              go_wp2_with fail
              refine (merges_nil 0 wb).mono ?_
              rintro e wc ⟨rfl, kx⟩
              have KC := Lib.hid (KB.out.trans (kx.mono KB.out.size))
              clear kx
              go_wp2_with fail
              refine (merges_nil (-1) wc).mono ?_
              rintro e wd ⟨rfl, kx⟩
              have KD := Lib.hid (KC.out.trans (kx.mono KC.out.size))
              clear kx
              go_wp2_with fail
              refine (awake_any wd).mono ?_
              rintro e we ⟨rfl, kx⟩
              have KE := Lib.hid (KD.out.trans (kx.mono KD.out.size))
              clear kx
              go_wp2_with fail
              go_ret
              exact ⟨rfl, KE.out⟩
end Go.Proofs.Ytllabfbebidjiaa
