/-
  The walk of the law CompatWrong.
-/
import Derived.Test.YtcjbjhkmnfegnaaZb
import Derived.Test.YtcjbjhkmnfegnaaN2
import Derived.Deep.CutRange
namespace Go.Proofs.Ytcjbjhkmnfegnaa
open Go.RowKit Go.Shelf
/-- a and b are no change -/
def NoChg (wx : World) (va vb : Value) : Prop :=
  ∃ Aa ca na Sa Ab cb nb Sb, va = .slice Aa na ca ∧ vb = .slice Ab nb cb ∧ UnitsIn wx Aa na Sa ∧ UnitsIn wx Ab nb Sb ∧ Fits Sa na ∧ na ≤ 9 ∧ chg na nb Sa Sb = false
set_option maxRecDepth 100000 in
set_option maxHeartbeats 8000000 in
theorem lawWrong (A1 A2 : Option Addr) (n c1 n2 c2 : Nat) (S T : Nat → U) (way bi : Int) (w : World) (hS : UnitsIn w A1 n S) (hT : UnitsIn w A2 n2 T) (hF : Fits S n) (hF2 : Fits T n2) (hn : n ≤ 140737488355328)
    (hz : ∀ k, k < n → (S k).1.size ≤ 140737488355328) (hw0 : 0 ≤ way) :
    Calls Try.prog 7 #[.slice A1 n c1, .slice A2 n2 c2, .int .u8 way, .int .i64 bi] w fun e w' => e = .returned (.bool true) ∧ Below w.heap.size w w' := by
  have HS := Lib.hid hS
  have HT := Lib.hid hT
  have HF := Lib.hid hF
  have HF2 := Lib.hid hF2
  have HZ := Lib.hid hz
  clear hS hT hF hF2 hz
  cases hv : chg n n2 S T with
  | false =>
    have HV := Lib.hid hv
    clear hv
    go_enter Try.func7, Try.ntmps7
    go_wp2_with fail
    refine (mixed_bad A1 A2 n c1 n2 c2 S T 0 w HS.out HT.out HF.out hn HV.out).mono ?_
    rintro e w1 ⟨rfl, k1⟩
    have K1 := Lib.hid k1
    clear k1
    go_wp2_with fail
    refine (awake_any w1).mono ?_
    rintro e w3 ⟨rfl, k3⟩
    go_wp2_with fail
    go_ret
    exact ⟨rfl, K1.out.trans (k3.mono K1.out.size)⟩
  | true =>
    obtain ⟨h8, rfl, _, hmod⟩ := chg_parts hv
    have HV := Lib.hid hv
    have HMD := Lib.hid hmod
    clear hv hmod
    have HM0 := Lib.hid (mixed_ok A1 A2 n c1 n c2 0 S T w HS.out HT.out HF.out HV.out (Nat.pow_pos (by omega)))
    go_enter Try.func7, Try.ntmps7
    go_wp2_with fail
    refine HM0.out.mono ?_
    rintro e w1 ⟨⟨A, c, hnc, rfl, _⟩, k1⟩
    have K1 := Lib.hid k1
    clear k1
    by_cases hn0 : n = 0
    · have hn0' : (n : Int) = 0 := by omega
      have hn0b : (n == 0) = true := by simp [hn0]
      go_wp2_with fail
      refine (awake_any w1).mono ?_
      rintro e w3 ⟨rfl, k3⟩
      go_wp2_with fail
      go_ret
      exact ⟨rfl, K1.out.trans (k3.mono K1.out.size)⟩
    · have hn0b : (n == 0) = false := by simpa using hn0
      have hnp : 0 < n := by omega
      have HS1 := Lib.hid (HS.out.below K1.out (Nat.le_refl _))
      have HT1 := Lib.hid (HT.out.below K1.out (Nat.le_refl _))
      obtain ⟨oa, offa, rfl, hoa, hca⟩ := HS1.out.2 hnp
      obtain ⟨ob, offb, rfl, hob, hcb⟩ := HT1.out.2 hnp
      obtain ⟨x0, x1⟩ := hca 0 hnp
      obtain ⟨y0, y1⟩ := hcb 0 hnp
      rw [HMD.out 0 hnp |>.symm] at y0
      have YR : Hid (∀ V : World, Below w1.heap.size w1 V → V.cell? ⟨oa, offa, none⟩ = some (.string (S 0).1) ∧ V.cell? ⟨oa, offa + 1, none⟩ = some (.int .i64 (S 0).2) ∧ V.cell? ⟨ob, offb, none⟩ = some (.string (S 0).1) ∧ V.cell? ⟨ob, offb + 1, none⟩ = some (.int .i64 (T 0).2)) := Lib.hid (fun V hV => by
        rw [Nat.zero_mul, Nat.add_zero] at x0 x1 y0 y1
        exact ⟨(hV.cell (p := ⟨oa, offa, none⟩) hoa).trans x0, (hV.cell (p := ⟨oa, offa + 1, none⟩) hoa).trans x1, (hV.cell (p := ⟨ob, offb, none⟩) hob).trans y0, (hV.cell (p := ⟨ob, offb + 1, none⟩) hob).trans y1⟩)
      have E1 := Lib.hid (own_none40 w1)
      have KE1 := Lib.hid ((Below.refl w1.heap.size w1).alloc (Nat.le_refl _) (.cells #[] 40))
      clear x0 x1 y0 y1 hca hcb hoa hob
      have hn' : ¬ (n : Int) = 0 := by omega
      go_upto_region 5 with (first
        | (at_builtin; refine wpList_append_u rfl _ _ rfl w2.heap.size _ 0 _ rfl E2.out ⟨ob, offb, none⟩ n c2 (ufl T n) rfl (ufl_len _ _) (unit_cells (HT1.out.below KE2.out (Nat.le_refl _))) (ufl_one _ _) (by omega) (by simp) ?_
           intro vb w3 r3 g3 _
           have K3 := Lib.hid (KE2.out.grown g3 KE2.out.size (fun i e => Nat.le_trans K2.out.size (E2.out.lt i e).1))
           have TW := Lib.hid (Two.start R2.out K2.out.size rfl r3 g3)
           clear r3 g3)
        | (at_builtin; refine wpList_append_u rfl _ _ rfl w1.heap.size _ 0 _ rfl E1.out ⟨oa, offa, none⟩ n c1 (ufl S n) rfl (ufl_len _ _) (unit_cells (HS1.out.below KE1.out (Nat.le_refl _))) (ufl_one _ _) (by omega) KE1.out.size ?_
           intro va w2 r2 g2 _
           have R2 := Lib.hid r2
           have K2 := Lib.hid (KE1.out.grown g2 KE1.out.size (fun i e => (E1.out.lt i e).1))
           have E2 := Lib.hid (own_none40 w2)
           have KE2 := Lib.hid (K2.out.alloc K2.out.size (.cells #[] 40))
           clear r2 g2))
      obtain ⟨q, hq, hq5⟩ : ∃ q : Nat, way.tmod 5 = q ∧ q < 5 := ⟨(way.tmod 5).toNat, by rw [Int.tmod_eq_emod_of_nonneg hw0]; omega, by rw [Int.tmod_eq_emod_of_nonneg hw0]; omega⟩
      have hq' : way % 5 = q := by rw [← hq, Int.tmod_eq_emod_of_nonneg hw0]
      have FS := Lib.hid HF.out
      clear E1 KE1 E2 KE2 R2 HM0
      match q, hq5 with
      | 0, _ =>
        have hq : way.tmod 5 = 0 := hq
        have hq' : way % 5 = 0 := hq'
        have hnm := HZ.out 0 hnp
        obtain ⟨nm, hnm0⟩ : ∃ nm, (S 0).1 = nm := ⟨_, rfl⟩
        obtain ⟨sv, hsv⟩ : ∃ x, (S 0).2 = x := ⟨_, rfl⟩
        obtain ⟨tv, htv⟩ : ∃ x, (T 0).2 = x := ⟨_, rfl⟩
        rw [hnm0, hsv, htv] at YR
        rw [hnm0] at hnm
        have HNM := Lib.hid hnm0
        clear hnm0 hsv htv
        go_upto_region 8 with fail
        refine wp_region_held_drew (S := (fun V : World => V.cell? ⟨oa, offa, none⟩ = some (.string nm) ∧ V.cell? ⟨oa, offa + 1, none⟩ = some (.int .i64 sv) ∧ V.cell? ⟨ob, offb, none⟩ = some (.string nm) ∧ V.cell? ⟨ob, offb + 1, none⟩ = some (.int .i64 tv))) (by kernel_rfl) (YR.out _ K3.out.drew) (fun hS0 => ?_)
        refine ah_take (i := 0) (v := ?_) (some 57) rfl rfl (by kernel_rfl) (by kernel_rfl) (by kernel_rfl) (fun _ _ _ h => h) (by kernel_rfl) ?_ (by assumption) ?_
        rotate_left
        · (intro w hSw; (try dsimp only at hSw); go_simp; (first | done | with_reducible rfl))
        simp only [Act.put, List.setIfInBounds_toArray, List.set_cons_zero, List.set_cons_succ]
        refine ah_take (i := 1) (v := ?_) (some 58) rfl rfl (by kernel_rfl) (by kernel_rfl) (by kernel_rfl) (fun _ _ _ h => h) (by kernel_rfl) ?_ (by assumption) ?_
        rotate_left
        · (intro w hSw; (try dsimp only at hSw); go_simp; (first | done | with_reducible rfl))
        simp only [Act.put, List.setIfInBounds_toArray, List.set_cons_zero, List.set_cons_succ]
        refine ah_take (i := 2) (v := ?_) (some 59) rfl rfl (by kernel_rfl) (by kernel_rfl) (by kernel_rfl) (fun _ _ _ h => h) (by kernel_rfl) ?_ (by assumption) ?_
        rotate_left
        · (intro w hSw; (try dsimp only at hSw); go_simp; (first | done | with_reducible rfl))
        simp only [Act.put, List.setIfInBounds_toArray, List.set_cons_zero, List.set_cons_succ]
        refine ah_take (i := 3) (v := ?_) (some 60) rfl rfl (by kernel_rfl) (by kernel_rfl) (by kernel_rfl) (fun _ _ _ h => h) (by kernel_rfl) ?_ (by assumption) ?_
        rotate_left
        · (intro w hSw; (try dsimp only at hSw); go_simp; (first | done | with_reducible rfl))
        simp only [Act.put, List.setIfInBounds_toArray, List.set_cons_zero, List.set_cons_succ]
        refine ah_take (i := 6) (v := ?_) (some 63) rfl rfl (by kernel_rfl) (by kernel_rfl) (by kernel_rfl) (fun _ _ _ h => h) (by kernel_rfl) ?_ (by assumption) ?_
        rotate_left
        · (intro w hSw; (try dsimp only at hSw); go_simp; (first | done | with_reducible rfl))
        simp only [Act.put, List.setIfInBounds_toArray, List.set_cons_zero, List.set_cons_succ]
        refine ah_take (i := 7) (v := ?_) (some 64) rfl rfl (by kernel_rfl) (by kernel_rfl) (by kernel_rfl) (fun _ _ _ h => h) (by kernel_rfl) ?_ (by assumption) ?_
        rotate_left
        · (intro w hSw; (try dsimp only at hSw); go_simp; (first | done | with_reducible rfl))
        simp only [Act.put, List.setIfInBounds_toArray, List.set_cons_zero, List.set_cons_succ]
        refine ah_take (i := 8) (v := ?_) (some 65) rfl rfl (by kernel_rfl) (by kernel_rfl) (by kernel_rfl) (fun _ _ _ h => h) (by kernel_rfl) ?_ (by assumption) ?_
        rotate_left
        · (intro w hSw; (try dsimp only at hSw); go_simp; (first | done | with_reducible rfl))
        simp only [Act.put, List.setIfInBounds_toArray, List.set_cons_zero, List.set_cons_succ]
        refine ah_take (i := 9) (v := ?_) (some 66) rfl rfl (by kernel_rfl) (by kernel_rfl) (by kernel_rfl) (fun _ _ _ h => h) (by kernel_rfl) ?_ (by assumption) ?_
        rotate_left
        · (intro w hSw; (try dsimp only at hSw); go_simp; (first | done | with_reducible rfl))
        simp only [Act.put, List.setIfInBounds_toArray, List.set_cons_zero, List.set_cons_succ]
        refine wpAnyH_ready (rs := [4, 10]) (by kernel_rfl) (by simp) ?_
        refine AllReadyH.cons rfl (fun K hK => ?_) (AllReadyH.cons rfl (fun K hK => ?_) AllReadyH.nil)
        · go_simp
          obtain ⟨wbAx, hwbAx⟩ : ∃ wbAx, (w3.alloc (.cells #[.string nm, .int .i64 sv] 40)).drew = wbAx := ⟨_, rfl⟩
          rw [hwbAx]
          have TwbAx := Lib.hid (show Two w1.heap.size wbAx va vb n n S T by rw [← hwbAx]; exact (TW.out.alloc (.cells #[.string nm, .int .i64 sv] 40)).drew)
          have KwbAx := Lib.hid (show Below w1.heap.size w1 wbAx by rw [← hwbAx]; exact (K3.out.alloc K3.out.size (.cells #[.string nm, .int .i64 sv] 40)).drew)
          have BAwbAx := Lib.hid (show Blk wbAx w3.heap.size 40 #[.string nm, .int .i64 sv] by rw [← hwbAx]; exact (Blk.made _ _ _).drew)
          have NAwbAx := Lib.hid TW.out.fresh
          clear hwbAx
          refine hK.out _ _ (YR.out _ KwbAx.out) (fun hH1 => ?_)
          try simp only [Act.put, List.setIfInBounds_toArray, List.set_cons_zero, List.set_cons_succ]
          clear hK K
          refine wpAnyH_ready (rs := [5, 10]) (by kernel_rfl) (by simp) ?_
          refine AllReadyH.cons rfl (fun K hK => ?_) (AllReadyH.cons rfl (fun K hK => ?_) AllReadyH.nil)
          · refine step_append_u rfl 62 rfl _ _ rfl w1.heap.size _ n _ rfl TwbAx.out.ra ⟨w3.heap.size, 0, none⟩ 1 1 [.string nm, .int .i64 sv] rfl rfl (World.news_of_block BAwbAx.out) (one_two _ _) (by omega) KwbAx.out.size ?_
            intro vAwaAx waAx rwaAx gwaAx hwaAx
            have KwaAx := Lib.hid (KwbAx.out.grown gwaAx KwbAx.out.size (fun i e => (TwbAx.out.ra.lt i e).1))
            have TwaAx := Lib.hid (TwbAx.out.moreA (u := (nm, sv)) rwaAx gwaAx hwaAx)
            clear rwaAx gwaAx hwaAx
            refine hK.out _ _ (YR.out _ KwaAx.out) (fun hH2 => ?_)
            try simp only [Act.put, List.setIfInBounds_toArray, List.set_cons_zero, List.set_cons_succ]
            clear hK K
            refine wpAnyH_ready (rs := [10]) (by kernel_rfl) (by simp) ?_
            refine AllReadyH.cons rfl (fun K hK => ?_) AllReadyH.nil
            go_simp
            obtain ⟨wbBx, hwbBx⟩ : ∃ wbBx, waAx.alloc (.cells #[.string nm, .int .i64 tv] 40) = wbBx := ⟨_, rfl⟩
            rw [hwbBx]
            have TwbBx := Lib.hid (show Two w1.heap.size wbBx vAwaAx vb (n + 1) n (snoc S n (nm, sv)) T by rw [← hwbBx]; exact (TwaAx.out.alloc (.cells #[.string nm, .int .i64 tv] 40)))
            have KwbBx := Lib.hid (show Below w1.heap.size w1 wbBx by rw [← hwbBx]; exact (KwaAx.out.alloc KwaAx.out.size (.cells #[.string nm, .int .i64 tv] 40)))
            have BBwbBx := Lib.hid (show Blk wbBx waAx.heap.size 40 #[.string nm, .int .i64 tv] by rw [← hwbBx]; exact (Blk.made _ _ _))
            have NBwbBx := Lib.hid TwaAx.out.fresh
            clear hwbBx
            refine hK.out _ _ (YR.out _ KwbBx.out) (fun hH3 => ?_)
            try simp only [Act.put, List.setIfInBounds_toArray, List.set_cons_zero, List.set_cons_succ]
            clear hK K
            refine wpAnyH_ready (rs := [11]) (by kernel_rfl) (by simp) ?_
            refine AllReadyH.cons rfl (fun K hK => ?_) AllReadyH.nil
            refine step_append_u rfl 68 rfl _ _ rfl w1.heap.size _ n _ rfl TwbBx.out.rb ⟨waAx.heap.size, 0, none⟩ 1 1 [.string nm, .int .i64 tv] rfl rfl (World.news_of_block BBwbBx.out) (one_two _ _) (by omega) KwbBx.out.size ?_
            intro vBwaBx waBx rwaBx gwaBx hwaBx
            have KwaBx := Lib.hid (KwbBx.out.grown gwaBx KwbBx.out.size (fun i e => (TwbBx.out.rb.lt i e).1))
            have TwaBx := Lib.hid (TwbBx.out.moreB (u := (nm, tv)) rwaBx gwaBx hwaBx)
            clear rwaBx gwaBx hwaBx
            refine hK.out _ _ (YR.out _ KwaBx.out) (fun hH4 => ?_)
            try simp only [Act.put, List.setIfInBounds_toArray, List.set_cons_zero, List.set_cons_succ]
            clear hK K
            refine ah_take (i := 12) (v := ?_) (some 11) rfl rfl (by kernel_rfl) (by kernel_rfl) (by kernel_rfl) (fun _ _ _ h => h) (by kernel_rfl) ?_ (by assumption) ?_
            rotate_left
            · (intro w hSw; (try dsimp only at hSw); go_simp; (first | done | with_reducible rfl))
            simp only [Act.put, List.setIfInBounds_toArray, List.set_cons_zero, List.set_cons_succ]
            refine ah_take (i := 13) (v := ?_) (some 12) rfl rfl (by kernel_rfl) (by kernel_rfl) (by kernel_rfl) (fun _ _ _ h => h) (by kernel_rfl) ?_ (by assumption) ?_
            rotate_left
            · (intro w hSw; (try dsimp only at hSw); go_simp; (first | done | with_reducible rfl))
            simp only [Act.put, List.setIfInBounds_toArray, List.set_cons_zero, List.set_cons_succ]
            refine wpAnyH_done (by kernel_rfl) ?_ _
            try clear hH1 hH2 hH3 hH4 hS0
            have g9 : decide (9 < n + 1) = false := decide_eq_false (by omega)
            have g9' : decide ((9 : Int) < (n : Int) + 1) = false := decide_eq_false (by omega)
            obtain ⟨Aa, ca, rfl, hua, _⟩ := own_units TwaBx.out.ra (by omega)
            obtain ⟨Ab, cb, rfl, hub, _⟩ := own_units TwaBx.out.rb (by omega)
            have HUa := Lib.hid hua
            have HUb := Lib.hid hub
            obtain ⟨Sa, hSa⟩ : ∃ Sa, snoc S n (nm, sv) = Sa := ⟨_, rfl⟩
            obtain ⟨Sb, hSb⟩ : ∃ Sb, snoc T n (nm, tv) = Sb := ⟨_, rfl⟩
            have HCG : Hid (chg (n + 1) (n + 1) Sa Sb = false) := Lib.hid (chg_dup ⟨n, 0, hnp, by omega, by rw [← hSa]; unfold snoc; rw [if_neg (by omega), if_pos rfl]; exact HNM.out⟩)
            have HFa : Hid (Fits Sa (n + 1)) := Lib.hid (fun k hk => by
              rw [← hSa]
              unfold snoc
              split
              · show nm.size ≤ maxLen
                unfold maxLen
                omega
              · exact HF.out k (by omega))
            rw [hSa] at HUa
            rw [hSb] at HUb
            have KT := Lib.hid KwaBx.out
            clear hua hub hSa hSb
            go_upto_region 19 with fail
            have M1 := Lib.hid (mixed_bad Aa Ab (n + 1) ca (n + 1) cb Sa Sb 0 waBx HUa.out HUb.out HFa.out (by omega) HCG.out)
            go_wp2_with fail
            refine M1.out.mono ?_
            rintro e wt1 ⟨rfl, kt1⟩
            have KT1 := Lib.hid (KT.out.trans (kt1.mono KT.out.size))
            have M2 := Lib.hid (reach_bad2 Aa Ab none (n + 1) ca (n + 1) cb 0 0 Sa Sb wt1 (HUa.out.below kt1 (Nat.le_refl _)) (HUb.out.below kt1 (Nat.le_refl _)) HFa.out (by omega) HCG.out)
            have HUa1 := Lib.hid (HUa.out.below kt1 (Nat.le_refl _))
            have HUb1 := Lib.hid (HUb.out.below kt1 (Nat.le_refl _))
            clear kt1
            go_wp2_with fail
            refine M2.out.mono ?_
            rintro e wt2 ⟨rfl, kt2⟩
            have KT2 := Lib.hid (KT1.out.trans (kt2.mono KT1.out.size))
            have M3 := Lib.hid (order_bad2 Aa Ab none (n + 1) ca (n + 1) cb 0 0 Sa Sb wt2 (HUa1.out.below kt2 (Nat.le_refl _)) (HUb1.out.below kt2 (Nat.le_refl _)) HFa.out (by omega) HCG.out)
            clear kt2
            go_wp2_with fail
            refine M3.out.mono ?_
            rintro e wt3 ⟨rfl, kt3⟩
            have KT3 := Lib.hid (KT2.out.trans (kt3.mono KT2.out.size))
            clear kt3
            have M4 := Lib.hid (fun (b : Int) (hb : b < 0) => mixed_out (some ⟨oa, offa, none⟩) (some ⟨ob, offb, none⟩) n c1 n c2 S T b wt3 (HS1.out.below KT3.out (Nat.le_refl _)) (HT1.out.below KT3.out (Nat.le_refl _)) HF.out HV.out (.inl hb))
            have H2P := two_pow8' h8
            have hp0 : (0 : Int) < 2 ^ n := Int.pow_pos (by omega)
            have hpc : ((2 ^ n : Nat) : Int) = (2 : Int) ^ n := by push_cast; rfl
            have HPC := Lib.hid hpc
            have HP0 := Lib.hid hp0
            clear hpc
            go_wp2_with fail
            all_goals (
              refine (M4.out _ (by omega)).mono ?_
              rintro e wt4 ⟨rfl, kt4⟩
              have KT4 := Lib.hid (KT3.out.trans (kt4.mono KT3.out.size))
              clear kt4
              have M5 := Lib.hid (fun (b : Int) (hb : (2 : Int) ^ n ≤ b) => mixed_out (some ⟨oa, offa, none⟩) (some ⟨ob, offb, none⟩) n c1 n c2 S T b wt4 (HS1.out.below KT4.out (Nat.le_refl _)) (HT1.out.below KT4.out (Nat.le_refl _)) HF.out HV.out (.inr (by rw [HPC.out]; exact hb)))
              go_wp2_with fail
              all_goals (
                refine (M5.out _ (by first | exact Int.le_refl _ | assumption | omega)).mono ?_
                rintro e wt5 ⟨rfl, kt5⟩
                have KT5 := Lib.hid (KT4.out.trans (kt5.mono KT4.out.size))
                clear kt5
                go_wp2_with fail
                refine (awake_any wt5).mono ?_
                rintro e wt6 ⟨rfl, kt6⟩
                have KT6 := Lib.hid (KT5.out.trans (kt6.mono KT5.out.size))
                clear kt6
                go_wp2_with fail
                go_ret
                exact ⟨rfl, K1.out.trans (KT6.out.mono K1.out.size)⟩))
          · go_simp
            obtain ⟨wbBx, hwbBx⟩ : ∃ wbBx, wbAx.alloc (.cells #[.string nm, .int .i64 tv] 40) = wbBx := ⟨_, rfl⟩
            rw [hwbBx]
            have TwbBx := Lib.hid (show Two w1.heap.size wbBx va vb n n S T by rw [← hwbBx]; exact (TwbAx.out.alloc (.cells #[.string nm, .int .i64 tv] 40)))
            have KwbBx := Lib.hid (show Below w1.heap.size w1 wbBx by rw [← hwbBx]; exact (KwbAx.out.alloc KwbAx.out.size (.cells #[.string nm, .int .i64 tv] 40)))
            have BBwbBx := Lib.hid (show Blk wbBx wbAx.heap.size 40 #[.string nm, .int .i64 tv] by rw [← hwbBx]; exact (Blk.made _ _ _))
            have NBwbBx := Lib.hid TwbAx.out.fresh
            have BAywbBx := Lib.hid (show Blk wbBx w3.heap.size 40 #[.string nm, .int .i64 sv] by rw [← hwbBx]; exact (BAwbAx.out.alloc (.cells #[.string nm, .int .i64 tv] 40)))
            clear hwbBx
            refine hK.out _ _ (YR.out _ KwbBx.out) (fun hH2 => ?_)
            try simp only [Act.put, List.setIfInBounds_toArray, List.set_cons_zero, List.set_cons_succ]
            clear hK K
            refine wpAnyH_ready (rs := [5]) (by kernel_rfl) (by simp) ?_
            refine AllReadyH.cons rfl (fun K hK => ?_) AllReadyH.nil
            refine step_append_u rfl 62 rfl _ _ rfl w1.heap.size _ n _ rfl TwbBx.out.ra ⟨w3.heap.size, 0, none⟩ 1 1 [.string nm, .int .i64 sv] rfl rfl (World.news_of_block BAywbBx.out) (one_two _ _) (by omega) KwbBx.out.size ?_
            intro vAwaAx waAx rwaAx gwaAx hwaAx
            have KwaAx := Lib.hid (KwbBx.out.grown gwaAx KwbBx.out.size (fun i e => (TwbBx.out.ra.lt i e).1))
            have TwaAx := Lib.hid (TwbBx.out.moreA (u := (nm, sv)) rwaAx gwaAx hwaAx)
            have BBzwaAx := Lib.hid (BBwbBx.out.grown gwaAx NBwbBx.out.1)
            clear rwaAx gwaAx hwaAx
            refine hK.out _ _ (YR.out _ KwaAx.out) (fun hH3 => ?_)
            try simp only [Act.put, List.setIfInBounds_toArray, List.set_cons_zero, List.set_cons_succ]
            clear hK K
            refine wpAnyH_ready (rs := [11]) (by kernel_rfl) (by simp) ?_
            refine AllReadyH.cons rfl (fun K hK => ?_) AllReadyH.nil
            refine step_append_u rfl 68 rfl _ _ rfl w1.heap.size _ n _ rfl TwaAx.out.rb ⟨wbAx.heap.size, 0, none⟩ 1 1 [.string nm, .int .i64 tv] rfl rfl (World.news_of_block BBzwaAx.out) (one_two _ _) (by omega) KwaAx.out.size ?_
            intro vBwaBx waBx rwaBx gwaBx hwaBx
            have KwaBx := Lib.hid (KwaAx.out.grown gwaBx KwaAx.out.size (fun i e => (TwaAx.out.rb.lt i e).1))
            have TwaBx := Lib.hid (TwaAx.out.moreB (u := (nm, tv)) rwaBx gwaBx hwaBx)
            clear rwaBx gwaBx hwaBx
            refine hK.out _ _ (YR.out _ KwaBx.out) (fun hH4 => ?_)
            try simp only [Act.put, List.setIfInBounds_toArray, List.set_cons_zero, List.set_cons_succ]
            clear hK K
            refine ah_take (i := 12) (v := ?_) (some 11) rfl rfl (by kernel_rfl) (by kernel_rfl) (by kernel_rfl) (fun _ _ _ h => h) (by kernel_rfl) ?_ (by assumption) ?_
            rotate_left
            · (intro w hSw; (try dsimp only at hSw); go_simp; (first | done | with_reducible rfl))
            simp only [Act.put, List.setIfInBounds_toArray, List.set_cons_zero, List.set_cons_succ]
            refine ah_take (i := 13) (v := ?_) (some 12) rfl rfl (by kernel_rfl) (by kernel_rfl) (by kernel_rfl) (fun _ _ _ h => h) (by kernel_rfl) ?_ (by assumption) ?_
            rotate_left
            · (intro w hSw; (try dsimp only at hSw); go_simp; (first | done | with_reducible rfl))
            simp only [Act.put, List.setIfInBounds_toArray, List.set_cons_zero, List.set_cons_succ]
            refine wpAnyH_done (by kernel_rfl) ?_ _
            try clear hH1 hH2 hH3 hH4 hS0
            have g9 : decide (9 < n + 1) = false := decide_eq_false (by omega)
            have g9' : decide ((9 : Int) < (n : Int) + 1) = false := decide_eq_false (by omega)
            obtain ⟨Aa, ca, rfl, hua, _⟩ := own_units TwaBx.out.ra (by omega)
            obtain ⟨Ab, cb, rfl, hub, _⟩ := own_units TwaBx.out.rb (by omega)
            have HUa := Lib.hid hua
            have HUb := Lib.hid hub
            obtain ⟨Sa, hSa⟩ : ∃ Sa, snoc S n (nm, sv) = Sa := ⟨_, rfl⟩
            obtain ⟨Sb, hSb⟩ : ∃ Sb, snoc T n (nm, tv) = Sb := ⟨_, rfl⟩
            have HCG : Hid (chg (n + 1) (n + 1) Sa Sb = false) := Lib.hid (chg_dup ⟨n, 0, hnp, by omega, by rw [← hSa]; unfold snoc; rw [if_neg (by omega), if_pos rfl]; exact HNM.out⟩)
            have HFa : Hid (Fits Sa (n + 1)) := Lib.hid (fun k hk => by
              rw [← hSa]
              unfold snoc
              split
              · show nm.size ≤ maxLen
                unfold maxLen
                omega
              · exact HF.out k (by omega))
            rw [hSa] at HUa
            rw [hSb] at HUb
            have KT := Lib.hid KwaBx.out
            clear hua hub hSa hSb
            go_upto_region 19 with fail
            have M1 := Lib.hid (mixed_bad Aa Ab (n + 1) ca (n + 1) cb Sa Sb 0 waBx HUa.out HUb.out HFa.out (by omega) HCG.out)
            go_wp2_with fail
            refine M1.out.mono ?_
            rintro e wt1 ⟨rfl, kt1⟩
            have KT1 := Lib.hid (KT.out.trans (kt1.mono KT.out.size))
            have M2 := Lib.hid (reach_bad2 Aa Ab none (n + 1) ca (n + 1) cb 0 0 Sa Sb wt1 (HUa.out.below kt1 (Nat.le_refl _)) (HUb.out.below kt1 (Nat.le_refl _)) HFa.out (by omega) HCG.out)
            have HUa1 := Lib.hid (HUa.out.below kt1 (Nat.le_refl _))
            have HUb1 := Lib.hid (HUb.out.below kt1 (Nat.le_refl _))
            clear kt1
            go_wp2_with fail
            refine M2.out.mono ?_
            rintro e wt2 ⟨rfl, kt2⟩
            have KT2 := Lib.hid (KT1.out.trans (kt2.mono KT1.out.size))
            have M3 := Lib.hid (order_bad2 Aa Ab none (n + 1) ca (n + 1) cb 0 0 Sa Sb wt2 (HUa1.out.below kt2 (Nat.le_refl _)) (HUb1.out.below kt2 (Nat.le_refl _)) HFa.out (by omega) HCG.out)
            clear kt2
            go_wp2_with fail
            refine M3.out.mono ?_
            rintro e wt3 ⟨rfl, kt3⟩
            have KT3 := Lib.hid (KT2.out.trans (kt3.mono KT2.out.size))
            clear kt3
            have M4 := Lib.hid (fun (b : Int) (hb : b < 0) => mixed_out (some ⟨oa, offa, none⟩) (some ⟨ob, offb, none⟩) n c1 n c2 S T b wt3 (HS1.out.below KT3.out (Nat.le_refl _)) (HT1.out.below KT3.out (Nat.le_refl _)) HF.out HV.out (.inl hb))
            have H2P := two_pow8' h8
            have hp0 : (0 : Int) < 2 ^ n := Int.pow_pos (by omega)
            have hpc : ((2 ^ n : Nat) : Int) = (2 : Int) ^ n := by push_cast; rfl
            have HPC := Lib.hid hpc
            have HP0 := Lib.hid hp0
            clear hpc
            go_wp2_with fail
            all_goals (
              refine (M4.out _ (by omega)).mono ?_
              rintro e wt4 ⟨rfl, kt4⟩
              have KT4 := Lib.hid (KT3.out.trans (kt4.mono KT3.out.size))
              clear kt4
              have M5 := Lib.hid (fun (b : Int) (hb : (2 : Int) ^ n ≤ b) => mixed_out (some ⟨oa, offa, none⟩) (some ⟨ob, offb, none⟩) n c1 n c2 S T b wt4 (HS1.out.below KT4.out (Nat.le_refl _)) (HT1.out.below KT4.out (Nat.le_refl _)) HF.out HV.out (.inr (by rw [HPC.out]; exact hb)))
              go_wp2_with fail
              all_goals (
                refine (M5.out _ (by first | exact Int.le_refl _ | assumption | omega)).mono ?_
                rintro e wt5 ⟨rfl, kt5⟩
                have KT5 := Lib.hid (KT4.out.trans (kt5.mono KT4.out.size))
                clear kt5
                go_wp2_with fail
                refine (awake_any wt5).mono ?_
                rintro e wt6 ⟨rfl, kt6⟩
                have KT6 := Lib.hid (KT5.out.trans (kt6.mono KT5.out.size))
                clear kt6
                go_wp2_with fail
                go_ret
                exact ⟨rfl, K1.out.trans (KT6.out.mono K1.out.size)⟩))
        · go_simp
          obtain ⟨wbBx, hwbBx⟩ : ∃ wbBx, (w3.alloc (.cells #[.string nm, .int .i64 tv] 40)).drew = wbBx := ⟨_, rfl⟩
          rw [hwbBx]
          have TwbBx := Lib.hid (show Two w1.heap.size wbBx va vb n n S T by rw [← hwbBx]; exact (TW.out.alloc (.cells #[.string nm, .int .i64 tv] 40)).drew)
          have KwbBx := Lib.hid (show Below w1.heap.size w1 wbBx by rw [← hwbBx]; exact (K3.out.alloc K3.out.size (.cells #[.string nm, .int .i64 tv] 40)).drew)
          have BBwbBx := Lib.hid (show Blk wbBx w3.heap.size 40 #[.string nm, .int .i64 tv] by rw [← hwbBx]; exact (Blk.made _ _ _).drew)
          have NBwbBx := Lib.hid TW.out.fresh
          clear hwbBx
          refine hK.out _ _ (YR.out _ KwbBx.out) (fun hH1 => ?_)
          try simp only [Act.put, List.setIfInBounds_toArray, List.set_cons_zero, List.set_cons_succ]
          clear hK K
          refine wpAnyH_ready (rs := [4]) (by kernel_rfl) (by simp) ?_
          refine AllReadyH.cons rfl (fun K hK => ?_) AllReadyH.nil
          go_simp
          obtain ⟨wbAx, hwbAx⟩ : ∃ wbAx, wbBx.alloc (.cells #[.string nm, .int .i64 sv] 40) = wbAx := ⟨_, rfl⟩
          rw [hwbAx]
          have TwbAx := Lib.hid (show Two w1.heap.size wbAx va vb n n S T by rw [← hwbAx]; exact (TwbBx.out.alloc (.cells #[.string nm, .int .i64 sv] 40)))
          have KwbAx := Lib.hid (show Below w1.heap.size w1 wbAx by rw [← hwbAx]; exact (KwbBx.out.alloc KwbBx.out.size (.cells #[.string nm, .int .i64 sv] 40)))
          have BAwbAx := Lib.hid (show Blk wbAx wbBx.heap.size 40 #[.string nm, .int .i64 sv] by rw [← hwbAx]; exact (Blk.made _ _ _))
          have NAwbAx := Lib.hid TwbBx.out.fresh
          have BBywbAx := Lib.hid (show Blk wbAx w3.heap.size 40 #[.string nm, .int .i64 tv] by rw [← hwbAx]; exact (BBwbBx.out.alloc (.cells #[.string nm, .int .i64 sv] 40)))
          clear hwbAx
          refine hK.out _ _ (YR.out _ KwbAx.out) (fun hH2 => ?_)
          try simp only [Act.put, List.setIfInBounds_toArray, List.set_cons_zero, List.set_cons_succ]
          clear hK K
          refine wpAnyH_ready (rs := [5]) (by kernel_rfl) (by simp) ?_
          refine AllReadyH.cons rfl (fun K hK => ?_) AllReadyH.nil
          refine step_append_u rfl 62 rfl _ _ rfl w1.heap.size _ n _ rfl TwbAx.out.ra ⟨wbBx.heap.size, 0, none⟩ 1 1 [.string nm, .int .i64 sv] rfl rfl (World.news_of_block BAwbAx.out) (one_two _ _) (by omega) KwbAx.out.size ?_
          intro vAwaAx waAx rwaAx gwaAx hwaAx
          have KwaAx := Lib.hid (KwbAx.out.grown gwaAx KwbAx.out.size (fun i e => (TwbAx.out.ra.lt i e).1))
          have TwaAx := Lib.hid (TwbAx.out.moreA (u := (nm, sv)) rwaAx gwaAx hwaAx)
          have BBzwaAx := Lib.hid (BBywbAx.out.grown gwaAx NBwbBx.out.1)
          clear rwaAx gwaAx hwaAx
          refine hK.out _ _ (YR.out _ KwaAx.out) (fun hH3 => ?_)
          try simp only [Act.put, List.setIfInBounds_toArray, List.set_cons_zero, List.set_cons_succ]
          clear hK K
          refine wpAnyH_ready (rs := [11]) (by kernel_rfl) (by simp) ?_
          refine AllReadyH.cons rfl (fun K hK => ?_) AllReadyH.nil
          refine step_append_u rfl 68 rfl _ _ rfl w1.heap.size _ n _ rfl TwaAx.out.rb ⟨w3.heap.size, 0, none⟩ 1 1 [.string nm, .int .i64 tv] rfl rfl (World.news_of_block BBzwaAx.out) (one_two _ _) (by omega) KwaAx.out.size ?_
          intro vBwaBx waBx rwaBx gwaBx hwaBx
          have KwaBx := Lib.hid (KwaAx.out.grown gwaBx KwaAx.out.size (fun i e => (TwaAx.out.rb.lt i e).1))
          have TwaBx := Lib.hid (TwaAx.out.moreB (u := (nm, tv)) rwaBx gwaBx hwaBx)
          clear rwaBx gwaBx hwaBx
          refine hK.out _ _ (YR.out _ KwaBx.out) (fun hH4 => ?_)
          try simp only [Act.put, List.setIfInBounds_toArray, List.set_cons_zero, List.set_cons_succ]
          clear hK K
          refine ah_take (i := 12) (v := ?_) (some 11) rfl rfl (by kernel_rfl) (by kernel_rfl) (by kernel_rfl) (fun _ _ _ h => h) (by kernel_rfl) ?_ (by assumption) ?_
          rotate_left
          · (intro w hSw; (try dsimp only at hSw); go_simp; (first | done | with_reducible rfl))
          simp only [Act.put, List.setIfInBounds_toArray, List.set_cons_zero, List.set_cons_succ]
          refine ah_take (i := 13) (v := ?_) (some 12) rfl rfl (by kernel_rfl) (by kernel_rfl) (by kernel_rfl) (fun _ _ _ h => h) (by kernel_rfl) ?_ (by assumption) ?_
          rotate_left
          · (intro w hSw; (try dsimp only at hSw); go_simp; (first | done | with_reducible rfl))
          simp only [Act.put, List.setIfInBounds_toArray, List.set_cons_zero, List.set_cons_succ]
          refine wpAnyH_done (by kernel_rfl) ?_ _
          try clear hH1 hH2 hH3 hH4 hS0
          have g9 : decide (9 < n + 1) = false := decide_eq_false (by omega)
          have g9' : decide ((9 : Int) < (n : Int) + 1) = false := decide_eq_false (by omega)
          obtain ⟨Aa, ca, rfl, hua, _⟩ := own_units TwaBx.out.ra (by omega)
          obtain ⟨Ab, cb, rfl, hub, _⟩ := own_units TwaBx.out.rb (by omega)
          have HUa := Lib.hid hua
          have HUb := Lib.hid hub
          obtain ⟨Sa, hSa⟩ : ∃ Sa, snoc S n (nm, sv) = Sa := ⟨_, rfl⟩
          obtain ⟨Sb, hSb⟩ : ∃ Sb, snoc T n (nm, tv) = Sb := ⟨_, rfl⟩
          have HCG : Hid (chg (n + 1) (n + 1) Sa Sb = false) := Lib.hid (chg_dup ⟨n, 0, hnp, by omega, by rw [← hSa]; unfold snoc; rw [if_neg (by omega), if_pos rfl]; exact HNM.out⟩)
          have HFa : Hid (Fits Sa (n + 1)) := Lib.hid (fun k hk => by
            rw [← hSa]
            unfold snoc
            split
            · show nm.size ≤ maxLen
              unfold maxLen
              omega
            · exact HF.out k (by omega))
          rw [hSa] at HUa
          rw [hSb] at HUb
          have KT := Lib.hid KwaBx.out
          clear hua hub hSa hSb
          go_upto_region 19 with fail
          have M1 := Lib.hid (mixed_bad Aa Ab (n + 1) ca (n + 1) cb Sa Sb 0 waBx HUa.out HUb.out HFa.out (by omega) HCG.out)
          go_wp2_with fail
          refine M1.out.mono ?_
          rintro e wt1 ⟨rfl, kt1⟩
          have KT1 := Lib.hid (KT.out.trans (kt1.mono KT.out.size))
          have M2 := Lib.hid (reach_bad2 Aa Ab none (n + 1) ca (n + 1) cb 0 0 Sa Sb wt1 (HUa.out.below kt1 (Nat.le_refl _)) (HUb.out.below kt1 (Nat.le_refl _)) HFa.out (by omega) HCG.out)
          have HUa1 := Lib.hid (HUa.out.below kt1 (Nat.le_refl _))
          have HUb1 := Lib.hid (HUb.out.below kt1 (Nat.le_refl _))
          clear kt1
          go_wp2_with fail
          refine M2.out.mono ?_
          rintro e wt2 ⟨rfl, kt2⟩
          have KT2 := Lib.hid (KT1.out.trans (kt2.mono KT1.out.size))
          have M3 := Lib.hid (order_bad2 Aa Ab none (n + 1) ca (n + 1) cb 0 0 Sa Sb wt2 (HUa1.out.below kt2 (Nat.le_refl _)) (HUb1.out.below kt2 (Nat.le_refl _)) HFa.out (by omega) HCG.out)
          clear kt2
          go_wp2_with fail
          refine M3.out.mono ?_
          rintro e wt3 ⟨rfl, kt3⟩
          have KT3 := Lib.hid (KT2.out.trans (kt3.mono KT2.out.size))
          clear kt3
          have M4 := Lib.hid (fun (b : Int) (hb : b < 0) => mixed_out (some ⟨oa, offa, none⟩) (some ⟨ob, offb, none⟩) n c1 n c2 S T b wt3 (HS1.out.below KT3.out (Nat.le_refl _)) (HT1.out.below KT3.out (Nat.le_refl _)) HF.out HV.out (.inl hb))
          have H2P := two_pow8' h8
          have hp0 : (0 : Int) < 2 ^ n := Int.pow_pos (by omega)
          have hpc : ((2 ^ n : Nat) : Int) = (2 : Int) ^ n := by push_cast; rfl
          have HPC := Lib.hid hpc
          have HP0 := Lib.hid hp0
          clear hpc
          go_wp2_with fail
          all_goals (
            refine (M4.out _ (by omega)).mono ?_
            rintro e wt4 ⟨rfl, kt4⟩
            have KT4 := Lib.hid (KT3.out.trans (kt4.mono KT3.out.size))
            clear kt4
            have M5 := Lib.hid (fun (b : Int) (hb : (2 : Int) ^ n ≤ b) => mixed_out (some ⟨oa, offa, none⟩) (some ⟨ob, offb, none⟩) n c1 n c2 S T b wt4 (HS1.out.below KT4.out (Nat.le_refl _)) (HT1.out.below KT4.out (Nat.le_refl _)) HF.out HV.out (.inr (by rw [HPC.out]; exact hb)))
            go_wp2_with fail
            all_goals (
              refine (M5.out _ (by first | exact Int.le_refl _ | assumption | omega)).mono ?_
              rintro e wt5 ⟨rfl, kt5⟩
              have KT5 := Lib.hid (KT4.out.trans (kt5.mono KT4.out.size))
              clear kt5
              go_wp2_with fail
              refine (awake_any wt5).mono ?_
              rintro e wt6 ⟨rfl, kt6⟩
              have KT6 := Lib.hid (KT5.out.trans (kt6.mono KT5.out.size))
              clear kt6
              go_wp2_with fail
              go_ret
              exact ⟨rfl, K1.out.trans (KT6.out.mono K1.out.size)⟩))
      | 1, _ =>
        have hq : way.tmod 5 = 1 := hq
        have hq' : way % 5 = 1 := hq'
        obtain ⟨Aa, ca, rfl, hua, hnca⟩ := own_units TW.out.ra (by omega)
        obtain ⟨Ab, cb, rfl, hub, _⟩ := own_units TW.out.rb (by omega)
        have HUa := Lib.hid (hua.less (show n - 1 ≤ n by omega))
        have HUb := Lib.hid hub
        have HFa : Hid (Fits S (n - 1)) := Lib.hid (fun k hk => HF.out k (by omega))
        have HCG : Hid (chg (n - 1) n S T = false) := Lib.hid (chg_len (by omega))
        have KT := Lib.hid K3.out
        obtain ⟨n1, hn1⟩ : ∃ n1, n - 1 = n1 := ⟨_, rfl⟩
        have hn1' : (n : Int) - 1 = n1 := by omega
        have hn1c : (n1 : Int) ≤ ca := by omega
        have hn1d : decide (ca < n1) = false := decide_eq_false (by omega)
        rw [hn1] at HUa HFa HCG
        clear hua hub
        go_upto_region 19 with fail
        have M1 := Lib.hid (mixed_bad Aa Ab n1 ca n cb S T 0 w3 HUa.out HUb.out HFa.out (by omega) HCG.out)
        go_wp2_with fail
        refine M1.out.mono ?_
        rintro e wt1 ⟨rfl, kt1⟩
        have KT1 := Lib.hid (KT.out.trans (kt1.mono KT.out.size))
        have M2 := Lib.hid (reach_bad2 Aa Ab none n1 ca n cb 0 0 S T wt1 (HUa.out.below kt1 (Nat.le_refl _)) (HUb.out.below kt1 (Nat.le_refl _)) HFa.out (by omega) HCG.out)
        have HUa1 := Lib.hid (HUa.out.below kt1 (Nat.le_refl _))
        have HUb1 := Lib.hid (HUb.out.below kt1 (Nat.le_refl _))
        clear kt1
        go_wp2_with fail
        refine M2.out.mono ?_
        rintro e wt2 ⟨rfl, kt2⟩
        have KT2 := Lib.hid (KT1.out.trans (kt2.mono KT1.out.size))
        have M3 := Lib.hid (order_bad2 Aa Ab none n1 ca n cb 0 0 S T wt2 (HUa1.out.below kt2 (Nat.le_refl _)) (HUb1.out.below kt2 (Nat.le_refl _)) HFa.out (by omega) HCG.out)
        clear kt2
        go_wp2_with fail
        refine M3.out.mono ?_
        rintro e wt3 ⟨rfl, kt3⟩
        have KT3 := Lib.hid (KT2.out.trans (kt3.mono KT2.out.size))
        clear kt3
        have M4 := Lib.hid (fun (b : Int) (hb : b < 0) => mixed_out (some ⟨oa, offa, none⟩) (some ⟨ob, offb, none⟩) n c1 n c2 S T b wt3 (HS1.out.below KT3.out (Nat.le_refl _)) (HT1.out.below KT3.out (Nat.le_refl _)) HF.out HV.out (.inl hb))
        have H2P := two_pow8' h8
        have hp0 : (0 : Int) < 2 ^ n := Int.pow_pos (by omega)
        have hpc : ((2 ^ n : Nat) : Int) = (2 : Int) ^ n := by push_cast; rfl
        have HPC := Lib.hid hpc
        have HP0 := Lib.hid hp0
        clear hpc
        go_wp2_with fail
        all_goals (
          refine (M4.out _ (by omega)).mono ?_
          rintro e wt4 ⟨rfl, kt4⟩
          have KT4 := Lib.hid (KT3.out.trans (kt4.mono KT3.out.size))
          clear kt4
          have M5 := Lib.hid (fun (b : Int) (hb : (2 : Int) ^ n ≤ b) => mixed_out (some ⟨oa, offa, none⟩) (some ⟨ob, offb, none⟩) n c1 n c2 S T b wt4 (HS1.out.below KT4.out (Nat.le_refl _)) (HT1.out.below KT4.out (Nat.le_refl _)) HF.out HV.out (.inr (by rw [HPC.out]; exact hb)))
          go_wp2_with fail
          all_goals (
            refine (M5.out _ (by first | exact Int.le_refl _ | assumption | omega)).mono ?_
            rintro e wt5 ⟨rfl, kt5⟩
            have KT5 := Lib.hid (KT4.out.trans (kt5.mono KT4.out.size))
            clear kt5
            go_wp2_with fail
            refine (awake_any wt5).mono ?_
            rintro e wt6 ⟨rfl, kt6⟩
            have KT6 := Lib.hid (KT5.out.trans (kt6.mono KT5.out.size))
            clear kt6
            go_wp2_with fail
            go_ret
            exact ⟨rfl, K1.out.trans (KT6.out.mono K1.out.size)⟩))
      | 2, _ =>
        have hq : way.tmod 5 = 2 := hq
        have hq' : way % 5 = 2 := hq'
        obtain ⟨y0, y1, y2, y3⟩ := YR.out w3 K3.out
        have hnm := HZ.out 0 hnp
        have hst := HMD.out 0 hnp
        have huT := own_units TW.out.rb (by omega)
        rcases TW.out.rb.2 with ⟨_, h0⟩ | ⟨g, cap, cur, rfl, hbg, hg, hcap, _⟩
        · omega
        obtain ⟨Ab, cb, hAb, hub, _⟩ := huT
        obtain ⟨rfl, rfl⟩ : Ab = some ⟨g, 0, none⟩ ∧ cb = cap := by injection hAb with h1 _ h2; exact ⟨h1.symm, h2.symm⟩
        have hbk : Blk w3 g 40 cur := hg
        obtain ⟨bb, off, hbo, _, hcl⟩ := hub.2 hnp
        obtain ⟨rfl, rfl⟩ : g = bb ∧ 0 = off := by injection hbo with h; injection h with h1 h2; exact ⟨h1, h2⟩
        have z0 : w3.cell? ⟨g, 0, none⟩ = some (.string (S 0).1) := by rw [hst]; exact (hcl 0 hnp).1
        have f0 := hbk.free 0
        obtain ⟨nm, hnm0⟩ : ∃ nm, (S 0).1 = nm := ⟨_, rfl⟩
        rw [hnm0] at z0 hnm
        have hsz : (nm ++ (⟨#[120]⟩ : ByteArray)).size = nm.size + 1 := by rw [ByteArray.size_append]; rfl
        obtain ⟨Tb, hTb⟩ : ∃ Tb : Nat → U, Tb = fun k => if k = 0 then (nm ++ (⟨#[120]⟩ : ByteArray), (T 0).2) else T k := ⟨_, rfl⟩
        have gp : w3.grownBy (w3.setCell ⟨g, 0, none⟩ (.string (nm ++ (⟨#[120]⟩ : ByteArray)))) (some g) := gb_put (World.grownBy.refl _ _) 0 _
        have bp := hbk.put 0 (.string (nm ++ (⟨#[120]⟩ : ByteArray)))
        have HUb : Hid (UnitsIn (w3.setCell ⟨g, 0, none⟩ (.string (nm ++ (⟨#[120]⟩ : ByteArray)))) (some ⟨g, 0, none⟩) n Tb) := Lib.hid ⟨hub.1, fun _ => ⟨g, 0, rfl, bp.lt, fun k hk => by
          obtain ⟨d0, d1⟩ := hcl k hk
          rw [hbk.cell] at d0 d1
          rw [bp.cell, bp.cell, Array.getElem?_setIfInBounds, Array.getElem?_setIfInBounds, hTb]
          by_cases h0 : k = 0
          · subst h0
            have hlt : 0 < cur.size := by
              rw [Array.getElem?_eq_some_iff] at d0
              exact Nat.lt_of_le_of_lt (Nat.zero_le _) d0.1
            rw [if_pos (by rfl), if_pos hlt, if_neg (by omega)]
            exact ⟨rfl, d1⟩
          · rw [if_neg (by omega), if_neg (by omega)]
            simp only [if_neg h0]
            exact ⟨d0, d1⟩⟩⟩
        obtain ⟨Aa, ca, rfl, hua, _⟩ := own_units (own_kept (v' := .slice (some ⟨g, 0, none⟩) n cb) TW.out.ra gp (fun x e1 e2 => TW.out.dis x e2 e1)) (by omega)
        have HUa := Lib.hid hua
        have HFa := Lib.hid HF.out
        have HCG : Hid (chg n n S Tb = false) := Lib.hid (chg_mod hnp (fun e => by
          rw [hnm0, hTb] at e
          have := congrArg ByteArray.size e
          simp only [if_true] at this
          rw [hsz] at this
          omega))
        have KT := Lib.hid (K3.out.setCell (p := ⟨g, 0, none⟩) hbg (.string (nm ++ (⟨#[120]⟩ : ByteArray))))
        have hcat : nm.size + 1 ≤ 9223372036854775807 := by omega
        have hcat2 : ¬ (9223372036854775807 < nm.size + 1) := by omega
        clear hua hub hcl hbo hAb gp bp hTb y0 y1 y2 y3 hst
        go_upto_region 19 with fail
        have M1 := Lib.hid (mixed_bad Aa (some ⟨g, 0, none⟩) n ca n cb S Tb 0 (w3.setCell ⟨g, 0, none⟩ (.string (nm ++ (⟨#[120]⟩ : ByteArray)))) HUa.out HUb.out HFa.out (by omega) HCG.out)
        go_wp2_with fail
        refine M1.out.mono ?_
        rintro e wt1 ⟨rfl, kt1⟩
        have KT1 := Lib.hid (KT.out.trans (kt1.mono KT.out.size))
        have M2 := Lib.hid (reach_bad2 Aa (some ⟨g, 0, none⟩) none n ca n cb 0 0 S Tb wt1 (HUa.out.below kt1 (Nat.le_refl _)) (HUb.out.below kt1 (Nat.le_refl _)) HFa.out (by omega) HCG.out)
        have HUa1 := Lib.hid (HUa.out.below kt1 (Nat.le_refl _))
        have HUb1 := Lib.hid (HUb.out.below kt1 (Nat.le_refl _))
        clear kt1
        go_wp2_with fail
        refine M2.out.mono ?_
        rintro e wt2 ⟨rfl, kt2⟩
        have KT2 := Lib.hid (KT1.out.trans (kt2.mono KT1.out.size))
        have M3 := Lib.hid (order_bad2 Aa (some ⟨g, 0, none⟩) none n ca n cb 0 0 S Tb wt2 (HUa1.out.below kt2 (Nat.le_refl _)) (HUb1.out.below kt2 (Nat.le_refl _)) HFa.out (by omega) HCG.out)
        clear kt2
        go_wp2_with fail
        refine M3.out.mono ?_
        rintro e wt3 ⟨rfl, kt3⟩
        have KT3 := Lib.hid (KT2.out.trans (kt3.mono KT2.out.size))
        clear kt3
        have M4 := Lib.hid (fun (b : Int) (hb : b < 0) => mixed_out (some ⟨oa, offa, none⟩) (some ⟨ob, offb, none⟩) n c1 n c2 S T b wt3 (HS1.out.below KT3.out (Nat.le_refl _)) (HT1.out.below KT3.out (Nat.le_refl _)) HF.out HV.out (.inl hb))
        have H2P := two_pow8' h8
        have hp0 : (0 : Int) < 2 ^ n := Int.pow_pos (by omega)
        have hpc : ((2 ^ n : Nat) : Int) = (2 : Int) ^ n := by push_cast; rfl
        have HPC := Lib.hid hpc
        have HP0 := Lib.hid hp0
        clear hpc
        go_wp2_with fail
        all_goals (
          refine (M4.out _ (by omega)).mono ?_
          rintro e wt4 ⟨rfl, kt4⟩
          have KT4 := Lib.hid (KT3.out.trans (kt4.mono KT3.out.size))
          clear kt4
          have M5 := Lib.hid (fun (b : Int) (hb : (2 : Int) ^ n ≤ b) => mixed_out (some ⟨oa, offa, none⟩) (some ⟨ob, offb, none⟩) n c1 n c2 S T b wt4 (HS1.out.below KT4.out (Nat.le_refl _)) (HT1.out.below KT4.out (Nat.le_refl _)) HF.out HV.out (.inr (by rw [HPC.out]; exact hb)))
          go_wp2_with fail
          all_goals (
            refine (M5.out _ (by first | exact Int.le_refl _ | assumption | omega)).mono ?_
            rintro e wt5 ⟨rfl, kt5⟩
            have KT5 := Lib.hid (KT4.out.trans (kt5.mono KT4.out.size))
            clear kt5
            go_wp2_with fail
            refine (awake_any wt5).mono ?_
            rintro e wt6 ⟨rfl, kt6⟩
            have KT6 := Lib.hid (KT5.out.trans (kt6.mono KT5.out.size))
            clear kt6
            go_wp2_with fail
            go_ret
            exact ⟨rfl, K1.out.trans (KT6.out.mono K1.out.size)⟩))
      | 3, _ =>
        have hq : way.tmod 5 = 3 := hq
        have hq' : way % 5 = 3 := hq'
        have hnm := HZ.out 0 hnp
        obtain ⟨nm, hnm0⟩ : ∃ nm, (S 0).1 = nm := ⟨_, rfl⟩
        rw [hnm0] at YR hnm
        clear hnm0
        obtain ⟨Aa0, ca0, hva0, _, _⟩ := own_units TW.out.ra (by omega)
        have hlv : Hid (lenV va = n) := Lib.hid (by rw [hva0]; rfl)
        clear hva0
        go_wp2_with fail
        go_loopw [11, 12] (fun va vb wr => ∃ (k : Nat) (Sa Sb : Nat → U), n ≤ k ∧ k ≤ 9 ∧ Two w1.heap.size wr va vb k k Sa Sb ∧ Fits Sa k ∧ lenV va = k ∧ Below w1.heap.size w1 wr)
          (fun va _ _ => 9 - lenV va)
        case atStart => exact ⟨n, S, T, Nat.le_refl _, by omega, TW.out, HF.out, hlv.out, K3.out⟩
        case round =>
          obtain ⟨k, Sa, Sb, hnk, hk9, htw, hfa, hlv2, kr⟩ := hrel
          have TWr := Lib.hid htw
          have FAr := Lib.hid hfa
          have KR := Lib.hid kr
          obtain ⟨Aa, ca, rfl, hua, _⟩ := own_units TWr.out.ra (by omega)
          have HUA := Lib.hid hua
          clear htw hfa kr hua hlv2
          by_cases hk8 : k ≤ 8
          · have g8 : (k : Int) ≤ 8 := by omega
            obtain ⟨y0, _, _, _⟩ := YR.out wr KR.out
            have Y17 : Hid (∀ V : World, Below wr.heap.size wr V → V.cell? ⟨oa, offa, none⟩ = some (.string nm)) := Lib.hid (fun V hV => (YR.out V (KR.out.trans (hV.mono KR.out.size))).1)
            have KR0 := Lib.hid (Below.refl wr.heap.size wr)
            have KD17 := Lib.hid KR0.out.drew
            have hzs := zs_size (k + 40)
            have hcs : (nm ++ zs (k + 40)).size ≤ 140737488355428 := by rw [ByteArray.size_append, hzs]; omega
            have hwk : IntKind.i64.wrap ((k : Int) + 40) = (k : Int) + 40 := IntWalk.i64_in _ (by omega)
            have hcat : nm.size + (k + 40) ≤ 9223372036854775807 := by omega
            have hcat2 : ¬ (9223372036854775807 < nm.size + (k + 40)) := by omega
            have hcat3 : ¬ (9223372036854775807 < nm.size + (zs (k + 40)).size) := by omega
            go_upto_region 17 with fail
            go_cut [13] from 90 to 111 (fun v wx => ∃ (xb : Nat) (sx : ByteArray), v = .pointer (some ⟨xb, 0, none⟩) ∧ sx.size ≤ 140737488355428 ∧ Blk wx xb 40 #[.string sx, .int .i64 0] ∧ wr.heap.size ≤ xb ∧ Below wr.heap.size wr wx)
            case first =>
              refine wp_region_held_drew (S := (fun V : World => V.cell? ⟨oa, offa, none⟩ = some (.string nm))) (by kernel_rfl) (Y17.out _ KD17.out) (fun hS0 => ?_)
              refine ah_take (i := 0) (v := ?_) (some 93) rfl rfl (by kernel_rfl) (by kernel_rfl) (by kernel_rfl) (fun _ _ _ h => h) (by kernel_rfl) ?_ (by assumption) ?_
              rotate_left
              · (intro w hSw; (try dsimp only at hSw); go_simp; (first | done | with_reducible rfl))
              simp only [Act.put, List.setIfInBounds_toArray, List.set_cons_zero, List.set_cons_succ]
              refine ah_take (i := 1) (v := ?_) (some 94) rfl rfl (by kernel_rfl) (by kernel_rfl) (by kernel_rfl) (fun _ _ _ h => h) (by kernel_rfl) ?_ (by assumption) ?_
              rotate_left
              · (intro w hSw; (try dsimp only at hSw); go_simp; (first | done | with_reducible rfl))
              simp only [Act.put, List.setIfInBounds_toArray, List.set_cons_zero, List.set_cons_succ]
              refine ah_take (i := 2) (v := ?_) (some 95) rfl rfl (by kernel_rfl) (by kernel_rfl) (by kernel_rfl) (fun _ _ _ h => h) (by kernel_rfl) ?_ (by assumption) ?_
              rotate_left
              · (intro w hSw; (try dsimp only at hSw); go_simp; (first | done | with_reducible rfl))
              simp only [Act.put, List.setIfInBounds_toArray, List.set_cons_zero, List.set_cons_succ]
              refine ah_take (i := 3) (v := ?_) (some 96) rfl rfl (by kernel_rfl) (by kernel_rfl) (by kernel_rfl) (fun _ _ _ h => h) (by kernel_rfl) ?_ (by assumption) ?_
              rotate_left
              · (intro w hSw; (try dsimp only at hSw); go_simp; (first | done | with_reducible rfl))
              simp only [Act.put, List.setIfInBounds_toArray, List.set_cons_zero, List.set_cons_succ]
              refine ah_take (i := 4) (v := ?_) (some 97) rfl rfl (by kernel_rfl) (by kernel_rfl) (by kernel_rfl) (fun _ _ _ h => h) (by kernel_rfl) ?_ (by assumption) ?_
              rotate_left
              · (intro w hSw; (try dsimp only at hSw); go_simp; (first | done | with_reducible rfl))
              simp only [Act.put, List.setIfInBounds_toArray, List.set_cons_zero, List.set_cons_succ]
              refine ah_take (i := 5) (v := ?_) (some 98) rfl rfl (by kernel_rfl) (by kernel_rfl) (by kernel_rfl) (fun _ _ _ h => h) (by kernel_rfl) ?_ (by assumption) ?_
              rotate_left
              · (intro w hSw; (try dsimp only at hSw); go_simp; (first | done | with_reducible rfl))
              simp only [Act.put, List.setIfInBounds_toArray, List.set_cons_zero, List.set_cons_succ]
              refine ah_take (i := 6) (v := ?_) (some 99) rfl rfl (by kernel_rfl) (by kernel_rfl) (by kernel_rfl) (fun _ _ _ h => h) (by kernel_rfl) ?_ (by assumption) ?_
              rotate_left
              · (intro w hSw; (try dsimp only at hSw); go_simp; (first | done | with_reducible rfl))
              simp only [Act.put, List.setIfInBounds_toArray, List.set_cons_zero, List.set_cons_succ]
              refine wpAnyH_ready (rs := [7, 11]) (by kernel_rfl) (by simp) ?_
              refine AllReadyH.cons rfl (fun K hK => ?_) (AllReadyH.cons rfl (fun K hK => ?_) AllReadyH.nil)
              · go_simp
                first | rw [hwk, mk43p k (by omega)] | rw [mk43p k (by omega)]
                go_simp
                obtain ⟨wq7x, hwq7x⟩ : ∃ wq7x, (wr.alloc (.cells (zb (k + 40)) 5)).drew = wq7x := ⟨_, rfl⟩
                rw [hwq7x]
                have Kwq7x := Lib.hid (show Below wr.heap.size wr wq7x by rw [← hwq7x]; exact (KR0.out.alloc KR0.out.size _).drew)
                have BZwq7x := Lib.hid (show Blk wq7x wr.heap.size 5 (zb (k + 40)) by rw [← hwq7x]; exact (Blk.made _ _ _).drew)
                have ZBZwq7x := Lib.hid (show wr.heap.size ≤ wr.heap.size by exact KR0.out.size)
                clear hwq7x
                refine hK.out _ _ (Y17.out _ Kwq7x.out) (fun hG1 => ?_)
                try simp only [Act.put, List.setIfInBounds_toArray, List.set_cons_zero, List.set_cons_succ]
                clear hK K
                refine wpAnyH_ready (rs := [8, 11]) (by kernel_rfl) (by simp) ?_
                refine AllReadyH.cons rfl (fun K hK => ?_) (AllReadyH.cons rfl (fun K hK => ?_) AllReadyH.nil)
                · go_simp
                  try rw [cv43 BZwq7x.out]
                  try go_simp
                  refine hK.out _ _ (Y17.out _ Kwq7x.out) (fun hG2 => ?_)
                  try simp only [Act.put, List.setIfInBounds_toArray, List.set_cons_zero, List.set_cons_succ]
                  clear hK K
                  refine ah_take (i := 9) (v := ?_) (some 102) rfl rfl (by kernel_rfl) (by kernel_rfl) (by kernel_rfl) (fun _ _ _ h => h) (by kernel_rfl) ?_ (by assumption) ?_
                  rotate_left
                  · (intro w hSw; (try dsimp only at hSw); go_simp; (first | done | with_reducible rfl))
                  simp only [Act.put, List.setIfInBounds_toArray, List.set_cons_zero, List.set_cons_succ]
                  refine ah_take (i := 10) (v := ?_) (some 103) rfl rfl (by kernel_rfl) (by kernel_rfl) (by kernel_rfl) (fun _ _ _ h => h) (by kernel_rfl) ?_ (by assumption) ?_
                  rotate_left
                  · (intro w hSw; (try dsimp only at hSw); go_simp; (first | done | with_reducible rfl))
                  simp only [Act.put, List.setIfInBounds_toArray, List.set_cons_zero, List.set_cons_succ]
                  refine wpAnyH_ready (rs := [11]) (by kernel_rfl) (by simp) ?_
                  refine AllReadyH.cons rfl (fun K hK => ?_) AllReadyH.nil
                  go_simp
                  obtain ⟨wq11x, hwq11x⟩ : ∃ wq11x, wq7x.alloc (.cells (#[.string (⟨#[]⟩ : ByteArray), .int .i64 0]) 40) = wq11x := ⟨_, rfl⟩
                  rw [hwq11x]
                  have Kwq11x := Lib.hid (show Below wr.heap.size wr wq11x by rw [← hwq11x]; exact (Kwq7x.out.alloc Kwq7x.out.size _))
                  have BNwq11x := Lib.hid (show Blk wq11x wq7x.heap.size 40 (#[.string (⟨#[]⟩ : ByteArray), .int .i64 0]) by rw [← hwq11x]; exact (Blk.made _ _ _))
                  have ZBNwq11x := Lib.hid (show wr.heap.size ≤ wq7x.heap.size by exact Kwq7x.out.size)
                  have BZywq11x := Lib.hid (show Blk wq11x wr.heap.size 5 (zb (k + 40)) by rw [← hwq11x]; exact (BZwq7x.out.alloc _))
                  clear hwq11x
                  refine hK.out _ _ (Y17.out _ Kwq11x.out) (fun hG3 => ?_)
                  try simp only [Act.put, List.setIfInBounds_toArray, List.set_cons_zero, List.set_cons_succ]
                  clear hK K
                  refine wpAnyH_ready (rs := [12]) (by kernel_rfl) (by simp) ?_
                  refine AllReadyH.cons rfl (fun K hK => ?_) AllReadyH.nil
                  have t0 : wq11x.cell? ⟨wq7x.heap.size, 0, none⟩ = some (.string (⟨#[]⟩ : ByteArray)) := BNwq11x.out.cell 0
                  have q0 := BNwq11x.out.free 0
                  have t1 : (wq11x.setCell ⟨wq7x.heap.size, 0, none⟩ (.string (nm ++ zs (k + 40)))).cell? ⟨wq7x.heap.size, 1, none⟩ = some (.int .i64 0) := (BNwq11x.out.put 0 _).cell 1
                  have q1 : (wq11x.setCell ⟨wq7x.heap.size, 0, none⟩ (.string (nm ++ zs (k + 40)))).frozen? ⟨wq7x.heap.size, 1, none⟩ = false := (BNwq11x.out.put 0 _).free 1
                  go_simp
                  have KF := Lib.hid ((Kwq11x.out.setCell (p := ⟨wq7x.heap.size, 0, none⟩) ZBNwq11x.out (.string (nm ++ zs (k + 40)))).setCell (p := ⟨wq7x.heap.size, 1, none⟩) ZBNwq11x.out (.int .i64 0))
                  have BF := Lib.hid ((BNwq11x.out.put 0 (.string (nm ++ zs (k + 40)))).put 1 (.int .i64 0))
                  refine hK.out _ _ (Y17.out _ KF.out) (fun hG4 => ?_)
                  try simp only [Act.put, List.setIfInBounds_toArray, List.set_cons_zero, List.set_cons_succ]
                  clear hK K
                  refine wpAnyH_done (by kernel_rfl) ?_ _
                  try clear hG1 hG2 hG3 hG4 hS0
                  go_wp2_with fail
                  go_meet
                  case rel => exact ⟨_, _, rfl, hcs, BF.out, ZBNwq11x.out, KF.out⟩
                · go_simp
                  obtain ⟨wq11x, hwq11x⟩ : ∃ wq11x, wq7x.alloc (.cells (#[.string (⟨#[]⟩ : ByteArray), .int .i64 0]) 40) = wq11x := ⟨_, rfl⟩
                  rw [hwq11x]
                  have Kwq11x := Lib.hid (show Below wr.heap.size wr wq11x by rw [← hwq11x]; exact (Kwq7x.out.alloc Kwq7x.out.size _))
                  have BNwq11x := Lib.hid (show Blk wq11x wq7x.heap.size 40 (#[.string (⟨#[]⟩ : ByteArray), .int .i64 0]) by rw [← hwq11x]; exact (Blk.made _ _ _))
                  have ZBNwq11x := Lib.hid (show wr.heap.size ≤ wq7x.heap.size by exact Kwq7x.out.size)
                  have BZywq11x := Lib.hid (show Blk wq11x wr.heap.size 5 (zb (k + 40)) by rw [← hwq11x]; exact (BZwq7x.out.alloc _))
                  clear hwq11x
                  refine hK.out _ _ (Y17.out _ Kwq11x.out) (fun hG2 => ?_)
                  try simp only [Act.put, List.setIfInBounds_toArray, List.set_cons_zero, List.set_cons_succ]
                  clear hK K
                  refine wpAnyH_ready (rs := [8]) (by kernel_rfl) (by simp) ?_
                  refine AllReadyH.cons rfl (fun K hK => ?_) AllReadyH.nil
                  go_simp
                  try rw [cv43 BZywq11x.out]
                  try go_simp
                  refine hK.out _ _ (Y17.out _ Kwq11x.out) (fun hG3 => ?_)
                  try simp only [Act.put, List.setIfInBounds_toArray, List.set_cons_zero, List.set_cons_succ]
                  clear hK K
                  refine ah_take (i := 9) (v := ?_) (some 102) rfl rfl (by kernel_rfl) (by kernel_rfl) (by kernel_rfl) (fun _ _ _ h => h) (by kernel_rfl) ?_ (by assumption) ?_
                  rotate_left
                  · (intro w hSw; (try dsimp only at hSw); go_simp; (first | done | with_reducible rfl))
                  simp only [Act.put, List.setIfInBounds_toArray, List.set_cons_zero, List.set_cons_succ]
                  refine ah_take (i := 10) (v := ?_) (some 103) rfl rfl (by kernel_rfl) (by kernel_rfl) (by kernel_rfl) (fun _ _ _ h => h) (by kernel_rfl) ?_ (by assumption) ?_
                  rotate_left
                  · (intro w hSw; (try dsimp only at hSw); go_simp; (first | done | with_reducible rfl))
                  simp only [Act.put, List.setIfInBounds_toArray, List.set_cons_zero, List.set_cons_succ]
                  refine wpAnyH_ready (rs := [12]) (by kernel_rfl) (by simp) ?_
                  refine AllReadyH.cons rfl (fun K hK => ?_) AllReadyH.nil
                  have t0 : wq11x.cell? ⟨wq7x.heap.size, 0, none⟩ = some (.string (⟨#[]⟩ : ByteArray)) := BNwq11x.out.cell 0
                  have q0 := BNwq11x.out.free 0
                  have t1 : (wq11x.setCell ⟨wq7x.heap.size, 0, none⟩ (.string (nm ++ zs (k + 40)))).cell? ⟨wq7x.heap.size, 1, none⟩ = some (.int .i64 0) := (BNwq11x.out.put 0 _).cell 1
                  have q1 : (wq11x.setCell ⟨wq7x.heap.size, 0, none⟩ (.string (nm ++ zs (k + 40)))).frozen? ⟨wq7x.heap.size, 1, none⟩ = false := (BNwq11x.out.put 0 _).free 1
                  go_simp
                  have KF := Lib.hid ((Kwq11x.out.setCell (p := ⟨wq7x.heap.size, 0, none⟩) ZBNwq11x.out (.string (nm ++ zs (k + 40)))).setCell (p := ⟨wq7x.heap.size, 1, none⟩) ZBNwq11x.out (.int .i64 0))
                  have BF := Lib.hid ((BNwq11x.out.put 0 (.string (nm ++ zs (k + 40)))).put 1 (.int .i64 0))
                  refine hK.out _ _ (Y17.out _ KF.out) (fun hG4 => ?_)
                  try simp only [Act.put, List.setIfInBounds_toArray, List.set_cons_zero, List.set_cons_succ]
                  clear hK K
                  refine wpAnyH_done (by kernel_rfl) ?_ _
                  try clear hG1 hG2 hG3 hG4 hS0
                  go_wp2_with fail
                  go_meet
                  case rel => exact ⟨_, _, rfl, hcs, BF.out, ZBNwq11x.out, KF.out⟩
              · go_simp
                obtain ⟨wq11x, hwq11x⟩ : ∃ wq11x, (wr.alloc (.cells (#[.string (⟨#[]⟩ : ByteArray), .int .i64 0]) 40)).drew = wq11x := ⟨_, rfl⟩
                rw [hwq11x]
                have Kwq11x := Lib.hid (show Below wr.heap.size wr wq11x by rw [← hwq11x]; exact (KR0.out.alloc KR0.out.size _).drew)
                have BNwq11x := Lib.hid (show Blk wq11x wr.heap.size 40 (#[.string (⟨#[]⟩ : ByteArray), .int .i64 0]) by rw [← hwq11x]; exact (Blk.made _ _ _).drew)
                have ZBNwq11x := Lib.hid (show wr.heap.size ≤ wr.heap.size by exact KR0.out.size)
                clear hwq11x
                refine hK.out _ _ (Y17.out _ Kwq11x.out) (fun hG1 => ?_)
                try simp only [Act.put, List.setIfInBounds_toArray, List.set_cons_zero, List.set_cons_succ]
                clear hK K
                refine wpAnyH_ready (rs := [7]) (by kernel_rfl) (by simp) ?_
                refine AllReadyH.cons rfl (fun K hK => ?_) AllReadyH.nil
                go_simp
                first | rw [hwk, mk43p k (by omega)] | rw [mk43p k (by omega)]
                go_simp
                obtain ⟨wq7x, hwq7x⟩ : ∃ wq7x, wq11x.alloc (.cells (zb (k + 40)) 5) = wq7x := ⟨_, rfl⟩
                rw [hwq7x]
                have Kwq7x := Lib.hid (show Below wr.heap.size wr wq7x by rw [← hwq7x]; exact (Kwq11x.out.alloc Kwq11x.out.size _))
                have BZwq7x := Lib.hid (show Blk wq7x wq11x.heap.size 5 (zb (k + 40)) by rw [← hwq7x]; exact (Blk.made _ _ _))
                have ZBZwq7x := Lib.hid (show wr.heap.size ≤ wq11x.heap.size by exact Kwq11x.out.size)
                have BNywq7x := Lib.hid (show Blk wq7x wr.heap.size 40 (#[.string (⟨#[]⟩ : ByteArray), .int .i64 0]) by rw [← hwq7x]; exact (BNwq11x.out.alloc _))
                clear hwq7x
                refine hK.out _ _ (Y17.out _ Kwq7x.out) (fun hG2 => ?_)
                try simp only [Act.put, List.setIfInBounds_toArray, List.set_cons_zero, List.set_cons_succ]
                clear hK K
                refine wpAnyH_ready (rs := [8]) (by kernel_rfl) (by simp) ?_
                refine AllReadyH.cons rfl (fun K hK => ?_) AllReadyH.nil
                go_simp
                try rw [cv43 BZwq7x.out]
                try go_simp
                refine hK.out _ _ (Y17.out _ Kwq7x.out) (fun hG3 => ?_)
                try simp only [Act.put, List.setIfInBounds_toArray, List.set_cons_zero, List.set_cons_succ]
                clear hK K
                refine ah_take (i := 9) (v := ?_) (some 102) rfl rfl (by kernel_rfl) (by kernel_rfl) (by kernel_rfl) (fun _ _ _ h => h) (by kernel_rfl) ?_ (by assumption) ?_
                rotate_left
                · (intro w hSw; (try dsimp only at hSw); go_simp; (first | done | with_reducible rfl))
                simp only [Act.put, List.setIfInBounds_toArray, List.set_cons_zero, List.set_cons_succ]
                refine ah_take (i := 10) (v := ?_) (some 103) rfl rfl (by kernel_rfl) (by kernel_rfl) (by kernel_rfl) (fun _ _ _ h => h) (by kernel_rfl) ?_ (by assumption) ?_
                rotate_left
                · (intro w hSw; (try dsimp only at hSw); go_simp; (first | done | with_reducible rfl))
                simp only [Act.put, List.setIfInBounds_toArray, List.set_cons_zero, List.set_cons_succ]
                refine wpAnyH_ready (rs := [12]) (by kernel_rfl) (by simp) ?_
                refine AllReadyH.cons rfl (fun K hK => ?_) AllReadyH.nil
                have t0 : wq7x.cell? ⟨wr.heap.size, 0, none⟩ = some (.string (⟨#[]⟩ : ByteArray)) := BNywq7x.out.cell 0
                have q0 := BNywq7x.out.free 0
                have t1 : (wq7x.setCell ⟨wr.heap.size, 0, none⟩ (.string (nm ++ zs (k + 40)))).cell? ⟨wr.heap.size, 1, none⟩ = some (.int .i64 0) := (BNywq7x.out.put 0 _).cell 1
                have q1 : (wq7x.setCell ⟨wr.heap.size, 0, none⟩ (.string (nm ++ zs (k + 40)))).frozen? ⟨wr.heap.size, 1, none⟩ = false := (BNywq7x.out.put 0 _).free 1
                go_simp
                have KF := Lib.hid ((Kwq7x.out.setCell (p := ⟨wr.heap.size, 0, none⟩) ZBNwq11x.out (.string (nm ++ zs (k + 40)))).setCell (p := ⟨wr.heap.size, 1, none⟩) ZBNwq11x.out (.int .i64 0))
                have BF := Lib.hid ((BNywq7x.out.put 0 (.string (nm ++ zs (k + 40)))).put 1 (.int .i64 0))
                refine hK.out _ _ (Y17.out _ KF.out) (fun hG4 => ?_)
                try simp only [Act.put, List.setIfInBounds_toArray, List.set_cons_zero, List.set_cons_succ]
                clear hK K
                refine wpAnyH_done (by kernel_rfl) ?_ _
                try clear hG1 hG2 hG3 hG4 hS0
                go_wp2_with fail
                go_meet
                case rel => exact ⟨_, _, rfl, hcs, BF.out, ZBNwq11x.out, KF.out⟩
            case rest =>
              obtain ⟨xb, sx, rfl, hsx, hbx, hxb, hkx⟩ := hcut
              have TWc := Lib.hid (TWr.out.below hkx)
              have KCc := Lib.hid (KR.out.trans (hkx.mono KR.out.size))
              have BXh := Lib.hid hbx
              have NXh : Hid (some xb ≠ (Value.slice Aa k ca).ownBlock ∧ some xb ≠ u12.ownBlock) := Lib.hid ⟨fun e => absurd (TWr.out.ra.lt _ e.symm).2 (Nat.not_lt.2 hxb), fun e => absurd (TWr.out.rb.lt _ e.symm).2 (Nat.not_lt.2 hxb)⟩
              clear hbx hxb hkx y0 hzs hcs hcat hwk hcat2 hcat3
              go_upto_region 18 with fail
              refine wp_region_held_drew (S := (fun V : World => V.cell? ⟨xb, 0, none⟩ = some (.string sx) ∧ V.cell? ⟨xb, 1, none⟩ = some (.int .i64 0))) (by kernel_rfl) ⟨BXh.out.drew.cell 0, BXh.out.drew.cell 1⟩ (fun hS0 => ?_)
              refine ah_take (i := 0) (v := ?_) (some 104) rfl rfl (by kernel_rfl) (by kernel_rfl) (by kernel_rfl) (fun _ _ _ h => h) (by kernel_rfl) ?_ (by assumption) ?_
              rotate_left
              · (intro w hSw; (try dsimp only at hSw); go_simp; (first | done | with_reducible rfl))
              simp only [Act.put, List.setIfInBounds_toArray, List.set_cons_zero, List.set_cons_succ]
              refine ah_take (i := 1) (v := ?_) (some 105) rfl rfl (by kernel_rfl) (by kernel_rfl) (by kernel_rfl) (fun _ _ _ h => h) (by kernel_rfl) ?_ (by assumption) ?_
              rotate_left
              · (intro w hSw; (try dsimp only at hSw); go_simp; (first | done | with_reducible rfl))
              simp only [Act.put, List.setIfInBounds_toArray, List.set_cons_zero, List.set_cons_succ]
              refine ah_take (i := 4) (v := ?_) (some 108) rfl rfl (by kernel_rfl) (by kernel_rfl) (by kernel_rfl) (fun _ _ _ h => h) (by kernel_rfl) ?_ (by assumption) ?_
              rotate_left
              · (intro w hSw; (try dsimp only at hSw); go_simp; (first | done | with_reducible rfl))
              simp only [Act.put, List.setIfInBounds_toArray, List.set_cons_zero, List.set_cons_succ]
              refine ah_take (i := 5) (v := ?_) (some 109) rfl rfl (by kernel_rfl) (by kernel_rfl) (by kernel_rfl) (fun _ _ _ h => h) (by kernel_rfl) ?_ (by assumption) ?_
              rotate_left
              · (intro w hSw; (try dsimp only at hSw); go_simp; (first | done | with_reducible rfl))
              simp only [Act.put, List.setIfInBounds_toArray, List.set_cons_zero, List.set_cons_succ]
              refine wpAnyH_ready (rs := [2, 6]) (by kernel_rfl) (by simp) ?_
              refine AllReadyH.cons rfl (fun K hK => ?_) (AllReadyH.cons rfl (fun K hK => ?_) AllReadyH.nil)
              · go_simp
                obtain ⟨webAx, hwebAx⟩ : ∃ webAx, (wc.alloc (.cells #[.string sx, .int .i64 0] 40)).drew = webAx := ⟨_, rfl⟩
                rw [hwebAx]
                have TwebAx := Lib.hid (show Two w1.heap.size webAx (.slice Aa k ca) u12 k k Sa Sb by rw [← hwebAx]; exact (TWc.out.alloc (.cells #[.string sx, .int .i64 0] 40)).drew)
                have KwebAx := Lib.hid (show Below w1.heap.size w1 webAx by rw [← hwebAx]; exact (KCc.out.alloc KCc.out.size (.cells #[.string sx, .int .i64 0] 40)).drew)
                have BAwebAx := Lib.hid (show Blk webAx wc.heap.size 40 #[.string sx, .int .i64 0] by rw [← hwebAx]; exact (Blk.made _ _ _).drew)
                have NAwebAx := Lib.hid TWc.out.fresh
                have BXywebAx := Lib.hid (show Blk webAx xb 40 #[.string sx, .int .i64 0] by rw [← hwebAx]; exact (BXh.out.alloc (.cells #[.string sx, .int .i64 0] 40)).drew)
                clear hwebAx
                refine hK.out _ _ ⟨BXywebAx.out.cell 0, BXywebAx.out.cell 1⟩ (fun hHe1 => ?_)
                try simp only [Act.put, List.setIfInBounds_toArray, List.set_cons_zero, List.set_cons_succ]
                clear hK K
                refine wpAnyH_ready (rs := [3, 6]) (by kernel_rfl) (by simp) ?_
                refine AllReadyH.cons rfl (fun K hK => ?_) (AllReadyH.cons rfl (fun K hK => ?_) AllReadyH.nil)
                · refine step_append_u rfl 107 rfl _ _ rfl w1.heap.size _ k _ rfl TwebAx.out.ra ⟨wc.heap.size, 0, none⟩ 1 1 [.string sx, .int .i64 0] rfl rfl (World.news_of_block BAwebAx.out) (one_two _ _) (by omega) KwebAx.out.size ?_
                  intro vAweaAx weaAx rweaAx gweaAx hweaAx
                  have KweaAx := Lib.hid (KwebAx.out.grown gweaAx KwebAx.out.size (fun i e => (TwebAx.out.ra.lt i e).1))
                  have TweaAx := Lib.hid (TwebAx.out.moreA (u := (sx, 0)) rweaAx gweaAx hweaAx)
                  have BXzweaAx := Lib.hid (BXywebAx.out.grown gweaAx NXh.out.1)
                  clear rweaAx gweaAx hweaAx
                  refine hK.out _ _ ⟨BXzweaAx.out.cell 0, BXzweaAx.out.cell 1⟩ (fun hHe2 => ?_)
                  try simp only [Act.put, List.setIfInBounds_toArray, List.set_cons_zero, List.set_cons_succ]
                  clear hK K
                  refine wpAnyH_ready (rs := [6]) (by kernel_rfl) (by simp) ?_
                  refine AllReadyH.cons rfl (fun K hK => ?_) AllReadyH.nil
                  go_simp
                  obtain ⟨webBx, hwebBx⟩ : ∃ webBx, weaAx.alloc (.cells #[.string sx, .int .i64 0] 40) = webBx := ⟨_, rfl⟩
                  rw [hwebBx]
                  have TwebBx := Lib.hid (show Two w1.heap.size webBx vAweaAx u12 (k + 1) k (snoc Sa k (sx, 0)) Sb by rw [← hwebBx]; exact (TweaAx.out.alloc (.cells #[.string sx, .int .i64 0] 40)))
                  have KwebBx := Lib.hid (show Below w1.heap.size w1 webBx by rw [← hwebBx]; exact (KweaAx.out.alloc KweaAx.out.size (.cells #[.string sx, .int .i64 0] 40)))
                  have BBwebBx := Lib.hid (show Blk webBx weaAx.heap.size 40 #[.string sx, .int .i64 0] by rw [← hwebBx]; exact (Blk.made _ _ _))
                  have NBwebBx := Lib.hid TweaAx.out.fresh
                  have BXywebBx := Lib.hid (show Blk webBx xb 40 #[.string sx, .int .i64 0] by rw [← hwebBx]; exact (BXzweaAx.out.alloc (.cells #[.string sx, .int .i64 0] 40)))
                  clear hwebBx
                  refine hK.out _ _ ⟨BXywebBx.out.cell 0, BXywebBx.out.cell 1⟩ (fun hHe3 => ?_)
                  try simp only [Act.put, List.setIfInBounds_toArray, List.set_cons_zero, List.set_cons_succ]
                  clear hK K
                  refine wpAnyH_ready (rs := [7]) (by kernel_rfl) (by simp) ?_
                  refine AllReadyH.cons rfl (fun K hK => ?_) AllReadyH.nil
                  refine step_append_u rfl 111 rfl _ _ rfl w1.heap.size _ k _ rfl TwebBx.out.rb ⟨weaAx.heap.size, 0, none⟩ 1 1 [.string sx, .int .i64 0] rfl rfl (World.news_of_block BBwebBx.out) (one_two _ _) (by omega) KwebBx.out.size ?_
                  intro vBweaBx weaBx rweaBx gweaBx hweaBx
                  have KweaBx := Lib.hid (KwebBx.out.grown gweaBx KwebBx.out.size (fun i e => (TwebBx.out.rb.lt i e).1))
                  have TweaBx := Lib.hid (TwebBx.out.moreB (u := (sx, 0)) rweaBx gweaBx hweaBx)
                  have BXzweaBx := Lib.hid (BXywebBx.out.grown gweaBx NXh.out.2)
                  clear rweaBx gweaBx hweaBx
                  refine hK.out _ _ ⟨BXzweaBx.out.cell 0, BXzweaBx.out.cell 1⟩ (fun hHe4 => ?_)
                  try simp only [Act.put, List.setIfInBounds_toArray, List.set_cons_zero, List.set_cons_succ]
                  clear hK K
                  refine ah_take (i := 8) (v := ?_) (some 11) rfl rfl (by kernel_rfl) (by kernel_rfl) (by kernel_rfl) (fun _ _ _ h => h) (by kernel_rfl) ?_ (by assumption) ?_
                  rotate_left
                  · (intro w hSw; (try dsimp only at hSw); go_simp; (first | done | with_reducible rfl))
                  simp only [Act.put, List.setIfInBounds_toArray, List.set_cons_zero, List.set_cons_succ]
                  refine ah_take (i := 9) (v := ?_) (some 12) rfl rfl (by kernel_rfl) (by kernel_rfl) (by kernel_rfl) (fun _ _ _ h => h) (by kernel_rfl) ?_ (by assumption) ?_
                  rotate_left
                  · (intro w hSw; (try dsimp only at hSw); go_simp; (first | done | with_reducible rfl))
                  simp only [Act.put, List.setIfInBounds_toArray, List.set_cons_zero, List.set_cons_succ]
                  refine wpAnyH_done (by kernel_rfl) ?_ _
                  try clear hHe1 hHe2 hHe3 hHe4 hS0
                  obtain ⟨An, cn, rfl, _, _⟩ := own_units TweaBx.out.ra (by omega)
                  have hfx : Fits (snoc Sa k (sx, 0)) (k + 1) := fun j hj => by
                    unfold snoc
                    split
                    · show sx.size ≤ maxLen
                      unfold maxLen
                      omega
                    · exact FAr.out j (by omega)
                  have hfin : Two w1.heap.size weaBx _ _ (k + 1) (k + 1) (snoc Sa k (sx, 0)) (snoc Sb k (sx, 0)) := TweaBx.out
                  have HFIN := Lib.hid hfin
                  have HFX := Lib.hid hfx
                  clear hfin hfx
                  go_wp2_with fail
                  go_roundw
                  case rel => exact ⟨k + 1, _, _, by omega, by omega, HFIN.out, HFX.out, rfl, KweaBx.out⟩
                  case measure => simp [lenV]; omega
                · go_simp
                  obtain ⟨webBx, hwebBx⟩ : ∃ webBx, webAx.alloc (.cells #[.string sx, .int .i64 0] 40) = webBx := ⟨_, rfl⟩
                  rw [hwebBx]
                  have TwebBx := Lib.hid (show Two w1.heap.size webBx (.slice Aa k ca) u12 k k Sa Sb by rw [← hwebBx]; exact (TwebAx.out.alloc (.cells #[.string sx, .int .i64 0] 40)))
                  have KwebBx := Lib.hid (show Below w1.heap.size w1 webBx by rw [← hwebBx]; exact (KwebAx.out.alloc KwebAx.out.size (.cells #[.string sx, .int .i64 0] 40)))
                  have BBwebBx := Lib.hid (show Blk webBx webAx.heap.size 40 #[.string sx, .int .i64 0] by rw [← hwebBx]; exact (Blk.made _ _ _))
                  have NBwebBx := Lib.hid TwebAx.out.fresh
                  have BAywebBx := Lib.hid (show Blk webBx wc.heap.size 40 #[.string sx, .int .i64 0] by rw [← hwebBx]; exact (BAwebAx.out.alloc (.cells #[.string sx, .int .i64 0] 40)))
                  have BXywebBx := Lib.hid (show Blk webBx xb 40 #[.string sx, .int .i64 0] by rw [← hwebBx]; exact (BXywebAx.out.alloc (.cells #[.string sx, .int .i64 0] 40)))
                  clear hwebBx
                  refine hK.out _ _ ⟨BXywebBx.out.cell 0, BXywebBx.out.cell 1⟩ (fun hHe2 => ?_)
                  try simp only [Act.put, List.setIfInBounds_toArray, List.set_cons_zero, List.set_cons_succ]
                  clear hK K
                  refine wpAnyH_ready (rs := [3]) (by kernel_rfl) (by simp) ?_
                  refine AllReadyH.cons rfl (fun K hK => ?_) AllReadyH.nil
                  refine step_append_u rfl 107 rfl _ _ rfl w1.heap.size _ k _ rfl TwebBx.out.ra ⟨wc.heap.size, 0, none⟩ 1 1 [.string sx, .int .i64 0] rfl rfl (World.news_of_block BAywebBx.out) (one_two _ _) (by omega) KwebBx.out.size ?_
                  intro vAweaAx weaAx rweaAx gweaAx hweaAx
                  have KweaAx := Lib.hid (KwebBx.out.grown gweaAx KwebBx.out.size (fun i e => (TwebBx.out.ra.lt i e).1))
                  have TweaAx := Lib.hid (TwebBx.out.moreA (u := (sx, 0)) rweaAx gweaAx hweaAx)
                  have BBzweaAx := Lib.hid (BBwebBx.out.grown gweaAx NBwebBx.out.1)
                  have BXzweaAx := Lib.hid (BXywebBx.out.grown gweaAx NXh.out.1)
                  clear rweaAx gweaAx hweaAx
                  refine hK.out _ _ ⟨BXzweaAx.out.cell 0, BXzweaAx.out.cell 1⟩ (fun hHe3 => ?_)
                  try simp only [Act.put, List.setIfInBounds_toArray, List.set_cons_zero, List.set_cons_succ]
                  clear hK K
                  refine wpAnyH_ready (rs := [7]) (by kernel_rfl) (by simp) ?_
                  refine AllReadyH.cons rfl (fun K hK => ?_) AllReadyH.nil
                  refine step_append_u rfl 111 rfl _ _ rfl w1.heap.size _ k _ rfl TweaAx.out.rb ⟨webAx.heap.size, 0, none⟩ 1 1 [.string sx, .int .i64 0] rfl rfl (World.news_of_block BBzweaAx.out) (one_two _ _) (by omega) KweaAx.out.size ?_
                  intro vBweaBx weaBx rweaBx gweaBx hweaBx
                  have KweaBx := Lib.hid (KweaAx.out.grown gweaBx KweaAx.out.size (fun i e => (TweaAx.out.rb.lt i e).1))
                  have TweaBx := Lib.hid (TweaAx.out.moreB (u := (sx, 0)) rweaBx gweaBx hweaBx)
                  have BXzweaBx := Lib.hid (BXzweaAx.out.grown gweaBx NXh.out.2)
                  clear rweaBx gweaBx hweaBx
                  refine hK.out _ _ ⟨BXzweaBx.out.cell 0, BXzweaBx.out.cell 1⟩ (fun hHe4 => ?_)
                  try simp only [Act.put, List.setIfInBounds_toArray, List.set_cons_zero, List.set_cons_succ]
                  clear hK K
                  refine ah_take (i := 8) (v := ?_) (some 11) rfl rfl (by kernel_rfl) (by kernel_rfl) (by kernel_rfl) (fun _ _ _ h => h) (by kernel_rfl) ?_ (by assumption) ?_
                  rotate_left
                  · (intro w hSw; (try dsimp only at hSw); go_simp; (first | done | with_reducible rfl))
                  simp only [Act.put, List.setIfInBounds_toArray, List.set_cons_zero, List.set_cons_succ]
                  refine ah_take (i := 9) (v := ?_) (some 12) rfl rfl (by kernel_rfl) (by kernel_rfl) (by kernel_rfl) (fun _ _ _ h => h) (by kernel_rfl) ?_ (by assumption) ?_
                  rotate_left
                  · (intro w hSw; (try dsimp only at hSw); go_simp; (first | done | with_reducible rfl))
                  simp only [Act.put, List.setIfInBounds_toArray, List.set_cons_zero, List.set_cons_succ]
                  refine wpAnyH_done (by kernel_rfl) ?_ _
                  try clear hHe1 hHe2 hHe3 hHe4 hS0
                  obtain ⟨An, cn, rfl, _, _⟩ := own_units TweaBx.out.ra (by omega)
                  have hfx : Fits (snoc Sa k (sx, 0)) (k + 1) := fun j hj => by
                    unfold snoc
                    split
                    · show sx.size ≤ maxLen
                      unfold maxLen
                      omega
                    · exact FAr.out j (by omega)
                  have hfin : Two w1.heap.size weaBx _ _ (k + 1) (k + 1) (snoc Sa k (sx, 0)) (snoc Sb k (sx, 0)) := TweaBx.out
                  have HFIN := Lib.hid hfin
                  have HFX := Lib.hid hfx
                  clear hfin hfx
                  go_wp2_with fail
                  go_roundw
                  case rel => exact ⟨k + 1, _, _, by omega, by omega, HFIN.out, HFX.out, rfl, KweaBx.out⟩
                  case measure => simp [lenV]; omega
              · go_simp
                obtain ⟨webBx, hwebBx⟩ : ∃ webBx, (wc.alloc (.cells #[.string sx, .int .i64 0] 40)).drew = webBx := ⟨_, rfl⟩
                rw [hwebBx]
                have TwebBx := Lib.hid (show Two w1.heap.size webBx (.slice Aa k ca) u12 k k Sa Sb by rw [← hwebBx]; exact (TWc.out.alloc (.cells #[.string sx, .int .i64 0] 40)).drew)
                have KwebBx := Lib.hid (show Below w1.heap.size w1 webBx by rw [← hwebBx]; exact (KCc.out.alloc KCc.out.size (.cells #[.string sx, .int .i64 0] 40)).drew)
                have BBwebBx := Lib.hid (show Blk webBx wc.heap.size 40 #[.string sx, .int .i64 0] by rw [← hwebBx]; exact (Blk.made _ _ _).drew)
                have NBwebBx := Lib.hid TWc.out.fresh
                have BXywebBx := Lib.hid (show Blk webBx xb 40 #[.string sx, .int .i64 0] by rw [← hwebBx]; exact (BXh.out.alloc (.cells #[.string sx, .int .i64 0] 40)).drew)
                clear hwebBx
                refine hK.out _ _ ⟨BXywebBx.out.cell 0, BXywebBx.out.cell 1⟩ (fun hHe1 => ?_)
                try simp only [Act.put, List.setIfInBounds_toArray, List.set_cons_zero, List.set_cons_succ]
                clear hK K
                refine wpAnyH_ready (rs := [2]) (by kernel_rfl) (by simp) ?_
                refine AllReadyH.cons rfl (fun K hK => ?_) AllReadyH.nil
                go_simp
                obtain ⟨webAx, hwebAx⟩ : ∃ webAx, webBx.alloc (.cells #[.string sx, .int .i64 0] 40) = webAx := ⟨_, rfl⟩
                rw [hwebAx]
                have TwebAx := Lib.hid (show Two w1.heap.size webAx (.slice Aa k ca) u12 k k Sa Sb by rw [← hwebAx]; exact (TwebBx.out.alloc (.cells #[.string sx, .int .i64 0] 40)))
                have KwebAx := Lib.hid (show Below w1.heap.size w1 webAx by rw [← hwebAx]; exact (KwebBx.out.alloc KwebBx.out.size (.cells #[.string sx, .int .i64 0] 40)))
                have BAwebAx := Lib.hid (show Blk webAx webBx.heap.size 40 #[.string sx, .int .i64 0] by rw [← hwebAx]; exact (Blk.made _ _ _))
                have NAwebAx := Lib.hid TwebBx.out.fresh
                have BBywebAx := Lib.hid (show Blk webAx wc.heap.size 40 #[.string sx, .int .i64 0] by rw [← hwebAx]; exact (BBwebBx.out.alloc (.cells #[.string sx, .int .i64 0] 40)))
                have BXywebAx := Lib.hid (show Blk webAx xb 40 #[.string sx, .int .i64 0] by rw [← hwebAx]; exact (BXywebBx.out.alloc (.cells #[.string sx, .int .i64 0] 40)))
                clear hwebAx
                refine hK.out _ _ ⟨BXywebAx.out.cell 0, BXywebAx.out.cell 1⟩ (fun hHe2 => ?_)
                try simp only [Act.put, List.setIfInBounds_toArray, List.set_cons_zero, List.set_cons_succ]
                clear hK K
                refine wpAnyH_ready (rs := [3]) (by kernel_rfl) (by simp) ?_
                refine AllReadyH.cons rfl (fun K hK => ?_) AllReadyH.nil
                refine step_append_u rfl 107 rfl _ _ rfl w1.heap.size _ k _ rfl TwebAx.out.ra ⟨webBx.heap.size, 0, none⟩ 1 1 [.string sx, .int .i64 0] rfl rfl (World.news_of_block BAwebAx.out) (one_two _ _) (by omega) KwebAx.out.size ?_
                intro vAweaAx weaAx rweaAx gweaAx hweaAx
                have KweaAx := Lib.hid (KwebAx.out.grown gweaAx KwebAx.out.size (fun i e => (TwebAx.out.ra.lt i e).1))
                have TweaAx := Lib.hid (TwebAx.out.moreA (u := (sx, 0)) rweaAx gweaAx hweaAx)
                have BBzweaAx := Lib.hid (BBywebAx.out.grown gweaAx NBwebBx.out.1)
                have BXzweaAx := Lib.hid (BXywebAx.out.grown gweaAx NXh.out.1)
                clear rweaAx gweaAx hweaAx
                refine hK.out _ _ ⟨BXzweaAx.out.cell 0, BXzweaAx.out.cell 1⟩ (fun hHe3 => ?_)
                try simp only [Act.put, List.setIfInBounds_toArray, List.set_cons_zero, List.set_cons_succ]
                clear hK K
                refine wpAnyH_ready (rs := [7]) (by kernel_rfl) (by simp) ?_
                refine AllReadyH.cons rfl (fun K hK => ?_) AllReadyH.nil
                refine step_append_u rfl 111 rfl _ _ rfl w1.heap.size _ k _ rfl TweaAx.out.rb ⟨wc.heap.size, 0, none⟩ 1 1 [.string sx, .int .i64 0] rfl rfl (World.news_of_block BBzweaAx.out) (one_two _ _) (by omega) KweaAx.out.size ?_
                intro vBweaBx weaBx rweaBx gweaBx hweaBx
                have KweaBx := Lib.hid (KweaAx.out.grown gweaBx KweaAx.out.size (fun i e => (TweaAx.out.rb.lt i e).1))
                have TweaBx := Lib.hid (TweaAx.out.moreB (u := (sx, 0)) rweaBx gweaBx hweaBx)
                have BXzweaBx := Lib.hid (BXzweaAx.out.grown gweaBx NXh.out.2)
                clear rweaBx gweaBx hweaBx
                refine hK.out _ _ ⟨BXzweaBx.out.cell 0, BXzweaBx.out.cell 1⟩ (fun hHe4 => ?_)
                try simp only [Act.put, List.setIfInBounds_toArray, List.set_cons_zero, List.set_cons_succ]
                clear hK K
                refine ah_take (i := 8) (v := ?_) (some 11) rfl rfl (by kernel_rfl) (by kernel_rfl) (by kernel_rfl) (fun _ _ _ h => h) (by kernel_rfl) ?_ (by assumption) ?_
                rotate_left
                · (intro w hSw; (try dsimp only at hSw); go_simp; (first | done | with_reducible rfl))
                simp only [Act.put, List.setIfInBounds_toArray, List.set_cons_zero, List.set_cons_succ]
                refine ah_take (i := 9) (v := ?_) (some 12) rfl rfl (by kernel_rfl) (by kernel_rfl) (by kernel_rfl) (fun _ _ _ h => h) (by kernel_rfl) ?_ (by assumption) ?_
                rotate_left
                · (intro w hSw; (try dsimp only at hSw); go_simp; (first | done | with_reducible rfl))
                simp only [Act.put, List.setIfInBounds_toArray, List.set_cons_zero, List.set_cons_succ]
                refine wpAnyH_done (by kernel_rfl) ?_ _
                try clear hHe1 hHe2 hHe3 hHe4 hS0
                obtain ⟨An, cn, rfl, _, _⟩ := own_units TweaBx.out.ra (by omega)
                have hfx : Fits (snoc Sa k (sx, 0)) (k + 1) := fun j hj => by
                  unfold snoc
                  split
                  · show sx.size ≤ maxLen
                    unfold maxLen
                    omega
                  · exact FAr.out j (by omega)
                have hfin : Two w1.heap.size weaBx _ _ (k + 1) (k + 1) (snoc Sa k (sx, 0)) (snoc Sb k (sx, 0)) := TweaBx.out
                have HFIN := Lib.hid hfin
                have HFX := Lib.hid hfx
                clear hfin hfx
                go_wp2_with fail
                go_roundw
                case rel => exact ⟨k + 1, _, _, by omega, by omega, HFIN.out, HFX.out, rfl, KweaBx.out⟩
                case measure => simp [lenV]; omega
          · obtain rfl : k = 9 := by omega
            obtain ⟨Ab, cb, rfl, hub, _⟩ := own_units TWr.out.rb (by omega)
            have HUa := Lib.hid HUA.out
            have HUb := Lib.hid hub
            have HFa := Lib.hid FAr.out
            have HCG : Hid (chg 9 9 Sa Sb = false) := Lib.hid (chg_many (by omega))
            rename World => wz
            have KT := Lib.hid KR.out
            clear hub
            have g9 : decide ((9 : Int) ≤ 8) = false := decide_eq_false (by omega)
            go_upto_region 19 with fail
            have M1 := Lib.hid (mixed_bad Aa Ab 9 ca 9 cb Sa Sb 0 wz HUa.out HUb.out HFa.out (by omega) HCG.out)
            go_wp2_with fail
            refine M1.out.mono ?_
            rintro e wt1 ⟨rfl, kt1⟩
            have KT1 := Lib.hid (KT.out.trans (kt1.mono KT.out.size))
            have M2 := Lib.hid (reach_bad2 Aa Ab none 9 ca 9 cb 0 0 Sa Sb wt1 (HUa.out.below kt1 (Nat.le_refl _)) (HUb.out.below kt1 (Nat.le_refl _)) HFa.out (by omega) HCG.out)
            have HUa1 := Lib.hid (HUa.out.below kt1 (Nat.le_refl _))
            have HUb1 := Lib.hid (HUb.out.below kt1 (Nat.le_refl _))
            clear kt1
            go_wp2_with fail
            refine M2.out.mono ?_
            rintro e wt2 ⟨rfl, kt2⟩
            have KT2 := Lib.hid (KT1.out.trans (kt2.mono KT1.out.size))
            have M3 := Lib.hid (order_bad2 Aa Ab none 9 ca 9 cb 0 0 Sa Sb wt2 (HUa1.out.below kt2 (Nat.le_refl _)) (HUb1.out.below kt2 (Nat.le_refl _)) HFa.out (by omega) HCG.out)
            clear kt2
            go_wp2_with fail
            refine M3.out.mono ?_
            rintro e wt3 ⟨rfl, kt3⟩
            have KT3 := Lib.hid (KT2.out.trans (kt3.mono KT2.out.size))
            clear kt3
            have M4 := Lib.hid (fun (b : Int) (hb : b < 0) => mixed_out (some ⟨oa, offa, none⟩) (some ⟨ob, offb, none⟩) n c1 n c2 S T b wt3 (HS1.out.below KT3.out (Nat.le_refl _)) (HT1.out.below KT3.out (Nat.le_refl _)) HF.out HV.out (.inl hb))
            have H2P := two_pow8' h8
            have hp0 : (0 : Int) < 2 ^ n := Int.pow_pos (by omega)
            have hpc : ((2 ^ n : Nat) : Int) = (2 : Int) ^ n := by push_cast; rfl
            have HPC := Lib.hid hpc
            have HP0 := Lib.hid hp0
            clear hpc
            go_wp2_with fail
            all_goals (
              refine (M4.out _ (by omega)).mono ?_
              rintro e wt4 ⟨rfl, kt4⟩
              have KT4 := Lib.hid (KT3.out.trans (kt4.mono KT3.out.size))
              clear kt4
              have M5 := Lib.hid (fun (b : Int) (hb : (2 : Int) ^ n ≤ b) => mixed_out (some ⟨oa, offa, none⟩) (some ⟨ob, offb, none⟩) n c1 n c2 S T b wt4 (HS1.out.below KT4.out (Nat.le_refl _)) (HT1.out.below KT4.out (Nat.le_refl _)) HF.out HV.out (.inr (by rw [HPC.out]; exact hb)))
              go_wp2_with fail
              all_goals (
                refine (M5.out _ (by first | exact Int.le_refl _ | assumption | omega)).mono ?_
                rintro e wt5 ⟨rfl, kt5⟩
                have KT5 := Lib.hid (KT4.out.trans (kt5.mono KT4.out.size))
                clear kt5
                go_wp2_with fail
                refine (awake_any wt5).mono ?_
                rintro e wt6 ⟨rfl, kt6⟩
                have KT6 := Lib.hid (KT5.out.trans (kt6.mono KT5.out.size))
                clear kt6
                go_wp2_with fail
                go_ret
                exact ⟨rfl, K1.out.trans (KT6.out.mono K1.out.size)⟩))
      | 4, _ =>
        have hq : way.tmod 5 = 4 := hq
        have hq' : way % 5 = 4 := hq'
        obtain ⟨y0, y1, y2, y3⟩ := YR.out w3 K3.out
        have hnm := HZ.out 0 hnp
        obtain ⟨nm, hnm0⟩ : ∃ nm, (S 0).1 = nm := ⟨_, rfl⟩
        rw [hnm0] at y0 hnm
        have hcat : nm.size + 1 ≤ 9223372036854775807 := by omega
        have hcat2 : ¬ (9223372036854775807 < nm.size + 1) := by omega
        clear y1 y2 y3
        go_upto_region 19 with (at_builtin; refine wpList_append_u rfl _ _ rfl w1.heap.size _ n _ rfl (TW.out.rb.alloc _) ⟨w3.heap.size, 0, none⟩ 1 1 [.string (nm ++ (⟨#[121]⟩ : ByteArray)), .int .i64 0] rfl rfl (new_two _ _ _ _) (one_two _ _) (by omega) (by have := K3.out.size; simp; omega) ?_
                                intro vb4 w4 r4 g4 h4)
        have TW4 := Lib.hid ((TW.out.alloc (.cells #[.string (nm ++ (⟨#[121]⟩ : ByteArray)), .int .i64 0] 40)).moreB (u := (nm ++ (⟨#[121]⟩ : ByteArray), 0)) r4 g4 h4)
        have KT := Lib.hid ((K3.out.alloc K3.out.size _).grown g4 (by have := K3.out.size; simp; omega) (fun i e => (TW.out.rb.lt i e).1))
        clear r4 g4 h4
        obtain ⟨Aa, ca, rfl, hua, _⟩ := own_units TW4.out.ra (by omega)
        obtain ⟨Ab, cb, rfl, hub, _⟩ := own_units TW4.out.rb (by omega)
        have HUa := Lib.hid hua
        have HUb := Lib.hid hub
        have HFa := Lib.hid HF.out
        obtain ⟨Tb, hTb⟩ : ∃ Tb, snoc T n (nm ++ (⟨#[121]⟩ : ByteArray), 0) = Tb := ⟨_, rfl⟩
        rw [hTb] at HUb
        have HCG : Hid (chg n (n + 1) S Tb = false) := Lib.hid (chg_len (by omega))
        clear hua hub TW4 hTb
        have M1 := Lib.hid (mixed_bad Aa Ab n ca (n + 1) cb S Tb 0 w4 HUa.out HUb.out HFa.out (by omega) HCG.out)
        go_wp2_with fail
        refine M1.out.mono ?_
        rintro e wt1 ⟨rfl, kt1⟩
        have KT1 := Lib.hid (KT.out.trans (kt1.mono KT.out.size))
        have M2 := Lib.hid (reach_bad2 Aa Ab none n ca (n + 1) cb 0 0 S Tb wt1 (HUa.out.below kt1 (Nat.le_refl _)) (HUb.out.below kt1 (Nat.le_refl _)) HFa.out (by omega) HCG.out)
        have HUa1 := Lib.hid (HUa.out.below kt1 (Nat.le_refl _))
        have HUb1 := Lib.hid (HUb.out.below kt1 (Nat.le_refl _))
        clear kt1
        go_wp2_with fail
        refine M2.out.mono ?_
        rintro e wt2 ⟨rfl, kt2⟩
        have KT2 := Lib.hid (KT1.out.trans (kt2.mono KT1.out.size))
        have M3 := Lib.hid (order_bad2 Aa Ab none n ca (n + 1) cb 0 0 S Tb wt2 (HUa1.out.below kt2 (Nat.le_refl _)) (HUb1.out.below kt2 (Nat.le_refl _)) HFa.out (by omega) HCG.out)
        clear kt2
        go_wp2_with fail
        refine M3.out.mono ?_
        rintro e wt3 ⟨rfl, kt3⟩
        have KT3 := Lib.hid (KT2.out.trans (kt3.mono KT2.out.size))
        clear kt3
        have M4 := Lib.hid (fun (b : Int) (hb : b < 0) => mixed_out (some ⟨oa, offa, none⟩) (some ⟨ob, offb, none⟩) n c1 n c2 S T b wt3 (HS1.out.below KT3.out (Nat.le_refl _)) (HT1.out.below KT3.out (Nat.le_refl _)) HF.out HV.out (.inl hb))
        have H2P := two_pow8' h8
        have hp0 : (0 : Int) < 2 ^ n := Int.pow_pos (by omega)
        have hpc : ((2 ^ n : Nat) : Int) = (2 : Int) ^ n := by push_cast; rfl
        have HPC := Lib.hid hpc
        have HP0 := Lib.hid hp0
        clear hpc
        go_wp2_with fail
        all_goals (
          refine (M4.out _ (by omega)).mono ?_
          rintro e wt4 ⟨rfl, kt4⟩
          have KT4 := Lib.hid (KT3.out.trans (kt4.mono KT3.out.size))
          clear kt4
          have M5 := Lib.hid (fun (b : Int) (hb : (2 : Int) ^ n ≤ b) => mixed_out (some ⟨oa, offa, none⟩) (some ⟨ob, offb, none⟩) n c1 n c2 S T b wt4 (HS1.out.below KT4.out (Nat.le_refl _)) (HT1.out.below KT4.out (Nat.le_refl _)) HF.out HV.out (.inr (by rw [HPC.out]; exact hb)))
          go_wp2_with fail
          all_goals (
            refine (M5.out _ (by first | exact Int.le_refl _ | assumption | omega)).mono ?_
            rintro e wt5 ⟨rfl, kt5⟩
            have KT5 := Lib.hid (KT4.out.trans (kt5.mono KT4.out.size))
            clear kt5
            go_wp2_with fail
            refine (awake_any wt5).mono ?_
            rintro e wt6 ⟨rfl, kt6⟩
            have KT6 := Lib.hid (KT5.out.trans (kt6.mono KT5.out.size))
            clear kt6
            go_wp2_with fail
            go_ret
            exact ⟨rfl, K1.out.trans (KT6.out.mono K1.out.size)⟩))
end Go.Proofs.Ytcjbjhkmnfegnaa
