/-
  The walk of the law CompatTells: at all rows, sets, units and numbers where the lists lie as given (RowsIn, UnitsIn), it answers true and writes below its own memory only. Conditions: the units' names are short enough (Fits), the old set's length is at most its capacity.
-/
import Derived.Test.YtcjbjhkmnfegnaaT9
namespace Go.Proofs.Ytcjbjhkmnfegnaa
open Go.RowKit Go.Shelf
set_option maxRecDepth 100000 in
set_option maxHeartbeats 4000000 in
theorem lawTells (A1 A2 A3 : Option Addr) (m c3 n c1 n2 c2 : Nat) (Rw : Nat → R) (S T : Nat → U) (a b : U) (bi : Int) (w : World) (hR : RowsIn w A3 m Rw) (hS : UnitsIn w A1 n S) (hT : UnitsIn w A2 n2 T) (hF : Fits S n) (hc1 : n ≤ c1) :
    Calls Try.prog 8 #[.slice A3 m c3, .slice A1 n c1, .slice A2 n2 c2, uV a, uV b, .int .i64 bi] w fun e w' => e = .returned (.bool true) ∧ Below w.heap.size w w' := by
  have HS := Lib.hid hS
  have HT := Lib.hid hT
  have HR := Lib.hid hR
  have HF := Lib.hid hF
  clear hS hT hR hF
  obtain ⟨an, av⟩ := a
  obtain ⟨bn, bv⟩ := b
  obtain ⟨W, hW⟩ : ∃ W, ((w.alloc (.cells #[.string an, .int .i64 av] 40)).alloc (.cells #[.string bn, .int .i64 bv] 40)).alloc (.cells #[.slice A1 n c1, .slice A2 n2 c2] 23) = W := ⟨_, rfl⟩
  have ba : Blk W w.heap.size 40 #[.string an, .int .i64 av] := by rw [← hW]; exact ((Blk.made _ _ _).alloc _).alloc _
  have bb : Blk W (w.heap.size + 1) 40 #[.string bn, .int .i64 bv] := by rw [← hW]; exact (Blk.made_at _ _ _ (by simp)).alloc _
  have bs : Blk W (w.heap.size + 1 + 1) 23 #[.slice A1 n c1, .slice A2 n2 c2] := by rw [← hW]; exact Blk.made_at _ _ _ (by simp)
  have kW : Below w.heap.size w W := by rw [← hW]; exact (((Below.refl _ _).alloc (Nat.le_refl _) _).alloc (by simp) _).alloc (by simp; omega) _
  have HW := Lib.hid hW
  have BA := Lib.hid ba
  have BB := Lib.hid bb
  have HFW := Lib.hid (few_any A1 A2 A3 m c3 n c1 n2 c2 (w.heap.size + 1 + 1) W bs)
  have KW := Lib.hid kW
  clear hW ba bb bs kW
  cases hfew : few m n n2 with
  | false =>
    rw [hfew] at HFW
    clear hfew
    go_enter Try.func8, Try.ntmps8
    go_wp2_with fail
    rw [HW.out]
    refine HFW.out.mono ?_
    rintro e w1 ⟨rfl, k1⟩
    have K1 := Lib.hid (KW.out.trans (k1.mono KW.out.size))
    clear k1
    go_wp2_with fail
    refine (awake_any w1).mono ?_
    rintro e w2 ⟨rfl, k2⟩
    have K2 := Lib.hid (K1.out.trans (k2.mono K1.out.size))
    clear k2
    go_wp2_with fail
    go_ret
    exact ⟨rfl, K2.out⟩
  | true =>
    rw [hfew] at HFW
    have hn12 : n ≤ 12 := by
      simp only [few, Bool.and_eq_true] at hfew
      exact (fewS_parts.1 hfew.1.1).2
    clear hfew
    obtain ⟨ch, hch⟩ : ∃ ch, chg n n2 S T = ch := ⟨_, rfl⟩
    have HCH := Lib.hid hch
    obtain ⟨vd, hvd⟩ : ∃ vd, (decide (n ≤ 8) && dis S n) = vd := ⟨_, rfl⟩
    have HVD := Lib.hid hvd
    have HCV : Hid (ch = true → vd = true) := Lib.hid (fun h => by
      rw [h] at hch
      obtain ⟨h1, _, h3, _⟩ := chg_parts hch
      rw [← hvd, h3]
      simp [h1])
    have H13 := Lib.hid (fun (V : World) (hV : Below w.heap.size w V) => comp_all A3 A1 m c3 n c1 Rw S V (HR.out.below hV (Nat.le_refl _)) (HS.out.below hV (Nat.le_refl _)) HF.out hc1 hn12 vd hvd)
    have H16 := Lib.hid (fun (V : World) (hV : Below w.heap.size w V) => mix_all A1 A2 n c1 n2 c2 S T bi V (HS.out.below hV (Nat.le_refl _)) (HT.out.below hV (Nat.le_refl _)) HF.out hn12 ch hch)
    have H11 := Lib.hid (fun (V : World) (hV : Below w.heap.size w V) => rea_all A1 A2 A3 n c1 n2 c2 m c3 S T Rw V (HS.out.below hV (Nat.le_refl _)) (HT.out.below hV (Nat.le_refl _)) (HR.out.below hV (Nat.le_refl _)) HF.out hc1 hn12 ch hch)
    have H12 := Lib.hid (fun (V : World) (hV : Below w.heap.size w V) => ord_all A1 A2 A3 n c1 n2 c2 m c3 S T Rw V (HS.out.below hV (Nat.le_refl _)) (HT.out.below hV (Nat.le_refl _)) (HR.out.below hV (Nat.le_refl _)) HF.out hc1 hn12 ch hch)
    have H17 := Lib.hid (fun (V : World) (hV : Below w.heap.size w V) => works_any A3 m c3 Rw (an, av) (bn, bv) V (HR.out.below hV (Nat.le_refl _)))
    have H19 := Lib.hid (fun (V : World) (hV : Below w.heap.size w V) => rworks_any A3 m c3 Rw (an, av) (bn, bv) V (HR.out.below hV (Nat.le_refl _)))
    have H20 := Lib.hid (fun (V : World) (hV : Below w.heap.size w V) => rset_any A1 n c1 S V (HS.out.below hV (Nat.le_refl _)))
    have H21 := Lib.hid (fun (V : World) (hV : Below w.heap.size w V) => rcompat_any A3 A1 m c3 n c1 Rw S V (HR.out.below hV (Nat.le_refl _)) (HS.out.below hV (Nat.le_refl _)))
    have H22 := Lib.hid (fun (V : World) (hV : Below w.heap.size w V) => rchange_any A1 A2 n c1 n2 c2 S T V (HS.out.below hV (Nat.le_refl _)) (HT.out.below hV (Nat.le_refl _)))
    rw [hvd] at H20
    rw [hch] at H22
    obtain ⟨wk, hwk⟩ : ∃ wk, works m Rw (an, av) (bn, bv) = wk := ⟨_, rfl⟩
    rw [hwk] at H17 H19
    obtain ⟨cp, hcp⟩ : ∃ cp, cmp m Rw S n = cp := ⟨_, rfl⟩
    rw [hcp] at H13 H21
    clear hwk hcp hvd hch
    obtain ⟨L, hL⟩ : ∃ L, rchL m Rw n S T = L := ⟨_, rfl⟩
    have HL := Lib.hid hL
    rw [hL] at H11
    obtain ⟨O, hO⟩ : ∃ O, OrdR m Rw n S T = O := ⟨_, rfl⟩
    have HO := Lib.hid hO
    rw [hO] at H12
    clear hL hO
    go_enter Try.func8, Try.ntmps8
    go_wp2_with fail
    rw [HW.out]
    refine HFW.out.mono ?_
    rintro e w1 ⟨rfl, k1⟩
    have K1 := Lib.hid (KW.out.trans (k1.mono KW.out.size))
    have BA1 := Lib.hid (BA.out.below k1 BA.out.lt)
    have BB1 := Lib.hid (BB.out.below k1 BB.out.lt)
    clear k1 HFW KW BA BB
    go_wp2_with fail
    refine (H13.out w1 K1.out).mono ?_
    rintro e w2 ⟨rfl, k2⟩
    have K2 := Lib.hid (K1.out.trans (k2.mono K1.out.size))
    have BA2 := Lib.hid (BA1.out.below k2 BA1.out.lt)
    have BB2 := Lib.hid (BB1.out.below k2 BB1.out.lt)
    clear k2 BA1 BB1 K1
    obtain ⟨ok, hok⟩ : ∃ ok, (vd && cp) = ok := ⟨_, rfl⟩
    have HOK := Lib.hid hok
    obtain ⟨ec, hec⟩ : ∃ ec : Int, (if vd = true then (0 : Int) else 2) = ec := ⟨_, rfl⟩
    have HEC := Lib.hid hec
    rw [hok, hec]
    clear hok hec
    go_wp2_with fail
    refine (H16.out w2 K2.out).mono ?_
    rintro e w3 ⟨⟨Am, lm, cm, fm, rfl, hm⟩, k3⟩
    have K3 := Lib.hid (K2.out.trans (k3.mono K2.out.size))
    have BA3 := Lib.hid (BA2.out.below k3 BA2.out.lt)
    have BB3 := Lib.hid (BB2.out.below k3 BB2.out.lt)
    have M3 := Lib.hid hm
    clear k3 hm BA2 BB2 K2
    go_wp2_with fail
    refine (H11.out w3 K3.out).mono ?_
    rintro e w4 ⟨⟨Ar, lr, cr, fr, rfl, hr⟩, k4⟩
    have K4 := Lib.hid (K3.out.trans (k4.mono K3.out.size))
    have BA4 := Lib.hid (BA3.out.below k4 BA3.out.lt)
    have BB4 := Lib.hid (BB3.out.below k4 BB3.out.lt)
    have M4 := Lib.hid (M3.out.below k4)
    have R4 := Lib.hid hr
    clear k4 hr BA3 BB3 K3 M3
    go_wp2_with fail
    refine (H12.out w4 K4.out).mono ?_
    rintro e w5 ⟨⟨Ao, lo, co, fo, rfl, ho⟩, k5⟩
    have K5 := Lib.hid (K4.out.trans (k5.mono K4.out.size))
    have BA5 := Lib.hid (BA4.out.below k5 BA4.out.lt)
    have BB5 := Lib.hid (BB4.out.below k5 BB4.out.lt)
    have M5 := Lib.hid (M4.out.below k5)
    have R5 := Lib.hid (R4.out.below k5)
    have O5 := Lib.hid ho
    clear k5 ho BA4 BB4 K4 M4 R4
    go_upto_region 7 with fail
    have YR : Hid (∀ V : World, Below w5.heap.size w5 V → (V.cell? ⟨w.heap.size, 0, none⟩ = some (.string an) ∧ V.cell? ⟨w.heap.size, 1, none⟩ = some (.int .i64 av) ∧ V.cell? ⟨w.heap.size + 1, 0, none⟩ = some (.string bn) ∧ V.cell? ⟨w.heap.size + 1, 1, none⟩ = some (.int .i64 bv))) := Lib.hid (fun V hV =>
      ⟨(hV.cell (p := ⟨w.heap.size, 0, none⟩) BA5.out.lt).trans (BA5.out.cell 0), (hV.cell (p := ⟨w.heap.size, 1, none⟩) BA5.out.lt).trans (BA5.out.cell 1), (hV.cell (p := ⟨w.heap.size + 1, 0, none⟩) BB5.out.lt).trans (BB5.out.cell 0), (hV.cell (p := ⟨w.heap.size + 1, 1, none⟩) BB5.out.lt).trans (BB5.out.cell 1)⟩)
    have KK0 := Lib.hid ((Below.refl w5.heap.size w5).drew)
    have KG0 := Lib.hid (K5.out.trans (KK0.out.mono K5.out.size))
    have hwk2 : (wk != wk) = false := by simp
    clear H11 H12 H13 H16 BA5 BB5
    cases vd with
    | true =>
      obtain rfl : ec = 0 := by rw [← HEC.out]; rfl
      obtain rfl : ok = cp := by rw [← HOK.out]; rfl
      have hcp2 : (ok != ok) = false := by simp
      clear HEC HOK HCV
      refine wp_region_held_drew (S := (fun V : World => (V.cell? ⟨w.heap.size, 0, none⟩ = some (.string an) ∧ V.cell? ⟨w.heap.size, 1, none⟩ = some (.int .i64 av) ∧ V.cell? ⟨w.heap.size + 1, 0, none⟩ = some (.string bn) ∧ V.cell? ⟨w.heap.size + 1, 1, none⟩ = some (.int .i64 bv)))) (by kernel_rfl) (YR.out _ KK0.out) (fun hS0 => ?_)
      refine ah_take (i := 0) (v := ?_) (some 57) rfl rfl (by kernel_rfl) (by kernel_rfl) (by kernel_rfl) (fun _ _ _ h => h) (by kernel_rfl) ?_ (by assumption) ?_
      rotate_left
      · (intro w hSw; (try dsimp only at hSw); go_simp; (first | done | with_reducible rfl))
      simp only [Act.put, List.setIfInBounds_toArray, List.set_cons_zero, List.set_cons_succ]
      refine ah_take (i := 1) (v := ?_) (some 58) rfl rfl (by kernel_rfl) (by kernel_rfl) (by kernel_rfl) (fun _ _ _ h => h) (by kernel_rfl) ?_ (by assumption) ?_
      rotate_left
      · (intro w hSw; (try dsimp only at hSw); go_simp; (first | done | with_reducible rfl))
      simp only [Act.put, List.setIfInBounds_toArray, List.set_cons_zero, List.set_cons_succ]
      refine ah_take (i := 2) (v := ?_) (some 59) rfl rfl (by kernel_rfl) (by kernel_rfl) (by kernel_rfl) (fun _ _ _ h => h) (by kernel_rfl) ?_ (by assumption) ?_
      rotate_left
      · (intro w hSw; (try dsimp only at hSw); go_simp; (first | done | with_reducible rfl))
      simp only [Act.put, List.setIfInBounds_toArray, List.set_cons_zero, List.set_cons_succ]
      refine ah_take (i := 4) (v := ?_) (some 61) rfl rfl (by kernel_rfl) (by kernel_rfl) (by kernel_rfl) (fun _ _ _ h => h) (by kernel_rfl) ?_ (by assumption) ?_
      rotate_left
      · (intro w hSw; (try dsimp only at hSw); go_simp; (first | done | with_reducible rfl))
      simp only [Act.put, List.setIfInBounds_toArray, List.set_cons_zero, List.set_cons_succ]
      refine ah_take (i := 5) (v := ?_) (some 62) rfl rfl (by kernel_rfl) (by kernel_rfl) (by kernel_rfl) (fun _ _ _ h => h) (by kernel_rfl) ?_ (by assumption) ?_
      rotate_left
      · (intro w hSw; (try dsimp only at hSw); go_simp; (first | done | with_reducible rfl))
      simp only [Act.put, List.setIfInBounds_toArray, List.set_cons_zero, List.set_cons_succ]
      refine ah_take (i := 6) (v := ?_) (some 63) rfl rfl (by kernel_rfl) (by kernel_rfl) (by kernel_rfl) (fun _ _ _ h => h) (by kernel_rfl) ?_ (by assumption) ?_
      rotate_left
      · (intro w hSw; (try dsimp only at hSw); go_simp; (first | done | with_reducible rfl))
      simp only [Act.put, List.setIfInBounds_toArray, List.set_cons_zero, List.set_cons_succ]
      refine wpAnyH_ready (rs := [3]) (by kernel_rfl) (by simp) ?_
      refine AllReadyH.cons rfl (fun K hK => ?_) AllReadyH.nil
      go_simp
      refine (H17.out w5.drew KG0.out).mono ?_
      rintro e wA ⟨rfl, kx⟩
      have KK1 := Lib.hid (KK0.out.trans (kx.mono KK0.out.size))
      have KG1 := Lib.hid (K5.out.trans (KK1.out.mono K5.out.size))
      clear kx

      refine hK.out _ _ (YR.out _ KK1.out) (fun hH1 => ?_)
      try simp only [Act.put, List.setIfInBounds_toArray, List.set_cons_zero, List.set_cons_succ]
      clear hK K
      refine wpAnyH_ready (rs := [7]) (by kernel_rfl) (by simp) ?_
      refine AllReadyH.cons rfl (fun K hK => ?_) AllReadyH.nil
      go_simp
      refine (H19.out wA KG1.out).mono ?_
      rintro e wB ⟨rfl, kx⟩
      have KK2 := Lib.hid (KK1.out.trans (kx.mono KK1.out.size))
      have KG2 := Lib.hid (K5.out.trans (KK2.out.mono K5.out.size))
      clear kx

      refine hK.out _ _ (YR.out _ KK2.out) (fun hH2 => ?_)
      try simp only [Act.put, List.setIfInBounds_toArray, List.set_cons_zero, List.set_cons_succ]
      clear hK K
      refine ah_take (i := 8) (v := ?_) (some 65) rfl rfl (by kernel_rfl) (by kernel_rfl) (by kernel_rfl) (fun _ _ _ h => h) (by kernel_rfl) ?_ (by assumption) ?_
      rotate_left
      · (intro w hSw; (try dsimp only at hSw); go_simp; (first | done | with_reducible rfl))
      simp only [Act.put, List.setIfInBounds_toArray, List.set_cons_zero, List.set_cons_succ]
      refine ah_take (i := 9) (v := ?_) (some 66) rfl rfl (by kernel_rfl) (by kernel_rfl) (by kernel_rfl) (fun _ _ _ h => h) (by kernel_rfl) ?_ (by assumption) ?_
      rotate_left
      · (intro w hSw; (try dsimp only at hSw); go_simp; (first | done | with_reducible rfl))
      simp only [Act.put, List.setIfInBounds_toArray, List.set_cons_zero, List.set_cons_succ]
      refine ah_take (i := 10) (v := ?_) (some 67) rfl rfl (by kernel_rfl) (by kernel_rfl) (by kernel_rfl) (fun _ _ _ h => h) (by kernel_rfl) ?_ (by assumption) ?_
      rotate_left
      · (intro w hSw; (try dsimp only at hSw); go_simp; (first | done | with_reducible rfl))
      simp only [Act.put, List.setIfInBounds_toArray, List.set_cons_zero, List.set_cons_succ]
      refine ah_take (i := 11) (v := ?_) (some 68) rfl rfl (by kernel_rfl) (by kernel_rfl) (by kernel_rfl) (fun _ _ _ h => h) (by kernel_rfl) ?_ (by assumption) ?_
      rotate_left
      · (intro w hSw; (try dsimp only at hSw); go_simp; (first | done | with_reducible rfl))
      simp only [Act.put, List.setIfInBounds_toArray, List.set_cons_zero, List.set_cons_succ]
      refine ah_take (i := 12) (v := ?_) (some 69) rfl rfl (by kernel_rfl) (by kernel_rfl) (by kernel_rfl) (fun _ _ _ h => h) (by kernel_rfl) ?_ (by assumption) ?_
      rotate_left
      · (intro w hSw; (try dsimp only at hSw); go_simp; (first | done | with_reducible rfl))
      simp only [Act.put, List.setIfInBounds_toArray, List.set_cons_zero, List.set_cons_succ]
      refine wpAnyH_ready (rs := [13]) (by kernel_rfl) (by simp) ?_
      refine AllReadyH.cons rfl (fun K hK => ?_) AllReadyH.nil
      go_simp
      refine (H20.out wB KG2.out).mono ?_
      rintro e wC ⟨rfl, kx⟩
      have KK3 := Lib.hid (KK2.out.trans (kx.mono KK2.out.size))
      have KG3 := Lib.hid (K5.out.trans (KK3.out.mono K5.out.size))
      clear kx

      refine hK.out _ _ (YR.out _ KK3.out) (fun hH3 => ?_)
      try simp only [Act.put, List.setIfInBounds_toArray, List.set_cons_zero, List.set_cons_succ]
      clear hK K
      refine ah_take (i := 14) (v := ?_) (some 71) rfl rfl (by kernel_rfl) (by kernel_rfl) (by kernel_rfl) (fun _ _ _ h => h) (by kernel_rfl) ?_ (by assumption) ?_
      rotate_left
      · (intro w hSw; (try dsimp only at hSw); go_simp; (first | done | with_reducible rfl))
      simp only [Act.put, List.setIfInBounds_toArray, List.set_cons_zero, List.set_cons_succ]
      refine ah_take (i := 15) (v := ?_) (some 72) rfl rfl (by kernel_rfl) (by kernel_rfl) (by kernel_rfl) (fun _ _ _ h => h) (by kernel_rfl) ?_ (by assumption) ?_
      rotate_left
      · (intro w hSw; (try dsimp only at hSw); go_simp; (first | done | with_reducible rfl))
      simp only [Act.put, List.setIfInBounds_toArray, List.set_cons_zero, List.set_cons_succ]
      refine ah_take (i := 16) (v := ?_) (some 73) rfl rfl (by kernel_rfl) (by kernel_rfl) (by kernel_rfl) (fun _ _ _ h => h) (by kernel_rfl) ?_ (by assumption) ?_
      rotate_left
      · (intro w hSw; (try dsimp only at hSw); go_simp; (first | done | with_reducible rfl))
      simp only [Act.put, List.setIfInBounds_toArray, List.set_cons_zero, List.set_cons_succ]
      refine ah_take (i := 17) (v := ?_) (some 74) rfl rfl (by kernel_rfl) (by kernel_rfl) (by kernel_rfl) (fun _ _ _ h => h) (by kernel_rfl) ?_ (by assumption) ?_
      rotate_left
      · (intro w hSw; (try dsimp only at hSw); go_simp; (first | done | with_reducible rfl))
      simp only [Act.put, List.setIfInBounds_toArray, List.set_cons_zero, List.set_cons_succ]
      refine ah_take (i := 18) (v := ?_) (some 75) rfl rfl (by kernel_rfl) (by kernel_rfl) (by kernel_rfl) (fun _ _ _ h => h) (by kernel_rfl) ?_ (by assumption) ?_
      rotate_left
      · (intro w hSw; (try dsimp only at hSw); go_simp; (first | done | with_reducible rfl))
      simp only [Act.put, List.setIfInBounds_toArray, List.set_cons_zero, List.set_cons_succ]
      refine ah_take (i := 19) (v := ?_) (some 76) rfl rfl (by kernel_rfl) (by kernel_rfl) (by kernel_rfl) (fun _ _ _ h => h) (by kernel_rfl) ?_ (by assumption) ?_
      rotate_left
      · (intro w hSw; (try dsimp only at hSw); go_simp; (first | done | with_reducible rfl))
      simp only [Act.put, List.setIfInBounds_toArray, List.set_cons_zero, List.set_cons_succ]
      refine ah_take (i := 20) (v := ?_) (some 77) rfl rfl (by kernel_rfl) (by kernel_rfl) (by kernel_rfl) (fun _ _ _ h => h) (by kernel_rfl) ?_ (by assumption) ?_
      rotate_left
      · (intro w hSw; (try dsimp only at hSw); go_simp; (first | done | with_reducible rfl))
      simp only [Act.put, List.setIfInBounds_toArray, List.set_cons_zero, List.set_cons_succ]
      refine ah_take (i := 21) (v := ?_) (some 78) rfl rfl (by kernel_rfl) (by kernel_rfl) (by kernel_rfl) (fun _ _ _ h => h) (by kernel_rfl) ?_ (by assumption) ?_
      rotate_left
      · (intro w hSw; (try dsimp only at hSw); go_simp; (first | done | with_reducible rfl))
      simp only [Act.put, List.setIfInBounds_toArray, List.set_cons_zero, List.set_cons_succ]
      refine ah_take (i := 22) (v := ?_) (some 79) rfl rfl (by kernel_rfl) (by kernel_rfl) (by kernel_rfl) (fun _ _ _ h => h) (by kernel_rfl) ?_ (by assumption) ?_
      rotate_left
      · (intro w hSw; (try dsimp only at hSw); go_simp; (first | done | with_reducible rfl))
      simp only [Act.put, List.setIfInBounds_toArray, List.set_cons_zero, List.set_cons_succ]
      refine wpAnyH_ready (rs := [23]) (by kernel_rfl) (by simp) ?_
      refine AllReadyH.cons rfl (fun K hK => ?_) AllReadyH.nil
      go_simp
      refine (H21.out wC KG3.out).mono ?_
      rintro e wD ⟨rfl, kx⟩
      have KK4 := Lib.hid (KK3.out.trans (kx.mono KK3.out.size))
      have KG4 := Lib.hid (K5.out.trans (KK4.out.mono K5.out.size))
      clear kx

      refine hK.out _ _ (YR.out _ KK4.out) (fun hH4 => ?_)
      try simp only [Act.put, List.setIfInBounds_toArray, List.set_cons_zero, List.set_cons_succ]
      clear hK K
      refine ah_take (i := 24) (v := ?_) (some 81) rfl rfl (by kernel_rfl) (by kernel_rfl) (by kernel_rfl) (fun _ _ _ h => h) (by kernel_rfl) ?_ (by assumption) ?_
      rotate_left
      · (intro w hSw; (try dsimp only at hSw); go_simp; (first | done | with_reducible rfl))
      simp only [Act.put, List.setIfInBounds_toArray, List.set_cons_zero, List.set_cons_succ]
      refine ah_take (i := 25) (v := ?_) (some 82) rfl rfl (by kernel_rfl) (by kernel_rfl) (by kernel_rfl) (fun _ _ _ h => h) (by kernel_rfl) ?_ (by assumption) ?_
      rotate_left
      · (intro w hSw; (try dsimp only at hSw); go_simp; (first | done | with_reducible rfl))
      simp only [Act.put, List.setIfInBounds_toArray, List.set_cons_zero, List.set_cons_succ]
      refine ah_take (i := 26) (v := ?_) (some 83) rfl rfl (by kernel_rfl) (by kernel_rfl) (by kernel_rfl) (fun _ _ _ h => h) (by kernel_rfl) ?_ (by assumption) ?_
      rotate_left
      · (intro w hSw; (try dsimp only at hSw); go_simp; (first | done | with_reducible rfl))
      simp only [Act.put, List.setIfInBounds_toArray, List.set_cons_zero, List.set_cons_succ]
      refine ah_take (i := 27) (v := ?_) (some 84) rfl rfl (by kernel_rfl) (by kernel_rfl) (by kernel_rfl) (fun _ _ _ h => h) (by kernel_rfl) ?_ (by assumption) ?_
      rotate_left
      · (intro w hSw; (try dsimp only at hSw); go_simp; (first | done | with_reducible rfl))
      simp only [Act.put, List.setIfInBounds_toArray, List.set_cons_zero, List.set_cons_succ]
      refine ah_take (i := 28) (v := ?_) (some 85) rfl rfl (by kernel_rfl) (by kernel_rfl) (by kernel_rfl) (fun _ _ _ h => h) (by kernel_rfl) ?_ (by assumption) ?_
      rotate_left
      · (intro w hSw; (try dsimp only at hSw); go_simp; (first | done | with_reducible rfl))
      simp only [Act.put, List.setIfInBounds_toArray, List.set_cons_zero, List.set_cons_succ]
      refine ah_take (i := 29) (v := ?_) (some 86) rfl rfl (by kernel_rfl) (by kernel_rfl) (by kernel_rfl) (fun _ _ _ h => h) (by kernel_rfl) ?_ (by assumption) ?_
      rotate_left
      · (intro w hSw; (try dsimp only at hSw); go_simp; (first | done | with_reducible rfl))
      simp only [Act.put, List.setIfInBounds_toArray, List.set_cons_zero, List.set_cons_succ]
      refine ah_take (i := 30) (v := ?_) (some 87) rfl rfl (by kernel_rfl) (by kernel_rfl) (by kernel_rfl) (fun _ _ _ h => h) (by kernel_rfl) ?_ (by assumption) ?_
      rotate_left
      · (intro w hSw; (try dsimp only at hSw); go_simp; (first | done | with_reducible rfl))
      simp only [Act.put, List.setIfInBounds_toArray, List.set_cons_zero, List.set_cons_succ]
      refine ah_skip (i := 31) (some 88) rfl rfl (by kernel_rfl) (by kernel_rfl) (by kernel_rfl) (fun _ _ _ h => h) (by kernel_rfl) (by assumption) ?_
      simp only [Act.put, List.setIfInBounds_toArray, List.set_cons_zero, List.set_cons_succ]
      refine ah_skip (i := 32) (some 89) rfl rfl (by kernel_rfl) (by kernel_rfl) (by kernel_rfl) (fun _ _ _ h => h) (by kernel_rfl) (by assumption) ?_
      simp only [Act.put, List.setIfInBounds_toArray, List.set_cons_zero, List.set_cons_succ]
      refine ah_skip (i := 33) (some 90) rfl rfl (by kernel_rfl) (by kernel_rfl) (by kernel_rfl) (fun _ _ _ h => h) (by kernel_rfl) (by assumption) ?_
      simp only [Act.put, List.setIfInBounds_toArray, List.set_cons_zero, List.set_cons_succ]
      refine ah_skip (i := 34) (some 91) rfl rfl (by kernel_rfl) (by kernel_rfl) (by kernel_rfl) (fun _ _ _ h => h) (by kernel_rfl) (by assumption) ?_
      simp only [Act.put, List.setIfInBounds_toArray, List.set_cons_zero, List.set_cons_succ]
      refine ah_skip (i := 35) (some 92) rfl rfl (by kernel_rfl) (by kernel_rfl) (by kernel_rfl) (fun _ _ _ h => h) (by kernel_rfl) (by assumption) ?_
      simp only [Act.put, List.setIfInBounds_toArray, List.set_cons_zero, List.set_cons_succ]
      refine ah_take (i := 36) (v := ?_) (some 93) rfl rfl (by kernel_rfl) (by kernel_rfl) (by kernel_rfl) (fun _ _ _ h => h) (by kernel_rfl) ?_ (by assumption) ?_
      rotate_left
      · (intro w hSw; (try dsimp only at hSw); go_simp; (first | done | with_reducible rfl))
      simp only [Act.put, List.setIfInBounds_toArray, List.set_cons_zero, List.set_cons_succ]
      refine ah_take (i := 37) (v := ?_) (some 94) rfl rfl (by kernel_rfl) (by kernel_rfl) (by kernel_rfl) (fun _ _ _ h => h) (by kernel_rfl) ?_ (by assumption) ?_
      rotate_left
      · (intro w hSw; (try dsimp only at hSw); go_simp; (first | done | with_reducible rfl))
      simp only [Act.put, List.setIfInBounds_toArray, List.set_cons_zero, List.set_cons_succ]
      refine wpAnyH_done (by kernel_rfl) ?_ _
      try clear hH1 hH2 hH3 hS0
      try clear hH4
      clear hwk2 hcp2 YR H17 H19 H20 H21
      have M6 := Lib.hid (M5.out.below KK4.out)
      have R6 := Lib.hid (R5.out.below KK4.out)
      have O6 := Lib.hid (O5.out.below KK4.out)
      have K6 := Lib.hid KG4.out
      rename World => w6
      clear M5 R5 O5 KK0 KK1 KK2 KK3 KK4 KG0 KG1 KG2 KG3 KG4 K5
      cases ch with
      | false =>
        obtain ⟨rfl, rfl⟩ : lm = 0 ∧ fm = 2 := by
          rcases M6.out with ⟨_, h⟩ | ⟨h, _⟩ | ⟨h, _⟩
          · exact h
          · cases h
          · cases h
        obtain ⟨rfl, rfl⟩ : lr = 0 ∧ fr = 2 := by
          rcases R6.out with ⟨_, h⟩ | ⟨h, _⟩
          · exact h
          · cases h
        obtain ⟨rfl, rfl⟩ : lo = 0 ∧ fo = 2 := by
          rcases O6.out with ⟨_, h⟩ | ⟨h, _⟩ | ⟨h, _⟩
          · exact h
          · cases h
          · cases h
        go_wp2_with fail
        refine (H22.out w6 K6.out).mono ?_
        rintro e w7 ⟨rfl, k7⟩
        have K7 := Lib.hid (K6.out.trans (k7.mono K6.out.size))
        clear k7
        go_wp2_with fail
        refine (awake_any w7).mono ?_
        rintro e w8 ⟨rfl, k8⟩
        have K8 := Lib.hid (K7.out.trans (k8.mono K7.out.size))
        clear k8
        go_wp2_with fail
        go_ret
        exact ⟨rfl, K8.out⟩
      | true =>
        obtain ⟨h8, hnn, _, hmod⟩ := chg_parts HCH.out
        subst hnn
        have HM := Lib.hid hmod
        have H25 := Lib.hid (fun (V : World) (hV : Below w.heap.size w V) => rorder_any A1 A2 A3 n c1 c2 m c3 S T Rw h8 hmod V (HS.out.below hV (Nat.le_refl _)) (HT.out.below hV (Nat.le_refl _)) (HR.out.below hV (Nat.le_refl _)))
        have H27 := Lib.hid (fun (V : World) (hV : Below w.heap.size w V) => rreach_any A1 A2 A3 n c1 c2 m c3 S T Rw h8 hmod V (HS.out.below hV (Nat.le_refl _)) (HT.out.below hV (Nat.le_refl _)) (HR.out.below hV (Nat.le_refl _)))
        have HLL := Lib.hid (reach_len m Rw n S T)
        rw [HO.out] at H25
        rw [HL.out] at H27 HLL
        obtain ⟨hlr, rfl, hrn⟩ : lr = L.length ∧ fr = 0 ∧ NumsIn w6 Ar L := by
          rcases R6.out with ⟨h, _⟩ | ⟨_, h⟩
          · cases h
          · exact h
        have HLR := Lib.hid hlr
        have RN6 := Lib.hid hrn
        clear hmod hlr hrn R6 HVD
        rcases M6.out with ⟨h, _⟩ | ⟨_, ho, rfl, rfl⟩ | ⟨_, b, rfl, hb, hlm, rfl, hu⟩
        · cases h
        · clear M6
          have hwr := two_pow8' h8
          have h1k : n ≤ 1000 := by omega
          go_wp2_with fail
          refine (H22.out w6 K6.out).mono ?_
          rintro e w7 ⟨rfl, k7⟩
          have K7 := Lib.hid (K6.out.trans (k7.mono K6.out.size))
          have R7 := Lib.hid (RN6.out.below k7 (Nat.le_refl _))
          have O7 := Lib.hid (O6.out.below k7)
          clear k7 K6 RN6 O6
          obtain ⟨N, hN⟩ : ∃ N : Nat, 2 ^ n = N := ⟨_, rfl⟩
          rw [hN] at hwr ho
          clear hN
          by_cases h0 : bi < 0
          · have g0 : decide (bi < 0) = true := decide_eq_true h0
            go_wp2_with fail
            rename World => wq
            have KQ := K7
            have RQ := R7
            have OQ := O7
            clear K7 R7 O7
            refine (H25.out wq KQ.out).mono ?_
            rintro e wx ⟨kx, hor⟩
            have KX := Lib.hid (KQ.out.trans (kx.mono KQ.out.size))
            have RX := Lib.hid (RQ.out.below kx (Nat.le_refl _))
            have OX := Lib.hid (OQ.out.below kx)
            clear kx RQ OQ KQ
            rcases OX.out with ⟨h, _⟩ | ⟨_, hO, hlo, hfo⟩ | ⟨_, p, hO, hlo, hfo, hp⟩
            · cases h
            · obtain rfl : e = .returned (.tuple #[.slice none 0 0, .bool false]) := by
                rcases hor with ⟨_, h⟩ | ⟨q, v, h, _⟩
                · exact h
                · rw [hO] at h; cases h
              subst hlo hfo
              clear hor hO OX
              rename World => wy
              have KY := KX
              have RY := RX
              clear KX RX
              go_wp2_with fail
              refine (H27.out wy KY.out).mono ?_
              rintro e wz ⟨⟨Ax, cx, rfl, hx⟩, kz⟩
              have KZ := Lib.hid (KY.out.trans (kz.mono KY.out.size))
              have RZ := Lib.hid (RY.out.below kz (Nat.le_refl _))
              have XZ := Lib.hid hx
              clear kz hx
              obtain ⟨lx, hlx⟩ : ∃ lx, L.length = lx := ⟨_, rfl⟩
              have HLX := Lib.hid hlx
              rw [hlx]
              clear hlx
              go_wp2_with fail
              refine (ints_same Ar Ax lr cr lx cx L wz RZ.out XZ.out HLR.out HLX.out.symm HLL.out).mono ?_
              rintro e wu ⟨rfl, ku⟩
              have KU := Lib.hid (KZ.out.trans (ku.mono KZ.out.size))
              clear ku
              go_wp2_with fail
              refine (awake_any wu).mono ?_
              rintro e wv ⟨rfl, kv⟩
              have KV := Lib.hid (KU.out.trans (kv.mono KU.out.size))
              clear kv
              go_wp2_with fail
              go_ret
              exact ⟨rfl, KV.out⟩
            · obtain ⟨v, rfl, hq⟩ : ∃ v, e = .returned (.tuple #[v, .bool true]) ∧ QIn wx v p := by
                rcases hor with ⟨h, _⟩ | ⟨q, v, h, h1, h2⟩
                · rw [hO] at h; cases h
                · rw [hO] at h
                  obtain rfl : p = q := by injection h
                  exact ⟨v, h1, h2⟩
              subst hfo
              have HLO := Lib.hid hlo
              have HPL := Lib.hid (road_len (HO.out.trans hO))
              have HP := Lib.hid hp
              obtain ⟨Aq, cq, rfl, hqn⟩ := hq.nums
              have HQ := Lib.hid hqn
              clear hor hO hlo hp hq hqn OX
              obtain ⟨lq, hlq⟩ : ∃ lq, p.length = lq := ⟨_, rfl⟩
              have HLQ := Lib.hid hlq
              rw [hlq]
              clear hlq
              go_wp2_with fail
              refine (ints_same Ao Aq lo co lq cq p wx HP.out HQ.out HLO.out HLQ.out.symm HPL.out).mono ?_
              rintro e wy ⟨rfl, ky⟩
              have KY := Lib.hid (KX.out.trans (ky.mono KX.out.size))
              have RY := Lib.hid (RX.out.below ky (Nat.le_refl _))
              clear ky KX RX HP HQ
              go_wp2_with fail
              refine (H27.out wy KY.out).mono ?_
              rintro e wz ⟨⟨Ax, cx, rfl, hx⟩, kz⟩
              have KZ := Lib.hid (KY.out.trans (kz.mono KY.out.size))
              have RZ := Lib.hid (RY.out.below kz (Nat.le_refl _))
              have XZ := Lib.hid hx
              clear kz hx
              obtain ⟨lx, hlx⟩ : ∃ lx, L.length = lx := ⟨_, rfl⟩
              have HLX := Lib.hid hlx
              rw [hlx]
              clear hlx
              go_wp2_with fail
              refine (ints_same Ar Ax lr cr lx cx L wz RZ.out XZ.out HLR.out HLX.out.symm HLL.out).mono ?_
              rintro e wu ⟨rfl, ku⟩
              have KU := Lib.hid (KZ.out.trans (ku.mono KZ.out.size))
              clear ku
              go_wp2_with fail
              refine (awake_any wu).mono ?_
              rintro e wv ⟨rfl, kv⟩
              have KV := Lib.hid (KU.out.trans (kv.mono KU.out.size))
              clear kv
              go_wp2_with fail
              go_ret
              exact ⟨rfl, KV.out⟩
          · have g0 : decide (bi < 0) = false := decide_eq_false h0
            have g1 : decide ((N : Int) ≤ bi) = true := decide_eq_true (by omega)
            have g2 : decide (bi < (N : Int)) = false := decide_eq_false (by omega)
            go_wp2_with fail
            rename World => wq
            have KQ := K7
            have RQ := R7
            have OQ := O7
            clear K7 R7 O7
            refine (H25.out wq KQ.out).mono ?_
            rintro e wx ⟨kx, hor⟩
            have KX := Lib.hid (KQ.out.trans (kx.mono KQ.out.size))
            have RX := Lib.hid (RQ.out.below kx (Nat.le_refl _))
            have OX := Lib.hid (OQ.out.below kx)
            clear kx RQ OQ KQ
            rcases OX.out with ⟨h, _⟩ | ⟨_, hO, hlo, hfo⟩ | ⟨_, p, hO, hlo, hfo, hp⟩
            · cases h
            · obtain rfl : e = .returned (.tuple #[.slice none 0 0, .bool false]) := by
                rcases hor with ⟨_, h⟩ | ⟨q, v, h, _⟩
                · exact h
                · rw [hO] at h; cases h
              subst hlo hfo
              clear hor hO OX
              rename World => wy
              have KY := KX
              have RY := RX
              clear KX RX
              go_wp2_with fail
              refine (H27.out wy KY.out).mono ?_
              rintro e wz ⟨⟨Ax, cx, rfl, hx⟩, kz⟩
              have KZ := Lib.hid (KY.out.trans (kz.mono KY.out.size))
              have RZ := Lib.hid (RY.out.below kz (Nat.le_refl _))
              have XZ := Lib.hid hx
              clear kz hx
              obtain ⟨lx, hlx⟩ : ∃ lx, L.length = lx := ⟨_, rfl⟩
              have HLX := Lib.hid hlx
              rw [hlx]
              clear hlx
              go_wp2_with fail
              refine (ints_same Ar Ax lr cr lx cx L wz RZ.out XZ.out HLR.out HLX.out.symm HLL.out).mono ?_
              rintro e wu ⟨rfl, ku⟩
              have KU := Lib.hid (KZ.out.trans (ku.mono KZ.out.size))
              clear ku
              go_wp2_with fail
              refine (awake_any wu).mono ?_
              rintro e wv ⟨rfl, kv⟩
              have KV := Lib.hid (KU.out.trans (kv.mono KU.out.size))
              clear kv
              go_wp2_with fail
              go_ret
              exact ⟨rfl, KV.out⟩
            · obtain ⟨v, rfl, hq⟩ : ∃ v, e = .returned (.tuple #[v, .bool true]) ∧ QIn wx v p := by
                rcases hor with ⟨h, _⟩ | ⟨q, v, h, h1, h2⟩
                · rw [hO] at h; cases h
                · rw [hO] at h
                  obtain rfl : p = q := by injection h
                  exact ⟨v, h1, h2⟩
              subst hfo
              have HLO := Lib.hid hlo
              have HPL := Lib.hid (road_len (HO.out.trans hO))
              have HP := Lib.hid hp
              obtain ⟨Aq, cq, rfl, hqn⟩ := hq.nums
              have HQ := Lib.hid hqn
              clear hor hO hlo hp hq hqn OX
              obtain ⟨lq, hlq⟩ : ∃ lq, p.length = lq := ⟨_, rfl⟩
              have HLQ := Lib.hid hlq
              rw [hlq]
              clear hlq
              go_wp2_with fail
              refine (ints_same Ao Aq lo co lq cq p wx HP.out HQ.out HLO.out HLQ.out.symm HPL.out).mono ?_
              rintro e wy ⟨rfl, ky⟩
              have KY := Lib.hid (KX.out.trans (ky.mono KX.out.size))
              have RY := Lib.hid (RX.out.below ky (Nat.le_refl _))
              clear ky KX RX HP HQ
              go_wp2_with fail
              refine (H27.out wy KY.out).mono ?_
              rintro e wz ⟨⟨Ax, cx, rfl, hx⟩, kz⟩
              have KZ := Lib.hid (KY.out.trans (kz.mono KY.out.size))
              have RZ := Lib.hid (RY.out.below kz (Nat.le_refl _))
              have XZ := Lib.hid hx
              clear kz hx
              obtain ⟨lx, hlx⟩ : ∃ lx, L.length = lx := ⟨_, rfl⟩
              have HLX := Lib.hid hlx
              rw [hlx]
              clear hlx
              go_wp2_with fail
              refine (ints_same Ar Ax lr cr lx cx L wz RZ.out XZ.out HLR.out HLX.out.symm HLL.out).mono ?_
              rintro e wu ⟨rfl, ku⟩
              have KU := Lib.hid (KZ.out.trans (ku.mono KZ.out.size))
              clear ku
              go_wp2_with fail
              refine (awake_any wu).mono ?_
              rintro e wv ⟨rfl, kv⟩
              have KV := Lib.hid (KU.out.trans (kv.mono KU.out.size))
              clear kv
              go_wp2_with fail
              go_ret
              exact ⟨rfl, KV.out⟩
        · obtain rfl : n = lm := hlm.symm
          have hwr := two_pow8' h8
          have h256 := pow8_le h8
          have h1k : n ≤ 1000 := by omega
          have HU6 := Lib.hid hu
          clear M6 hu hlm
          obtain ⟨N, hN⟩ : ∃ N : Nat, 2 ^ n = N := ⟨_, rfl⟩
          rw [hN] at hwr hb h256
          clear hN
          have g0 : decide ((b : Int) < 0) = false := decide_eq_false (by omega)
          have g1 : decide ((N : Int) ≤ b) = false := decide_eq_false (by omega)
          have g1' : decide (N ≤ b) = false := decide_eq_false (by omega)
          have g2 : decide ((b : Int) < (N : Int)) = true := decide_eq_true (by omega)
          have H24 := Lib.hid (fun (V : World) (hV : Below w.heap.size w V) => rmixed_any A1 A2 n c1 c2 b S T V (HS.out.below hV (Nat.le_refl _)) (HT.out.below hV (Nat.le_refl _)) h8 (by omega))
          go_wp2_with fail
          refine (H22.out w6 K6.out).mono ?_
          rintro e w7 ⟨rfl, k7⟩
          have K7 := Lib.hid (K6.out.trans (k7.mono K6.out.size))
          have R7 := Lib.hid (RN6.out.below k7 (Nat.le_refl _))
          have O7 := Lib.hid (O6.out.below k7)
          have U7 := Lib.hid (HU6.out.below k7 (Nat.le_refl _))
          clear k7 K6 RN6 O6 HU6
          go_wp2_with fail
          refine (H24.out w7 K7.out).mono ?_
          rintro e w8 ⟨⟨Ab, cb, rfl, hub, _⟩, k8⟩
          have K8 := Lib.hid (K7.out.trans (k8.mono K7.out.size))
          have R8 := Lib.hid (R7.out.below k8 (Nat.le_refl _))
          have O8 := Lib.hid (O7.out.below k8)
          have U8 := Lib.hid (U7.out.below k8 (Nat.le_refl _))
          have B8 := Lib.hid hub
          clear k8 hub K7 R7 O7 U7
          go_wp2_with fail
          refine (units_same Am Ab n cm cb (mx S T b) w8 U8.out B8.out).mono ?_
          rintro e w9 ⟨rfl, k9⟩
          have K9 := Lib.hid (K8.out.trans (k9.mono K8.out.size))
          have R9 := Lib.hid (R8.out.below k9 (Nat.le_refl _))
          have O9 := Lib.hid (O8.out.below k9)
          clear k9 K8 R8 O8 U8 B8
          go_wp2_with fail
          rename World => wq
          have KQ := K9
          have RQ := R9
          have OQ := O9
          clear K9 R9 O9
          refine (H25.out wq KQ.out).mono ?_
          rintro e wx ⟨kx, hor⟩
          have KX := Lib.hid (KQ.out.trans (kx.mono KQ.out.size))
          have RX := Lib.hid (RQ.out.below kx (Nat.le_refl _))
          have OX := Lib.hid (OQ.out.below kx)
          clear kx RQ OQ KQ
          rcases OX.out with ⟨h, _⟩ | ⟨_, hO, hlo, hfo⟩ | ⟨_, p, hO, hlo, hfo, hp⟩
          · cases h
          · obtain rfl : e = .returned (.tuple #[.slice none 0 0, .bool false]) := by
              rcases hor with ⟨_, h⟩ | ⟨q, v, h, _⟩
              · exact h
              · rw [hO] at h; cases h
            subst hlo hfo
            clear hor hO OX
            rename World => wy
            have KY := KX
            have RY := RX
            clear KX RX
            go_wp2_with fail
            refine (H27.out wy KY.out).mono ?_
            rintro e wz ⟨⟨Ax, cx, rfl, hx⟩, kz⟩
            have KZ := Lib.hid (KY.out.trans (kz.mono KY.out.size))
            have RZ := Lib.hid (RY.out.below kz (Nat.le_refl _))
            have XZ := Lib.hid hx
            clear kz hx
            obtain ⟨lx, hlx⟩ : ∃ lx, L.length = lx := ⟨_, rfl⟩
            have HLX := Lib.hid hlx
            rw [hlx]
            clear hlx
            go_wp2_with fail
            refine (ints_same Ar Ax lr cr lx cx L wz RZ.out XZ.out HLR.out HLX.out.symm HLL.out).mono ?_
            rintro e wu ⟨rfl, ku⟩
            have KU := Lib.hid (KZ.out.trans (ku.mono KZ.out.size))
            clear ku
            go_wp2_with fail
            refine (awake_any wu).mono ?_
            rintro e wv ⟨rfl, kv⟩
            have KV := Lib.hid (KU.out.trans (kv.mono KU.out.size))
            clear kv
            go_wp2_with fail
            go_ret
            exact ⟨rfl, KV.out⟩
          · obtain ⟨v, rfl, hq⟩ : ∃ v, e = .returned (.tuple #[v, .bool true]) ∧ QIn wx v p := by
              rcases hor with ⟨h, _⟩ | ⟨q, v, h, h1, h2⟩
              · rw [hO] at h; cases h
              · rw [hO] at h
                obtain rfl : p = q := by injection h
                exact ⟨v, h1, h2⟩
            subst hfo
            have HLO := Lib.hid hlo
            have HPL := Lib.hid (road_len (HO.out.trans hO))
            have HP := Lib.hid hp
            obtain ⟨Aq, cq, rfl, hqn⟩ := hq.nums
            have HQ := Lib.hid hqn
            clear hor hO hlo hp hq hqn OX
            obtain ⟨lq, hlq⟩ : ∃ lq, p.length = lq := ⟨_, rfl⟩
            have HLQ := Lib.hid hlq
            rw [hlq]
            clear hlq
            go_wp2_with fail
            refine (ints_same Ao Aq lo co lq cq p wx HP.out HQ.out HLO.out HLQ.out.symm HPL.out).mono ?_
            rintro e wy ⟨rfl, ky⟩
            have KY := Lib.hid (KX.out.trans (ky.mono KX.out.size))
            have RY := Lib.hid (RX.out.below ky (Nat.le_refl _))
            clear ky KX RX HP HQ
            go_wp2_with fail
            refine (H27.out wy KY.out).mono ?_
            rintro e wz ⟨⟨Ax, cx, rfl, hx⟩, kz⟩
            have KZ := Lib.hid (KY.out.trans (kz.mono KY.out.size))
            have RZ := Lib.hid (RY.out.below kz (Nat.le_refl _))
            have XZ := Lib.hid hx
            clear kz hx
            obtain ⟨lx, hlx⟩ : ∃ lx, L.length = lx := ⟨_, rfl⟩
            have HLX := Lib.hid hlx
            rw [hlx]
            clear hlx
            go_wp2_with fail
            refine (ints_same Ar Ax lr cr lx cx L wz RZ.out XZ.out HLR.out HLX.out.symm HLL.out).mono ?_
            rintro e wu ⟨rfl, ku⟩
            have KU := Lib.hid (KZ.out.trans (ku.mono KZ.out.size))
            clear ku
            go_wp2_with fail
            refine (awake_any wu).mono ?_
            rintro e wv ⟨rfl, kv⟩
            have KV := Lib.hid (KU.out.trans (kv.mono KU.out.size))
            clear kv
            go_wp2_with fail
            go_ret
            exact ⟨rfl, KV.out⟩
    | false =>
      obtain rfl : ec = 2 := by rw [← HEC.out]; rfl
      obtain rfl : ok = false := by rw [← HOK.out]; rfl
      obtain rfl : ch = false := by
        cases ch with
        | false => rfl
        | true => exact absurd (HCV.out rfl) (by simp)
      clear HEC HOK HCV
      refine wp_region_held_drew (S := (fun V : World => (V.cell? ⟨w.heap.size, 0, none⟩ = some (.string an) ∧ V.cell? ⟨w.heap.size, 1, none⟩ = some (.int .i64 av) ∧ V.cell? ⟨w.heap.size + 1, 0, none⟩ = some (.string bn) ∧ V.cell? ⟨w.heap.size + 1, 1, none⟩ = some (.int .i64 bv)))) (by kernel_rfl) (YR.out _ KK0.out) (fun hS0 => ?_)
      refine ah_take (i := 0) (v := ?_) (some 57) rfl rfl (by kernel_rfl) (by kernel_rfl) (by kernel_rfl) (fun _ _ _ h => h) (by kernel_rfl) ?_ (by assumption) ?_
      rotate_left
      · (intro w hSw; (try dsimp only at hSw); go_simp; (first | done | with_reducible rfl))
      simp only [Act.put, List.setIfInBounds_toArray, List.set_cons_zero, List.set_cons_succ]
      refine ah_take (i := 1) (v := ?_) (some 58) rfl rfl (by kernel_rfl) (by kernel_rfl) (by kernel_rfl) (fun _ _ _ h => h) (by kernel_rfl) ?_ (by assumption) ?_
      rotate_left
      · (intro w hSw; (try dsimp only at hSw); go_simp; (first | done | with_reducible rfl))
      simp only [Act.put, List.setIfInBounds_toArray, List.set_cons_zero, List.set_cons_succ]
      refine ah_take (i := 2) (v := ?_) (some 59) rfl rfl (by kernel_rfl) (by kernel_rfl) (by kernel_rfl) (fun _ _ _ h => h) (by kernel_rfl) ?_ (by assumption) ?_
      rotate_left
      · (intro w hSw; (try dsimp only at hSw); go_simp; (first | done | with_reducible rfl))
      simp only [Act.put, List.setIfInBounds_toArray, List.set_cons_zero, List.set_cons_succ]
      refine ah_take (i := 4) (v := ?_) (some 61) rfl rfl (by kernel_rfl) (by kernel_rfl) (by kernel_rfl) (fun _ _ _ h => h) (by kernel_rfl) ?_ (by assumption) ?_
      rotate_left
      · (intro w hSw; (try dsimp only at hSw); go_simp; (first | done | with_reducible rfl))
      simp only [Act.put, List.setIfInBounds_toArray, List.set_cons_zero, List.set_cons_succ]
      refine ah_take (i := 5) (v := ?_) (some 62) rfl rfl (by kernel_rfl) (by kernel_rfl) (by kernel_rfl) (fun _ _ _ h => h) (by kernel_rfl) ?_ (by assumption) ?_
      rotate_left
      · (intro w hSw; (try dsimp only at hSw); go_simp; (first | done | with_reducible rfl))
      simp only [Act.put, List.setIfInBounds_toArray, List.set_cons_zero, List.set_cons_succ]
      refine ah_take (i := 6) (v := ?_) (some 63) rfl rfl (by kernel_rfl) (by kernel_rfl) (by kernel_rfl) (fun _ _ _ h => h) (by kernel_rfl) ?_ (by assumption) ?_
      rotate_left
      · (intro w hSw; (try dsimp only at hSw); go_simp; (first | done | with_reducible rfl))
      simp only [Act.put, List.setIfInBounds_toArray, List.set_cons_zero, List.set_cons_succ]
      refine wpAnyH_ready (rs := [3]) (by kernel_rfl) (by simp) ?_
      refine AllReadyH.cons rfl (fun K hK => ?_) AllReadyH.nil
      go_simp
      refine (H17.out w5.drew KG0.out).mono ?_
      rintro e wA ⟨rfl, kx⟩
      have KK1 := Lib.hid (KK0.out.trans (kx.mono KK0.out.size))
      have KG1 := Lib.hid (K5.out.trans (KK1.out.mono K5.out.size))
      clear kx

      refine hK.out _ _ (YR.out _ KK1.out) (fun hH1 => ?_)
      try simp only [Act.put, List.setIfInBounds_toArray, List.set_cons_zero, List.set_cons_succ]
      clear hK K
      refine wpAnyH_ready (rs := [7]) (by kernel_rfl) (by simp) ?_
      refine AllReadyH.cons rfl (fun K hK => ?_) AllReadyH.nil
      go_simp
      refine (H19.out wA KG1.out).mono ?_
      rintro e wB ⟨rfl, kx⟩
      have KK2 := Lib.hid (KK1.out.trans (kx.mono KK1.out.size))
      have KG2 := Lib.hid (K5.out.trans (KK2.out.mono K5.out.size))
      clear kx

      refine hK.out _ _ (YR.out _ KK2.out) (fun hH2 => ?_)
      try simp only [Act.put, List.setIfInBounds_toArray, List.set_cons_zero, List.set_cons_succ]
      clear hK K
      refine ah_take (i := 8) (v := ?_) (some 65) rfl rfl (by kernel_rfl) (by kernel_rfl) (by kernel_rfl) (fun _ _ _ h => h) (by kernel_rfl) ?_ (by assumption) ?_
      rotate_left
      · (intro w hSw; (try dsimp only at hSw); go_simp; (first | done | with_reducible rfl))
      simp only [Act.put, List.setIfInBounds_toArray, List.set_cons_zero, List.set_cons_succ]
      refine ah_take (i := 9) (v := ?_) (some 66) rfl rfl (by kernel_rfl) (by kernel_rfl) (by kernel_rfl) (fun _ _ _ h => h) (by kernel_rfl) ?_ (by assumption) ?_
      rotate_left
      · (intro w hSw; (try dsimp only at hSw); go_simp; (first | done | with_reducible rfl))
      simp only [Act.put, List.setIfInBounds_toArray, List.set_cons_zero, List.set_cons_succ]
      refine ah_take (i := 10) (v := ?_) (some 67) rfl rfl (by kernel_rfl) (by kernel_rfl) (by kernel_rfl) (fun _ _ _ h => h) (by kernel_rfl) ?_ (by assumption) ?_
      rotate_left
      · (intro w hSw; (try dsimp only at hSw); go_simp; (first | done | with_reducible rfl))
      simp only [Act.put, List.setIfInBounds_toArray, List.set_cons_zero, List.set_cons_succ]
      refine ah_take (i := 11) (v := ?_) (some 68) rfl rfl (by kernel_rfl) (by kernel_rfl) (by kernel_rfl) (fun _ _ _ h => h) (by kernel_rfl) ?_ (by assumption) ?_
      rotate_left
      · (intro w hSw; (try dsimp only at hSw); go_simp; (first | done | with_reducible rfl))
      simp only [Act.put, List.setIfInBounds_toArray, List.set_cons_zero, List.set_cons_succ]
      refine ah_take (i := 12) (v := ?_) (some 69) rfl rfl (by kernel_rfl) (by kernel_rfl) (by kernel_rfl) (fun _ _ _ h => h) (by kernel_rfl) ?_ (by assumption) ?_
      rotate_left
      · (intro w hSw; (try dsimp only at hSw); go_simp; (first | done | with_reducible rfl))
      simp only [Act.put, List.setIfInBounds_toArray, List.set_cons_zero, List.set_cons_succ]
      refine wpAnyH_ready (rs := [13]) (by kernel_rfl) (by simp) ?_
      refine AllReadyH.cons rfl (fun K hK => ?_) AllReadyH.nil
      go_simp
      refine (H20.out wB KG2.out).mono ?_
      rintro e wC ⟨rfl, kx⟩
      have KK3 := Lib.hid (KK2.out.trans (kx.mono KK2.out.size))
      have KG3 := Lib.hid (K5.out.trans (KK3.out.mono K5.out.size))
      clear kx

      refine hK.out _ _ (YR.out _ KK3.out) (fun hH3 => ?_)
      try simp only [Act.put, List.setIfInBounds_toArray, List.set_cons_zero, List.set_cons_succ]
      clear hK K
      refine ah_take (i := 14) (v := ?_) (some 71) rfl rfl (by kernel_rfl) (by kernel_rfl) (by kernel_rfl) (fun _ _ _ h => h) (by kernel_rfl) ?_ (by assumption) ?_
      rotate_left
      · (intro w hSw; (try dsimp only at hSw); go_simp; (first | done | with_reducible rfl))
      simp only [Act.put, List.setIfInBounds_toArray, List.set_cons_zero, List.set_cons_succ]
      refine ah_take (i := 15) (v := ?_) (some 72) rfl rfl (by kernel_rfl) (by kernel_rfl) (by kernel_rfl) (fun _ _ _ h => h) (by kernel_rfl) ?_ (by assumption) ?_
      rotate_left
      · (intro w hSw; (try dsimp only at hSw); go_simp; (first | done | with_reducible rfl))
      simp only [Act.put, List.setIfInBounds_toArray, List.set_cons_zero, List.set_cons_succ]
      refine ah_take (i := 16) (v := ?_) (some 73) rfl rfl (by kernel_rfl) (by kernel_rfl) (by kernel_rfl) (fun _ _ _ h => h) (by kernel_rfl) ?_ (by assumption) ?_
      rotate_left
      · (intro w hSw; (try dsimp only at hSw); go_simp; (first | done | with_reducible rfl))
      simp only [Act.put, List.setIfInBounds_toArray, List.set_cons_zero, List.set_cons_succ]
      refine ah_take (i := 17) (v := ?_) (some 74) rfl rfl (by kernel_rfl) (by kernel_rfl) (by kernel_rfl) (fun _ _ _ h => h) (by kernel_rfl) ?_ (by assumption) ?_
      rotate_left
      · (intro w hSw; (try dsimp only at hSw); go_simp; (first | done | with_reducible rfl))
      simp only [Act.put, List.setIfInBounds_toArray, List.set_cons_zero, List.set_cons_succ]
      refine ah_take (i := 18) (v := ?_) (some 75) rfl rfl (by kernel_rfl) (by kernel_rfl) (by kernel_rfl) (fun _ _ _ h => h) (by kernel_rfl) ?_ (by assumption) ?_
      rotate_left
      · (intro w hSw; (try dsimp only at hSw); go_simp; (first | done | with_reducible rfl))
      simp only [Act.put, List.setIfInBounds_toArray, List.set_cons_zero, List.set_cons_succ]
      refine ah_take (i := 19) (v := ?_) (some 76) rfl rfl (by kernel_rfl) (by kernel_rfl) (by kernel_rfl) (fun _ _ _ h => h) (by kernel_rfl) ?_ (by assumption) ?_
      rotate_left
      · (intro w hSw; (try dsimp only at hSw); go_simp; (first | done | with_reducible rfl))
      simp only [Act.put, List.setIfInBounds_toArray, List.set_cons_zero, List.set_cons_succ]
      refine ah_skip (i := 20) (some 77) rfl rfl (by kernel_rfl) (by kernel_rfl) (by kernel_rfl) (fun _ _ _ h => h) (by kernel_rfl) (by assumption) ?_
      simp only [Act.put, List.setIfInBounds_toArray, List.set_cons_zero, List.set_cons_succ]
      refine ah_skip (i := 21) (some 78) rfl rfl (by kernel_rfl) (by kernel_rfl) (by kernel_rfl) (fun _ _ _ h => h) (by kernel_rfl) (by assumption) ?_
      simp only [Act.put, List.setIfInBounds_toArray, List.set_cons_zero, List.set_cons_succ]
      refine ah_skip (i := 22) (some 79) rfl rfl (by kernel_rfl) (by kernel_rfl) (by kernel_rfl) (fun _ _ _ h => h) (by kernel_rfl) (by assumption) ?_
      simp only [Act.put, List.setIfInBounds_toArray, List.set_cons_zero, List.set_cons_succ]
      refine ah_skip (i := 23) (some 80) rfl rfl (by kernel_rfl) (by kernel_rfl) (by kernel_rfl) (fun _ _ _ h => h) (by kernel_rfl) (by assumption) ?_
      simp only [Act.put, List.setIfInBounds_toArray, List.set_cons_zero, List.set_cons_succ]
      refine ah_skip (i := 24) (some 81) rfl rfl (by kernel_rfl) (by kernel_rfl) (by kernel_rfl) (fun _ _ _ h => h) (by kernel_rfl) (by assumption) ?_
      simp only [Act.put, List.setIfInBounds_toArray, List.set_cons_zero, List.set_cons_succ]
      refine ah_take (i := 25) (v := ?_) (some 82) rfl rfl (by kernel_rfl) (by kernel_rfl) (by kernel_rfl) (fun _ _ _ h => h) (by kernel_rfl) ?_ (by assumption) ?_
      rotate_left
      · (intro w hSw; (try dsimp only at hSw); go_simp; (first | done | with_reducible rfl))
      simp only [Act.put, List.setIfInBounds_toArray, List.set_cons_zero, List.set_cons_succ]
      refine ah_take (i := 26) (v := ?_) (some 83) rfl rfl (by kernel_rfl) (by kernel_rfl) (by kernel_rfl) (fun _ _ _ h => h) (by kernel_rfl) ?_ (by assumption) ?_
      rotate_left
      · (intro w hSw; (try dsimp only at hSw); go_simp; (first | done | with_reducible rfl))
      simp only [Act.put, List.setIfInBounds_toArray, List.set_cons_zero, List.set_cons_succ]
      refine ah_take (i := 27) (v := ?_) (some 84) rfl rfl (by kernel_rfl) (by kernel_rfl) (by kernel_rfl) (fun _ _ _ h => h) (by kernel_rfl) ?_ (by assumption) ?_
      rotate_left
      · (intro w hSw; (try dsimp only at hSw); go_simp; (first | done | with_reducible rfl))
      simp only [Act.put, List.setIfInBounds_toArray, List.set_cons_zero, List.set_cons_succ]
      refine ah_take (i := 28) (v := ?_) (some 85) rfl rfl (by kernel_rfl) (by kernel_rfl) (by kernel_rfl) (fun _ _ _ h => h) (by kernel_rfl) ?_ (by assumption) ?_
      rotate_left
      · (intro w hSw; (try dsimp only at hSw); go_simp; (first | done | with_reducible rfl))
      simp only [Act.put, List.setIfInBounds_toArray, List.set_cons_zero, List.set_cons_succ]
      refine ah_take (i := 29) (v := ?_) (some 86) rfl rfl (by kernel_rfl) (by kernel_rfl) (by kernel_rfl) (fun _ _ _ h => h) (by kernel_rfl) ?_ (by assumption) ?_
      rotate_left
      · (intro w hSw; (try dsimp only at hSw); go_simp; (first | done | with_reducible rfl))
      simp only [Act.put, List.setIfInBounds_toArray, List.set_cons_zero, List.set_cons_succ]
      refine ah_take (i := 30) (v := ?_) (some 87) rfl rfl (by kernel_rfl) (by kernel_rfl) (by kernel_rfl) (fun _ _ _ h => h) (by kernel_rfl) ?_ (by assumption) ?_
      rotate_left
      · (intro w hSw; (try dsimp only at hSw); go_simp; (first | done | with_reducible rfl))
      simp only [Act.put, List.setIfInBounds_toArray, List.set_cons_zero, List.set_cons_succ]
      refine ah_take (i := 31) (v := ?_) (some 88) rfl rfl (by kernel_rfl) (by kernel_rfl) (by kernel_rfl) (fun _ _ _ h => h) (by kernel_rfl) ?_ (by assumption) ?_
      rotate_left
      · (intro w hSw; (try dsimp only at hSw); go_simp; (first | done | with_reducible rfl))
      simp only [Act.put, List.setIfInBounds_toArray, List.set_cons_zero, List.set_cons_succ]
      refine ah_take (i := 32) (v := ?_) (some 89) rfl rfl (by kernel_rfl) (by kernel_rfl) (by kernel_rfl) (fun _ _ _ h => h) (by kernel_rfl) ?_ (by assumption) ?_
      rotate_left
      · (intro w hSw; (try dsimp only at hSw); go_simp; (first | done | with_reducible rfl))
      simp only [Act.put, List.setIfInBounds_toArray, List.set_cons_zero, List.set_cons_succ]
      refine ah_take (i := 33) (v := ?_) (some 90) rfl rfl (by kernel_rfl) (by kernel_rfl) (by kernel_rfl) (fun _ _ _ h => h) (by kernel_rfl) ?_ (by assumption) ?_
      rotate_left
      · (intro w hSw; (try dsimp only at hSw); go_simp; (first | done | with_reducible rfl))
      simp only [Act.put, List.setIfInBounds_toArray, List.set_cons_zero, List.set_cons_succ]
      refine ah_take (i := 34) (v := ?_) (some 91) rfl rfl (by kernel_rfl) (by kernel_rfl) (by kernel_rfl) (fun _ _ _ h => h) (by kernel_rfl) ?_ (by assumption) ?_
      rotate_left
      · (intro w hSw; (try dsimp only at hSw); go_simp; (first | done | with_reducible rfl))
      simp only [Act.put, List.setIfInBounds_toArray, List.set_cons_zero, List.set_cons_succ]
      refine ah_take (i := 35) (v := ?_) (some 92) rfl rfl (by kernel_rfl) (by kernel_rfl) (by kernel_rfl) (fun _ _ _ h => h) (by kernel_rfl) ?_ (by assumption) ?_
      rotate_left
      · (intro w hSw; (try dsimp only at hSw); go_simp; (first | done | with_reducible rfl))
      simp only [Act.put, List.setIfInBounds_toArray, List.set_cons_zero, List.set_cons_succ]
      refine ah_take (i := 36) (v := ?_) (some 93) rfl rfl (by kernel_rfl) (by kernel_rfl) (by kernel_rfl) (fun _ _ _ h => h) (by kernel_rfl) ?_ (by assumption) ?_
      rotate_left
      · (intro w hSw; (try dsimp only at hSw); go_simp; (first | done | with_reducible rfl))
      simp only [Act.put, List.setIfInBounds_toArray, List.set_cons_zero, List.set_cons_succ]
      refine ah_take (i := 37) (v := ?_) (some 94) rfl rfl (by kernel_rfl) (by kernel_rfl) (by kernel_rfl) (fun _ _ _ h => h) (by kernel_rfl) ?_ (by assumption) ?_
      rotate_left
      · (intro w hSw; (try dsimp only at hSw); go_simp; (first | done | with_reducible rfl))
      simp only [Act.put, List.setIfInBounds_toArray, List.set_cons_zero, List.set_cons_succ]
      refine wpAnyH_done (by kernel_rfl) ?_ _
      try clear hH1 hH2 hH3 hS0
      clear hwk2 YR H17 H19 H20 H21
      have M6 := Lib.hid (M5.out.below KK3.out)
      have R6 := Lib.hid (R5.out.below KK3.out)
      have O6 := Lib.hid (O5.out.below KK3.out)
      have K6 := Lib.hid KG3.out
      rename World => w6
      obtain ⟨rfl, rfl⟩ : lm = 0 ∧ fm = 2 := by
        rcases M6.out with ⟨_, h⟩ | ⟨h, _⟩ | ⟨h, _⟩
        · exact h
        · cases h
        · cases h
      obtain ⟨rfl, rfl⟩ : lr = 0 ∧ fr = 2 := by
        rcases R6.out with ⟨_, h⟩ | ⟨h, _⟩
        · exact h
        · cases h
      obtain ⟨rfl, rfl⟩ : lo = 0 ∧ fo = 2 := by
        rcases O6.out with ⟨_, h⟩ | ⟨h, _⟩ | ⟨h, _⟩
        · exact h
        · cases h
        · cases h
      go_wp2_with fail
      refine (H22.out w6 K6.out).mono ?_
      rintro e w7 ⟨rfl, k7⟩
      have K7 := Lib.hid (K6.out.trans (k7.mono K6.out.size))
      clear k7
      go_wp2_with fail
      refine (awake_any w7).mono ?_
      rintro e w8 ⟨rfl, k8⟩
      have K8 := Lib.hid (K7.out.trans (k8.mono K7.out.size))
      clear k8
      go_wp2_with fail
      go_ret
      exact ⟨rfl, K8.out⟩
end Go.Proofs.Ytcjbjhkmnfegnaa
