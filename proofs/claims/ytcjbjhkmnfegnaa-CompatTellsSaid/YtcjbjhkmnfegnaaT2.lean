/-
  Contracts of the document's own Set, Compatible, Change, Mixed (nacelleref39). Conditions: bounds on the numbers.
-/
import Derived.Test.YtcjbjhkmnfegnaaT1
import Derived.Test.YtcjbjhkmnfegnaaUs
namespace Go.Proofs.Ytcjbjhkmnfegnaa
open Go.RowKit Go.Shelf
set_option maxRecDepth 100000 in
set_option maxHeartbeats 4000000 in
theorem rset_any (A : Option Addr) (n c : Nat) (S : Nat → U) (w : World) (hS : UnitsIn w A n S) :
    Calls Try.prog 20 #[.slice A n c] w fun e w' => e = .returned (.bool (decide (n ≤ 8) && dis S n)) ∧ Below w.heap.size w w' := by
  have HS := Lib.hid hS
  have hmax := hS.1
  clear hS
  go_enter Try.func20, Try.ntmps20
  go_wp2_with fail
  go_loopw [3] (fun iv wr => ∃ i : Nat, i ≤ n ∧ iv = .int .i64 i ∧ dis S i = true ∧ Below w.heap.size w wr) (fun i _ => n - (intOf i).toNat)
  case atStart => exact ⟨0, Nat.zero_le _, rfl, rfl, Below.refl _ _⟩
  case round =>
    obtain ⟨i, hi, rfl, hd, kr⟩ := hrel
    have HD := Lib.hid hd
    have KR := Lib.hid kr
    clear hd kr
    by_cases hlt : i < n
    · obtain ⟨ob, off, rfl, hob, hcell⟩ := HS.out.2 (by omega)
      have HC := Lib.hid hcell
      have gi3 : (i : Int) < n := by omega
      clear hcell
      rename World => wo
      go_wp2_with fail
      go_loopw [4] (fun jv wr => ∃ j : Nat, j ≤ i ∧ jv = .int .i64 j ∧ seen S (S i).1 j = false ∧ Below w.heap.size w wr) (fun j _ => i - (intOf j).toNat)
      case atStart => exact ⟨0, Nat.zero_le _, rfl, rfl, KR.out⟩
      case round =>
        obtain ⟨j, hj, rfl, hse, kr⟩ := hrel
        have HSE := Lib.hid hse
        have KR2 := Lib.hid kr
        clear hse kr
        by_cases hji : j < i
        · obtain ⟨c0, _⟩ := HC.out i hlt
          obtain ⟨d0, _⟩ := HC.out j (by omega)
          have y0 := (KR2.out.cell (p := ⟨ob, off + i * 2, none⟩) hob).trans c0
          have z0 := (KR2.out.cell (p := ⟨ob, off + j * 2, none⟩) hob).trans d0
          have HS1 : Hid (seen S (S i).1 (j + 1) = (seen S (S i).1 j || decide ((S j).1 = (S i).1))) := Lib.hid rfl
          have HDF : Hid ((S j).1 = (S i).1 → dis S n = false) := Lib.hid (fun h => dis_false ⟨i, j, hji, hlt, h⟩)
          obtain ⟨si, hsi⟩ : ∃ x, (S i).1 = x := ⟨_, rfl⟩
          obtain ⟨sj, hsj⟩ : ∃ x, (S j).1 = x := ⟨_, rfl⟩
          rw [hsi] at y0 HS1 HDF HSE
          rw [hsj] at z0 HS1 HDF
          rw [hsi]
          clear hsi hsj c0 d0
          have g1 : decide (n ≤ i) = false := decide_eq_false (by omega)
          have g2 : decide ((i : Int) < 0) = false := decide_eq_false (by omega)
          have g4 : decide (n ≤ j) = false := decide_eq_false (by omega)
          have g5 : decide ((j : Int) < 0) = false := decide_eq_false (by omega)
          have g6 : (j : Int) < n := by omega
          have g7 : (j : Int) < i := by omega
          by_cases e : sj = si
          · have HR : Hid ((decide (n ≤ 8) && dis S n) = false) := Lib.hid (by rw [HDF.out e]; simp)
            subst e
            go_wp2_with (go_quiet (fail))
            go_ret
            exact ⟨by rw [HR.out]; rfl, belowN KR2.out⟩
          · have s1 := str_ne (fun h => e h.symm)
            go_wp2_with (go_quiet (fail))
            go_roundw
            case rel => exact ⟨j + 1, by omega, by go_num, by rw [HS1.out, HSE.out]; simp [e], belowN KR2.out⟩
            case measure => simp [intOf]; omega
        · obtain rfl : j = i := by omega
          have gjj : decide ((j : Int) < j) = false := decide_eq_false (by omega)
          have HD1 : Hid (dis S (j + 1) = true) := Lib.hid (by rw [dis, HD.out, HSE.out]; rfl)
          go_wp2_with fail
          go_roundw
          case rel => exact ⟨j + 1, by omega, by go_num, HD1.out, KR2.out⟩
          case measure => simp [intOf]; omega
    · obtain rfl : n = i := by omega
      have gnn : decide ((n : Int) < n) = false := decide_eq_false (by omega)
      have HR : Hid ((decide (n ≤ 8) && dis S n) = decide ((n : Int) ≤ 8)) := Lib.hid (by rw [HD.out, Bool.and_true]; congr 1; simp; omega)
      go_wp2_with fail
      go_ret
      exact ⟨by rw [HR.out]; rfl, KR.out⟩
set_option maxRecDepth 100000 in
set_option maxHeartbeats 4000000 in
theorem rcompat_any (A A2 : Option Addr) (m c n c2 : Nat) (Rw : Nat → R) (S : Nat → U) (w : World) (hR : RowsIn w A m Rw) (hS : UnitsIn w A2 n S) :
    Calls Try.prog 21 #[.slice A m c, .slice A2 n c2] w fun e w' => e = .returned (.bool (cmp m Rw S n)) ∧ Below w.heap.size w w' := by
  have HR := Lib.hid hR
  have HS := Lib.hid hS
  have hmax := hS.1
  clear hS hR
  go_enter Try.func21, Try.ntmps21
  go_wp2_with fail
  go_loopw [5] (fun iv wr => ∃ i : Nat, i ≤ n ∧ iv = .int .i64 i ∧ cmp m Rw S i = true ∧ Below w.heap.size w wr) (fun i _ => n - (intOf i).toNat)
  case atStart => exact ⟨0, Nat.zero_le _, rfl, rfl, Below.refl _ _⟩
  case round =>
    obtain ⟨i, hi, rfl, hd, kr⟩ := hrel
    have HD := Lib.hid hd
    have KR := Lib.hid kr
    clear hd kr
    by_cases hlt : i < n
    · obtain ⟨ob, off, rfl, hob, hcell⟩ := HS.out.2 (by omega)
      have HC := Lib.hid hcell
      have gi3 : (i : Int) < n := by omega
      clear hcell
      rename World => wo
      go_wp2_with fail
      go_loopw [6] (fun jv wr => ∃ j : Nat, j ≤ i ∧ jv = .int .i64 j ∧ inn m Rw (S i) S j = true ∧ Below w.heap.size w wr) (fun j _ => i - (intOf j).toNat)
      case atStart => exact ⟨0, Nat.zero_le _, rfl, rfl, KR.out⟩
      case round =>
        obtain ⟨j, hj, rfl, hse, kr⟩ := hrel
        have HSE := Lib.hid hse
        have KR2 := Lib.hid kr
        clear hse kr
        by_cases hji : j < i
        · obtain ⟨c0, c1⟩ := HC.out i hlt
          obtain ⟨d0, d1⟩ := HC.out j (by omega)
          have HS1 : Hid (inn m Rw (S i) S (j + 1) = (inn m Rw (S i) S j && works m Rw (S i) (S j))) := Lib.hid rfl
          have HDF : Hid (works m Rw (S i) (S j) = false → cmp m Rw S n = false) := Lib.hid (fun h => cmp_bad hlt (inn_bad hji h))
          have HWK := Lib.hid (fun (V : World) (hV : Below w.heap.size w V) => rworks_any A m c Rw (S i) (S j) V (HR.out.below hV (Nat.le_refl _)))
          obtain ⟨ui, hui⟩ : ∃ x, S i = x := ⟨_, rfl⟩
          obtain ⟨uj, huj⟩ : ∃ x, S j = x := ⟨_, rfl⟩
          rw [hui] at c0 c1 HS1 HDF HSE HWK
          rw [huj] at d0 d1 HS1 HDF HWK
          rw [hui]
          clear hui huj
          obtain ⟨an, av⟩ := ui
          obtain ⟨bn, bv⟩ := uj
          dsimp only at c0 c1 d0 d1
          obtain ⟨wk, hwk⟩ : ∃ wk, works m Rw (an, av) (bn, bv) = wk := ⟨_, rfl⟩
          rw [hwk] at HS1 HDF HWK
          clear hwk
          have YR : Hid (∀ V : World, Below wr.heap.size wr V → (V.cell? ⟨ob, off + i * 2, none⟩ = some (.string an) ∧ V.cell? ⟨ob, off + i * 2 + 1, none⟩ = some (.int .i64 av) ∧ V.cell? ⟨ob, off + j * 2, none⟩ = some (.string bn) ∧ V.cell? ⟨ob, off + j * 2 + 1, none⟩ = some (.int .i64 bv))) := Lib.hid (fun V hV => by
            have h1 := KR2.out.trans (hV.mono KR2.out.size)
            exact ⟨(h1.cell (p := ⟨ob, off + i * 2, none⟩) hob).trans c0, (h1.cell (p := ⟨ob, off + i * 2 + 1, none⟩) hob).trans c1, (h1.cell (p := ⟨ob, off + j * 2, none⟩) hob).trans d0, (h1.cell (p := ⟨ob, off + j * 2 + 1, none⟩) hob).trans d1⟩)
          have KD := Lib.hid (Below.refl wr.heap.size wr).drew
          clear c0 c1 d0 d1
          have g1 : decide (n ≤ i) = false := decide_eq_false (by omega)
          have g2 : decide ((i : Int) < 0) = false := decide_eq_false (by omega)
          have g4 : decide (n ≤ j) = false := decide_eq_false (by omega)
          have g5 : decide ((j : Int) < 0) = false := decide_eq_false (by omega)
          have g6 : (j : Int) < n := by omega
          have g7 : (j : Int) < i := by omega
          go_upto_region 7 with fail
          refine wp_region_held_drew (S := (fun V : World => (V.cell? ⟨ob, off + i * 2, none⟩ = some (.string an) ∧ V.cell? ⟨ob, off + i * 2 + 1, none⟩ = some (.int .i64 av) ∧ V.cell? ⟨ob, off + j * 2, none⟩ = some (.string bn) ∧ V.cell? ⟨ob, off + j * 2 + 1, none⟩ = some (.int .i64 bv)))) (by kernel_rfl) (YR.out _ KD.out) (fun hS0 => ?_)
          refine ah_take (i := 0) (v := ?_) (some 18) rfl rfl (by kernel_rfl) (by kernel_rfl) (by kernel_rfl) (fun _ _ _ h => h) (by kernel_rfl) ?_ (by assumption) ?_
          rotate_left
          · (intro w hSw; (try dsimp only at hSw); go_simp; (first | done | with_reducible rfl))
          simp only [Act.put, List.setIfInBounds_toArray, List.set_cons_zero, List.set_cons_succ]
          refine ah_take (i := 1) (v := ?_) (some 19) rfl rfl (by kernel_rfl) (by kernel_rfl) (by kernel_rfl) (fun _ _ _ h => h) (by kernel_rfl) ?_ (by assumption) ?_
          rotate_left
          · (intro w hSw; (try dsimp only at hSw); go_simp; (first | done | with_reducible rfl))
          simp only [Act.put, List.setIfInBounds_toArray, List.set_cons_zero, List.set_cons_succ]
          refine ah_take (i := 2) (v := ?_) (some 20) rfl rfl (by kernel_rfl) (by kernel_rfl) (by kernel_rfl) (fun _ _ _ h => h) (by kernel_rfl) ?_ (by assumption) ?_
          rotate_left
          · (intro w hSw; (try dsimp only at hSw); go_simp; (first | done | with_reducible rfl))
          simp only [Act.put, List.setIfInBounds_toArray, List.set_cons_zero, List.set_cons_succ]
          refine ah_take (i := 3) (v := ?_) (some 21) rfl rfl (by kernel_rfl) (by kernel_rfl) (by kernel_rfl) (fun _ _ _ h => h) (by kernel_rfl) ?_ (by assumption) ?_
          rotate_left
          · (intro w hSw; (try dsimp only at hSw); go_simp; (first | done | with_reducible rfl))
          simp only [Act.put, List.setIfInBounds_toArray, List.set_cons_zero, List.set_cons_succ]
          refine ah_take (i := 4) (v := ?_) (some 22) rfl rfl (by kernel_rfl) (by kernel_rfl) (by kernel_rfl) (fun _ _ _ h => h) (by kernel_rfl) ?_ (by assumption) ?_
          rotate_left
          · (intro w hSw; (try dsimp only at hSw); go_simp; (first | done | with_reducible rfl))
          simp only [Act.put, List.setIfInBounds_toArray, List.set_cons_zero, List.set_cons_succ]
          refine ah_take (i := 5) (v := ?_) (some 23) rfl rfl (by kernel_rfl) (by kernel_rfl) (by kernel_rfl) (fun _ _ _ h => h) (by kernel_rfl) ?_ (by assumption) ?_
          rotate_left
          · (intro w hSw; (try dsimp only at hSw); go_simp; (first | done | with_reducible rfl))
          simp only [Act.put, List.setIfInBounds_toArray, List.set_cons_zero, List.set_cons_succ]
          refine ah_take (i := 6) (v := ?_) (some 24) rfl rfl (by kernel_rfl) (by kernel_rfl) (by kernel_rfl) (fun _ _ _ h => h) (by kernel_rfl) ?_ (by assumption) ?_
          rotate_left
          · (intro w hSw; (try dsimp only at hSw); go_simp; (first | done | with_reducible rfl))
          simp only [Act.put, List.setIfInBounds_toArray, List.set_cons_zero, List.set_cons_succ]
          refine ah_take (i := 7) (v := ?_) (some 25) rfl rfl (by kernel_rfl) (by kernel_rfl) (by kernel_rfl) (fun _ _ _ h => h) (by kernel_rfl) ?_ (by assumption) ?_
          rotate_left
          · (intro w hSw; (try dsimp only at hSw); go_simp; (first | done | with_reducible rfl))
          simp only [Act.put, List.setIfInBounds_toArray, List.set_cons_zero, List.set_cons_succ]
          refine ah_take (i := 8) (v := ?_) (some 26) rfl rfl (by kernel_rfl) (by kernel_rfl) (by kernel_rfl) (fun _ _ _ h => h) (by kernel_rfl) ?_ (by assumption) ?_
          rotate_left
          · (intro w hSw; (try dsimp only at hSw); go_simp; (first | done | with_reducible rfl))
          simp only [Act.put, List.setIfInBounds_toArray, List.set_cons_zero, List.set_cons_succ]
          refine wpAnyH_ready (rs := [9]) (by kernel_rfl) (by simp) ?_
          refine AllReadyH.cons rfl (fun K hK => ?_) AllReadyH.nil
          go_simp
          refine (HWK.out _ (KR2.out.trans (KD.out.mono KR2.out.size))).mono ?_
          rintro e wx ⟨rfl, kx⟩
          have KX := Lib.hid (KD.out.trans kx)
          clear kx
          refine hK.out _ _ (YR.out _ KX.out) (fun hH1 => ?_)
          try simp only [Act.put, List.setIfInBounds_toArray, List.set_cons_zero, List.set_cons_succ]
          clear hK K
          refine ah_take (i := 10) (v := ?_) (some 28) rfl rfl (by kernel_rfl) (by kernel_rfl) (by kernel_rfl) (fun _ _ _ h => h) (by kernel_rfl) ?_ (by assumption) ?_
          rotate_left
          · (intro w hSw; (try dsimp only at hSw); go_simp; (first | done | with_reducible rfl))
          simp only [Act.put, List.setIfInBounds_toArray, List.set_cons_zero, List.set_cons_succ]
          refine wpAnyH_done (by kernel_rfl) ?_ _
          try clear hH1 hS0
          cases wk with
          | false =>
            go_wp2_with fail
            go_ret
            exact ⟨by rw [HDF.out (by simp)]; rfl, KR2.out.trans (KX.out.mono KR2.out.size)⟩
          | true =>
            go_wp2_with fail
            go_roundw
            case rel => exact ⟨j + 1, by omega, by go_num, by rw [HS1.out, HSE.out]; rfl, KR2.out.trans (KX.out.mono KR2.out.size)⟩
            case measure => simp [intOf]; omega
        · obtain rfl : j = i := by omega
          have gjj : decide ((j : Int) < j) = false := decide_eq_false (by omega)
          have HD1 : Hid (cmp m Rw S (j + 1) = true) := Lib.hid (by rw [cmp, HD.out, HSE.out]; rfl)
          go_wp2_with fail
          go_roundw
          case rel => exact ⟨j + 1, by omega, by go_num, HD1.out, KR2.out⟩
          case measure => simp [intOf]; omega
    · obtain rfl : n = i := by omega
      have gnn : decide ((n : Int) < n) = false := decide_eq_false (by omega)
      go_wp2_with fail
      go_ret
      exact ⟨by rw [HD.out]; rfl, KR.out⟩
set_option maxRecDepth 100000 in
set_option maxHeartbeats 4000000 in
theorem rchange_any (A1 A2 : Option Addr) (n c1 n2 c2 : Nat) (S T : Nat → U) (w : World) (hS : UnitsIn w A1 n S) (hT : UnitsIn w A2 n2 T) :
    Calls Try.prog 22 #[.slice A1 n c1, .slice A2 n2 c2] w fun e w' => e = .returned (.bool (chg n n2 S T)) ∧ Below w.heap.size w w' := by
  have HS := Lib.hid hS
  have HT := Lib.hid hT
  have hmax := hS.1
  have hmax2 := hT.1
  clear hS hT
  obtain ⟨vd, hvd⟩ : ∃ vd, (decide (n ≤ 8) && dis S n) = vd := ⟨_, rfl⟩
  have HV := Lib.hid (fun V (hV : UnitsIn V A1 n S) => rset_any A1 n c1 S V hV)
  rw [hvd] at HV
  have HCH : Hid (chg n n2 S T = (vd && (decide (n = n2) && eqm S T n))) := Lib.hid (by unfold chg; rw [hvd])
  clear hvd
  cases vd with
  | false =>
    go_enter Try.func22, Try.ntmps22
    go_wp2_with fail
    refine (HV.out w HS.out).mono ?_
    rintro e w1 ⟨rfl, k1⟩
    have K1 := Lib.hid k1
    clear k1
    go_wp2_with fail
    go_ret
    exact ⟨by rw [HCH.out]; rfl, K1.out⟩
  | true =>
    by_cases hnn : n = n2
    · subst hnn
      go_enter Try.func22, Try.ntmps22
      go_wp2_with fail
      refine (HV.out w HS.out).mono ?_
      rintro e w1 ⟨rfl, k1⟩
      have K1 := Lib.hid k1
      clear k1
      go_wp2_with fail
      go_loopw [5] (fun iv wr => ∃ i : Nat, i ≤ n ∧ iv = .int .i64 i ∧ eqm S T i = true ∧ Below w.heap.size w wr) (fun i _ => n - (intOf i).toNat)
      case atStart => exact ⟨0, Nat.zero_le _, rfl, rfl, K1.out⟩
      case round =>
        obtain ⟨k, hk, rfl, hq, kr⟩ := hrel
        have HQ := Lib.hid hq
        have KR := Lib.hid kr
        clear hq kr
        by_cases hlt : k < n
        · obtain ⟨ob, off, rfl, hob, hcell⟩ := HS.out.2 (by omega)
          obtain ⟨q6, _⟩ := hcell k hlt
          clear hcell
          obtain ⟨ob2, off2, rfl, hob2, hcell⟩ := HT.out.2 (by omega)
          obtain ⟨q8, _⟩ := hcell k hlt
          clear hcell
          have y6 := (KR.out.cell (p := ⟨ob, off + k * 2, none⟩) hob).trans q6
          have y8 := (KR.out.cell (p := ⟨ob2, off2 + k * 2, none⟩) hob2).trans q8
          have HB : Hid (¬ (S k).1 = (T k).1 → eqm S T n = false) := Lib.hid (fun h => eqm_bad hlt h)
          have HG : Hid ((S k).1 = (T k).1 → eqm S T (k + 1) = true) := Lib.hid (fun h => by rw [eqm, HQ.out]; simp [h])
          generalize (S k).1 = sa at *
          generalize (T k).1 = ta at *
          clear q6 q8
          have g1 : decide (n ≤ k) = false := decide_eq_false (by omega)
          have g2 : decide ((k : Int) < 0) = false := decide_eq_false (by omega)
          have g3 : (k : Int) < n := by omega
          by_cases e : sa = ta
          · have he := HG.out e
            have HE := Lib.hid he
            clear he
            subst e
            go_wp2_with (go_quiet (fail))
            go_roundw
            case rel => exact ⟨k + 1, by omega, by go_num, HE.out, belowN KR.out⟩
            case measure => simp [intOf]; omega
          · have HE := Lib.hid (HB.out e)
            have s1 := str_ne e
            go_wp2_with (go_quiet (fail))
            go_ret
            exact ⟨by rw [HCH.out, HE.out]; simp, belowN KR.out⟩
        · obtain rfl : n = k := by omega
          have gnn : decide ((n : Int) < n) = false := decide_eq_false (by omega)
          go_wp2_with fail
          go_ret
          exact ⟨by rw [HCH.out, HQ.out]; simp, KR.out⟩
    · have h2 : ¬ (n : Int) = n2 := by omega
      have h3 : (n == n2) = false := by simpa using hnn
      have HR : Hid (chg n n2 S T = false) := Lib.hid (by rw [HCH.out]; simp [hnn])
      go_enter Try.func22, Try.ntmps22
      go_wp2_with fail
      refine (HV.out w HS.out).mono ?_
      rintro e w1 ⟨rfl, k1⟩
      have K1 := Lib.hid k1
      clear k1
      go_wp2_with fail
      go_ret
      exact ⟨by rw [HR.out]; rfl, K1.out⟩
end Go.Proofs.Ytcjbjhkmnfegnaa
