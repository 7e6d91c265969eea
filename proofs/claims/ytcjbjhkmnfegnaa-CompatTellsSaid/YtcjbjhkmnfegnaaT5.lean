/-
  The contract of the document's own Reachable (nacelleref39). Conditions: the sets are a change, a number below 256.
-/
import Derived.Test.YtcjbjhkmnfegnaaT4
import Derived.BigQuiet
namespace Go.Proofs.Ytcjbjhkmnfegnaa
open Go.RowKit Go.Shelf
theorem rch_start' {m n : Nat} {Rw : Nat → R} {S T : Nat → U} (hn : n ≤ 8) {b : Nat} (h0 : b = 0) (h : cmp m Rw (mx S T b) n = true) : rch m Rw n S T b = true := by
  subst h0
  exact rch_start hn h
set_option maxRecDepth 100000 in
set_option maxHeartbeats 2000000 in
theorem rreachable_any (A1 A2 A3 : Option Addr) (n c1 c2 m c3 : Nat) (S T : Nat → U) (Rw : Nat → R) (h8 : n ≤ 8) (hM : ∀ k, k < n → (S k).1 = (T k).1) (b : Nat) : b < 256 → ∀ w : World, UnitsIn w A1 n S → UnitsIn w A2 n T → RowsIn w A3 m Rw →
    Calls Try.prog 37 #[.slice A3 m c3, .slice A1 n c1, .slice A2 n c2, .int .i64 b] w fun e w' => e = .returned (.bool (rch m Rw n S T b)) ∧ Below w.heap.size w w' := by
  induction b using Nat.strongRecOn with
  | ind b ih =>
  intro hb w hS hT hR
  have HS := Lib.hid hS
  have HT := Lib.hid hT
  have HR := Lib.hid hR
  have HM := Lib.hid hM
  have IH := Lib.hid ih
  clear hS hT hR hM ih
  obtain ⟨ans, hans⟩ : ∃ ans, rch m Rw n S T b = ans := ⟨_, rfl⟩
  have HANS := Lib.hid hans
  rw [hans]
  clear hans
  have H24 := Lib.hid (rmixed_any A1 A2 n c1 c2 b S T w HS.out HT.out h8 hb)
  cases hcm : cmp m Rw (mx S T b) n with
  | false =>
    have HCM := Lib.hid hcm
    have HRB := Lib.hid (rch_bad h8 hcm)
    clear hcm
    go_enter Try.func37, Try.ntmps37
    go_wp2_with fail
    refine H24.out.mono ?_
    rintro e w1 ⟨⟨A, c, rfl, hu, _⟩, k1⟩
    have H21 := Lib.hid (rcompat_any A3 A m c3 n c Rw (mx S T b) w1 (HR.out.below k1 (Nat.le_refl _)) hu)
    have K1 := Lib.hid k1
    clear k1 hu
    rw [HCM.out] at H21
    go_wp2_with fail
    refine H21.out.mono ?_
    rintro e w2 ⟨rfl, k2⟩
    have K2 := Lib.hid (K1.out.trans (k2.mono K1.out.size))
    clear k2
    go_wp2_with fail
    go_ret
    exact ⟨by rw [← HANS.out, HRB.out]; rfl, K2.out⟩
  | true =>
    have HCM := Lib.hid hcm
    clear hcm
    by_cases hb0 : b = 0
    · have HB0 := Lib.hid hb0
      have HRB : Hid (rch m Rw n S T b = true) := Lib.hid (rch_start' h8 hb0 HCM.out)
      clear hb0
      go_enter Try.func37, Try.ntmps37
      go_wp2_with fail
      refine H24.out.mono ?_
      rintro e w1 ⟨⟨A, c, rfl, hu, _⟩, k1⟩
      have H21 := Lib.hid (rcompat_any A3 A m c3 n c Rw (mx S T b) w1 (HR.out.below k1 (Nat.le_refl _)) hu)
      have K1 := Lib.hid k1
      clear k1 hu
      rw [HCM.out] at H21
      go_wp2_with fail
      refine H21.out.mono ?_
      rintro e w2 ⟨rfl, k2⟩
      have K2 := Lib.hid (K1.out.trans (k2.mono K1.out.size))
      clear k2
      have hb0 := HB0.out
      have hb1 : (b : Int) = 0 := by omega
      have hb2 : (b == 0) = true := by simp [hb0]
      go_wp2_with fail
      go_ret
      exact ⟨by rw [← HANS.out, HRB.out]; rfl, K2.out⟩
    · have HRV := Lib.hid (rch_via (Rw := Rw) (m := m) (S := S) (T := T) h8 hb hb0 HCM.out)
      have hb2 : ((b : Int) == 0) = false := by simpa using hb0
      go_enter Try.func37, Try.ntmps37
      go_wp2_with fail
      refine H24.out.mono ?_
      rintro e w1 ⟨⟨A, c, rfl, hu, _⟩, k1⟩
      have H21 := Lib.hid (rcompat_any A3 A m c3 n c Rw (mx S T b) w1 (HR.out.below k1 (Nat.le_refl _)) hu)
      have K1 := Lib.hid k1
      clear k1 hu
      rw [HCM.out] at H21
      go_wp2_with fail
      refine H21.out.mono ?_
      rintro e w2 ⟨rfl, k2⟩
      have K2 := Lib.hid (K1.out.trans (k2.mono K1.out.size))
      clear k2
      go_wp2_with fail
      go_loopw [9, 10] (fun pv iv wr => ∃ k : Nat, k ≤ n ∧ iv = .int .i64 k ∧ pv = .int .i64 ((2 ^ k : Nat)) ∧ Hid (via m Rw n S T b k = false) ∧ Below w.heap.size w wr)
        (fun _ i _ => n - (intOf i).toNat)
      case atStart => exact ⟨0, Nat.zero_le _, rfl, rfl, Lib.hid rfl, K2.out⟩
      case round =>
        obtain ⟨k, hk, rfl, rfl, hv, kr⟩ := hrel
        have HV := hv
        have KR := Lib.hid kr
        clear hv kr
        by_cases hlt : k < n
        · obtain ⟨ob, off, rfl, hob, hcell⟩ := HS.out.2 (by omega)
          obtain ⟨c0, c1'⟩ := hcell k hlt
          clear hcell
          obtain ⟨ob2, off2, rfl, hob2, hcell⟩ := HT.out.2 (by omega)
          obtain ⟨d0, d1⟩ := hcell k hlt
          clear hcell
          rw [← HM.out k hlt] at d0
          have YS : Hid (∀ V : World, Below w.heap.size w V → (V.cell? ⟨ob, off + k * 2, none⟩ = some (.string (S k).1) ∧ V.cell? ⟨ob, off + k * 2 + 1, none⟩ = some (.int .i64 (S k).2) ∧ V.cell? ⟨ob2, off2 + k * 2, none⟩ = some (.string (S k).1) ∧ V.cell? ⟨ob2, off2 + k * 2 + 1, none⟩ = some (.int .i64 (T k).2))) := Lib.hid (fun V hV =>
            ⟨(hV.cell (p := ⟨ob, off + k * 2, none⟩) hob).trans c0, (hV.cell (p := ⟨ob, off + k * 2 + 1, none⟩) hob).trans c1', (hV.cell (p := ⟨ob2, off2 + k * 2, none⟩) hob2).trans d0, (hV.cell (p := ⟨ob2, off2 + k * 2 + 1, none⟩) hob2).trans d1⟩)
          obtain ⟨y0, y1, z0, z1⟩ := YS.out wr KR.out
          have hhb := half_bit b k
          have HV1 : Hid (via m Rw n S T b (k + 1) = (via m Rw n S T b k || (b.testBit k && (df S T k && rch m Rw n S T (b - 2 ^ k))))) := Lib.hid rfl
          have HDF : Hid (df S T k = !((S k).2 == (T k).2)) := Lib.hid (by unfold df; rw [HM.out k hlt]; simp)
          have HVT : Hid (via m Rw n S T b (k + 1) = true → rch m Rw n S T b = true) := Lib.hid (fun h => by
            rw [HRV.out]
            obtain ⟨i, h1, h2⟩ := via_iff.1 h
            exact via_iff.2 ⟨i, by omega, h2⟩)
          have hsb := fun h => sub_bit hb (show k < 8 by omega) (h : b.testBit k = true)
          have hp1 : 2 ^ k ≤ 128 := Nat.le_trans (Nat.pow_le_pow_right (by decide) (show k ≤ 7 by omega)) (by decide)
          have hp0 : 0 < 2 ^ k := Nat.pow_pos (by decide)
          have HPN : Hid (2 ^ (k + 1) = 2 * 2 ^ k) := Lib.hid (by rw [Nat.pow_succ, Nat.mul_comm])
          obtain ⟨p, hp⟩ : ∃ p, 2 ^ k = p := ⟨_, rfl⟩
          rw [hp] at hhb HV1 hsb hp1 hp0 HPN
          rw [hp]
          have HSB := Lib.hid hsb
          clear hp c0 c1' d0 d1 hsb
          have hpz : ¬ (p : Int) = 0 := by omega
          have hpn : ¬ p = 0 := by omega
          have hq8 : b / p < 256 := Nat.lt_of_le_of_lt (Nat.div_le_self _ _) hb
          have hd0 : (0 : Int) ≤ (b : Int) / p := Int.ediv_nonneg (by omega) (by omega)
          have hd1 : (b : Int) / p ≤ b := Int.ediv_le_self _ (by omega)
          have hwq : IntKind.i64.wrap ((b : Int) / p) = (b : Int) / p := IntWalk.i64_in _ (by omega)
          have hqt : ((b : Int) / p).tmod 2 = ((b : Int) / p) % 2 := Int.tmod_eq_emod_of_nonneg hd0
          generalize (S k).1 = sn at *
          generalize (S k).2 = sv at *
          generalize (T k).2 = tv at *
          have g1 : decide (n ≤ k) = false := decide_eq_false (by omega)
          have g2 : decide ((k : Int) < 0) = false := decide_eq_false (by omega)
          have g3 : (k : Int) < n := by omega
          cases ht : b.testBit k with
          | false =>
            rw [ht] at hhb
            have hq1 : (b / p) % 2 = 0 := by simpa using hhb
            have hq2 : ((b : Int) / p) % 2 = 0 := by omega
            have hq4 : ((b : Int) / p).tmod 2 = 0 := by rw [hqt]; exact hq2
            clear hqt
            have HVF : Hid (via m Rw n S T b (k + 1) = false) := Lib.hid (by rw [HV1.out, HV.out, ht]; rfl)
            clear hhb
            go_wp2_with (go_quiet (fail))
            go_roundw
            case rel => exact ⟨k + 1, by omega, by go_num, by rw [HPN.out]; first | rfl | (push_cast; rfl) | go_num, HVF, belowN KR.out⟩
            case measure => simp [intOf]; omega
          | true =>
            rw [ht] at hhb
            have hq1 : (b / p) % 2 = 1 := by simpa using hhb
            have hq2 : ((b : Int) / p) % 2 = 1 := by omega
            have hq4 : ((b : Int) / p).tmod 2 = 1 := by rw [hqt]; exact hq2
            clear hqt
            clear hhb
            obtain ⟨_, _, hlb, hpb⟩ := HSB.out ht
            by_cases hd : sv = tv
            · have hd2 : (sv == tv) = true := by simp [hd]
              have HVF : Hid (via m Rw n S T b (k + 1) = false) := Lib.hid (by rw [HV1.out, HV.out, HDF.out, hd2]; simp)
              subst hd
              go_wp2_with (go_quiet (fail))
              go_roundw
              case rel => exact ⟨k + 1, by omega, by go_num, by rw [HPN.out]; first | rfl | (push_cast; rfl) | go_num, HVF, belowN KR.out⟩
              case measure => simp [intOf]; omega
            · have hd2 : (sv == tv) = false := by simpa using hd
              have HI := Lib.hid (fun (V : World) (hV : Below w.heap.size w V) => by
                have h := IH.out (b - p) hlb (by omega) V (HS.out.below hV (Nat.le_refl _)) (HT.out.below hV (Nat.le_refl _)) (HR.out.below hV (Nat.le_refl _))
                rw [show ((b - p : Nat) : Int) = (b : Int) - p from by omega] at h
                exact h)
              obtain ⟨rb, hrb⟩ : ∃ rb, rch m Rw n S T (b - p) = rb := ⟨_, rfl⟩
              rw [hrb] at HI HV1
              have HVX : Hid (via m Rw n S T b (k + 1) = rb) := Lib.hid (by rw [HV1.out, HV.out, ht, HDF.out, hd2]; simp)
              have hws : IntKind.i64.wrap ((b : Int) - p) = (b : Int) - p := IntWalk.i64_in _ (by omega)
              have KD := Lib.hid KR.out.drew
              clear hrb hlb
              go_upto_region 9 with fail
              refine wp_region_held_drew (S := (fun V : World => (V.cell? ⟨ob, off + k * 2, none⟩ = some (.string sn) ∧ V.cell? ⟨ob, off + k * 2 + 1, none⟩ = some (.int .i64 sv) ∧ V.cell? ⟨ob2, off2 + k * 2, none⟩ = some (.string sn) ∧ V.cell? ⟨ob2, off2 + k * 2 + 1, none⟩ = some (.int .i64 tv)))) (by kernel_rfl) (YS.out _ KD.out) (fun hS0 => ?_)
              refine ah_take (i := 0) (v := ?_) (some 26) rfl rfl (by kernel_rfl) (by kernel_rfl) (by kernel_rfl) (fun _ _ _ h => h) (by kernel_rfl) ?_ (by assumption) ?_
              rotate_left
              · (intro w hSw; (try dsimp only at hSw); go_simp; (first | done | with_reducible rfl))
              simp only [Act.put, List.setIfInBounds_toArray, List.set_cons_zero, List.set_cons_succ]
              refine ah_take (i := 1) (v := ?_) (some 27) rfl rfl (by kernel_rfl) (by kernel_rfl) (by kernel_rfl) (fun _ _ _ h => h) (by kernel_rfl) ?_ (by assumption) ?_
              rotate_left
              · (intro w hSw; (try dsimp only at hSw); go_simp; (first | done | with_reducible rfl))
              simp only [Act.put, List.setIfInBounds_toArray, List.set_cons_zero, List.set_cons_succ]
              refine ah_take (i := 2) (v := ?_) (some 28) rfl rfl (by kernel_rfl) (by kernel_rfl) (by kernel_rfl) (fun _ _ _ h => h) (by kernel_rfl) ?_ (by assumption) ?_
              rotate_left
              · (intro w hSw; (try dsimp only at hSw); go_simp; (first | done | with_reducible rfl))
              simp only [Act.put, List.setIfInBounds_toArray, List.set_cons_zero, List.set_cons_succ]
              refine ah_take (i := 3) (v := ?_) (some 29) rfl rfl (by kernel_rfl) (by kernel_rfl) (by kernel_rfl) (fun _ _ _ h => h) (by kernel_rfl) ?_ (by assumption) ?_
              rotate_left
              · (intro w hSw; (try dsimp only at hSw); go_simp; (first | done | with_reducible rfl))
              simp only [Act.put, List.setIfInBounds_toArray, List.set_cons_zero, List.set_cons_succ]
              refine ah_take (i := 4) (v := ?_) (some 30) rfl rfl (by kernel_rfl) (by kernel_rfl) (by kernel_rfl) (fun _ _ _ h => h) (by kernel_rfl) ?_ (by assumption) ?_
              rotate_left
              · (intro w hSw; (try dsimp only at hSw); go_simp; (first | done | with_reducible rfl))
              simp only [Act.put, List.setIfInBounds_toArray, List.set_cons_zero, List.set_cons_succ]
              refine ah_take (i := 5) (v := ?_) (some 31) rfl rfl (by kernel_rfl) (by kernel_rfl) (by kernel_rfl) (fun _ _ _ h => h) (by kernel_rfl) ?_ (by assumption) ?_
              rotate_left
              · (intro w hSw; (try dsimp only at hSw); go_simp; (first | done | with_reducible rfl))
              simp only [Act.put, List.setIfInBounds_toArray, List.set_cons_zero, List.set_cons_succ]
              refine ah_take (i := 6) (v := ?_) (some 32) rfl rfl (by kernel_rfl) (by kernel_rfl) (by kernel_rfl) (fun _ _ _ h => h) (by kernel_rfl) ?_ (by assumption) ?_
              rotate_left
              · (intro w hSw; (try dsimp only at hSw); go_simp; (first | done | with_reducible rfl))
              simp only [Act.put, List.setIfInBounds_toArray, List.set_cons_zero, List.set_cons_succ]
              refine ah_take (i := 7) (v := ?_) (some 33) rfl rfl (by kernel_rfl) (by kernel_rfl) (by kernel_rfl) (fun _ _ _ h => h) (by kernel_rfl) ?_ (by assumption) ?_
              rotate_left
              · (intro w hSw; (try dsimp only at hSw); go_simp; (first | done | with_reducible rfl))
              simp only [Act.put, List.setIfInBounds_toArray, List.set_cons_zero, List.set_cons_succ]
              refine ah_take (i := 8) (v := ?_) (some 34) rfl rfl (by kernel_rfl) (by kernel_rfl) (by kernel_rfl) (fun _ _ _ h => h) (by kernel_rfl) ?_ (by assumption) ?_
              rotate_left
              · (intro w hSw; (try dsimp only at hSw); go_simp; (first | done | with_reducible rfl))
              simp only [Act.put, List.setIfInBounds_toArray, List.set_cons_zero, List.set_cons_succ]
              refine ah_take (i := 9) (v := ?_) (some 35) rfl rfl (by kernel_rfl) (by kernel_rfl) (by kernel_rfl) (fun _ _ _ h => h) (by kernel_rfl) ?_ (by assumption) ?_
              rotate_left
              · (intro w hSw; (try dsimp only at hSw); go_simp; (first | done | with_reducible rfl))
              simp only [Act.put, List.setIfInBounds_toArray, List.set_cons_zero, List.set_cons_succ]
              refine ah_take (i := 10) (v := ?_) (some 36) rfl rfl (by kernel_rfl) (by kernel_rfl) (by kernel_rfl) (fun _ _ _ h => h) (by kernel_rfl) ?_ (by assumption) ?_
              rotate_left
              · (intro w hSw; (try dsimp only at hSw); go_simp; (first | done | with_reducible rfl))
              simp only [Act.put, List.setIfInBounds_toArray, List.set_cons_zero, List.set_cons_succ]
              refine ah_take (i := 11) (v := ?_) (some 37) rfl rfl (by kernel_rfl) (by kernel_rfl) (by kernel_rfl) (fun _ _ _ h => h) (by kernel_rfl) ?_ (by assumption) ?_
              rotate_left
              · (intro w hSw; (try dsimp only at hSw); go_simp; (first | done | with_reducible rfl))
              simp only [Act.put, List.setIfInBounds_toArray, List.set_cons_zero, List.set_cons_succ]
              refine ah_take (i := 12) (v := ?_) (some 38) rfl rfl (by kernel_rfl) (by kernel_rfl) (by kernel_rfl) (fun _ _ _ h => h) (by kernel_rfl) ?_ (by assumption) ?_
              rotate_left
              · (intro w hSw; (try dsimp only at hSw); go_simp; (first | done | with_reducible rfl))
              simp only [Act.put, List.setIfInBounds_toArray, List.set_cons_zero, List.set_cons_succ]
              refine ah_take (i := 13) (v := ?_) (some 39) rfl rfl (by kernel_rfl) (by kernel_rfl) (by kernel_rfl) (fun _ _ _ h => h) (by kernel_rfl) ?_ (by assumption) ?_
              rotate_left
              · (intro w hSw; (try dsimp only at hSw); go_simp; (first | done | with_reducible rfl))
              simp only [Act.put, List.setIfInBounds_toArray, List.set_cons_zero, List.set_cons_succ]
              refine ah_take (i := 14) (v := ?_) (some 40) rfl rfl (by kernel_rfl) (by kernel_rfl) (by kernel_rfl) (fun _ _ _ h => h) (by kernel_rfl) ?_ (by assumption) ?_
              rotate_left
              · (intro w hSw; (try dsimp only at hSw); go_simp; (first | done | with_reducible rfl))
              simp only [Act.put, List.setIfInBounds_toArray, List.set_cons_zero, List.set_cons_succ]
              refine ah_take (i := 15) (v := ?_) (some 41) rfl rfl (by kernel_rfl) (by kernel_rfl) (by kernel_rfl) (fun _ _ _ h => h) (by kernel_rfl) ?_ (by assumption) ?_
              rotate_left
              · (intro w hSw; (try dsimp only at hSw); go_simp; (first | done | with_reducible rfl))
              simp only [Act.put, List.setIfInBounds_toArray, List.set_cons_zero, List.set_cons_succ]
              refine ah_take (i := 16) (v := ?_) (some 42) rfl rfl (by kernel_rfl) (by kernel_rfl) (by kernel_rfl) (fun _ _ _ h => h) (by kernel_rfl) ?_ (by assumption) ?_
              rotate_left
              · (intro w hSw; (try dsimp only at hSw); go_simp; (first | done | with_reducible rfl))
              simp only [Act.put, List.setIfInBounds_toArray, List.set_cons_zero, List.set_cons_succ]
              refine ah_take (i := 17) (v := ?_) (some 43) rfl rfl (by kernel_rfl) (by kernel_rfl) (by kernel_rfl) (fun _ _ _ h => h) (by kernel_rfl) ?_ (by assumption) ?_
              rotate_left
              · (intro w hSw; (try dsimp only at hSw); go_simp; (first | done | with_reducible rfl))
              simp only [Act.put, List.setIfInBounds_toArray, List.set_cons_zero, List.set_cons_succ]
              refine ah_take (i := 18) (v := ?_) (some 44) rfl rfl (by kernel_rfl) (by kernel_rfl) (by kernel_rfl) (fun _ _ _ h => h) (by kernel_rfl) ?_ (by assumption) ?_
              rotate_left
              · (intro w hSw; (try dsimp only at hSw); go_simp; (first | done | with_reducible rfl))
              simp only [Act.put, List.setIfInBounds_toArray, List.set_cons_zero, List.set_cons_succ]
              refine ah_take (i := 19) (v := ?_) (some 45) rfl rfl (by kernel_rfl) (by kernel_rfl) (by kernel_rfl) (fun _ _ _ h => h) (by kernel_rfl) ?_ (by assumption) ?_
              rotate_left
              · (intro w hSw; (try dsimp only at hSw); go_simp; (first | done | with_reducible rfl))
              simp only [Act.put, List.setIfInBounds_toArray, List.set_cons_zero, List.set_cons_succ]
              refine ah_take (i := 20) (v := ?_) (some 46) rfl rfl (by kernel_rfl) (by kernel_rfl) (by kernel_rfl) (fun _ _ _ h => h) (by kernel_rfl) ?_ (by assumption) ?_
              rotate_left
              · (intro w hSw; (try dsimp only at hSw); go_simp; (first | done | with_reducible rfl))
              simp only [Act.put, List.setIfInBounds_toArray, List.set_cons_zero, List.set_cons_succ]
              refine ah_take (i := 21) (v := ?_) (some 47) rfl rfl (by kernel_rfl) (by kernel_rfl) (by kernel_rfl) (fun _ _ _ h => h) (by kernel_rfl) ?_ (by assumption) ?_
              rotate_left
              · (intro w hSw; (try dsimp only at hSw); go_simp; (first | done | with_reducible rfl))
              simp only [Act.put, List.setIfInBounds_toArray, List.set_cons_zero, List.set_cons_succ]
              refine ah_take (i := 22) (v := ?_) (some 48) rfl rfl (by kernel_rfl) (by kernel_rfl) (by kernel_rfl) (fun _ _ _ h => h) (by kernel_rfl) ?_ (by assumption) ?_
              rotate_left
              · (intro w hSw; (try dsimp only at hSw); go_simp; (first | done | with_reducible rfl))
              simp only [Act.put, List.setIfInBounds_toArray, List.set_cons_zero, List.set_cons_succ]
              refine wpAnyH_ready (rs := [23]) (by kernel_rfl) (by simp) ?_
              refine AllReadyH.cons rfl (fun K hK => ?_) AllReadyH.nil
              go_simp
              try rw [hws]
              refine (HI.out _ KD.out).mono ?_
              rintro e wx ⟨rfl, kx⟩
              have KX := Lib.hid (KD.out.trans (kx.mono KD.out.size))
              clear kx
              refine hK.out _ _ (YS.out _ KX.out) (fun hH1 => ?_)
              try simp only [Act.put, List.setIfInBounds_toArray, List.set_cons_zero, List.set_cons_succ]
              clear hK K
              refine ah_take (i := 24) (v := ?_) (some 50) rfl rfl (by kernel_rfl) (by kernel_rfl) (by kernel_rfl) (fun _ _ _ h => h) (by kernel_rfl) ?_ (by assumption) ?_
              rotate_left
              · (intro w hSw; (try dsimp only at hSw); go_simp; (first | done | with_reducible rfl))
              simp only [Act.put, List.setIfInBounds_toArray, List.set_cons_zero, List.set_cons_succ]
              refine wpAnyH_done (by kernel_rfl) ?_ _
              try clear hH1 hS0
              cases rb with
              | true =>
                go_wp2_with fail
                go_ret
                exact ⟨by rw [← HANS.out, HVT.out HVX.out]; rfl, KX.out⟩
              | false =>
                go_wp2_with fail
                go_roundw
                case rel => exact ⟨k + 1, by omega, by go_num, by rw [HPN.out]; first | rfl | (push_cast; rfl) | go_num, HVX, KX.out⟩
                case measure => simp [intOf]; omega
        · obtain rfl : n = k := by omega
          have gnn : decide ((n : Int) < n) = false := decide_eq_false (by omega)
          go_wp2_with fail
          go_ret
          exact ⟨by rw [← HANS.out, HRV.out, HV.out]; rfl, KR.out⟩
end Go.Proofs.Ytcjbjhkmnfegnaa
