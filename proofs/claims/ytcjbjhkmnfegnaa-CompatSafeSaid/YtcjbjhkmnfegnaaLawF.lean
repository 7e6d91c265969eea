/-
  The walk of the law CompatSafe.
-/
import Derived.Test.YtcjbjhkmnfegnaaUn
namespace Go.Proofs.Ytcjbjhkmnfegnaa
open Go.RowKit Go.Shelf
set_option maxRecDepth 100000 in
set_option maxHeartbeats 4000000 in
theorem lawSafe (A1 A2 A3 : Option Addr) (m c3 n c1 n2 c2 : Nat) (Rw : Nat → R) (S T : Nat → U) (w : World) (hR : RowsIn w A3 m Rw) (hS : UnitsIn w A1 n S) (hT : UnitsIn w A2 n2 T) (hF : Fits S n) (hF2 : Fits T n2) (hc1 : n ≤ c1) (hc2 : n2 ≤ c2) (hn : n ≤ 9223372036854775807) :
    Calls Try.prog 9 #[.slice A3 m c3, .slice A1 n c1, .slice A2 n2 c2] w fun e w' => e = .returned (.bool true) ∧ Below w.heap.size w w' := by
  have HS := Lib.hid hS
  have HT := Lib.hid hT
  have HR := Lib.hid hR
  have HF := Lib.hid hF
  have HF2 := Lib.hid hF2
  clear hS hT hR hF hF2
  by_cases hm : 40 < m
  · have g0 : decide (40 < m) = true := decide_eq_true hm
    go_enter Try.func9, Try.ntmps9
    go_wp2_with fail
    refine (awake_any w).mono ?_
    rintro e w1 ⟨rfl, k1⟩
    go_wp2_with fail
    go_ret
    exact ⟨rfl, k1⟩
  have g0 : decide (40 < m) = false := decide_eq_false hm
  cases hv : chg n n2 S T with
  | false =>
    have HV := Lib.hid hv
    clear hv
    go_enter Try.func9, Try.ntmps9
    go_wp2_with fail
    refine (order_bad2 A1 A2 A3 n c1 n2 c2 m c3 S T w HS.out HT.out HF.out hn HV.out).mono ?_
    rintro e w1 ⟨rfl, k1⟩
    have K1 := Lib.hid k1
    clear k1
    go_wp2_with fail
    refine (awake_any w1).mono ?_
    rintro e w3 ⟨rfl, k3⟩
    go_wp2_with fail
    go_ret
    exact ⟨rfl, K1.out.trans (k3.mono K1.out.size)⟩
  | true =>
    obtain ⟨h8, rfl, _, hmod⟩ := chg_parts hv
    have HV := Lib.hid hv
    have HMD := Lib.hid hmod
    clear hv hmod
    go_enter Try.func9, Try.ntmps9
    go_wp2_with fail
    refine (order_any A1 A2 A3 n c1 c2 m c3 S T Rw w HS.out HT.out HR.out HF.out hc1 HV.out).mono ?_
    rintro e w1 ⟨k1, hans⟩
    have K1 := Lib.hid k1
    clear k1
    rcases hans with ⟨hno, rfl⟩ | ⟨p, B, cB, hp, rfl, hnum⟩
    · clear hno
      go_wp2_with fail
      refine (awake_any w1).mono ?_
      rintro e w3 ⟨rfl, k3⟩
      go_wp2_with fail
      go_ret
      exact ⟨rfl, K1.out.trans (k3.mono K1.out.size)⟩
    · have h0 : Hid (cmp m Rw S n = true) := Lib.hid (by
        unfold OrdR at hp
        split at hp
        · assumption
        · cases hp)
      have HG : Hid (Gp m Rw n S T p (gl S T n)) := Lib.hid (by
        unfold OrdR at hp
        rw [if_pos h0.out] at hp
        exact ordF_gp hp)
      have HN := Lib.hid hnum
      clear hp hnum
      obtain ⟨len, hlen⟩ : ∃ len, p.length = len := ⟨_, rfl⟩
      have HL := Lib.hid hlen
      have hl256 : len < 256 := by
        have := HG.out.bits h8
        omega
      rw [hlen]
      clear hlen
      go_wp2_with fail
      go_loopw [9, 10] (fun bi i wr => ∃ (j b : Nat), j ≤ len ∧ i = .int .i64 j ∧ Gp m Rw n S T (p.take j) b ∧ bi = .int .i64 b ∧ Below w1.heap.size w1 wr)
        (fun _ i _ => len + 1 - (intOf i).toNat)
      case atStart => exact ⟨0, 0, Nat.zero_le _, rfl, by simpa using Gp.start, rfl, Below.refl _ _⟩
      case round =>
        obtain ⟨j, b, hj, rfl, hgp, rfl, kr⟩ := hrel
        have hb2 := sub_lt hgp.sub
        have hb8 : b < 256 := Nat.lt_of_lt_of_le hb2 (pow8_le h8)
        have HCM := Lib.hid (hgp.fine h0.out)
        have HB := Lib.hid hb2
        have KR := Lib.hid kr
        have HGP := Lib.hid hgp
        have KA := Lib.hid (K1.out.trans (kr.mono K1.out.size))
        have gj : (j : Int) ≤ len := by omega
        have gj2 : decide (len < j) = false := decide_eq_false (by omega)
        clear hb2 hgp kr
        go_wp2_with fail
        refine (mixed_ok A1 A2 n c1 n c2 b S T wr (HS.out.below KA.out (Nat.le_refl _)) (HT.out.below KA.out (Nat.le_refl _)) HF.out HV.out HB.out).mono ?_
        rintro e w4 ⟨⟨A, c, hnc, rfl, hu⟩, k4⟩
        have HU := Lib.hid hu
        have K4 := Lib.hid (KA.out.trans (k4.mono KA.out.size))
        have KR4 := Lib.hid (KR.out.trans (k4.mono KR.out.size))
        clear hu k4
        go_wp2_with fail
        refine (compatible_ok A3 A m c3 n c Rw (mx S T b) w4 (HR.out.below K4.out (Nat.le_refl _)) HU.out (fits_mix HF.out HF2.out) hnc (by omega) (valid_mix HV.out)).mono ?_
        rintro e w5 ⟨rfl, k5⟩
        rw [HCM.out]
        have K5 := Lib.hid (K4.out.trans (k5.mono K4.out.size))
        have KR5 := Lib.hid (KR4.out.trans (k5.mono KR4.out.size))
        have HU5 := Lib.hid (HU.out.below k5 (Nat.le_refl _))
        clear k5 HU K4 KR4 KR KA
        by_cases hjl : j = len
        · have hbg : Hid (b = gl S T n) := Lib.hid (by
            have h1 := HGP.out.fold
            rw [List.take_of_length_le (by rw [HL.out]; omega)] at h1
            rw [h1, ← HG.out.fold])
          have HU6 : Hid (UnitsIn w5 A n T) := Lib.hid (by
            refine HU5.out.congr (fun k hk => ?_)
            rw [hbg.out]
            exact mx_gl hk)
          have hj2 : (j : Int) = len := by omega
          have hj3 : (j == len) = true := by simp [hjl]
          have hj4 : ((j : Int) == (len : Int)) = true := by simp [hjl]
          clear HU5
          go_wp2_with fail
          refine (units_same A A2 n c c2 T w5 HU6.out (HT.out.below K5.out (Nat.le_refl _))).mono ?_
          rintro e w6 ⟨rfl, k6⟩
          have K6 := Lib.hid (K5.out.trans (k6.mono K5.out.size))
          clear k6
          go_wp2_with fail
          refine (changed_any A1 A2 n c1 c2 S T w6 (HS.out.below K6.out (Nat.le_refl _)) (HT.out.below K6.out (Nat.le_refl _)) h8 HMD.out).mono ?_
          rintro e w7 ⟨rfl, k7⟩
          have K7 := Lib.hid (K6.out.trans (k7.mono K6.out.size))
          clear k7
          rw [← hbg.out]
          go_wp2_with fail
          refine (awake_any w7).mono ?_
          rintro e w8 ⟨rfl, k8⟩
          go_wp2_with fail
          go_ret
          exact ⟨rfl, K7.out.trans (k8.mono K7.out.size)⟩
        · have hjlt : j < len := by omega
          have hj2 : ¬ (j : Int) = len := by omega
          have hj3 : (j == len) = false := by simpa using hjl
          obtain ⟨B0, rfl, hB0, hc⟩ := HN.out (by rw [HL.out]; omega)
          have y0 := (KR5.out.cell (p := ⟨B0, j, none⟩) hB0).trans (hc j (by rw [HL.out]; exact hjlt))
          clear hc
          obtain ⟨k, hk⟩ : ∃ k, p.getD j 0 = k := ⟨_, rfl⟩
          rw [hk] at y0
          have hpk : p[j]? = some k := by
            rw [← hk, List.getD_eq_getElem?_getD, List.getElem?_eq_getElem (by rw [HL.out]; exact hjlt)]
            rfl
          obtain ⟨b', hg'⟩ := HG.out.pre (j + 1)
          have ht : p.take (j + 1) = p.take j ++ [k] := by rw [List.take_add_one, hpk]; rfl
          rw [ht] at hg'
          have hg2 := hg'
          obtain ⟨b0, hgb, hup, hkn, hst⟩ := hg'.last
          obtain rfl : b0 = b := by rw [hgb.fold, ← HGP.out.fold]
          obtain ⟨htb, hdf, _⟩ := stp_parts hst
          have k8 : k < 8 := by omega
          have hbit := bit_no hb8 k8 htb
          have hwr := wrap_two k8
          have hor := up_int hb8 k8
          rw [← hup] at hor
          have HG2 : Hid (Gp m Rw n S T (p.take (j + 1)) b') := Lib.hid (by rw [ht]; exact hg2)
          obtain ⟨ob, off, rfl, hob, hcell⟩ := HS.out.2 (by omega)
          obtain ⟨q6, q7⟩ := hcell k hkn
          clear hcell
          obtain ⟨ob2, off2, rfl, hob2, hcell⟩ := HT.out.2 (by omega)
          obtain ⟨q8, q9⟩ := hcell k hkn
          clear hcell
          have y6 := (K5.out.cell (p := ⟨ob, off + k * 2, none⟩) hob).trans q6
          have y7 := (K5.out.cell (p := ⟨ob, off + k * 2 + 1, none⟩) hob).trans q7
          have y8 := (K5.out.cell (p := ⟨ob2, off2 + k * 2, none⟩) hob2).trans q8
          have y9 := (K5.out.cell (p := ⟨ob2, off2 + k * 2 + 1, none⟩) hob2).trans q9
          have hmk := HMD.out k hkn
          rw [← hmk] at y8
          have hne : ((S k).2 == (T k).2) = false := by
            unfold df at hdf
            rw [hmk] at hdf
            simpa using hdf
          generalize (S k).1 = sa at *
          generalize (S k).2 = sv at *
          generalize (T k).2 = tv at *
          have hnd : decide (sv = tv) = false := by simpa using hne
          have g1 : decide (len ≤ j) = false := decide_eq_false (by omega)
          have g2 : decide ((j : Int) < 0) = false := decide_eq_false (by omega)
          have g3 : (j : Int) < len := by omega
          have g4 : decide ((k : Int) < 0) = false := decide_eq_false (by omega)
          have g5 : decide (n ≤ k) = false := decide_eq_false (by omega)
          have g6 : decide ((n : Int) ≤ (k : Int)) = false := decide_eq_false (by omega)
          have g7 : (k : Int) < n := by omega
          clear hk hpk hg' hg2 hgb hup hst htb hdf hmk ht q6 q7 q8 q9 hB0
          go_wp2_with (go_quiet (fail))
          go_roundw
          case rel => exact ⟨j + 1, b', by omega, by go_num, HG2.out, rfl, belowN KR5.out⟩
          case measure => simp [intOf]; omega
end Go.Proofs.Ytcjbjhkmnfegnaa
