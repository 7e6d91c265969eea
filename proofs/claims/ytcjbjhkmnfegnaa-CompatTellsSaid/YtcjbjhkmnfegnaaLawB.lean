/-
  The walk of the law CompatBack.
-/
import Derived.Test.YtcjbjhkmnfegnaaN1
import Derived.Test.YtcjbjhkmnfegnaaP5
import Derived.Test.YtcjbjhkmnfegnaaAW
import Derived.Test.YtcjbjhkmnfegnaaM1
import Derived.Test.YtcjbjhkmnfegnaaIt
namespace Go.Proofs.Ytcjbjhkmnfegnaa
open Go.RowKit Go.Shelf
theorem fits_mx {n b : Nat} {X Y : Nat → U} (h1 : Fits X n) (h2 : Fits Y n) : Fits (mx X Y b) n := by
  intro k hk
  unfold mx
  split
  · exact h2 k hk
  · exact h1 k hk
theorem valid_mx {n b : Nat} {X Y : Nat → U} (h : chg n n X Y = true) : (decide (n ≤ 8) && dis (mx X Y b) n) = true := by
  obtain ⟨h1, _, h3, h4⟩ := chg_parts h
  rw [dis_congr (Y := X) (fun k hk => by unfold mx; split <;> simp [h4 k hk]), h3]
  simp [h1]
set_option maxRecDepth 100000 in
set_option maxHeartbeats 4000000 in
theorem lawBack (A1 A2 A3 : Option Addr) (m c3 n c1 n2 c2 : Nat) (Rw : Nat → R) (S T : Nat → U) (w : World) (hR : RowsIn w A3 m Rw) (hS : UnitsIn w A1 n S) (hT : UnitsIn w A2 n2 T) (hF : Fits S n) (hF2 : Fits T n2) (hc1 : n ≤ c1) (hc2 : n2 ≤ c2) (hn : n ≤ 9223372036854775807) (hn2 : n2 ≤ 9223372036854775807) :
    Calls Try.prog 4 #[.slice A3 m c3, .slice A1 n c1, .slice A2 n2 c2] w fun e w' => e = .returned (.bool true) ∧ Below w.heap.size w w' := by
  have HS := Lib.hid hS
  have HT := Lib.hid hT
  have HR := Lib.hid hR
  have HF := Lib.hid hF
  have HF2 := Lib.hid hF2
  clear hS hT hR hF hF2
  by_cases hm : 40 < m
  · have g0 : decide (40 < m) = true := decide_eq_true hm
    go_enter Try.func4, Try.ntmps4
    go_wp2_with fail
    refine (awake_any w).mono ?_
    rintro e w1 ⟨rfl, k1⟩
    go_wp2_with fail
    go_ret
    exact ⟨rfl, k1⟩
  have g0 : decide (40 < m) = false := decide_eq_false hm
  cases hv : chg n n2 S T with
  | false =>
    have HV := Lib.hid hv
    have HV2 := Lib.hid (chg_comm.symm.trans hv : chg n2 n T S = false)
    clear hv
    go_enter Try.func4, Try.ntmps4
    go_wp2_with fail
    refine (order_bad2 A1 A2 A3 n c1 n2 c2 m c3 S T w HS.out HT.out HF.out hn HV.out).mono ?_
    rintro e w1 ⟨rfl, k1⟩
    have K1 := Lib.hid k1
    go_wp2_with fail
    refine (order_bad2 A2 A1 A3 n2 c2 n c1 m c3 T S w1 (HT.out.below K1.out (Nat.le_refl _)) (HS.out.below K1.out (Nat.le_refl _)) HF2.out hn2 HV2.out).mono ?_
    rintro e w2 ⟨rfl, k2⟩
    have K2 := Lib.hid (K1.out.trans (k2.mono K1.out.size))
    clear k1 k2
    go_wp2_with fail
    refine (awake_any w2).mono ?_
    rintro e w3 ⟨rfl, k3⟩
    go_wp2_with fail
    go_ret
    exact ⟨rfl, K2.out.trans (k3.mono K2.out.size)⟩
  | true =>
    obtain ⟨h8, rfl, _, _⟩ := chg_parts hv
    have HV := Lib.hid hv
    have HV2 := Lib.hid (chg_back hv)
    have HB := Lib.hid (back_iff (m := m) (n := n) (Rw := Rw) (S := S) (T := T) h8)
    clear hv
    go_enter Try.func4, Try.ntmps4
    go_wp2_with fail
    refine (order_any A1 A2 A3 n c1 c2 m c3 S T Rw w HS.out HT.out HR.out HF.out hc1 HV.out).mono ?_
    rintro e w1 ⟨k1, hans⟩
    have K1 := Lib.hid k1
    clear k1
    have HO2 := Lib.hid (order_any A2 A1 A3 n c2 c1 m c3 T S Rw w1 (HT.out.below K1.out (Nat.le_refl _)) (HS.out.below K1.out (Nat.le_refl _)) (HR.out.below K1.out (Nat.le_refl _)) HF2.out hc2 HV2.out)
    rcases hans with ⟨hno, rfl⟩ | ⟨p, B, cB, hp, rfl, hnum⟩
    · have HNO := Lib.hid hno
      clear hno
      go_wp2_with fail
      refine HO2.out.mono ?_
      rintro e w2 ⟨k2, (⟨_, rfl⟩ | ⟨q, _, _, hq, _, _⟩)⟩
      rotate_left
      · have := HB.out
        rw [HNO.out, hq] at this
        simp at this
      have K2 := Lib.hid (K1.out.trans (k2.mono K1.out.size))
      clear k2
      go_wp2_with fail
      refine (awake_any w2).mono ?_
      rintro e w3 ⟨rfl, k3⟩
      go_wp2_with fail
      go_ret
      exact ⟨rfl, K2.out.trans (k3.mono K2.out.size)⟩
    · have HP := Lib.hid hp
      have HN := Lib.hid hnum
      clear hp hnum
      obtain ⟨len, hlen⟩ : ∃ len, p.length = len := ⟨_, rfl⟩
      have HL := Lib.hid hlen
      rw [hlen]
      clear hlen
      go_wp2_with fail
      refine HO2.out.mono ?_
      rintro e w2 ⟨k2, (⟨hq, _⟩ | ⟨q, B2, cB2, _, rfl, _⟩)⟩
      · have := HB.out
        rw [HP.out, hq] at this
        simp at this
      have K2 := Lib.hid (K1.out.trans (k2.mono K1.out.size))
      have N2 := Lib.hid (HN.out.below k2 (Nat.le_refl _))
      have K12 := Lib.hid k2
      clear k2
      have h0 : Hid (cmp m Rw S n = true) := Lib.hid (by
        have := HP.out
        unfold OrdR at this
        split at this
        · assumption
        · cases this)
      have HG : Hid (Gp m Rw n S T p (gl S T n)) := Lib.hid (by
        have := HP.out
        unfold OrdR at this
        rw [if_pos h0.out] at this
        exact ordF_gp this)
      obtain ⟨lq, hlq⟩ : ∃ lq, q.length = lq := ⟨_, rfl⟩
      rw [hlq]
      clear hlq
      have hl256 : len < 256 := by
        have := HG.out.bits h8
        have := HL.out
        omega
      go_wp2_with fail
      go_loopw [11, 12] (fun bi i wr => ∃ (j b : Nat), j ≤ len ∧ i = .int .i64 ((j : Int) - 1) ∧ Gp m Rw n S T (p.take j) b ∧ bi = .int .i64 (co S T n b : Nat) ∧ Below w2.heap.size w2 wr)
        (fun _ i _ => (intOf i + 1).toNat)
      case atStart => exact ⟨len, gl S T n, Nat.le_refl _, by go_num, by rw [List.take_of_length_le (by rw [HL.out]; exact Nat.le_refl _)]; exact HG.out, by rw [co_gl]; rfl, Below.refl _ _⟩
      case round =>
        obtain ⟨j, b, hj, rfl, hgp, rfl, kr⟩ := hrel
        cases j with
        | zero =>
          clear hgp
          have e0 : (((0 : Nat) : Int) - 1) = -1 := by omega
          rw [e0]
          go_wp2_with fail
          refine (awake_any wr).mono ?_
          rintro e w3 ⟨rfl, k3⟩
          go_wp2_with fail
          go_ret
          exact ⟨rfl, K2.out.trans ((kr.trans (k3.mono kr.size)).mono K2.out.size)⟩
        | succ j =>
          have e0 : (((j + 1 : Nat) : Int) - 1) = (j : Int) := by omega
          rw [e0]
          have hjl : j < len := by omega
          obtain ⟨B0, rfl, hB0, hc⟩ := N2.out (by rw [HL.out]; omega)
          have y0 := (kr.cell (p := ⟨B0, j, none⟩) hB0).trans (hc j (by rw [HL.out]; exact hjl))
          clear hc
          obtain ⟨k, hk⟩ : ∃ k, p.getD j 0 = k := ⟨_, rfl⟩
          rw [hk] at y0
          have hpk : p[j]? = some k := by
            rw [← hk, List.getD_eq_getElem?_getD, List.getElem?_eq_getElem (by rw [HL.out]; exact hjl)]
            rfl
          rw [List.take_add_one, hpk] at hgp
          have hgp : Gp m Rw n S T (p.take j ++ [k]) b := hgp
          obtain ⟨b2, hg2, hkn, hup, hcm⟩ := hgp.turn h0.out
          have k8 : k < 8 := by omega
          have hcb : co S T n b < 256 := Nat.lt_of_lt_of_le (co_lt hgp.sub) (pow8_le h8)
          have HCL := Lib.hid (co_lt hg2.sub)
          have hwr := wrap_two k8
          have hor := up_int hcb k8
          rw [hup] at hor
          obtain ⟨cb, hcb'⟩ : ∃ cb, co S T n b = cb := ⟨_, rfl⟩
          obtain ⟨cb2, hcb2'⟩ : ∃ cb2, co S T n b2 = cb2 := ⟨_, rfl⟩
          rw [hcb'] at hor hcb ⊢
          rw [hcb2'] at hor hcm HCL
          have HC2 := Lib.hid hcb2'
          have HCM := Lib.hid hcm
          have HG2 := Lib.hid hg2
          have KR := Lib.hid kr
          have g1 : decide (len ≤ j) = false := decide_eq_false (by omega)
          have g2 : decide ((j : Int) < 0) = false := decide_eq_false (by omega)
          have g3 : (j : Int) < len := by omega
          have g4 : decide ((k : Int) < 0) = false := decide_eq_false (by omega)
          have g5 : decide (n ≤ k) = false := decide_eq_false (by omega)
          have g6 : decide ((j : Int) ≥ 0) = true := decide_eq_true (by omega)
          have g7 : decide ((0 : Int) ≤ (j : Int)) = true := decide_eq_true (by omega)
          clear hk hpk hgp hg2 hup hcm hcb' hcb2' kr e0
          go_wp2_with fail
          refine (mixed_ok A2 A1 n c2 n c1 cb2 T S wr ((HT.out.below K1.out (Nat.le_refl _)).below (K12.out.trans (KR.out.mono K12.out.size)) (Nat.le_refl _)) ((HS.out.below K1.out (Nat.le_refl _)).below (K12.out.trans (KR.out.mono K12.out.size)) (Nat.le_refl _)) HF2.out HV2.out HCL.out).mono ?_
          rintro e w4 ⟨⟨A, c, hnc, rfl, hu⟩, k4⟩
          have HU := Lib.hid hu
          have K4 := Lib.hid k4
          clear hu k4
          go_wp2_with fail
          refine (compatible_ok A3 A m c3 n c Rw (mx T S cb2) w4 ((HR.out.below K2.out (Nat.le_refl _)).below (KR.out.trans (K4.out.mono KR.out.size)) (Nat.le_refl _)) HU.out (fits_mx HF2.out HF.out) hnc (by omega) (valid_mx HV2.out)).mono ?_
          rintro e w5 ⟨rfl, k5⟩
          rw [HCM.out]
          have K5 := Lib.hid ((KR.out.trans (K4.out.mono KR.out.size)).trans (k5.mono (Nat.le_trans KR.out.size K4.out.size)))
          clear k5
          go_wp2_with fail
          go_roundw
          case rel => exact ⟨j, b2, by omega, by go_num, HG2.out, by rw [HC2.out], K5.out⟩
          case measure => simp [intOf]
end Go.Proofs.Ytcjbjhkmnfegnaa
