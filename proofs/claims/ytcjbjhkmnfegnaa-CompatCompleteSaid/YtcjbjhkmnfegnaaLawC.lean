/-
  The walk of the law CompatComplete: at all rows, sets and machines where the lists lie as given (RowsIn, UnitsIn), it answers true and writes below its own memory only. Conditions: the lengths fit a machine word, the units' names are short enough (Fits).
-/
import Derived.Test.YtcjbjhkmnfegnaaN2
import Derived.Test.YtcjbjhkmnfegnaaP8
import Derived.Test.YtcjbjhkmnfegnaaLawB
import Derived.Test.YtcjbjhkmnfegnaaM3
namespace Go.Proofs.Ytcjbjhkmnfegnaa
open Go.RowKit Go.Shelf
theorem rch_len (m : Nat) (Rw : Nat → R) (n : Nat) (S T : Nat → U) : (rchL m Rw n S T).length ≤ 256 := by
  unfold rchL
  generalize 256 = N
  exact rl_len _ N
theorem has_at (A : Option Addr) (c len : Nat) (z : List Nat) (x : Nat) (w : World) (hz : NumsIn w A z) (hL : z.length = len) (hl : len ≤ 256) :
    Calls Try.prog 15 #[.slice A len c, .int .i64 (x : Int)] w fun e w' => e = .returned (.bool (z.contains x)) ∧ Below w.heap.size w w' := by
  subst hL
  exact has_any A c z x w hz hl
/-- some single change back from b, of a unit below k, is a reachable number, or b is none -/
def frm (z : List Nat) (S T : Nat → U) (b : Nat) : Nat → Bool
  | 0 => decide (b = 0)
  | k + 1 => frm z S T b k || (df S T k && (b.testBit k && z.contains (dn b k)))
theorem frm_of {z : List Nat} {S T : Nat → U} {b j : Nat} (h1 : df S T j = true) (h2 : b.testBit j = true) (h3 : z.contains (dn b j) = true) : ∀ {k : Nat}, j < k → frm z S T b k = true
  | 0, h => absurd h (by omega)
  | k + 1, h => by
    rw [frm]
    by_cases e : j = k
    · subst e; rw [h1, h2, h3]; simp
    · rw [frm_of h1 h2 h3 (k := k) (by omega)]; rfl
theorem frm_zero {z : List Nat} {S T : Nat → U} : ∀ {k : Nat}, frm z S T 0 k = true
  | 0 => by simp [frm]
  | k + 1 => by rw [frm, frm_zero]; rfl
theorem frm0_eq {z : List Nat} {S T : Nat → U} {b : Nat} : Value.bool ((b : Int) == 0) = .bool (frm z S T b 0) := by
  rw [frm]
  congr 1
  rw [Bool.eq_iff_iff]
  simp
theorem up_pow {b k n : Nat} (hb : b < 2 ^ n) (hk : k < n) : up b k < 2 ^ n := Nat.or_lt_two_pow hb (Nat.pow_lt_pow_right (by omega) hk)
/-- what the walk asks of the list -/
structure Zs (m : Nat) (Rw : Nat → R) (n : Nat) (S T : Nat → U) (z : List Nat) : Prop where
  zero : z.contains 0 = cmp m Rw S n
  goal : z.contains (gl S T n) = (OrdR m Rw n S T).isSome
  step : ∀ b k, b ∈ z → k < n → df S T k = true → b.testBit k = false → z.contains (up b k) = cmp m Rw (mx S T (up b k)) n
  sub : ∀ b, b ∈ z → Sub S T n b
  sorted : z.Pairwise (· < ·)
  frm : ∀ b, b ∈ z → frm z S T b n = true
theorem zs (m : Nat) (Rw : Nat → R) (n : Nat) (S T : Nat → U) (h8 : n ≤ 8) : Zs m Rw n S T (rchL m Rw n S T) where
  zero := rch_zero h8
  goal := rch_goal h8
  step _ _ h1 h2 h3 h4 := rch_step h8 h1 h2 h3 h4
  sub _ h := rch_sub h8 h
  sorted := rl_sorted _ _
  frm b h := by
    by_cases e : b = 0
    · subst e; exact frm_zero
    · obtain ⟨a, k, h1, h2, h3, h4, h5⟩ := rch_from h8 h e
      subst h5
      exact frm_of h3 (by rw [up_bit]; simp) (by rw [dn_up h4]; exact List.contains_iff_mem.2 h1) h2
theorem Zs.mem {m n : Nat} {Rw : Nat → R} {S T : Nat → U} {z : List Nat} (_ : Zs m Rw n S T z) {i b : Nat} (h : z.getD i 0 = b) (hi : i < z.length) : b ∈ z := by
  rw [← h, List.getD_eq_getElem?_getD, List.getElem?_eq_getElem hi]
  exact List.getElem_mem hi
theorem Zs.lt {m n : Nat} {Rw : Nat → R} {S T : Nat → U} {z : List Nat} (hz : Zs m Rw n S T z) {i : Nat} (hi : i + 1 < z.length) : z.getD i 0 < z.getD (i + 1) 0 := by
  rw [List.getD_eq_getElem?_getD, List.getD_eq_getElem?_getD, List.getElem?_eq_getElem hi, List.getElem?_eq_getElem (by omega)]
  exact List.pairwise_iff_getElem.1 hz.sorted i (i + 1) (by omega) hi (by omega)
set_option maxRecDepth 100000 in
set_option maxHeartbeats 4000000 in
theorem lawComplete (A1 A2 A3 : Option Addr) (m c3 n c1 n2 c2 : Nat) (Rw : Nat → R) (S T : Nat → U) (w : World) (hR : RowsIn w A3 m Rw) (hS : UnitsIn w A1 n S) (hT : UnitsIn w A2 n2 T) (hF : Fits S n) (hF2 : Fits T n2) (hc1 : n ≤ c1) (hc2 : n2 ≤ c2) (hn : n ≤ 9223372036854775807) (hn2 : n2 ≤ 9223372036854775807) :
    Calls Try.prog 3 #[.slice A3 m c3, .slice A1 n c1, .slice A2 n2 c2] w fun e w' => e = .returned (.bool true) ∧ Below w.heap.size w w' := by
  have HS := Lib.hid hS
  have HT := Lib.hid hT
  have HR := Lib.hid hR
  have HF := Lib.hid hF
  have HF2 := Lib.hid hF2
  clear hS hT hR hF hF2
  by_cases hm : 40 < m
  · have g0 : decide (40 < m) = true := decide_eq_true hm
    go_enter Try.func3, Try.ntmps3
    go_wp2_with fail
    refine (awake_any w).mono ?_
    rintro e w1 ⟨rfl, k1⟩
    go_wp2_with fail
    go_ret
    exact ⟨rfl, k1⟩
  have g0 : decide (40 < m) = false := decide_eq_false hm
  cases hv : chg n n2 S T with
  | false =>
    have HV := Lib.hid hv
    have HV2 := Lib.hid (chg_comm.symm.trans hv : chg n2 n T S = false)
    clear hv
    go_enter Try.func3, Try.ntmps3
    go_wp2_with fail
    refine (reach_bad2 A1 A2 A3 n c1 n2 c2 m c3 S T w HS.out HT.out HF.out hn HV.out).mono ?_
    rintro e w1 ⟨rfl, k1⟩
    have K1 := Lib.hid k1
    go_wp2_with fail
    refine (order_bad2 A1 A2 A3 n c1 n2 c2 m c3 S T w1 (HS.out.below K1.out (Nat.le_refl _)) (HT.out.below K1.out (Nat.le_refl _)) HF.out hn HV.out).mono ?_
    rintro e w2 ⟨rfl, k2⟩
    have K2 := Lib.hid (K1.out.trans (k2.mono K1.out.size))
    clear k1 k2
    go_wp2_with fail
    refine (awake_any w2).mono ?_
    rintro e w3 ⟨rfl, k3⟩
    go_wp2_with fail
    go_ret
    exact ⟨rfl, K2.out.trans (k3.mono K2.out.size)⟩
  | true =>
    obtain ⟨h8, rfl, hdis, hmod⟩ := chg_parts hv
    have HV := Lib.hid hv
    have HM := Lib.hid hmod
    have HD : Hid ((decide (n ≤ 8) && dis S n) = true) := Lib.hid (by rw [hdis]; simp [h8])
    clear hv hdis hmod
    obtain ⟨z, hz⟩ : ∃ z, rchL m Rw n S T = z := ⟨_, rfl⟩
    have hzl : z.length ≤ 256 := by rw [← hz]; exact rch_len m Rw n S T
    have ZS : Hid (Zs m Rw n S T z) := Lib.hid (by rw [← hz]; exact zs m Rw n S T h8)
    obtain ⟨len, hlen⟩ : ∃ len, z.length = len := ⟨_, rfl⟩
    have HL := Lib.hid hlen
    have HR1 := Lib.hid (reach_ok A1 A2 A3 n c1 n c2 m c3 S T Rw w HS.out HT.out HR.out HF.out hc1 HV.out)
    rw [hz] at HR1
    rw [hlen] at hzl
    clear hz hlen
    obtain ⟨fi, hfi⟩ : ∃ fi, cmp m Rw S n = fi := ⟨_, rfl⟩
    have HFI := Lib.hid hfi
    clear hfi
    obtain ⟨g, hg⟩ : ∃ g, gl S T n = g := ⟨_, rfl⟩
    have HGL := Lib.hid hg
    have g256 : g < 256 := by rw [← hg]; exact gl_lt S T h8
    clear hg
    go_enter Try.func3, Try.ntmps3
    go_wp2_with fail
    refine HR1.out.mono ?_
    rintro e w1 ⟨⟨B, cB, rfl, hn1⟩, k1⟩
    have K1 := Lib.hid k1
    have N1 := Lib.hid hn1
    clear k1 hn1 HR1
    rw [HL.out]
    go_wp2_with fail
    refine (order_any A1 A2 A3 n c1 c2 m c3 S T Rw w1 (HS.out.below K1.out (Nat.le_refl _)) (HT.out.below K1.out (Nat.le_refl _)) (HR.out.below K1.out (Nat.le_refl _)) HF.out hc1 HV.out).mono ?_
    rintro e w2 ⟨k2, hans⟩
    have K2 := Lib.hid (K1.out.trans (k2.mono K1.out.size))
    have N2 := Lib.hid (N1.out.below k2 (Nat.le_refl _))
    clear k2 N1 K1
    rcases hans with ⟨hno, rfl⟩ | ⟨p, B2, cB2, hp, rfl, _⟩
    · have HGO : Hid (z.contains g = false) := Lib.hid (by rw [← HGL.out, ZS.out.goal, hno]; rfl)
      clear hno
      go_wp2_with fail
      refine (compatible_ok A3 A1 m c3 n c1 Rw S w2 (HR.out.below K2.out (Nat.le_refl _)) (HS.out.below K2.out (Nat.le_refl _)) HF.out hc1 (by omega) HD.out).mono ?_
      rintro e w3 ⟨rfl, k3⟩
      rw [HFI.out]
      have K3 := Lib.hid (K2.out.trans (k3.mono K2.out.size))
      have N3 := Lib.hid (N2.out.below k3 (Nat.le_refl _))
      clear k3 N2 K2
      go_wp2_with fail
      refine (changed_any A1 A2 n c1 c2 S T w3 (HS.out.below K3.out (Nat.le_refl _)) (HT.out.below K3.out (Nat.le_refl _)) h8 HM.out).mono ?_
      rintro e w4 ⟨rfl, k4⟩
      rw [HGL.out]
      have K4 := Lib.hid (K3.out.trans (k4.mono K3.out.size))
      have N4 := Lib.hid (N3.out.below k4 (Nat.le_refl _))
      clear k4 N3 K3
      go_wp2_with fail
      refine (has_at B cB len z 0 w4 N4.out HL.out hzl).mono ?_
      rintro e w5 ⟨rfl, k5⟩
      rw [ZS.out.zero, HFI.out]
      have K5 := Lib.hid (K4.out.trans (k5.mono K4.out.size))
      have N5 := Lib.hid (N4.out.below k5 (Nat.le_refl _))
      clear k5 N4 K4
      go_wp2_with fail
      refine (has_at B cB len z g w5 N5.out HL.out hzl).mono ?_
      rintro e w6 ⟨rfl, k6⟩
      rw [HGO.out]
      have K6 := Lib.hid (K5.out.trans (k6.mono K5.out.size))
      have N6 := Lib.hid (N5.out.below k6 (Nat.le_refl _))
      clear k6 N5 K5
      go_wp2_with fail
      go_loopw [93] (fun iv wr => ∃ i : Nat, i ≤ len ∧ iv = .int .i64 i ∧ Below w6.heap.size w6 wr)
        (fun iv _ => len - (intOf iv).toNat)
      case atStart => exact ⟨0, Nat.zero_le _, rfl, Below.refl _ _⟩
      case round =>
        obtain ⟨i, hi, rfl, kr⟩ := hrel
        rename World => wo
        by_cases hlt : i < len
        · obtain ⟨B0, rfl, hB0, hc⟩ := N6.out (by rw [HL.out]; omega)
          have y0 := (kr.cell (p := ⟨B0, i, none⟩) hB0).trans (hc i (by rw [HL.out]; exact hlt))
          obtain ⟨b, hb⟩ : ∃ b, z.getD i 0 = b := ⟨_, rfl⟩
          rw [hb] at y0
          have hbm := ZS.out.mem hb (by rw [HL.out]; exact hlt)
          have hbs := ZS.out.sub b hbm
          have hbp := sub_lt hbs
          have b256 : b < 256 := Nat.lt_of_lt_of_le hbp (pow8_le h8)
          have han := an_sub h8 b256 hbs
          rw [HGL.out] at han
          have BM := Lib.hid hbm
          have BP := Lib.hid hbp
          have KR := Lib.hid kr
          have g1 : decide (len ≤ i) = false := decide_eq_false (by omega)
          have g2 : decide ((i : Int) < 0) = false := decide_eq_false (by omega)
          have g3 : (i : Int) < len := by omega
          have g4 : decide ((b : Int) < 0) = false := decide_eq_false (by omega)
          rcases Nat.eq_zero_or_pos i with h0 | h0
          · have g5 : decide ((0 : Int) < (i : Int)) = false := decide_eq_false (by omega)
            have g5' : ¬ (0 : Int) < (i : Int) := by omega
            clear hc hb hbm hbs hbp kr h0
            go_wp2_with fail
            go_loopw [16, 123] (fun fv kv wq => ∃ j : Nat, j ≤ n ∧ kv = .int .i64 j ∧ fv = .bool (frm z S T b j) ∧ Below w6.heap.size w6 wq)
              (fun _ kv _ => n - (intOf kv).toNat)
            case atStart => exact ⟨0, Nat.zero_le _, rfl, frm0_eq, KR.out⟩
            case round =>
              obtain ⟨j, hj, rfl, rfl, kq⟩ := hrel
              obtain ⟨fr, hfr⟩ : ∃ fr, frm z S T b j = fr := ⟨_, rfl⟩
              have HFR := Lib.hid hfr
              rw [hfr]
              clear hfr
              have KQ := Lib.hid kq
              have KW := Lib.hid (K6.out.trans (kq.mono K6.out.size))
              have NW := Lib.hid (N6.out.below kq (Nat.le_refl _))
              clear kq
              by_cases hjn : j < n
              · have k8 : j < 8 := by omega
                have q1 : decide ((j : Int) < 0) = false := decide_eq_false (by omega)
                have hwr := wrap_two k8
                have hgb : g.testBit j = df S T j := by rw [← HGL.out, gl_bit]; simp [hjn]
                cases hdf : df S T j with
                | false =>
                  have hbit := bit_no g256 k8 (hgb.trans hdf)
                  have HFN : Hid (frm z S T b (j + 1) = fr) := Lib.hid (by rw [frm, HFR.out, hdf]; simp)
                  clear hgb hdf
                  go_wp2_with fail
                  go_roundw
                  case rel => exact ⟨j + 1, by omega, by go_num, by rw [HFN.out], KQ.out⟩
                  case measure => simp [intOf]; omega
                | true =>
                  have hbit := bit_yes g256 k8 (hgb.trans hdf)
                  have HDF := Lib.hid hdf
                  clear hgb hdf
                  cases htb : b.testBit j with
                  | true =>
                    have hbit2 := bit_yes b256 k8 htb
                    have hdn := dn_int b256 k8
                    have HTB := Lib.hid htb
                    clear htb
                    cases fr with
                    | true =>
                      have HFN : Hid (frm z S T b (j + 1) = true) := Lib.hid (by rw [frm, HFR.out]; rfl)
                      go_wp2_with fail
                      go_roundw
                      case rel => exact ⟨j + 1, by omega, by go_num, by rw [HFN.out], KQ.out⟩
                      case measure => simp [intOf]; omega
                    | false =>
                      obtain ⟨hd, hhd⟩ : ∃ hd, z.contains (dn b j) = hd := ⟨_, rfl⟩
                      have HHD := Lib.hid hhd
                      have HFN : Hid (frm z S T b (j + 1) = hd) := Lib.hid (by rw [frm, HFR.out, HDF.out, HTB.out, hhd]; rfl)
                      clear hhd
                      go_wp2_with fail
                      refine (has_at _ cB len z (dn b j) _ NW.out HL.out hzl).mono ?_
                      rintro e w7 ⟨rfl, k7⟩
                      rw [HHD.out]
                      have K7 := Lib.hid (KQ.out.trans (k7.mono KQ.out.size))
                      clear k7
                      go_wp2_with fail
                      go_roundw
                      case rel => exact ⟨j + 1, by omega, by go_num, by rw [HFN.out], K7.out⟩
                      case measure => simp [intOf]; omega
                  | false =>
                    have hbit2 := bit_no b256 k8 htb
                    have hor := up_int b256 k8
                    have HUP : Hid (up b j < 2 ^ n) := Lib.hid (up_pow BP.out hjn)
                    have HST := Lib.hid (ZS.out.step b j BM.out hjn HDF.out htb)
                    have HFN : Hid (frm z S T b (j + 1) = fr) := Lib.hid (by rw [frm, HFR.out, htb]; simp)
                    clear htb
                    obtain ⟨ub, hub⟩ : ∃ ub, up b j = ub := ⟨_, rfl⟩
                    rw [hub] at hor HUP HST
                    clear hub
                    go_wp2_with fail
                    refine (mixed_ok A1 A2 n c1 n c2 ub S T _ (HS.out.below KW.out (Nat.le_refl _)) (HT.out.below KW.out (Nat.le_refl _)) HF.out HV.out HUP.out).mono ?_
                    rintro e w7 ⟨⟨A, c, hnc, rfl, hu⟩, k7⟩
                    have HU := Lib.hid hu
                    have KW7 := Lib.hid (KW.out.trans (k7.mono KW.out.size))
                    have KQ7 := Lib.hid (KQ.out.trans (k7.mono KQ.out.size))
                    clear hu k7
                    go_wp2_with fail
                    refine (compatible_ok A3 A m c3 n c Rw (mx S T ub) w7 (HR.out.below KW7.out (Nat.le_refl _)) HU.out (fits_mx HF.out HF2.out) hnc (by omega) (valid_mx HV.out)).mono ?_
                    rintro e w8 ⟨rfl, k8'⟩
                    rw [← HST.out]
                    have KQ8 := Lib.hid (KQ7.out.trans (k8'.mono KQ7.out.size))
                    have N8 := Lib.hid (N6.out.below KQ8.out (Nat.le_refl _))
                    clear k8' HST
                    obtain ⟨wk, hwk⟩ : ∃ wk, z.contains ub = wk := ⟨_, rfl⟩
                    have HWK := Lib.hid hwk
                    rw [hwk]
                    clear hwk
                    go_wp2_with fail
                    refine (has_at _ cB len z ub w8 N8.out HL.out hzl).mono ?_
                    rintro e w9 ⟨rfl, k9⟩
                    rw [HWK.out]
                    have K9 := Lib.hid (KQ8.out.trans (k9.mono KQ8.out.size))
                    clear k9
                    go_wp2_with fail
                    go_roundw
                    case rel => exact ⟨j + 1, by omega, by go_num, by rw [HFN.out], K9.out⟩
                    case measure => simp [intOf]; omega
              · obtain rfl : j = n := by omega
                have hft := (HFR.out).symm.trans (ZS.out.frm b BM.out)
                subst hft
                go_wp2_with fail
                go_roundw
                case rel => exact ⟨i + 1, by omega, by go_num, KQ.out⟩
                case measure => simp [intOf]; omega
          · obtain ⟨i1, hi1⟩ : ∃ i1, i = i1 + 1 := ⟨i - 1, by omega⟩
            have y1 := (kr.cell (p := ⟨B0, i1, none⟩) hB0).trans (hc i1 (by rw [HL.out]; omega))
            have hls := ZS.out.lt (i := i1) (by rw [HL.out]; omega)
            rw [← hi1, hb] at hls
            obtain ⟨a, ha⟩ : ∃ a, z.getD i1 0 = a := ⟨_, rfl⟩
            rw [ha] at y1 hls
            have e0 : ((i : Int) - 1) = (i1 : Int) := by omega
            have g5 : decide ((0 : Int) < (i : Int)) = true := decide_eq_true (by omega)
            have g5' : (0 : Int) < (i : Int) := by omega
            have g8 : decide (len ≤ i1) = false := decide_eq_false (by omega)
            have g9 : (i1 : Int) < len := by omega
            have HI1 := Lib.hid hi1
            have g6 : decide ((a : Int) ≥ (b : Int)) = false := decide_eq_false (by omega)
            have g7 : decide ((b : Int) ≤ (a : Int)) = false := decide_eq_false (by omega)
            clear hc hb hbm hbs hbp kr ha hi1 h0
            go_wp2_with fail
            rw [show decide (b ≤ a) = false from decide_eq_false (by omega)]
            clear e0 y1 g6 g7
            go_loopw [16, 123] (fun fv kv wq => ∃ j : Nat, j ≤ n ∧ kv = .int .i64 j ∧ fv = .bool (frm z S T b j) ∧ Below w6.heap.size w6 wq)
              (fun _ kv _ => n - (intOf kv).toNat)
            case atStart => exact ⟨0, Nat.zero_le _, rfl, frm0_eq, KR.out⟩
            case round =>
              obtain ⟨j, hj, rfl, rfl, kq⟩ := hrel
              obtain ⟨fr, hfr⟩ : ∃ fr, frm z S T b j = fr := ⟨_, rfl⟩
              have HFR := Lib.hid hfr
              rw [hfr]
              clear hfr
              have KQ := Lib.hid kq
              have KW := Lib.hid (K6.out.trans (kq.mono K6.out.size))
              have NW := Lib.hid (N6.out.below kq (Nat.le_refl _))
              clear kq
              by_cases hjn : j < n
              · have k8 : j < 8 := by omega
                have q1 : decide ((j : Int) < 0) = false := decide_eq_false (by omega)
                have hwr := wrap_two k8
                have hgb : g.testBit j = df S T j := by rw [← HGL.out, gl_bit]; simp [hjn]
                cases hdf : df S T j with
                | false =>
                  have hbit := bit_no g256 k8 (hgb.trans hdf)
                  have HFN : Hid (frm z S T b (j + 1) = fr) := Lib.hid (by rw [frm, HFR.out, hdf]; simp)
                  clear hgb hdf
                  go_wp2_with fail
                  go_roundw
                  case rel => exact ⟨j + 1, by omega, by go_num, by rw [HFN.out], KQ.out⟩
                  case measure => simp [intOf]; omega
                | true =>
                  have hbit := bit_yes g256 k8 (hgb.trans hdf)
                  have HDF := Lib.hid hdf
                  clear hgb hdf
                  cases htb : b.testBit j with
                  | true =>
                    have hbit2 := bit_yes b256 k8 htb
                    have hdn := dn_int b256 k8
                    have HTB := Lib.hid htb
                    clear htb
                    cases fr with
                    | true =>
                      have HFN : Hid (frm z S T b (j + 1) = true) := Lib.hid (by rw [frm, HFR.out]; rfl)
                      go_wp2_with fail
                      go_roundw
                      case rel => exact ⟨j + 1, by omega, by go_num, by rw [HFN.out], KQ.out⟩
                      case measure => simp [intOf]; omega
                    | false =>
                      obtain ⟨hd, hhd⟩ : ∃ hd, z.contains (dn b j) = hd := ⟨_, rfl⟩
                      have HHD := Lib.hid hhd
                      have HFN : Hid (frm z S T b (j + 1) = hd) := Lib.hid (by rw [frm, HFR.out, HDF.out, HTB.out, hhd]; rfl)
                      clear hhd
                      go_wp2_with fail
                      refine (has_at _ cB len z (dn b j) _ NW.out HL.out hzl).mono ?_
                      rintro e w7 ⟨rfl, k7⟩
                      rw [HHD.out]
                      have K7 := Lib.hid (KQ.out.trans (k7.mono KQ.out.size))
                      clear k7
                      go_wp2_with fail
                      go_roundw
                      case rel => exact ⟨j + 1, by omega, by go_num, by rw [HFN.out], K7.out⟩
                      case measure => simp [intOf]; omega
                  | false =>
                    have hbit2 := bit_no b256 k8 htb
                    have hor := up_int b256 k8
                    have HUP : Hid (up b j < 2 ^ n) := Lib.hid (up_pow BP.out hjn)
                    have HST := Lib.hid (ZS.out.step b j BM.out hjn HDF.out htb)
                    have HFN : Hid (frm z S T b (j + 1) = fr) := Lib.hid (by rw [frm, HFR.out, htb]; simp)
                    clear htb
                    obtain ⟨ub, hub⟩ : ∃ ub, up b j = ub := ⟨_, rfl⟩
                    rw [hub] at hor HUP HST
                    clear hub
                    go_wp2_with fail
                    refine (mixed_ok A1 A2 n c1 n c2 ub S T _ (HS.out.below KW.out (Nat.le_refl _)) (HT.out.below KW.out (Nat.le_refl _)) HF.out HV.out HUP.out).mono ?_
                    rintro e w7 ⟨⟨A, c, hnc, rfl, hu⟩, k7⟩
                    have HU := Lib.hid hu
                    have KW7 := Lib.hid (KW.out.trans (k7.mono KW.out.size))
                    have KQ7 := Lib.hid (KQ.out.trans (k7.mono KQ.out.size))
                    clear hu k7
                    go_wp2_with fail
                    refine (compatible_ok A3 A m c3 n c Rw (mx S T ub) w7 (HR.out.below KW7.out (Nat.le_refl _)) HU.out (fits_mx HF.out HF2.out) hnc (by omega) (valid_mx HV.out)).mono ?_
                    rintro e w8 ⟨rfl, k8'⟩
                    rw [← HST.out]
                    have KQ8 := Lib.hid (KQ7.out.trans (k8'.mono KQ7.out.size))
                    have N8 := Lib.hid (N6.out.below KQ8.out (Nat.le_refl _))
                    clear k8' HST
                    obtain ⟨wk, hwk⟩ : ∃ wk, z.contains ub = wk := ⟨_, rfl⟩
                    have HWK := Lib.hid hwk
                    rw [hwk]
                    clear hwk
                    go_wp2_with fail
                    refine (has_at _ cB len z ub w8 N8.out HL.out hzl).mono ?_
                    rintro e w9 ⟨rfl, k9⟩
                    rw [HWK.out]
                    have K9 := Lib.hid (KQ8.out.trans (k9.mono KQ8.out.size))
                    clear k9
                    go_wp2_with fail
                    go_roundw
                    case rel => exact ⟨j + 1, by omega, by go_num, by rw [HFN.out], K9.out⟩
                    case measure => simp [intOf]; omega
              · obtain rfl : j = n := by omega
                have hft := (HFR.out).symm.trans (ZS.out.frm b BM.out)
                subst hft
                go_wp2_with fail
                go_roundw
                case rel => exact ⟨i + 1, by omega, by go_num, KQ.out⟩
                case measure => simp [intOf]; omega
        · obtain rfl : i = len := by omega
          have KR := Lib.hid kr
          clear kr
          go_wp2_with fail
          refine (awake_any wo).mono ?_
          rintro e w7 ⟨rfl, k7⟩
          go_wp2_with fail
          go_ret
          exact ⟨rfl, K6.out.trans ((KR.out.trans (k7.mono KR.out.size)).mono K6.out.size)⟩
    · have HGO : Hid (z.contains g = true) := Lib.hid (by rw [← HGL.out, ZS.out.goal, hp]; rfl)
      clear hp
      obtain ⟨lp, hlp⟩ : ∃ lp, p.length = lp := ⟨_, rfl⟩
      rw [hlp]
      clear hlp
      go_wp2_with fail
      refine (compatible_ok A3 A1 m c3 n c1 Rw S w2 (HR.out.below K2.out (Nat.le_refl _)) (HS.out.below K2.out (Nat.le_refl _)) HF.out hc1 (by omega) HD.out).mono ?_
      rintro e w3 ⟨rfl, k3⟩
      rw [HFI.out]
      have K3 := Lib.hid (K2.out.trans (k3.mono K2.out.size))
      have N3 := Lib.hid (N2.out.below k3 (Nat.le_refl _))
      clear k3 N2 K2
      go_wp2_with fail
      refine (changed_any A1 A2 n c1 c2 S T w3 (HS.out.below K3.out (Nat.le_refl _)) (HT.out.below K3.out (Nat.le_refl _)) h8 HM.out).mono ?_
      rintro e w4 ⟨rfl, k4⟩
      rw [HGL.out]
      have K4 := Lib.hid (K3.out.trans (k4.mono K3.out.size))
      have N4 := Lib.hid (N3.out.below k4 (Nat.le_refl _))
      clear k4 N3 K3
      go_wp2_with fail
      refine (has_at B cB len z 0 w4 N4.out HL.out hzl).mono ?_
      rintro e w5 ⟨rfl, k5⟩
      rw [ZS.out.zero, HFI.out]
      have K5 := Lib.hid (K4.out.trans (k5.mono K4.out.size))
      have N5 := Lib.hid (N4.out.below k5 (Nat.le_refl _))
      clear k5 N4 K4
      go_wp2_with fail
      refine (has_at B cB len z g w5 N5.out HL.out hzl).mono ?_
      rintro e w6 ⟨rfl, k6⟩
      rw [HGO.out]
      have K6 := Lib.hid (K5.out.trans (k6.mono K5.out.size))
      have N6 := Lib.hid (N5.out.below k6 (Nat.le_refl _))
      clear k6 N5 K5
      go_wp2_with fail
      go_loopw [93] (fun iv wr => ∃ i : Nat, i ≤ len ∧ iv = .int .i64 i ∧ Below w6.heap.size w6 wr)
        (fun iv _ => len - (intOf iv).toNat)
      case atStart => exact ⟨0, Nat.zero_le _, rfl, Below.refl _ _⟩
      case round =>
        obtain ⟨i, hi, rfl, kr⟩ := hrel
        rename World => wo
        by_cases hlt : i < len
        · obtain ⟨B0, rfl, hB0, hc⟩ := N6.out (by rw [HL.out]; omega)
          have y0 := (kr.cell (p := ⟨B0, i, none⟩) hB0).trans (hc i (by rw [HL.out]; exact hlt))
          obtain ⟨b, hb⟩ : ∃ b, z.getD i 0 = b := ⟨_, rfl⟩
          rw [hb] at y0
          have hbm := ZS.out.mem hb (by rw [HL.out]; exact hlt)
          have hbs := ZS.out.sub b hbm
          have hbp := sub_lt hbs
          have b256 : b < 256 := Nat.lt_of_lt_of_le hbp (pow8_le h8)
          have han := an_sub h8 b256 hbs
          rw [HGL.out] at han
          have BM := Lib.hid hbm
          have BP := Lib.hid hbp
          have KR := Lib.hid kr
          have g1 : decide (len ≤ i) = false := decide_eq_false (by omega)
          have g2 : decide ((i : Int) < 0) = false := decide_eq_false (by omega)
          have g3 : (i : Int) < len := by omega
          have g4 : decide ((b : Int) < 0) = false := decide_eq_false (by omega)
          rcases Nat.eq_zero_or_pos i with h0 | h0
          · have g5 : decide ((0 : Int) < (i : Int)) = false := decide_eq_false (by omega)
            have g5' : ¬ (0 : Int) < (i : Int) := by omega
            clear hc hb hbm hbs hbp kr h0
            go_wp2_with fail
            go_loopw [16, 123] (fun fv kv wq => ∃ j : Nat, j ≤ n ∧ kv = .int .i64 j ∧ fv = .bool (frm z S T b j) ∧ Below w6.heap.size w6 wq)
              (fun _ kv _ => n - (intOf kv).toNat)
            case atStart => exact ⟨0, Nat.zero_le _, rfl, frm0_eq, KR.out⟩
            case round =>
              obtain ⟨j, hj, rfl, rfl, kq⟩ := hrel
              obtain ⟨fr, hfr⟩ : ∃ fr, frm z S T b j = fr := ⟨_, rfl⟩
              have HFR := Lib.hid hfr
              rw [hfr]
              clear hfr
              have KQ := Lib.hid kq
              have KW := Lib.hid (K6.out.trans (kq.mono K6.out.size))
              have NW := Lib.hid (N6.out.below kq (Nat.le_refl _))
              clear kq
              by_cases hjn : j < n
              · have k8 : j < 8 := by omega
                have q1 : decide ((j : Int) < 0) = false := decide_eq_false (by omega)
                have hwr := wrap_two k8
                have hgb : g.testBit j = df S T j := by rw [← HGL.out, gl_bit]; simp [hjn]
                cases hdf : df S T j with
                | false =>
                  have hbit := bit_no g256 k8 (hgb.trans hdf)
                  have HFN : Hid (frm z S T b (j + 1) = fr) := Lib.hid (by rw [frm, HFR.out, hdf]; simp)
                  clear hgb hdf
                  go_wp2_with fail
                  go_roundw
                  case rel => exact ⟨j + 1, by omega, by go_num, by rw [HFN.out], KQ.out⟩
                  case measure => simp [intOf]; omega
                | true =>
                  have hbit := bit_yes g256 k8 (hgb.trans hdf)
                  have HDF := Lib.hid hdf
                  clear hgb hdf
                  cases htb : b.testBit j with
                  | true =>
                    have hbit2 := bit_yes b256 k8 htb
                    have hdn := dn_int b256 k8
                    have HTB := Lib.hid htb
                    clear htb
                    cases fr with
                    | true =>
                      have HFN : Hid (frm z S T b (j + 1) = true) := Lib.hid (by rw [frm, HFR.out]; rfl)
                      go_wp2_with fail
                      go_roundw
                      case rel => exact ⟨j + 1, by omega, by go_num, by rw [HFN.out], KQ.out⟩
                      case measure => simp [intOf]; omega
                    | false =>
                      obtain ⟨hd, hhd⟩ : ∃ hd, z.contains (dn b j) = hd := ⟨_, rfl⟩
                      have HHD := Lib.hid hhd
                      have HFN : Hid (frm z S T b (j + 1) = hd) := Lib.hid (by rw [frm, HFR.out, HDF.out, HTB.out, hhd]; rfl)
                      clear hhd
                      go_wp2_with fail
                      refine (has_at _ cB len z (dn b j) _ NW.out HL.out hzl).mono ?_
                      rintro e w7 ⟨rfl, k7⟩
                      rw [HHD.out]
                      have K7 := Lib.hid (KQ.out.trans (k7.mono KQ.out.size))
                      clear k7
                      go_wp2_with fail
                      go_roundw
                      case rel => exact ⟨j + 1, by omega, by go_num, by rw [HFN.out], K7.out⟩
                      case measure => simp [intOf]; omega
                  | false =>
                    have hbit2 := bit_no b256 k8 htb
                    have hor := up_int b256 k8
                    have HUP : Hid (up b j < 2 ^ n) := Lib.hid (up_pow BP.out hjn)
                    have HST := Lib.hid (ZS.out.step b j BM.out hjn HDF.out htb)
                    have HFN : Hid (frm z S T b (j + 1) = fr) := Lib.hid (by rw [frm, HFR.out, htb]; simp)
                    clear htb
                    obtain ⟨ub, hub⟩ : ∃ ub, up b j = ub := ⟨_, rfl⟩
                    rw [hub] at hor HUP HST
                    clear hub
                    go_wp2_with fail
                    refine (mixed_ok A1 A2 n c1 n c2 ub S T _ (HS.out.below KW.out (Nat.le_refl _)) (HT.out.below KW.out (Nat.le_refl _)) HF.out HV.out HUP.out).mono ?_
                    rintro e w7 ⟨⟨A, c, hnc, rfl, hu⟩, k7⟩
                    have HU := Lib.hid hu
                    have KW7 := Lib.hid (KW.out.trans (k7.mono KW.out.size))
                    have KQ7 := Lib.hid (KQ.out.trans (k7.mono KQ.out.size))
                    clear hu k7
                    go_wp2_with fail
                    refine (compatible_ok A3 A m c3 n c Rw (mx S T ub) w7 (HR.out.below KW7.out (Nat.le_refl _)) HU.out (fits_mx HF.out HF2.out) hnc (by omega) (valid_mx HV.out)).mono ?_
                    rintro e w8 ⟨rfl, k8'⟩
                    rw [← HST.out]
                    have KQ8 := Lib.hid (KQ7.out.trans (k8'.mono KQ7.out.size))
                    have N8 := Lib.hid (N6.out.below KQ8.out (Nat.le_refl _))
                    clear k8' HST
                    obtain ⟨wk, hwk⟩ : ∃ wk, z.contains ub = wk := ⟨_, rfl⟩
                    have HWK := Lib.hid hwk
                    rw [hwk]
                    clear hwk
                    go_wp2_with fail
                    refine (has_at _ cB len z ub w8 N8.out HL.out hzl).mono ?_
                    rintro e w9 ⟨rfl, k9⟩
                    rw [HWK.out]
                    have K9 := Lib.hid (KQ8.out.trans (k9.mono KQ8.out.size))
                    clear k9
                    go_wp2_with fail
                    go_roundw
                    case rel => exact ⟨j + 1, by omega, by go_num, by rw [HFN.out], K9.out⟩
                    case measure => simp [intOf]; omega
              · obtain rfl : j = n := by omega
                have hft := (HFR.out).symm.trans (ZS.out.frm b BM.out)
                subst hft
                go_wp2_with fail
                go_roundw
                case rel => exact ⟨i + 1, by omega, by go_num, KQ.out⟩
                case measure => simp [intOf]; omega
          · obtain ⟨i1, hi1⟩ : ∃ i1, i = i1 + 1 := ⟨i - 1, by omega⟩
            have y1 := (kr.cell (p := ⟨B0, i1, none⟩) hB0).trans (hc i1 (by rw [HL.out]; omega))
            have hls := ZS.out.lt (i := i1) (by rw [HL.out]; omega)
            rw [← hi1, hb] at hls
            obtain ⟨a, ha⟩ : ∃ a, z.getD i1 0 = a := ⟨_, rfl⟩
            rw [ha] at y1 hls
            have e0 : ((i : Int) - 1) = (i1 : Int) := by omega
            have g5 : decide ((0 : Int) < (i : Int)) = true := decide_eq_true (by omega)
            have g5' : (0 : Int) < (i : Int) := by omega
            have g8 : decide (len ≤ i1) = false := decide_eq_false (by omega)
            have g9 : (i1 : Int) < len := by omega
            have HI1 := Lib.hid hi1
            have g6 : decide ((a : Int) ≥ (b : Int)) = false := decide_eq_false (by omega)
            have g7 : decide ((b : Int) ≤ (a : Int)) = false := decide_eq_false (by omega)
            clear hc hb hbm hbs hbp kr ha hi1 h0
            go_wp2_with fail
            rw [show decide (b ≤ a) = false from decide_eq_false (by omega)]
            clear e0 y1 g6 g7
            go_loopw [16, 123] (fun fv kv wq => ∃ j : Nat, j ≤ n ∧ kv = .int .i64 j ∧ fv = .bool (frm z S T b j) ∧ Below w6.heap.size w6 wq)
              (fun _ kv _ => n - (intOf kv).toNat)
            case atStart => exact ⟨0, Nat.zero_le _, rfl, frm0_eq, KR.out⟩
            case round =>
              obtain ⟨j, hj, rfl, rfl, kq⟩ := hrel
              obtain ⟨fr, hfr⟩ : ∃ fr, frm z S T b j = fr := ⟨_, rfl⟩
              have HFR := Lib.hid hfr
              rw [hfr]
              clear hfr
              have KQ := Lib.hid kq
              have KW := Lib.hid (K6.out.trans (kq.mono K6.out.size))
              have NW := Lib.hid (N6.out.below kq (Nat.le_refl _))
              clear kq
              by_cases hjn : j < n
              · have k8 : j < 8 := by omega
                have q1 : decide ((j : Int) < 0) = false := decide_eq_false (by omega)
                have hwr := wrap_two k8
                have hgb : g.testBit j = df S T j := by rw [← HGL.out, gl_bit]; simp [hjn]
                cases hdf : df S T j with
                | false =>
                  have hbit := bit_no g256 k8 (hgb.trans hdf)
                  have HFN : Hid (frm z S T b (j + 1) = fr) := Lib.hid (by rw [frm, HFR.out, hdf]; simp)
                  clear hgb hdf
                  go_wp2_with fail
                  go_roundw
                  case rel => exact ⟨j + 1, by omega, by go_num, by rw [HFN.out], KQ.out⟩
                  case measure => simp [intOf]; omega
                | true =>
                  have hbit := bit_yes g256 k8 (hgb.trans hdf)
                  have HDF := Lib.hid hdf
                  clear hgb hdf
                  cases htb : b.testBit j with
                  | true =>
                    have hbit2 := bit_yes b256 k8 htb
                    have hdn := dn_int b256 k8
                    have HTB := Lib.hid htb
                    clear htb
                    cases fr with
                    | true =>
                      have HFN : Hid (frm z S T b (j + 1) = true) := Lib.hid (by rw [frm, HFR.out]; rfl)
                      go_wp2_with fail
                      go_roundw
                      case rel => exact ⟨j + 1, by omega, by go_num, by rw [HFN.out], KQ.out⟩
                      case measure => simp [intOf]; omega
                    | false =>
                      obtain ⟨hd, hhd⟩ : ∃ hd, z.contains (dn b j) = hd := ⟨_, rfl⟩
                      have HHD := Lib.hid hhd
                      have HFN : Hid (frm z S T b (j + 1) = hd) := Lib.hid (by rw [frm, HFR.out, HDF.out, HTB.out, hhd]; rfl)
                      clear hhd
                      go_wp2_with fail
                      refine (has_at _ cB len z (dn b j) _ NW.out HL.out hzl).mono ?_
                      rintro e w7 ⟨rfl, k7⟩
                      rw [HHD.out]
                      have K7 := Lib.hid (KQ.out.trans (k7.mono KQ.out.size))
                      clear k7
                      go_wp2_with fail
                      go_roundw
                      case rel => exact ⟨j + 1, by omega, by go_num, by rw [HFN.out], K7.out⟩
                      case measure => simp [intOf]; omega
                  | false =>
                    have hbit2 := bit_no b256 k8 htb
                    have hor := up_int b256 k8
                    have HUP : Hid (up b j < 2 ^ n) := Lib.hid (up_pow BP.out hjn)
                    have HST := Lib.hid (ZS.out.step b j BM.out hjn HDF.out htb)
                    have HFN : Hid (frm z S T b (j + 1) = fr) := Lib.hid (by rw [frm, HFR.out, htb]; simp)
                    clear htb
                    obtain ⟨ub, hub⟩ : ∃ ub, up b j = ub := ⟨_, rfl⟩
                    rw [hub] at hor HUP HST
                    clear hub
                    go_wp2_with fail
                    refine (mixed_ok A1 A2 n c1 n c2 ub S T _ (HS.out.below KW.out (Nat.le_refl _)) (HT.out.below KW.out (Nat.le_refl _)) HF.out HV.out HUP.out).mono ?_
                    rintro e w7 ⟨⟨A, c, hnc, rfl, hu⟩, k7⟩
                    have HU := Lib.hid hu
                    have KW7 := Lib.hid (KW.out.trans (k7.mono KW.out.size))
                    have KQ7 := Lib.hid (KQ.out.trans (k7.mono KQ.out.size))
                    clear hu k7
                    go_wp2_with fail
                    refine (compatible_ok A3 A m c3 n c Rw (mx S T ub) w7 (HR.out.below KW7.out (Nat.le_refl _)) HU.out (fits_mx HF.out HF2.out) hnc (by omega) (valid_mx HV.out)).mono ?_
                    rintro e w8 ⟨rfl, k8'⟩
                    rw [← HST.out]
                    have KQ8 := Lib.hid (KQ7.out.trans (k8'.mono KQ7.out.size))
                    have N8 := Lib.hid (N6.out.below KQ8.out (Nat.le_refl _))
                    clear k8' HST
                    obtain ⟨wk, hwk⟩ : ∃ wk, z.contains ub = wk := ⟨_, rfl⟩
                    have HWK := Lib.hid hwk
                    rw [hwk]
                    clear hwk
                    go_wp2_with fail
                    refine (has_at _ cB len z ub w8 N8.out HL.out hzl).mono ?_
                    rintro e w9 ⟨rfl, k9⟩
                    rw [HWK.out]
                    have K9 := Lib.hid (KQ8.out.trans (k9.mono KQ8.out.size))
                    clear k9
                    go_wp2_with fail
                    go_roundw
                    case rel => exact ⟨j + 1, by omega, by go_num, by rw [HFN.out], K9.out⟩
                    case measure => simp [intOf]; omega
              · obtain rfl : j = n := by omega
                have hft := (HFR.out).symm.trans (ZS.out.frm b BM.out)
                subst hft
                go_wp2_with fail
                go_roundw
                case rel => exact ⟨i + 1, by omega, by go_num, KQ.out⟩
                case measure => simp [intOf]; omega
        · obtain rfl : i = len := by omega
          have KR := Lib.hid kr
          clear kr
          go_wp2_with fail
          refine (awake_any wo).mono ?_
          rintro e w7 ⟨rfl, k7⟩
          go_wp2_with fail
          go_ret
          exact ⟨rfl, K6.out.trans ((KR.out.trans (k7.mono KR.out.size)).mono K6.out.size)⟩
end Go.Proofs.Ytcjbjhkmnfegnaa
