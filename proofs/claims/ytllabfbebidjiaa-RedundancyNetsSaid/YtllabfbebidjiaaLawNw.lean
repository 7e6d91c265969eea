/-
  The law RedundancyNets: the walk, which answers true. Conditions: the arrivals lie as given.
-/
import Derived.Test.YtllabfbebidjiaaLawN
import Derived.OwnWalk
namespace Go.Proofs.Ytllabfbebidjiaa
open Go.RowKit
theorem mout_at {skew : Int} {N Q T : Nat → Int} {j : Nat} : ∀ {k : Nat}, j < k → (mout skew N Q T k).getD j false = (mgStep (mst skew N Q T j) (N j) (Q j) (T j)).2
  | 0, h => absurd h (by omega)
  | k + 1, h => by
    have hl := mout_len (skew := skew) (N := N) (Q := Q) (T := T) k
    rw [mout, List.getD_eq_getElem?_getD]
    by_cases e : j = k
    · subst e
      rw [List.getElem?_append_right (by omega), hl, Nat.sub_self]
      rfl
    · rw [List.getElem?_append_left (by omega), ← List.getD_eq_getElem?_getD]
      exact mout_at (by omega)
set_option maxRecDepth 100000 in
set_option maxHeartbeats 4000000 in
theorem lawNets (skew : Int) (A : Option Addr) (n c : Nat) (N Q T : Nat → Int) (w : World) (hA : ArrOk w A n N Q T) :
    Calls Try.prog 7 #[.int .i64 skew, .slice A n c] w fun e w' => e = .returned (.bool true) ∧ Below w.heap.size w w' := by
  have HA := Lib.hid hA.1
  have HB := Lib.hid hA.2
  clear hA
  by_cases hn : 300 < n
  · go_enter Try.func7, Try.ntmps7
    go_wp2_with fail
    refine (awake_any w).mono ?_
    rintro e w1 ⟨rfl, k1⟩
    go_wp2_with fail
    go_ret
    exact ⟨rfl, k1⟩
  obtain ⟨i0, hi, hz0, hz1, hz2⟩ := info_parts Try.info31'
  have hi' := Lib.hid hi
  have hz0' := Lib.hid hz0
  have hz1' := Lib.hid hz1
  have hz2' := Lib.hid hz2
  clear hi hz0 hz1 hz2
  go_enter Try.func7, Try.ntmps7
  go_wp2_with fail
  refine (awake_any w).mono ?_
  rintro e w1 ⟨rfl, k1⟩
  have K1 := Lib.hid k1
  clear k1
  go_wp2_with fail
  go_loopw [5, 6, 30] (fun v5 v6 i wr => ∃ k : Nat, k ≤ n ∧ i = .int .i64 k ∧ wr.ownsRow w.heap.size 31 3 v5 k (a3 (turn N) Q T k) ∧ wr.ownsRow w.heap.size 31 3 v6 k (a3 (fun _ => 0) Q T k) ∧ (∀ g, v5.ownBlock = some g → v6.ownBlock ≠ some g) ∧ Below w.heap.size w wr)
    (fun _ _ i _ => n - (intOf i).toNat)
  case atStart => exact ⟨0, Nat.zero_le _, rfl, World.ownsRow_nil _ _ _ _, World.ownsRow_nil _ _ _ _, fun g h => by simp [Value.ownBlock] at h, K1.out⟩
  case round =>
    obtain ⟨k, hk, rfl, hr5, hr6, hdis, kr⟩ := hrel
    have HR5 := Lib.hid hr5
    have HR6 := Lib.hid hr6
    have HD := Lib.hid hdis
    have KR := Lib.hid kr
    clear hr5 hr6 hdis kr
    by_cases hlt : k < n
    · obtain ⟨ab, off, rfl, hb, hc⟩ := HA.out.2 (by omega)
      obtain ⟨c0, c1, c2⟩ := hc k hlt
      have v0 := (KR.out.cell (p := ⟨ab, off + k * 3, none⟩) hb).trans c0
      have v1 := (KR.out.cell (p := ⟨ab, off + k * 3 + 1, none⟩) hb).trans c1
      have v2 := (KR.out.cell (p := ⟨ab, off + k * 3 + 2, none⟩) hb).trans c2
      clear hc c0 c1 c2
      have HA3 : Hid (a3 (turn N) Q T (k + 1) = a3 (turn N) Q T k ++ [.int .i64 (wrap64 (1 - N k)), .int .i64 (Q k), .int .i64 (T k)]) := Lib.hid rfl
      have HA4 : Hid (a3 (fun _ => 0) Q T (k + 1) = a3 (fun _ => 0) Q T k ++ [.int .i64 0, .int .i64 (Q k), .int .i64 (T k)]) := Lib.hid rfl
      generalize Q k = q at *
      generalize T k = t at *
      generalize N k = net at *
      have g1 : decide (n ≤ k) = false := decide_eq_false (by omega)
      have g2 : decide ((k : Int) < 0) = false := decide_eq_false (by omega)
      have g3 : (k : Int) < n := by omega
      have x1 : Blk (wr.alloc (.cells #[.int .i64 net, .int .i64 q, .int .i64 t] 31)) wr.heap.size 31 #[.int .i64 net, .int .i64 q, .int .i64 t] := Blk.made _ _ _
      have X1 := Lib.hid x1
      clear x1
      go_wp2_with (first
        | (at_builtin; refine wpList_append_own_at _ rfl _ _ 22 rfl w.heap.size 31 i0 (.agg #[.int .i64 0, .int .i64 0, .int .i64 0]) 3 24 Try.underlying22 hi'.out hz0'.out hz1'.out hz2'.out rfl (by decide) _ _ _ rfl (R6.out.alloc _) ⟨w3.heap.size, 0, none⟩ 1 1 [.int .i64 0, .int .i64 q, .int .i64 t] rfl rfl (new_three _ _ _ _ _) (three_one _ _ _) (by unfold maxLen; omega) (by omega) (by have := K3.out.size; simp; omega) ?_; intro v6 w5 r6 g6 _ h6)
        | (at_builtin; refine wpList_append_own_at _ rfl _ _ 22 rfl w.heap.size 31 i0 (.agg #[.int .i64 0, .int .i64 0, .int .i64 0]) 3 24 Try.underlying22 hi'.out hz0'.out hz1'.out hz2'.out rfl (by decide) _ _ _ rfl ((HR5.out.alloc _).alloc _) ⟨wr.heap.size + 1, 0, none⟩ 1 1 [.int .i64 (wrap64 (1 - net)), .int .i64 q, .int .i64 t] rfl rfl (by simpa using new_three (wr.alloc (.cells #[.int .i64 net, .int .i64 q, .int .i64 t] 31)) (.int .i64 (wrap64 (1 - net))) (.int .i64 q) (.int .i64 t) 31) (three_one _ _ _) (by unfold maxLen; omega) (by omega) (by have := KR.out.size; simp; omega) ?_
           intro v5 w3 r5 g5 _ h5
           have x3 := (X1.out.alloc (.cells #[.int .i64 (wrap64 (1 - net)), .int .i64 q, .int .i64 t] 31)).grown g5 (fun e => by have := (HR5.out.lt _ e.symm).2; omega)
           have y1 : w3.cell? ⟨wr.heap.size, 1, none⟩ = some (.int .i64 q) := x3.cell 1
           have y2 : w3.cell? ⟨wr.heap.size, 2, none⟩ = some (.int .i64 t) := x3.cell 2
           have R5 := Lib.hid r5
           have R6 := Lib.hid (kept_dis ((HR6.out.alloc (.cells #[.int .i64 net, .int .i64 q, .int .i64 t] 31)).alloc (.cells #[.int .i64 (wrap64 (1 - net)), .int .i64 q, .int .i64 t] 31)) g5 HD.out)
           have K3 := Lib.hid (((KR.out.alloc KR.out.size (.cells #[.int .i64 net, .int .i64 q, .int .i64 t] 31)).alloc (by have := KR.out.size; simp; omega) (.cells #[.int .i64 (wrap64 (1 - net)), .int .i64 q, .int .i64 t] 31)).grown g5 (by have := KR.out.size; simp; omega) (fun i e => (HR5.out.lt i e).1))
           have H5 := Lib.hid h5
           have G5 := Lib.hid g5.size
           clear r5 g5 h5 x3))
      have R5n := Lib.hid (kept_dis (R5.out.alloc (.cells #[.int .i64 0, .int .i64 q, .int .i64 t] 31)) g6 (fun g e1 e2 => by
        rcases H5.out with h | h
        · rw [h] at e2; exact HD.out g e2 e1
        · rw [h] at e2
          injection e2 with e2
          have := (HR6.out.lt _ e1).2
          simp at e2
          omega))
      have Dn : Hid (∀ g, v5.ownBlock = some g → v6.ownBlock ≠ some g) := Lib.hid (fun g e1 e2 => by
        rcases h6 with h | h
        · rw [h] at e2
          rcases H5.out with h' | h'
          · rw [h'] at e1; exact HD.out g e1 e2
          · rw [h'] at e1
            injection e1 with e1
            have := (HR6.out.lt _ e2).2
            simp at e1
            omega
        · rw [h] at e2
          injection e2 with e2
          have := (R5.out.lt _ e1).2
          simp at e2
          omega)
      have Kn := Lib.hid ((K3.out.alloc K3.out.size (.cells #[.int .i64 0, .int .i64 q, .int .i64 t] 31)).grown g6 (by have := K3.out.size; simp; omega) (fun i e => (R6.out.lt i e).1))
      have R6n := Lib.hid r6
      clear r6 g6 h6
      go_roundw
      case rel => exact ⟨k + 1, by omega, by go_num, by rw [HA3.out]; exact R5n.out, by rw [HA4.out]; exact R6n.out, Dn.out, Kn.out⟩
      case measure => simp [intOf]; omega
    · obtain rfl : k = n := by omega
      obtain ⟨A5, c5, rfl, h5⟩ := own_arrs (by omega) HR5.out
      obtain ⟨A6, c6, rfl, h6⟩ := own_arrs (by omega) HR6.out
      have H5 := Lib.hid h5
      have H6 := Lib.hid h6
      have HT : Hid (mgR skew (turn N) Q T k = mgR skew N Q T k) := Lib.hid (mgR_turn HB.out)
      rename World => wq
      have M1 := Lib.hid (merge_any skew A k c N Q T wq (HA.out.kept KR.out (Nat.le_refl _)) (by omega))
      have M2 := Lib.hid (fun (V : World) (h : ArrIn V A5 k (turn N) Q T) => merge_any skew A5 k c5 (turn N) Q T V h (by omega))
      have M3 := Lib.hid (fun (V : World) (h : ArrIn V A6 k (fun _ => 0) Q T) => merge_any skew A6 k c6 (fun _ => 0) Q T V h (by omega))
      rw [HT.out] at M2
      obtain ⟨⟨z, ec⟩, hz⟩ : ∃ r, mgR skew N Q T k = r := ⟨_, rfl⟩
      have hzl : z.length ≤ 300 := by
        have h1 : (mgR skew N Q T k).1.length ≤ k := by
          unfold mgR
          split
          · rw [mout_len]; exact Nat.le_refl _
          · simp
        rw [hz] at h1
        exact Nat.le_trans h1 (by omega)
      rw [hz] at M1 M2
      obtain ⟨lz, hlz⟩ : ∃ l, z.length = l := ⟨_, rfl⟩
      have HLZ := Lib.hid hlz
      rw [hlz] at hzl
      clear HT hz hlz h5 h6 HR5 HR6 HD
      go_wp2_with fail
      refine M1.out.mono ?_
      rintro e w2 ⟨⟨A2, c2, rfl, b2⟩, k2⟩
      dsimp only at b2 ⊢
      rw [HLZ.out]
      have B2 := Lib.hid b2
      have K2 := Lib.hid (KR.out.trans (k2.mono KR.out.size))
      have H52 := Lib.hid (H5.out.kept k2 (Nat.le_refl _))
      have H62 := Lib.hid (H6.out.kept k2 (Nat.le_refl _))
      clear b2 k2
      go_wp2_with fail
      refine (M2.out w2 H52.out).mono ?_
      rintro e w3 ⟨⟨A3, c3, rfl, b3⟩, k3⟩
      dsimp only at b3 ⊢
      rw [HLZ.out]
      have B3 := Lib.hid b3
      have B23 := Lib.hid (B2.out.below k3 (Nat.le_refl _))
      have K3 := Lib.hid (K2.out.trans (k3.mono K2.out.size))
      have H63 := Lib.hid (H62.out.kept k3 (Nat.le_refl _))
      clear b3 k3 B2 K2 H52 H62 M1 M2
      go_wp2_with fail
      go_loopw [78] (fun i wr => ∃ j : Nat, j ≤ lz ∧ i = .int .i64 j ∧ Below w3.heap.size w3 wr) (fun i _ => lz - (intOf i).toNat)
      case atStart => exact ⟨0, Nat.zero_le _, rfl, Below.refl _ _⟩
      case round =>
        obtain ⟨j, hj, rfl, kr⟩ := hrel
        have KR2 := Lib.hid kr
        clear kr
        by_cases hjl : j < lz
        · obtain ⟨ga, rfl, hga, hca⟩ := B23.out (by rw [HLZ.out]; omega)
          obtain ⟨gb, rfl, hgb, hcb⟩ := B3.out (by rw [HLZ.out]; omega)
          have ya := (KR2.out.cell (p := ⟨ga, j, none⟩) hga).trans (hca j (by rw [HLZ.out]; exact hjl))
          have yb := (KR2.out.cell (p := ⟨gb, j, none⟩) hgb).trans (hcb j (by rw [HLZ.out]; exact hjl))
          generalize z.getD j false = bz at *
          have g1 : decide (lz ≤ j) = false := decide_eq_false (by omega)
          have g2 : decide ((j : Int) < 0) = false := decide_eq_false (by omega)
          have g3 : (j : Int) < lz := by omega
          clear hca hcb hga hgb
          go_wp2_with (go_quiet (fail))
          go_roundw
          case rel => exact ⟨j + 1, by omega, by go_num, belowN KR2.out⟩
          case measure => simp [intOf]; omega
        · obtain rfl : j = lz := by omega
          rename World => wb
          have K4 := Lib.hid (K3.out.trans (KR2.out.mono K3.out.size))
          have H64 := Lib.hid (H63.out.kept KR2.out (Nat.le_refl _))
          have M4 := Lib.hid (M3.out wb H64.out)
          clear B23 B3 H63 K3 M3 KR2
          cases hg : (okS skew && allOk skew (fun _ => 0) Q T k) with
          | false =>
            have hR : mgR skew (fun _ => 0) Q T k = ([], 2) := if_neg (by rw [hg]; simp)
            rw [hR] at M4
            clear hR hg
            go_wp2_with fail
            refine M4.out.mono ?_
            rintro e w5 ⟨⟨A5', c5', rfl, _⟩, k5⟩
            go_wp2_with fail
            go_ret
            exact ⟨rfl, K4.out.trans (k5.mono K4.out.size)⟩
          | true =>
            have hR : mgR skew (fun _ => 0) Q T k = (mout skew (fun _ => 0) Q T k, 0) := if_pos hg
            rw [hR] at M4
            rw [Bool.and_eq_true] at hg
            obtain ⟨hs, hall⟩ := hg
            simp only [okS, Bool.and_eq_true, decide_eq_true_eq] at hs
            obtain ⟨s0, s1⟩ := hs
            have HALL := Lib.hid (allOk_iff.1 hall)
            have HLO := Lib.hid (mout_len (skew := skew) (N := fun _ => 0) (Q := Q) (T := T) k)
            clear hR hall
            obtain ⟨zo, hzo⟩ : ∃ zo, mout skew (fun _ => 0) Q T k = zo := ⟨_, rfl⟩
            have HZO := Lib.hid hzo
            rw [hzo] at M4 HLO
            clear hzo
            go_wp2_with fail
            refine M4.out.mono ?_
            rintro e w5 ⟨⟨A7, c7, rfl, b5⟩, k5⟩
            dsimp only at b5 ⊢
            rw [HLO.out]
            have B5 := Lib.hid b5
            have K5 := Lib.hid (K4.out.trans (k5.mono K4.out.size))
            have H65 := Lib.hid (H64.out.kept k5 (Nat.le_refl _))
            clear b5 k5
            go_wp2_with fail
            refine (selNew_ok skew w5 s0 s1).mono ?_
            rintro e w6 ⟨sb, rfl, hsb, k6, s6⟩
            go_wp2_with fail
            refine (new_any w6).mono ?_
            rintro e w7 ⟨fb, rfl, hfb, k7, f7⟩
            have S7 := Lib.hid (s6.kept k7)
            have F7 : Hid (Flt w7 fb 0 0 0 false) := Lib.hid f7
            have K57 := Lib.hid (k6.trans (k7.mono k6.size))
            have SB := Lib.hid hsb
            have FB : Hid (w5.heap.size ≤ fb) := Lib.hid (Nat.le_trans k6.size hfb)
            clear k6 s6 k7 f7 hsb hfb
            have HMO : Hid (∀ j, j < k → zo.getD j false = (mgStep (mst skew (fun _ => 0) Q T j) 0 (Q j) (T j)).2) := Lib.hid (fun j hj => by rw [← HZO.out]; exact mout_at hj)
            clear HZO
            go_wp2_with fail
            go_loopw [107] (fun i wr => ∃ (j : Nat) (a r : Int), j ≤ k ∧ i = .int .i64 j ∧ SelW wr sb (mst skew (fun _ => 0) Q T j).sel ∧ Flt wr fb a r ((mst skew (fun _ => 0) Q T j).p 0) ((mst skew (fun _ => 0) Q T j).so 0) ∧ 0 ≤ a ∧ 0 ≤ r ∧ a + r ≤ j ∧ Below w5.heap.size w5 wr)
              (fun i _ => k - (intOf i).toNat)
            case atStart => exact ⟨0, 0, 0, Nat.zero_le _, rfl, S7.out, F7.out, by omega, by omega, by omega, K57.out⟩
            case round =>
              obtain ⟨j, a, r, hj, rfl, hs, hf, a0, r0, ar, kr⟩ := hrel
              have HS := Lib.hid hs
              have HF := Lib.hid hf
              have KR3 := Lib.hid kr
              clear hs hf kr
              by_cases hjk : j < k
              · obtain ⟨ab, off, rfl, hb, hc⟩ := H65.out.2 (by omega)
                obtain ⟨c0, c1, c2⟩ := hc j hjk
                have v0 := (KR3.out.cell (p := ⟨ab, off + j * 3, none⟩) hb).trans c0
                have v1 := (KR3.out.cell (p := ⟨ab, off + j * 3 + 1, none⟩) hb).trans c1
                have v2 := (KR3.out.cell (p := ⟨ab, off + j * 3 + 2, none⟩) hb).trans c2
                obtain ⟨gz, rfl, hgz, hcz⟩ := B5.out (by rw [HLO.out]; omega)
                have yz5 := Lib.hid (hcz j (by rw [HLO.out]; exact hjk))
                have HGZ := Lib.hid hgz
                clear hc c0 c1 c2 hcz hgz
                have HQ : Hid (isN (Q j) = true) := Lib.hid (by
                  have := HALL.out j hjk
                  simp only [mok, mgOk, Bool.and_eq_true] at this
                  exact this.2.2)
                have HMO2 := Lib.hid (HMO.out j hjk)
                have HM1 : Hid (mst skew (fun _ => 0) Q T (j + 1) = (mgStep (mst skew (fun _ => 0) Q T j) 0 (Q j) (T j)).1) := Lib.hid rfl
                have hso := mst_ok (N := fun _ => 0) (Q := Q) (T := T) s0 s1 j
                have hsc := mst_cnt (skew := skew) (N := fun _ => 0) (Q := Q) (T := T) j
                obtain ⟨m, hm⟩ : ∃ m, mst skew (fun _ => 0) Q T j = m := ⟨_, rfl⟩
                rw [hm] at HS HF HM1 HMO2 hso hsc
                clear hm
                generalize Q j = q at *
                generalize T j = t at *
                have d0 := hso.d0
                have d1 := hso.r0
                have HOF := Lib.hid (fun (V : World) (h : SelW V sb m.sel) => offer_any sb m.sel q t V h hso (by omega) (by omega))
                obtain ⟨bo, hbo⟩ : ∃ bo, adm (m.so 0) (m.p 0) q = bo := ⟨_, rfl⟩
                have HBO := Lib.hid hbo
                obtain ⟨W1, hW1⟩ : ∃ W1, wr.alloc (.cells #[.int .i64 0, .int .i64 q, .int .i64 t] 31) = W1 := ⟨_, rfl⟩
                have x1 : Blk W1 wr.heap.size 31 #[.int .i64 0, .int .i64 q, .int .i64 t] := by rw [← hW1]; exact Blk.made _ _ _
                have X1 := Lib.hid x1
                have S1 := Lib.hid (show SelW W1 sb m.sel by rw [← hW1]; exact HS.out.alloc _)
                have F1 := Lib.hid (show Flt W1 fb a r (m.p 0) (m.so 0) by rw [← hW1]; exact HF.out.alloc _)
                have K1' := Lib.hid (show Below w5.heap.size w5 W1 by rw [← hW1]; exact KR3.out.alloc KR3.out.size _)
                have HW1 := Lib.hid hW1
                have g1 : decide (k ≤ j) = false := decide_eq_false (by omega)
                have g2 : decide ((j : Int) < 0) = false := decide_eq_false (by omega)
                have g3 : (j : Int) < k := by omega
                clear hso hsc d0 d1 hbo hW1 x1
                go_wp2_with fail
                rw [HW1.out]
                refine (accept_any fb q a r _ _ W1 F1.out HQ.out a0 (by omega) r0 (by omega)).mono ?_
                rintro e w8 ⟨rfl, hf8, hg8⟩
                rw [HBO.out]
                obtain ⟨a', r', hf8, a0', r0', ar'⟩ := hf8
                have x8 := X1.out.grown hg8 (fun e => Blk.ne_ X1.out F1.out (by decide) (by injection e))
                have z1 : w8.cell? ⟨wr.heap.size, 1, none⟩ = some (.int .i64 q) := x8.cell 1
                have z2 : w8.cell? ⟨wr.heap.size, 2, none⟩ = some (.int .i64 t) := x8.cell 2
                have S8 := Lib.hid (S1.out.grown hg8 (fun e => by obtain ⟨cs, h, _⟩ := S1.out; exact Blk.ne_ h F1.out (by decide) (by injection e)))
                have F8 := Lib.hid hf8
                have K8 := Lib.hid (offer_below K1'.out hg8 FB.out)
                clear hf8 hg8 x8
                cases bo with
                | false =>
                  have hst : mgStep m 0 q t = ({ sel := m.sel, now := t, p := fun i => if i = 0 then q else m.p i, so := fun i => if i = 0 then true else m.so i }, false) := by
                    unfold mgStep
                    show (if adm (m.so 0) (m.p 0) q = true then _ else _) = _
                    rw [HBO.out]
                    rfl
                  rw [hst] at HM1 HMO2
                  clear hst
                  rw [HMO2.out] at yz5
                  have yz := (K8.out.cell (p := ⟨gz, j, none⟩) HGZ.out).trans yz5.out
                  go_wp2_with fail
                  go_roundw
                  case rel => exact ⟨j + 1, a', r', by omega, by go_num, by rw [HM1.out]; exact S8.out, by rw [HM1.out]; exact F8.out, a0', r0', by push_cast; omega, K8.out⟩
                  case measure => simp [intOf]; omega
                | true =>
                  have hst : mgStep m 0 q t = ({ sel := (offer m.sel q t).1, now := t, p := fun i => if i = 0 then q else m.p i, so := fun i => if i = 0 then true else m.so i }, (offer m.sel q t).2.1) := by
                    unfold mgStep
                    show (if adm (m.so 0) (m.p 0) q = true then _ else _) = _
                    rw [HBO.out]
                    rfl
                  rw [hst] at HM1 HMO2
                  clear hst
                  obtain ⟨os, hos⟩ : ∃ os, offer m.sel q t = os := ⟨_, rfl⟩
                  rw [hos] at HM1 HMO2 HOF
                  clear hos
                  obtain ⟨s', ob, oe⟩ := os
                  dsimp only at HMO2
                  rw [HMO2.out] at yz5
                  go_wp2_with fail
                  refine (HOF.out w8 S8.out).mono ?_
                  rintro e w9 ⟨rfl, hs9, hg9⟩
                  have S9 := Lib.hid hs9
                  have F9 := Lib.hid (Blk.grown F8.out hg9 (fun e => by obtain ⟨cs, h, _⟩ := S8.out; exact Blk.ne_ F8.out h (by decide) (by injection e)))
                  have K9 := Lib.hid (offer_below K8.out hg9 SB.out)
                  have yz := (K9.out.cell (p := ⟨gz, j, none⟩) HGZ.out).trans yz5.out
                  clear hs9 hg9
                  go_wp2_with fail
                  go_roundw
                  case rel => exact ⟨j + 1, a', r', by omega, by go_num, by rw [HM1.out]; exact S9.out, by rw [HM1.out]; exact F9.out, a0', r0', by push_cast; omega, K9.out⟩
                  case measure => simp [intOf]; omega
              · obtain rfl : j = k := by omega
                go_wp2_with fail
                go_ret
                exact ⟨rfl, K5.out.trans (KR3.out.mono K5.out.size)⟩
end Go.Proofs.Ytllabfbebidjiaa
