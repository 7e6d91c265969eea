/-
  The law RedundancyRecent: the plain law on the list of recent numbers, and the walk, which answers true. Conditions: the calls lie as given, the unsigned number is in its range.
-/
import Derived.Test.YtllabfbebidjiaaCa
namespace Go.Proofs.Ytllabfbebidjiaa
open Go.RowKit
theorem rcs_split {nx : Nat → Int} {t : Int} (j : Nat) : ∀ d, ∃ r, rcs nx t (j + d) = rcs nx t j ++ r ∧ ∀ x ∈ r, j ≤ x
  | 0 => ⟨[], by simp, by simp⟩
  | d + 1 => by
    obtain ⟨r, h1, h2⟩ := rcs_split (nx := nx) (t := t) j d
    rw [← Nat.add_assoc, rcs]
    split
    · refine ⟨r ++ [j + d], by rw [h1, List.append_assoc], fun x hx => ?_⟩
      rcases List.mem_append.1 hx with h | h
      · exact h2 x h
      · simp at h; omega
    · exact ⟨r, h1, h2⟩
theorem rcs_yes {nx : Nat → Int} {t : Int} {j m : Nat} (hj : j < m) (h : t < nx j) : (rcs nx t m)[(rcs nx t j).length]? = some j := by
  obtain ⟨r, h1, _⟩ := rcs_split (nx := nx) (t := t) (j + 1) (m - (j + 1))
  rw [show j + 1 + (m - (j + 1)) = m by omega] at h1
  rw [h1, rcs, if_pos h, List.append_assoc, List.getElem?_append_right (Nat.le_refl _), Nat.sub_self]
  rfl
theorem rcs_no {nx : Nat → Int} {t : Int} {j m x : Nat} (hj : j < m) (h : ¬ t < nx j) (hx : (rcs nx t m)[(rcs nx t j).length]? = some x) : x ≠ j := by
  obtain ⟨r, h1, h2⟩ := rcs_split (nx := nx) (t := t) (j + 1) (m - (j + 1))
  rw [show j + 1 + (m - (j + 1)) = m by omega] at h1
  rw [h1, rcs, if_neg h, List.getElem?_append_right (Nat.le_refl _), Nat.sub_self] at hx
  have := h2 x (List.mem_of_getElem? hx)
  omega
theorem rcs_full {nx : Nat → Int} {t : Int} : ∀ {k : Nat}, (∀ i, i < k → t < nx i) → (rcs nx t k).length = k
  | 0, _ => rfl
  | k + 1, h => by
    rw [rcs, if_pos (h k (by omega)), List.length_append, rcs_full (fun i hi => h i (by omega))]
    rfl
theorem rcs_mono {nx : Nat → Int} {t l : Int} (hl : 0 ≤ l) {k x : Nat} (h : x ∈ rcs nx (t + l) k) : x ∈ rcs nx t k := by
  rw [rcs_mem] at h ⊢
  exact ⟨h.1, by have := h.2; omega⟩
theorem offer_yes {s : St} {q t : Int} (h : okq s q t = true) : (offer s q t).2.2 = 0 ∧ (offer s q t).1.now = t := by
  unfold offer
  rw [if_pos h]
  split <;> exact ⟨rfl, rfl⟩
theorem offer_none {s : St} {q t : Int} (h : okq s q t = false) : offer s q t = (s, false, 2) := by
  unfold offer
  rw [if_neg (by rw [h]; simp)]
/-- the selector after offers of all numbers below j at time t -/
structure Up (nx : Nat → Int) (t : Int) (j : Nat) (s : St) : Prop where
  mv : mvs s.now t = true
  low : ∀ i, i < j → t < s.nxt i
  high : ∀ i, j ≤ i → s.nxt i = nx i
  ok : s.Ok
  cnt : s.del + s.drp ≤ 1000 + j
theorem Up.off {nx : Nat → Int} {t : Int} {j : Nat} {s : St} (h : Up nx t j s) (hj : j < 256) : Up nx t (j + 1) (offer s j t).1 ∧ (offer s j t).2 = (decide (¬ t < nx j), 0) := by
  have hk : okq s j t = true := by unfold okq; rw [isN_mk (by omega) (by omega), h.mv]; rfl
  have hm := h.mv
  simp only [mvs, Bool.and_eq_true, decide_eq_true_eq] at hm
  have k0 := h.ok.k0
  have h1 := h.high j (Nat.le_refl _)
  have hok := h.ok.offer (j : Int) t
  have hcn := offer_cnt s (j : Int) t
  have hc := h.cnt
  unfold offer at hok hcn ⊢
  rw [if_pos hk] at hok hcn ⊢
  rw [Int.toNat_natCast, h1] at hok hcn ⊢
  by_cases hlt : t < nx j
  · rw [if_pos hlt] at hok hcn ⊢
    refine ⟨⟨by simp only [mvs, Bool.and_eq_true, decide_eq_true_eq]; omega, fun i hi => ?_, fun i hi => h.high i (by omega), hok, by push_cast; omega⟩, by simp [hlt]⟩
    by_cases e : i = j
    · subst e; show t < s.nxt i; rw [h1]; exact hlt
    · exact h.low i (by omega)
  · rw [if_neg hlt] at hok hcn ⊢
    refine ⟨⟨by simp only [mvs, Bool.and_eq_true, decide_eq_true_eq]; omega, fun i hi => ?_, fun i hi => ?_, hok, by push_cast; omega⟩, by simp [hlt]⟩
    · show t < if i = j then t + s.skew + 1 else s.nxt i
      split
      · omega
      · exact h.low i (by omega)
    · show (if i = j then t + s.skew + 1 else s.nxt i) = nx i
      rw [if_neg (by omega)]
      exact h.high i (by omega)
set_option maxRecDepth 100000 in
set_option maxHeartbeats 4000000 in
theorem lawRecent (skew : Int) (A : Option Addr) (n c : Nat) (N Q T : Nat → Int) (y : Int) (w : World) (hA : ArrIn w A n N Q T) (y0 : 0 ≤ y) (y1 : y ≤ 65535) :
    Calls Try.prog 8 #[.int .i64 skew, .slice A n c, .int .u16 y] w fun e w' => e = .returned (.bool true) ∧ Below w.heap.size w w' := by
  have HA := Lib.hid hA
  clear hA
  by_cases hn : 300 < n
  · go_enter Try.func8, Try.ntmps8
    go_wp2_with fail
    refine (awake_any w).mono ?_
    rintro e w1 ⟨rfl, k1⟩
    go_wp2_with fail
    go_ret
    exact ⟨rfl, k1⟩
  by_cases hs : 0 ≤ skew ∧ skew ≤ 1073741824
  rotate_left
  · go_enter Try.func8, Try.ntmps8
    go_wp2_with fail
    refine (awake_any w).mono ?_
    rintro e w1 ⟨rfl, k1⟩
    go_wp2_with fail
    refine (selNew_bad skew w1 (by omega)).mono ?_
    rintro e w2 ⟨rfl, rfl⟩
    go_wp2_with fail
    go_ret
    exact ⟨rfl, k1⟩
  obtain ⟨s0, s1⟩ := hs
  go_enter Try.func8, Try.ntmps8
  go_wp2_with fail
  refine (awake_any w).mono ?_
  rintro e w1 ⟨rfl, k1⟩
  go_wp2_with fail
  refine (selNew_ok skew w1 s0 s1).mono ?_
  rintro e w2 ⟨sb, rfl, hsb, k2, hs2⟩
  have K2 := Lib.hid (k1.trans (k2.mono k1.size))
  have HS := Lib.hid hs2
  have SB : Hid (w.heap.size ≤ sb) := Lib.hid (Nat.le_trans k1.size hsb)
  clear k1 k2 hs2 hsb
  go_wp2_with fail
  go_loopw [9, 41] (fun nv i wr => ∃ (k : Nat) (s : St), k ≤ n ∧ i = .int .i64 k ∧ nv = .int .i64 s.now ∧ SelW wr sb s ∧ s.Ok ∧ s.del + s.drp ≤ k ∧ Below w.heap.size w wr)
    (fun _ i _ => n - (intOf i).toNat)
  case atStart => exact ⟨0, .new skew, Nat.zero_le _, rfl, rfl, HS.out, St.Ok.new s0 s1, by simp [St.new], K2.out⟩
  case round =>
    obtain ⟨k, s, hk, rfl, rfl, hs, hso, hsc, kr⟩ := hrel
    have KR := Lib.hid kr
    have HS1 := Lib.hid hs
    have HSO := Lib.hid hso
    have HSC := Lib.hid hsc
    by_cases hlt : k < n
    · obtain ⟨lb, off, rfl, hb, hc⟩ := HA.out.2 (by omega)
      obtain ⟨c0, c1, c2⟩ := hc k hlt
      have v0 := (kr.cell (p := ⟨lb, off + k * 3, none⟩) hb).trans c0
      have v1 := (kr.cell (p := ⟨lb, off + k * 3 + 1, none⟩) hb).trans c1
      have v2 := (kr.cell (p := ⟨lb, off + k * 3 + 2, none⟩) hb).trans c2
      clear hc c0 c1 c2
      obtain ⟨q, hq⟩ : ∃ q, N k = q := ⟨_, rfl⟩
      obtain ⟨t, ht⟩ : ∃ t, Q k = t := ⟨_, rfl⟩
      obtain ⟨g, hg⟩ : ∃ g, T k = g := ⟨_, rfl⟩
      rw [hq] at v0
      rw [ht] at v1
      rw [hg] at v2
      clear hq ht hg
      have g1 : decide (n ≤ k) = false := decide_eq_false (by omega)
      have g2 : decide ((k : Int) < 0) = false := decide_eq_false (by omega)
      have g3 : (k : Int) < n := by omega
      obtain ⟨W1, hW1⟩ : ∃ W1, wr.alloc (.cells #[.int .i64 q, .int .i64 t, .int .i64 g] 44) = W1 := ⟨_, rfl⟩
      have x1 : Blk W1 wr.heap.size 44 #[.int .i64 q, .int .i64 t, .int .i64 g] := by rw [← hW1]; exact Blk.made _ _ _
      have S1 := Lib.hid (show SelW W1 sb s by rw [← hW1]; exact HS1.out.alloc _)
      have K1 := Lib.hid (show Below w.heap.size w W1 by rw [← hW1]; exact KR.out.alloc KR.out.size _)
      have X1 := Lib.hid x1
      have HW1 := Lib.hid hW1
      have hO1 := hso.offer q t
      have hC1 := offer_cnt s q t
      have hs0 := hso.d0
      have hs1 := hso.r0
      have HF1 := Lib.hid (fun (V : World) (h : SelW V sb s) => offer_any sb s q t V h HSO.out (by omega) (by omega))
      cases hk2 : okq s q t with
      | false =>
        rw [offer_none hk2] at HF1
        clear hW1 x1 hs hso hsc kr hO1 hC1 hs0 hs1 hk2
        go_wp2_with fail
        rw [HW1.out]
        refine (HF1.out W1 S1.out).mono ?_
        rintro e w5 ⟨rfl, hs5, hg5⟩
        have S5 := Lib.hid hs5
        have K5 := Lib.hid (offer_below K1.out hg5 SB.out)
        clear hs5 hg5
        go_wp2_with fail
        go_roundw
        case rel => exact ⟨k + 1, s, by omega, by go_num, rfl, S5.out, HSO.out, by have := HSC.out; omega, K5.out⟩
        case measure => simp [intOf]; omega
      | true =>
        obtain ⟨he, hnow⟩ := offer_yes hk2
        obtain ⟨os, hos⟩ : ∃ os, offer s q t = os := ⟨_, rfl⟩
        rw [hos] at he hnow hO1 hC1 HF1
        obtain ⟨s', ob, oe⟩ := os
        dsimp only at he hnow hO1 hC1
        subst he
        have HREL := Lib.hid (And.intro hO1 (And.intro (show s'.del + s'.drp ≤ (k + 1 : Nat) by push_cast; omega) hnow))
        clear hW1 x1 hs hso hsc kr hO1 hC1 hs0 hs1 hk2 hos hnow
        go_wp2_with fail
        rw [HW1.out]
        refine (HF1.out W1 S1.out).mono ?_
        rintro e w5 ⟨rfl, hs5, hg5⟩
        have x5 := X1.out.grown hg5 (fun e => by obtain ⟨cs, h, _⟩ := S1.out; exact X1.out.ne_ h (by decide) (by injection e))
        have z5 : w5.cell? ⟨wr.heap.size, 1, none⟩ = some (.int .i64 t) := x5.cell 1
        have S5 := Lib.hid hs5
        have K5 := Lib.hid (offer_below K1.out hg5 SB.out)
        clear hs5 hg5 x5
        go_wp2_with fail
        go_roundw
        case rel => exact ⟨k + 1, s', by omega, by go_num, by rw [HREL.out.2.2], S5.out, HREL.out.1, HREL.out.2.1, K5.out⟩
        case measure => simp [intOf]; omega
    · obtain rfl : k = n := by omega
      rename World => wq
      have n0 := hso.n0
      have n1 := hso.n1
      obtain ⟨t, ht⟩ : ∃ t, s.now + y = t := ⟨_, rfl⟩
      obtain ⟨nw, hnw⟩ : ∃ nw, s.now = nw := ⟨_, rfl⟩
      have HNW := Lib.hid hnw
      rw [hnw] at ht n0 n1
      rw [hnw]
      have t0 : 0 ≤ t := by omega
      have hwr : IntKind.i64.wrap (nw + y) = t := by rw [IntWalk.i64_in _ (by omega)]; exact ht
      have hwr2 : IntKind.i64.wrap (t + y) = t + y := IntWalk.i64_in _ (by omega)
      clear hs hso hsc kr
      by_cases ht2 : 1073671824 < t
      · clear hnw
        go_wp2_with fail
        go_ret
        exact ⟨rfl, KR.out⟩
      have hm1 : Hid (mvs s.now t = true) := Lib.hid (by rw [hnw]; simp only [mvs, Bool.and_eq_true, decide_eq_true_eq]; omega)
      have hm2 : Hid (mvs s.now (t + y) = true) := Lib.hid (by rw [hnw]; simp only [mvs, Bool.and_eq_true, decide_eq_true_eq]; omega)
      obtain ⟨nx, hnx⟩ : ∃ nx, s.nxt = nx := ⟨_, rfl⟩
      have R1 := Lib.hid (fun (V : World) (h : SelW V sb s) => recents_ok2 sb s t V h hm1.out)
      have R2 := Lib.hid (fun (V : World) (h : SelW V sb s) => recents_ok2 sb s (t + y) V h hm2.out)
      rw [hnx] at R1 R2
      have UP0 : Hid (Up nx t 0 s) := Lib.hid ⟨hm1.out, fun i hi => by omega, fun i _ => by rw [hnx], HSO.out, by have := HSC.out; omega⟩
      have F1 : Hid (∀ M, M = 256 → ∀ j, j < M → t < nx j → (rcs nx t M)[(rcs nx t j).length]? = some j) := Lib.hid (fun M _ j hj h => rcs_yes hj h)
      have F2 : Hid (∀ M, M = 256 → ∀ j x, j < M → ¬ t < nx j → (rcs nx t M)[(rcs nx t j).length]? = some x → x ≠ j) := Lib.hid (fun M _ j x hj h hx => rcs_no hj h hx)
      have F3 : Hid (∀ M, M = 256 → ∀ x, x ∈ rcs nx (t + y) M → x ∈ rcs nx t M) := Lib.hid (fun M _ x hx => rcs_mono y0 hx)
      have F4 : Hid (∀ M, M = 256 → (rcs nx t M).length ≤ 256) := Lib.hid (fun M hM => by have := rcs_len nx t M; omega)
      have F5 : Hid (∀ M, M = 256 → (rcs nx (t + y) M).length ≤ 256) := Lib.hid (fun M hM => by have := rcs_len nx (t + y) M; omega)
      have F1 := Lib.hid (F1.out 256 rfl)
      have F2 := Lib.hid (F2.out 256 rfl)
      have F3 := Lib.hid (F3.out 256 rfl)
      have F4 := Lib.hid (F4.out 256 rfl)
      have F5 := Lib.hid (F5.out 256 rfl)
      obtain ⟨z1, hz1⟩ : ∃ z, rcs nx t 256 = z := ⟨_, rfl⟩
      obtain ⟨z2, hz2⟩ : ∃ z, rcs nx (t + y) 256 = z := ⟨_, rfl⟩
      have HZ1 := Lib.hid hz1
      rw [hz1] at R1 F1 F2 F3 F4
      rw [hz2] at R2 F3 F5
      clear hz1 hz2 hnx hnw
      obtain ⟨l1, hl1⟩ : ∃ l, z1.length = l := ⟨_, rfl⟩
      obtain ⟨l2, hl2⟩ : ∃ l, z2.length = l := ⟨_, rfl⟩
      have b1 : l1 ≤ 256 := by rw [← hl1]; exact F4.out
      have b2 : l2 ≤ 256 := by rw [← hl2]; exact F5.out
      have HL1 := Lib.hid hl1
      have HL2 := Lib.hid hl2
      clear hl1 hl2
      have L1 := HS1.out.lt
      have NE1 : Hid (∀ g, wq.heap.size ≤ g → g ≠ sb) := Lib.hid (fun g h => by omega)
      clear L1
      go_wp2_with fail
      refine (R1.out wq HS1.out).mono ?_
      rintro e w5 ⟨⟨A5, c5, rfl, n5, f5⟩, k5⟩
      rw [HL1.out]
      have N5 := Lib.hid n5
      have E5 := Lib.hid f5
      have K5 := Lib.hid (KR.out.trans (k5.mono KR.out.size))
      have S5 := Lib.hid (HS1.out.kept k5)
      clear n5 f5 k5
      go_wp2_with fail
      refine (R2.out w5 S5.out).mono ?_
      rintro e w6 ⟨⟨A6, c6, rfl, n6, _⟩, k6⟩
      rw [HL2.out]
      have N6 := Lib.hid n6
      have N56 := Lib.hid (N5.out.below k6 (Nat.le_refl _))
      have K6 := Lib.hid (K5.out.trans (k6.mono K5.out.size))
      have S6 := Lib.hid (S5.out.kept k6)
      clear n6 k6 N5 K5 S5 R1 R2
      go_wp2_with fail
      go_loopw [76] (fun i wr => ∃ k : Nat, k ≤ l2 ∧ i = .int .i64 k ∧ Below w6.heap.size w6 wr)
        (fun i _ => l2 - (intOf i).toNat)
      case atStart => exact ⟨0, Nat.zero_le _, rfl, Below.refl _ _⟩
      case round =>
        obtain ⟨k, hk, rfl, kr⟩ := hrel
        have KR2 := Lib.hid kr
        clear kr
        rename World => wo
        by_cases hlt : k < l2
        · obtain ⟨g6, rfl, hg6, hc6⟩ := N6.out (by rw [HL2.out]; omega)
          have y6 := (KR2.out.cell (p := ⟨g6, k, none⟩) hg6).trans (hc6 k (by rw [HL2.out]; exact hlt))
          obtain ⟨x, hx⟩ : ∃ x, z2.getD k 0 = x := ⟨_, rfl⟩
          rw [hx] at y6
          have hxm : x ∈ z2 := by
            rw [← hx, List.getD_eq_getElem?_getD, List.getElem?_eq_getElem (by rw [HL2.out]; exact hlt)]
            exact List.getElem_mem _
          have HXM := Lib.hid (List.contains_iff_mem.2 (F3.out x hxm))
          have g1 : decide (l2 ≤ k) = false := decide_eq_false (by omega)
          have g2 : decide ((k : Int) < 0) = false := decide_eq_false (by omega)
          have g3 : (k : Int) < l2 := by omega
          clear hc6 hg6 hx hxm
          go_wp2_with fail
          go_loopw [19, 82] (fun fv i wr => ∃ j : Nat, j ≤ l1 ∧ i = .int .i64 j ∧ fv = .bool ((z1.take j).contains x) ∧ Below w6.heap.size w6 wr)
            (fun _ i _ => l1 - (intOf i).toNat)
          case atStart => exact ⟨0, Nat.zero_le _, rfl, rfl, KR2.out⟩
          case round =>
            obtain ⟨j, hj, rfl, rfl, kr3⟩ := hrel
            have KR3 := Lib.hid kr3
            clear kr3
            obtain ⟨fd, hfd⟩ : ∃ fd, (z1.take j).contains x = fd := ⟨_, rfl⟩
            have HFD := Lib.hid hfd
            rw [hfd]
            clear hfd
            by_cases hjl : j < l1
            · obtain ⟨g5, rfl, hg5, hc5⟩ := N56.out (by rw [HL1.out]; omega)
              have y5 := (KR3.out.cell (p := ⟨g5, j, none⟩) hg5).trans (hc5 j (by rw [HL1.out]; exact hjl))
              obtain ⟨v, hv⟩ : ∃ v, z1.getD j 0 = v := ⟨_, rfl⟩
              rw [hv] at y5
              have hzj : z1[j]? = some v := by
                rw [← hv, List.getD_eq_getElem?_getD, List.getElem?_eq_getElem (by rw [HL1.out]; exact hjl)]
                rfl
              have HT : Hid ((z1.take (j + 1)).contains x = (fd || decide (x = v))) := Lib.hid (by
                rw [List.take_add_one, hzj, ← HFD.out]
                rw [Bool.eq_iff_iff]
                simp)
              have q1 : decide (l1 ≤ j) = false := decide_eq_false (by omega)
              have q2 : decide ((j : Int) < 0) = false := decide_eq_false (by omega)
              have q3 : (j : Int) < l1 := by omega
              clear hc5 hg5 hv hzj
              cases fd with
              | true =>
                have HT2 : Hid ((z1.take (j + 1)).contains x = true) := Lib.hid (by rw [HT.out]; rfl)
                go_wp2_with fail
                go_roundw
                case rel => exact ⟨j + 1, by omega, by go_num, by rw [HT2.out], KR3.out⟩
                case measure => simp [intOf]; omega
              | false =>
                by_cases ev : x = v
                · subst ev
                  have HT2 : Hid ((z1.take (j + 1)).contains x = true) := Lib.hid (by rw [HT.out]; simp)
                  go_wp2_with fail
                  go_roundw
                  case rel => exact ⟨j + 1, by omega, by go_num, by rw [HT2.out], KR3.out⟩
                  case measure => simp [intOf]; omega
                · have HT2 : Hid ((z1.take (j + 1)).contains x = false) := Lib.hid (by rw [HT.out]; simp [ev])
                  have ev2 : (x == v) = false := by simpa using ev
                  have ev3 : ¬ (x : Int) = (v : Int) := by omega
                  have ev4 : ((x : Int) == (v : Int)) = false := by simpa using ev3
                  go_wp2_with fail
                  go_roundw
                  case rel => exact ⟨j + 1, by omega, by go_num, by rw [HT2.out], KR3.out⟩
                  case measure => simp [intOf]; omega
            · obtain rfl : j = l1 := by omega
              have hfd2 : fd = true := by rw [← HFD.out, List.take_of_length_le (by rw [HL1.out]; exact Nat.le_refl _)]; exact HXM.out
              subst hfd2
              go_wp2_with fail
              go_roundw
              case rel => exact ⟨k + 1, by omega, by go_num, KR3.out⟩
              case measure => simp [intOf]; omega
        · obtain rfl : k = l2 := by omega
          have S7 := Lib.hid (S6.out.kept KR2.out)
          have N7 := Lib.hid (N56.out.below KR2.out (Nat.le_refl _))
          have K7 := Lib.hid (K6.out.trans (KR2.out.mono K6.out.size))
          clear S6 N56 K6 N6
          go_wp2_with fail
          go_loopw [22, 96] (fun kv i wr => ∃ (j : Nat) (s' : St), j ≤ 256 ∧ i = .int .i64 j ∧ kv = .int .i64 ((rcs nx t j).length : Nat) ∧ SelW wr sb s' ∧ Up nx t j s' ∧ wo.grownBy wr (some sb))
            (fun _ i _ => 256 - (intOf i).toNat)
          case atStart => exact ⟨0, s, by omega, rfl, rfl, S7.out, UP0.out, World.grownBy.refl _ _⟩
          case round =>
            obtain ⟨j, s', hj, rfl, rfl, hs', hup, hg'⟩ := hrel
            have HS' := Lib.hid hs'
            have HUP := Lib.hid hup
            have HG' := Lib.hid hg'
            clear hs' hup hg'
            obtain ⟨p, hp⟩ : ∃ p, (rcs nx t j).length = p := ⟨_, rfl⟩
            have HP := Lib.hid hp
            have pj : p ≤ j := by rw [← hp]; exact rcs_len nx t j
            rw [hp]
            by_cases hjl : j < 256
            · obtain ⟨hup2, hres⟩ := HUP.out.off hjl
              have HO := Lib.hid (offer_any sb s' j t wr HS'.out HUP.out.ok (by have := HUP.out.cnt; have := HUP.out.ok.r0; omega) (by have := HUP.out.cnt; have := HUP.out.ok.d0; omega))
              obtain ⟨os, hos⟩ : ∃ os, offer s' j t = os := ⟨_, rfl⟩
              rw [hos] at HO hup2 hres
              obtain ⟨s'', r⟩ := os
              dsimp only at hres hup2
              subst hres
              have HUP2 := Lib.hid hup2
              have g2 : decide ((p : Int) < 0) = false := decide_eq_false (by omega)
              have g3 : (j : Int) < 256 := by omega
              clear hos hup2 hp
              by_cases htx : t < nx j
              · have hz := F1.out j hjl htx
                rw [HP.out] at hz
                have hpl : p < l1 := by rw [← HL1.out]; exact (List.getElem?_eq_some_iff.1 hz).1
                obtain ⟨g5, rfl, hg5, hc5⟩ := N7.out (by rw [HL1.out]; omega)
                have y5 : wr.cell? ⟨g5, p, none⟩ = some (.int .i64 (j : Int)) := by
                  have h1 := hc5 p (by rw [HL1.out]; exact hpl)
                  rw [List.getD_eq_getElem?_getD, hz] at h1
                  exact (World.cell?_of_block (a := ⟨g5, p, none⟩) (HG'.out.block g5 hg5 (fun e => NE1.out g5 (E5.out g5 rfl) (by injection e)))).trans h1
                have HR1 : Hid ((rcs nx t (j + 1)).length = p + 1) := Lib.hid (by rw [rcs, if_pos htx, List.length_append, HP.out]; rfl)
                have q1 : decide (l1 ≤ p) = false := decide_eq_false (by omega)
                have q3 : (p : Int) < l1 := by omega
                have hd : decide (¬ t < nx j) = false := by simp [htx]
                rw [hd] at HO
                clear hz hc5 hg5 htx hd
                go_wp2_with fail
                refine HO.out.mono ?_
                rintro e w9 ⟨rfl, hs9, hg9⟩
                have S9 := Lib.hid hs9
                have G9 := Lib.hid (HG'.out.trans hg9)
                clear hs9 hg9 y5
                go_wp2_with fail
                go_roundw
                case rel => exact ⟨j + 1, s'', by omega, by go_num, by rw [HR1.out]; go_num, S9.out, HUP2.out, G9.out⟩
                case measure => simp [intOf]; omega
              · have HR1 : Hid ((rcs nx t (j + 1)).length = p) := Lib.hid (by rw [rcs, if_neg htx, HP.out])
                have hd : decide (¬ t < nx j) = true := by simp [htx]
                rw [hd] at HO
                by_cases hpl : p < l1
                · obtain ⟨g5, rfl, hg5, hc5⟩ := N7.out (by rw [HL1.out]; omega)
                  obtain ⟨v, hv⟩ : ∃ v, z1.getD p 0 = v := ⟨_, rfl⟩
                  have hzp : z1[p]? = some v := by
                    rw [← hv, List.getD_eq_getElem?_getD, List.getElem?_eq_getElem (by rw [HL1.out]; exact hpl)]
                    rfl
                  have hvj := F2.out j v hjl (by omega) (by rw [HP.out]; exact hzp)
                  have y5 : wr.cell? ⟨g5, p, none⟩ = some (.int .i64 (v : Int)) := by
                    have h1 := hc5 p (by rw [HL1.out]; exact hpl)
                    rw [hv] at h1
                    exact (World.cell?_of_block (a := ⟨g5, p, none⟩) (HG'.out.block g5 hg5 (fun e => NE1.out g5 (E5.out g5 rfl) (by injection e)))).trans h1
                  have q1 : decide (l1 ≤ p) = false := decide_eq_false (by omega)
                  have q3 : (p : Int) < l1 := by omega
                  have q4 : ¬ (v : Int) = (j : Int) := by omega
                  have q5 : (v == j) = false := by simpa using hvj
                  clear hzp hc5 hg5 htx hd hv hvj
                  go_wp2_with fail
                  refine HO.out.mono ?_
                  rintro e w9 ⟨rfl, hs9, hg9⟩
                  have S9 := Lib.hid hs9
                  have G9 := Lib.hid (HG'.out.trans hg9)
                  clear hs9 hg9 y5
                  go_wp2_with fail
                  go_roundw
                  case rel => exact ⟨j + 1, s'', by omega, by go_num, by rw [HR1.out], S9.out, HUP2.out, G9.out⟩
                  case measure => simp [intOf]; omega
                · have q1 : decide (l1 ≤ p) = true := decide_eq_true (by omega)
                  have q3 : ¬ (p : Int) < l1 := by omega
                  clear htx hd
                  go_wp2_with fail
                  refine HO.out.mono ?_
                  rintro e w9 ⟨rfl, hs9, hg9⟩
                  have S9 := Lib.hid hs9
                  have G9 := Lib.hid (HG'.out.trans hg9)
                  clear hs9 hg9
                  go_wp2_with fail
                  go_roundw
                  case rel => exact ⟨j + 1, s'', by omega, by go_num, by rw [HR1.out], S9.out, HUP2.out, G9.out⟩
                  case measure => simp [intOf]; omega
            · have j256 : j = 256 := by omega
              have hpl : p = l1 := by rw [← hp, j256, HZ1.out, HL1.out]
              subst hpl
              have HFULL : Hid (∀ M, M = 256 → (rcs s'.nxt t M).length = 256) := Lib.hid (fun M hM => by rw [rcs_full (fun i hi => HUP.out.low i (by omega))]; exact hM)
              have HF2 := Lib.hid (HFULL.out 256 rfl)
              have HRC := Lib.hid (recents_ok2 sb s' t wr HS'.out HUP.out.mv)
              obtain ⟨z3, hz3⟩ : ∃ z, rcs s'.nxt t 256 = z := ⟨_, rfl⟩
              rw [hz3] at HRC HF2
              clear hz3 hp HP HFULL
              have g3 : ¬ (j : Int) < 256 := by omega
              have K8 := Lib.hid (offer_below K7.out HG'.out SB.out)
              go_wp2_with fail
              refine HRC.out.mono ?_
              rintro e w9 ⟨⟨A9, c9, rfl, _, _⟩, k9⟩
              rw [HF2.out]
              go_wp2_with fail
              go_ret
              exact ⟨rfl, K8.out.trans (k9.mono K8.out.size)⟩
end Go.Proofs.Ytllabfbebidjiaa
