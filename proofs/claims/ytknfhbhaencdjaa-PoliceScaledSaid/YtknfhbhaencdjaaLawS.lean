/-
  The walk of the law PoliceScaled: at every three ints, two slices of ints and an int it returns true and leaves what was there as it was. No condition.
-/
import Derived.Test.YtknfhbhaencdjaaAwake
import Derived.Test.YtknfhbhaencdjaaCon10
import Derived.Deep.AppendLies
namespace Go.Proofs.Ytknfhbhaencdjaa
open Go.RowKit

theorem scaled_fine {f : Int} {t s : Nat → Int} {m : Nat} (hf1 : 1 ≤ f) (hf2 : f ≤ 20) (h : Pol.Fine t s m) (ht : ∀ k, k < m → 0 ≤ t k ∧ t k ≤ 32000) : Pol.Fine (fun i => f * t i) s m := fun k hk => by
  obtain ⟨h1, h2, h3, h4⟩ := h k hk
  obtain ⟨t1, t2⟩ := ht k hk
  rw [Pol.clk_scaled]
  have e1 : f * t k ≤ 20 * t k := Int.mul_le_mul_of_nonneg_right hf2 t1
  exact ⟨Pol.mul_mono (by omega) h1, by show f * t k ≤ _; omega, h3, h4⟩

set_option maxRecDepth 100000 in
set_option maxHeartbeats 8000000 in
theorem lawScaled (b0 s0 j0 : Int) (A3 : Option Addr) (n3 c3 : Nat) (g : Nat → Int) (A4 : Option Addr) (n4 c4 : Nat) (d : Nat → Int) (f0 : Int) (w : World) (hg : Ints w A3 n3 g) (hd : Ints w A4 n4 d) :
    Calls Try.prog 8 #[.int .i64 b0, .int .i64 s0, .int .i64 j0, .slice A3 n3 c3, .slice A4 n4 c4, .int .i64 f0] w fun e w' => e = .returned (.bool true) ∧ Below w.heap.size w w' := by
  obtain ⟨i0, hi, hz0, hz1, hz2⟩ := info_parts Try.info37
  have hok := contract_okC b0 s0 j0
  obtain ⟨B, hB, hB1, hB2⟩ : ∃ B, 1 + b0 % 300 = B ∧ 1 ≤ B ∧ B ≤ 300 := ⟨_, rfl, by omega, by omega⟩
  obtain ⟨S, hS, hS1, hS2⟩ : ∃ S, 1 + s0 % 80 = S ∧ 1 ≤ S ∧ S ≤ 80 := ⟨_, rfl, by omega, by omega⟩
  obtain ⟨J, hJ, hJ1, hJ2⟩ : ∃ J, j0 % 501 = J ∧ 0 ≤ J ∧ J ≤ 500 := ⟨_, rfl, by omega, by omega⟩
  obtain ⟨f, hf, hf1, hf2⟩ : ∃ f, 1 + f0 % 20 = f ∧ 1 ≤ f ∧ f ≤ 20 := ⟨_, rfl, by omega, by omega⟩
  rw [hB, hS, hJ] at hok
  have p1 : 0 ≤ f0 % 20 := by omega
  have p2 : f0 % 20 < 20 := by omega
  have HB := Lib.hid hB
  have HS := Lib.hid hS
  have HJ := Lib.hid hJ
  have HG := Lib.hid hg
  have HD := Lib.hid hd
  have HFF := Lib.hid hf
  have hi' := Lib.hid hi
  have hz0' := Lib.hid hz0
  have hz1' := Lib.hid hz1
  have hz2' := Lib.hid hz2
  clear hB hS hJ hg hd hf hi hz0 hz1 hz2
  obtain ⟨m, hm⟩ : ∃ m, min n3 80 = m := ⟨_, rfl⟩
  obtain ⟨t, ht⟩ : ∃ t, fTm g = t := ⟨_, rfl⟩
  obtain ⟨s, hs⟩ : ∃ s, fSz d n4 = s := ⟨_, rfl⟩
  obtain ⟨l, hl⟩ : ∃ l, Pol.idx B S J t s m = l := ⟨_, rfl⟩
  have hm80 : m ≤ 80 := by omega
  have hfine : Pol.Fine t s m := by rw [← ht, ← hs]; exact f_fine g d n4 m hm80
  have htb : ∀ k, k < 80 → 0 ≤ t k ∧ t k ≤ 32000 := fun k hk => by rw [← ht]; have := fAcc_bd g (k + 1); show 0 ≤ fAcc g (k + 1) ∧ fAcc g (k + 1) ≤ _; omega
  have hll : l.length ≤ m := by rw [← hl]; exact idx_len ..
  have HM := Lib.hid hm
  have HT := Lib.hid ht
  have HSS := Lib.hid hs
  have HL := Lib.hid hl
  have HF := Lib.hid hfine
  have HTB := Lib.hid htb
  have w1 : 1 ≤ f * B := Int.mul_pos (by omega) (by omega)
  have w2 : f * B ≤ 20 * B := Int.mul_le_mul_of_nonneg_right hf2 (by omega)
  have w3 : 0 ≤ f * J := Int.mul_nonneg (by omega) (by omega)
  have w4 : f * J ≤ 20 * J := Int.mul_le_mul_of_nonneg_right hf2 (by omega)
  have w5 : f * B ≤ 6000 := by omega
  have w6 : f * J ≤ 10000 := by omega
  clear w2 w4
  have hok2 : okC (f * B) S (f * J) = true := okC_mk ⟨w1, by omega, hS1, by omega, w3, by omega⟩
  have HSF : Hid (Pol.Fine (fun i => f * t i) s m) := Lib.hid (scaled_fine hf1 hf2 hfine (fun k hk => htb k (by omega)))
  have HSI : Hid (Pol.idx (f * B) S (f * J) (fun i => f * t i) s m = l) := Lib.hid (by rw [Pol.idx_scaled hf1]; exact hl)
  have HSC : Hid (Pol.Conf (f * B) S (f * J) (fun i => f * t i) s m = Pol.Conf B S J t s m) := Lib.hid (Pol.Conf_scaled hf1 hf2 (by omega) hJ1 (fun k hk => by have := htb k (by omega); omega))
  clear hm ht hs hl hfine htb
  go_enter Try.func8, Try.ntmps8
  go_wp2_with fail
  refine (awake_any _).mono ?_
  rintro e wA ⟨rfl, kA⟩
  go_wp2_with fail
  refine (contract_any _ _ _ _).mono ?_
  rintro e w' ⟨rfl, rfl⟩
  rw [HB.out, HS.out, HJ.out]
  go_wp2_with fail
  refine (pick_any _ _ _ (by omega) (by omega)).mono ?_
  rintro e w' ⟨rfl, rfl⟩
  go_wp2_with fail
  rw [HFF.out]
  refine (flow_any _ _ _ _ _ _ _ _ _ (HG.out.below kA) (HD.out.below kA)).mono ?_
  rintro e wF ⟨v, rfl, hrow, kF⟩
  rw [HM.out, HT.out, HSS.out] at hrow
  obtain ⟨A, c, rfl, hflow⟩ := hrow.flow (by omega)
  have kW : Below w.heap.size w wF := kA.trans (kF.mono kA.size)
  have HFL2 := Lib.hid hflow
  have HFL := Lib.hid hflow.2
  have KW := Lib.hid kW
  clear hflow hrow kF kA kW p1 p2
  go_wp2_with fail
  go_loopw [15, 16] (fun v i wr => ∃ k : Nat, k ≤ m ∧ i = .int .i64 k ∧ Rows2 wr wF.heap.size v k (fun i => f * t i) s ∧ Below wF.heap.size wF wr)
    (fun _ i _ => (80 - intOf i).toNat)
  case atStart => exact ⟨0, Nat.zero_le _, rfl, World.ownsRow_nil _ _ _ _, Below.refl _ _⟩
  case round =>
    obtain ⟨k, hk, rfl, hrow, kB⟩ := hrel
    by_cases hlt : k < m
    · obtain ⟨gF, rfl, hgF, hcF⟩ := HFL.out (by omega)
      have c2 := hcF _ hlt
      have t1 := HTB.out k (by omega)
      have z1 : 0 ≤ f * t k := Int.mul_nonneg (by omega) t1.1
      have z2 : f * t k ≤ 20 * t k := Int.mul_le_mul_of_nonneg_right hf2 t1.1
      have z3 : f * t k ≤ 640000 := by omega
      have y2 : wr.cell? ⟨gF, k * 2, none⟩ = some (.int .i64 (t k)) := (kB.cell (p := ⟨gF, k * 2, none⟩) hgF).trans c2.1
      have y3 : wr.cell? ⟨gF, k * 2 + 1, none⟩ = some (.int .i64 (s k)) := (kB.cell (p := ⟨gF, k * 2 + 1, none⟩) hgF).trans c2.2
      clear hcF z2 t1
      have kD : Below wF.heap.size wF wr.drew := Below.drew kB
      have hrow' : Rows2 wr.drew wF.heap.size u15 k (fun i => f * t i) s := hrow
      have hsz := kD.size
      go_wp2_with fail
      have v1 : IntKind.i64.wrap (f * t k) = f * t k := IntWalk.i64_in _ (by omega)
      have v2 : (k : Int) < m := by omega
      refine wp_region_held_drew (S := (fun w' : World => w'.cell? ⟨gF, k * 2, none⟩ = some (.int .i64 (t k)) ∧ w'.cell? ⟨gF, k * 2 + 1, none⟩ = some (.int .i64 (s k)))) (by kernel_rfl) ⟨y2, y3⟩ (fun hS0 => ?_)
      refine ah_take (i := 0) (v := ?_) (some 43) rfl rfl (by kernel_rfl) (by kernel_rfl) (by kernel_rfl) (fun _ _ _ h => h) (by kernel_rfl) ?_ (by assumption) ?_
      rotate_left
      · (intro w hSw; (try dsimp only at hSw); go_simp; (first | done | with_reducible rfl))
      simp only [Act.put, List.setIfInBounds_toArray, List.set_cons_zero, List.set_cons_succ]
      refine ah_take (i := 1) (v := ?_) (some 44) rfl rfl (by kernel_rfl) (by kernel_rfl) (by kernel_rfl) (fun _ _ _ h => h) (by kernel_rfl) ?_ (by assumption) ?_
      rotate_left
      · (intro w hSw; (try dsimp only at hSw); go_simp; (first | done | with_reducible rfl))
      simp only [Act.put, List.setIfInBounds_toArray, List.set_cons_zero, List.set_cons_succ]
      refine ah_take (i := 2) (v := ?_) (some 45) rfl rfl (by kernel_rfl) (by kernel_rfl) (by kernel_rfl) (fun _ _ _ h => h) (by kernel_rfl) ?_ (by assumption) ?_
      rotate_left
      · (intro w hSw; (try dsimp only at hSw); go_simp; (first | done | with_reducible rfl))
      simp only [Act.put, List.setIfInBounds_toArray, List.set_cons_zero, List.set_cons_succ]
      refine ah_take (i := 3) (v := ?_) (some 46) rfl rfl (by kernel_rfl) (by kernel_rfl) (by kernel_rfl) (fun _ _ _ h => h) (by kernel_rfl) ?_ (by assumption) ?_
      rotate_left
      · (intro w hSw; (try dsimp only at hSw); go_simp; (first | done | with_reducible rfl))
      simp only [Act.put, List.setIfInBounds_toArray, List.set_cons_zero, List.set_cons_succ]
      refine ah_take (i := 4) (v := ?_) (some 47) rfl rfl (by kernel_rfl) (by kernel_rfl) (by kernel_rfl) (fun _ _ _ h => h) (by kernel_rfl) ?_ (by assumption) ?_
      rotate_left
      · (intro w hSw; (try dsimp only at hSw); go_simp; (first | done | with_reducible rfl))
      simp only [Act.put, List.setIfInBounds_toArray, List.set_cons_zero, List.set_cons_succ]
      refine ah_take (i := 5) (v := ?_) (some 48) rfl rfl (by kernel_rfl) (by kernel_rfl) (by kernel_rfl) (fun _ _ _ h => h) (by kernel_rfl) ?_ (by assumption) ?_
      rotate_left
      · (intro w hSw; (try dsimp only at hSw); go_simp; (first | done | with_reducible rfl))
      simp only [Act.put, List.setIfInBounds_toArray, List.set_cons_zero, List.set_cons_succ]
      refine ah_take (i := 6) (v := ?_) (some 49) rfl rfl (by kernel_rfl) (by kernel_rfl) (by kernel_rfl) (fun _ _ _ h => h) (by kernel_rfl) ?_ (by assumption) ?_
      rotate_left
      · (intro w hSw; (try dsimp only at hSw); go_simp; (first | done | with_reducible rfl))
      simp only [Act.put, List.setIfInBounds_toArray, List.set_cons_zero, List.set_cons_succ]
      refine ah_take (i := 7) (v := ?_) (some 50) rfl rfl (by kernel_rfl) (by kernel_rfl) (by kernel_rfl) (fun _ _ _ h => h) (by kernel_rfl) ?_ (by assumption) ?_
      rotate_left
      · (intro w hSw; (try dsimp only at hSw); go_simp; (first | done | with_reducible rfl))
      simp only [Act.put, List.setIfInBounds_toArray, List.set_cons_zero, List.set_cons_succ]
      refine ah_take (i := 8) (v := ?_) (some 51) rfl rfl (by kernel_rfl) (by kernel_rfl) (by kernel_rfl) (fun _ _ _ h => h) (by kernel_rfl) ?_ (by assumption) ?_
      rotate_left
      · (intro w hSw; (try dsimp only at hSw); go_simp; (first | done | with_reducible rfl))
      simp only [Act.put, List.setIfInBounds_toArray, List.set_cons_zero, List.set_cons_succ]
      refine ah_take (i := 9) (v := ?_) (some 52) rfl rfl (by kernel_rfl) (by kernel_rfl) (by kernel_rfl) (fun _ _ _ h => h) (by kernel_rfl) ?_ (by assumption) ?_
      rotate_left
      · (intro w hSw; (try dsimp only at hSw); go_simp; (first | done | with_reducible rfl))
      simp only [Act.put, List.setIfInBounds_toArray, List.set_cons_zero, List.set_cons_succ]
      refine ah_take (i := 10) (v := ?_) (some 53) rfl rfl (by kernel_rfl) (by kernel_rfl) (by kernel_rfl) (fun _ _ _ h => h) (by kernel_rfl) ?_ (by assumption) ?_
      rotate_left
      · (intro w hSw; (try dsimp only at hSw); go_simp; (first | done | with_reducible rfl))
      simp only [Act.put, List.setIfInBounds_toArray, List.set_cons_zero, List.set_cons_succ]
      refine ah_take (i := 11) (v := ?_) (some 54) rfl rfl (by kernel_rfl) (by kernel_rfl) (by kernel_rfl) (fun _ _ _ h => h) (by kernel_rfl) ?_ (by assumption) ?_
      rotate_left
      · (intro w hSw; (try dsimp only at hSw); go_simp; (first | done | with_reducible rfl))
      simp only [Act.put, List.setIfInBounds_toArray, List.set_cons_zero, List.set_cons_succ]
      refine ah_take (i := 12) (v := ?_) (some 55) rfl rfl (by kernel_rfl) (by kernel_rfl) (by kernel_rfl) (fun _ _ _ h => h) (by kernel_rfl) ?_ (by assumption) ?_
      rotate_left
      · (intro w hSw; (try dsimp only at hSw); go_simp; (first | done | with_reducible rfl))
      simp only [Act.put, List.setIfInBounds_toArray, List.set_cons_zero, List.set_cons_succ]
      refine ah_take (i := 13) (v := ?_) (some 56) rfl rfl (by kernel_rfl) (by kernel_rfl) (by kernel_rfl) (fun _ _ _ h => h) (by kernel_rfl) ?_ (by assumption) ?_
      rotate_left
      · (intro w hSw; (try dsimp only at hSw); go_simp; (first | done | with_reducible rfl))
      simp only [Act.put, List.setIfInBounds_toArray, List.set_cons_zero, List.set_cons_succ]
      refine wpAnyH_ready (rs := [14]) (by kernel_rfl) (by simp) ?_
      refine AllReadyH.cons rfl (fun K hK => ?_) AllReadyH.nil
      go_simp
      refine hK.out _ _ ⟨cell_alloc' y2 _, cell_alloc' y3 _⟩ (fun hHeld1 => ?_)
      try simp only [Act.put, List.setIfInBounds_toArray, List.set_cons_zero, List.set_cons_succ]
      clear hK K
      refine wpAnyH_ready (rs := [15]) (by kernel_rfl) (by simp) ?_
      refine AllReadyH.cons rfl (fun K hK => ?_) AllReadyH.nil
      refine step_append_lies _ rfl _ _ 33 rfl wF.heap.size 37 i0 (.agg #[.int .i64 0, .int .i64 0]) 2 16 Try.underlying33 hi'.out hz0'.out hz1'.out hz2'.out rfl (by decide) _ _ _ rfl (hrow'.alloc _) ⟨wr.heap.size, 0, none⟩ 1 1 [.int .i64 (f * t k), .int .i64 (s k)] rfl rfl (fun j u hj => new_two wr _ _ _ j u hj) (one_two _ _) (by decide) (by unfold maxLen; omega) (by omega) (by have := kB.size; simp; omega) _ rfl ?_
      intro g' cap' w2 hrow2 hg2 _ _
      have kB2 : Below wF.heap.size wF w2 := (kD.alloc hsz _).grown hg2 (by have := kB.size; simp; omega) (fun j e => (hrow'.lt j e).1)
      refine hK.out _ _ ⟨(kB2.cell (p := ⟨gF, k * 2, none⟩) hgF).trans c2.1, (kB2.cell (p := ⟨gF, k * 2 + 1, none⟩) hgF).trans c2.2⟩ (fun hHeld2 => ?_)
      try simp only [Act.put, List.setIfInBounds_toArray]
      clear hK K
      refine ah_take (i := 16) (v := ?_) (some 15) rfl rfl (by kernel_rfl) (by kernel_rfl) (by kernel_rfl) (fun _ _ _ h => h) (by kernel_rfl) ?_ (by assumption) ?_
      rotate_left
      · (intro w hSw; (try dsimp only at hSw); go_simp; (first | done | with_reducible rfl))
      simp only [Act.put]
      refine wpAnyH_done (by kernel_rfl) ?_ _
      try clear hHeld1 hHeld2
      clear hS0 y2 y3 v1 v2
      go_wp2_with fail
      go_roundw
      case rel => exact ⟨k + 1, by omega, by go_num, hrow2, kB2⟩
      case measure => simp [intOf]; omega
    · obtain rfl : k = m := by omega
      obtain ⟨A2, c2, rfl, hfl2⟩ := hrow.flow (by omega)
      have HF3 := Lib.hid (HFL2.out.below kB)
      have HF4 := Lib.hid hfl2
      clear hfl2 hrow
      go_wp2_with fail
      refine (filter_at B S J _ k _ t s _ hok HF3.out HF.out HL.out).mono ?_
      rintro e wP ⟨A5, c5, rfl, hidx1, kP⟩
      have HF5 := Lib.hid (HF4.out.below kP)
      have kBP := kB.trans (kP.mono kB.size)
      go_wp2_with fail
      refine (filter_at (f * B) S (f * J) _ k _ (fun i => f * t i) s _ hok2 HF5.out HSF.out HSI.out).mono ?_
      rintro e wQ ⟨A6, c6, rfl, hidx2, kQ⟩
      have kBQ := kBP.trans (kQ.mono kBP.size)
      go_wp2_with fail
      refine (same_idx _ _ _ _ l _ (by omega) (hidx1.below kQ) hidx2).mono ?_
      rintro e wR ⟨rfl, kR⟩
      have kBR := kBQ.trans (kR.mono kBQ.size)
      have HTA : Hid (∀ i, i < k → -1099511627776 ≤ t i ∧ t i ≤ 1099511627776) := Lib.hid (fun i hi => by have := HTB.out i (by omega); omega)
      have HTC : Hid (∀ i, i < k → -1099511627776 ≤ f * t i ∧ f * t i ≤ 1099511627776) := Lib.hid (fun i hi => by
        have := HTB.out i (by omega)
        have z1 : 0 ≤ f * t i := Int.mul_nonneg (by omega) this.1
        have z2 : f * t i ≤ 20 * t i := Int.mul_le_mul_of_nonneg_right hf2 this.1
        omega)
      obtain ⟨b, hb⟩ : ∃ b, Pol.Conf B S J t s k = b := ⟨_, rfl⟩
      have HC1 := Lib.hid hb
      have hb2 := HSC.out
      rw [hb] at hb2
      have HC2 := Lib.hid hb2
      have HF6 := Lib.hid (HFL2.out.below kBR)
      have HF7 := Lib.hid ((HF5.out.below kQ).below kR)
      clear hb hb2 hidx1 hidx2
      go_wp2_with fail
      refine (conforms_to (b := b) B S J _ k _ t s _ hok HF6.out HTA.out HC1.out).mono ?_
      rintro e wS ⟨rfl, kS⟩
      have kBS := kBR.trans (kS.mono kBR.size)
      have HF8 := Lib.hid (HF7.out.below kS)
      go_wp2_with fail
      refine (conforms_to (b := b) (f * B) S (f * J) _ k _ (fun i => f * t i) s _ hok2 HF8.out HTC.out HC2.out).mono ?_
      rintro e wT ⟨rfl, kT⟩
      have kBT := kBS.trans (kT.mono kBS.size)
      cases b
      · go_wp2_with fail
        go_ret
        exact ⟨rfl, KW.out.trans (kBT.mono KW.out.size)⟩
      · go_wp2_with fail
        go_ret
        exact ⟨rfl, KW.out.trans (kBT.mono KW.out.size)⟩
end Go.Proofs.Ytknfhbhaencdjaa
