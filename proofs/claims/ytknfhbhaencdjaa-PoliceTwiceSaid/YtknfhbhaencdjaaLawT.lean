/-
  The walk of the law PoliceTwice: at every three ints and two slices of ints it returns true and leaves what was there as it was. No condition.
-/
import Derived.Test.YtknfhbhaencdjaaAwake
import Derived.Test.YtknfhbhaencdjaaCon9
import Derived.Test.YtknfhbhaencdjaaReg
import Derived.Test.YtknfhbhaencdjaaLawBs
namespace Go.Proofs.Ytknfhbhaencdjaa
open Go.RowKit

theorem idx_strict {B S J : Int} {t s : Nat → Int} {n k : Nat} (hk : k + 1 < (Pol.idx B S J t s n).length) : (Pol.idx B S J t s n).getD k 0 < (Pol.idx B S J t s n).getD (k + 1) 0 := by
  have hp : (Pol.idx B S J t s n).Pairwise (· < ·) := List.Pairwise.filter _ List.pairwise_lt_range
  have := List.pairwise_iff_getElem.1 hp k (k + 1) (by omega) hk (by omega)
  simp only [List.getD, List.getElem?_eq_getElem hk, List.getElem?_eq_getElem (show k < (Pol.idx B S J t s n).length by omega), Option.getD_some]
  exact this
theorem sub_fine {B S J : Int} {t s : Nat → Int} {m : Nat} (hf : Pol.Fine t s m) (h0 : 0 ≤ t 0) : Pol.Fine (Pol.sub (Pol.idx B S J t s m) t) (Pol.sub (Pol.idx B S J t s m) s) (Pol.idx B S J t s m).length := fun k hk => by
  have h4 := idx_lt hk
  obtain ⟨a1, a2, a3, a4⟩ := hf _ h4
  refine ⟨?_, a2, a3, a4⟩
  cases k with
  | zero =>
    show (0 : Int) ≤ t _
    have := Pol.clk_mono hf (a := 1) (b := (Pol.idx B S J t s m).getD 0 0 + 1) (by omega) (by omega)
    exact Int.le_trans h0 this
  | succ k =>
    have h3 := idx_strict hk
    exact Pol.clk_mono hf (a := (Pol.idx B S J t s m).getD k 0 + 1) (b := (Pol.idx B S J t s m).getD (k + 1) 0 + 1) (by omega) (by omega)
theorem sub_idx {B S J : Int} {t s : Nat → Int} {m : Nat} (hS : 0 ≤ S) (hB : 0 ≤ B) (hf : Pol.Fine t s m) :
    (Pol.idx B S J (Pol.sub (Pol.idx B S J t s m) t) (Pol.sub (Pol.idx B S J t s m) s) (Pol.idx B S J t s m).length).length = (Pol.idx B S J t s m).length := by
  have h := (Pol.again (B := B) (S := S) (J := J) hS hB m hf).2
  unfold Pol.idx at h ⊢
  rw [Pol.filter_all h]
  simp

set_option maxRecDepth 100000 in
set_option maxHeartbeats 8000000 in
theorem lawTwice (b0 s0 j0 : Int) (A3 : Option Addr) (n3 c3 : Nat) (g : Nat → Int) (A4 : Option Addr) (n4 c4 : Nat) (d : Nat → Int) (w : World) (hg : Ints w A3 n3 g) (hd : Ints w A4 n4 d) :
    Calls Try.prog 7 #[.int .i64 b0, .int .i64 s0, .int .i64 j0, .slice A3 n3 c3, .slice A4 n4 c4] w fun e w' => e = .returned (.bool true) ∧ Below w.heap.size w w' := by
  obtain ⟨i0, hi, hz0, hz1, hz2⟩ := info_parts Try.info37
  have hok := contract_okC b0 s0 j0
  obtain ⟨B, hB, hB1, hB2⟩ : ∃ B, 1 + b0 % 300 = B ∧ 1 ≤ B ∧ B ≤ 300 := ⟨_, rfl, by omega, by omega⟩
  obtain ⟨S, hS, hS1, hS2⟩ : ∃ S, 1 + s0 % 80 = S ∧ 1 ≤ S ∧ S ≤ 80 := ⟨_, rfl, by omega, by omega⟩
  obtain ⟨J, hJ, hJ1, hJ2⟩ : ∃ J, j0 % 501 = J ∧ 0 ≤ J ∧ J ≤ 500 := ⟨_, rfl, by omega, by omega⟩
  rw [hB, hS, hJ] at hok
  have HB := Lib.hid hB
  have HS := Lib.hid hS
  have HJ := Lib.hid hJ
  have HG := Lib.hid hg
  have HD := Lib.hid hd
  have hi' := Lib.hid hi
  have hz0' := Lib.hid hz0
  have hz1' := Lib.hid hz1
  have hz2' := Lib.hid hz2
  clear hB hS hJ hg hd hi hz0 hz1 hz2
  obtain ⟨m, hm⟩ : ∃ m, min n3 80 = m := ⟨_, rfl⟩
  obtain ⟨t, ht⟩ : ∃ t, fTm g = t := ⟨_, rfl⟩
  obtain ⟨s, hs⟩ : ∃ s, fSz d n4 = s := ⟨_, rfl⟩
  obtain ⟨l, hl⟩ : ∃ l, Pol.idx B S J t s m = l := ⟨_, rfl⟩
  have hm80 : m ≤ 80 := by omega
  have hfine : Pol.Fine t s m := by rw [← ht, ← hs]; exact f_fine g d n4 m hm80
  have htb : ∀ k, k < 80 → 0 ≤ t k ∧ t k ≤ 32000 := fun k hk => by rw [← ht]; have := fAcc_bd g (k + 1); show 0 ≤ fAcc g (k + 1) ∧ fAcc g (k + 1) ≤ _; omega
  have hll : l.length ≤ m := by rw [← hl]; exact idx_len ..
  have HM := Lib.hid hm
  have HT := Lib.hid ht
  have HSS := Lib.hid hs
  have HL := Lib.hid hl
  have HF := Lib.hid hfine
  have HTB := Lib.hid htb
  have HLT : Hid (∀ k, k < l.length → l.getD k 0 < m) := Lib.hid (by rw [← hl]; exact fun k hk => idx_lt hk)
  have HST : Hid (∀ k, k + 1 < l.length → l.getD k 0 < l.getD (k + 1) 0) := Lib.hid (by rw [← hl]; exact fun k hk => idx_strict hk)
  have HSF : Hid (Pol.Fine (Pol.sub l t) (Pol.sub l s) l.length) := Lib.hid (by rw [← hl]; exact sub_fine hfine (htb 0 (by omega)).1)
  have HSI : Hid ((Pol.idx B S J (Pol.sub l t) (Pol.sub l s) l.length).length = l.length) := Lib.hid (by rw [← hl]; exact sub_idx (by omega) (by omega) hfine)
  have HCF : Hid (Pol.Conf B S J t s m = true → l.length = m) := Lib.hid (fun h => by rw [← hl, Pol.Conf_idx (by omega) (by omega) hJ1 h]; simp)
  clear hm ht hs hl hfine htb
  go_enter Try.func7, Try.ntmps7
  go_wp2_with fail
  refine (awake_any _).mono ?_
  rintro e wA ⟨rfl, kA⟩
  go_wp2_with fail
  refine (contract_any _ _ _ _).mono ?_
  rintro e w' ⟨rfl, rfl⟩
  rw [HB.out, HS.out, HJ.out]
  go_wp2_with fail
  refine (flow_any _ _ _ _ _ _ _ _ _ (HG.out.below kA) (HD.out.below kA)).mono ?_
  rintro e wF ⟨v, rfl, hrow, kF⟩
  rw [HM.out, HT.out, HSS.out] at hrow
  obtain ⟨A, c, rfl, hflow⟩ := hrow.flow (by omega)
  go_wp2_with fail
  refine (filter_at B S J A m c t s _ hok hflow HF.out HL.out).mono ?_
  rintro e wP ⟨A', c', rfl, hidx, kP⟩
  have kW : Below w.heap.size w wP := (kA.trans (kF.mono kA.size)).trans (kP.mono (Nat.le_trans kA.size kF.size))
  have hflow2 := hflow.below kP
  have HFL2 := Lib.hid hflow2
  have HFL := Lib.hid hflow2.2
  have HIX := Lib.hid hidx
  have KW := Lib.hid kW
  clear hflow2 hidx hflow hrow kF kA kP kW
  go_wp2_with fail
  go_loopw [14, 15] (fun v i wr => ∃ k : Nat, k ≤ l.length ∧ i = .int .i64 k ∧ Rows2 wr wP.heap.size v k (Pol.sub l t) (Pol.sub l s) ∧ Below wP.heap.size wP wr)
    (fun _ i _ => (80 - intOf i).toNat)
  case atStart => exact ⟨0, Nat.zero_le _, rfl, World.ownsRow_nil _ _ _ _, Below.refl _ _⟩
  case round =>
    obtain ⟨k, hk, rfl, hrow, kB⟩ := hrel
    by_cases hlt : k < l.length
    · obtain ⟨gP, rfl, hgP, hcP⟩ := HIX.out (by omega)
      obtain ⟨gF, rfl, hgF, hcF⟩ := HFL.out (by omega)
      have x1 := HLT.out k hlt
      have c0 := hcP k hlt
      have c2 := hcF _ x1
      have hs1 := HST.out (k - 1)
      have hcm := hcP (k - 1) (by omega)
      have et := Lib.hid (show Pol.sub l t k = t (l.getD k 0) from rfl)
      have es := Lib.hid (show Pol.sub l s k = s (l.getD k 0) from rfl)
      clear hcP hcF
      generalize ha : l.getD k 0 = a at *
      have y0 : wr.cell? ⟨gP, k, none⟩ = some (.int .i64 (a : Int)) := (kB.cell (p := ⟨gP, k, none⟩) hgP).trans c0
      have y2 : wr.cell? ⟨gF, a * 2, none⟩ = some (.int .i64 (t a)) := (kB.cell (p := ⟨gF, a * 2, none⟩) hgF).trans c2.1
      have y3 : wr.cell? ⟨gF, a * 2 + 1, none⟩ = some (.int .i64 (s a)) := (kB.cell (p := ⟨gF, a * 2 + 1, none⟩) hgF).trans c2.2
      have hsz := kB.size
      rcases Nat.eq_zero_or_pos k with h0 | h0
      · subst h0
        clear hs1 hcm c0 c2
        have ax : (a : Int) < m := by omega
        have a0 : decide ((a : Int) < 0) = false := decide_eq_false (by omega)
        have a1 : decide (m ≤ a) = false := decide_eq_false (by omega)
        clear ha
        have kD : Below wP.heap.size wP wr.drew := Below.drew kB
        have hrow' : Rows2 wr.drew wP.heap.size u14 0 (Pol.sub l t) (Pol.sub l s) := hrow
        go_wp2_with fail
        refine wp_region_held_drew (S := (fun w' : World => w'.cell? ⟨gP, 0, none⟩ = some (.int .i64 (a : Int)))) (by kernel_rfl) y0 (fun hS0 => ?_)
        refine ah_take (i := 0) (v := ?_) (some 45) rfl rfl (by kernel_rfl) (by kernel_rfl) (by kernel_rfl) (fun _ _ _ h => h) (by kernel_rfl) ?_ (by assumption) ?_
        rotate_left
        · (intro w hSw; (try dsimp only at hSw); go_simp; (first | done | with_reducible rfl))
        simp only [Act.put, List.setIfInBounds_toArray, List.set_cons_zero, List.set_cons_succ]
        refine ah_take (i := 1) (v := ?_) (some 46) rfl rfl (by kernel_rfl) (by kernel_rfl) (by kernel_rfl) (fun _ _ _ h => h) (by kernel_rfl) ?_ (by assumption) ?_
        rotate_left
        · (intro w hSw; (try dsimp only at hSw); go_simp; (first | done | with_reducible rfl))
        simp only [Act.put, List.setIfInBounds_toArray, List.set_cons_zero, List.set_cons_succ]
        refine ah_take (i := 2) (v := ?_) (some 47) rfl rfl (by kernel_rfl) (by kernel_rfl) (by kernel_rfl) (fun _ _ _ h => h) (by kernel_rfl) ?_ (by assumption) ?_
        rotate_left
        · (intro w hSw; (try dsimp only at hSw); go_simp; (first | done | with_reducible rfl))
        simp only [Act.put, List.setIfInBounds_toArray, List.set_cons_zero, List.set_cons_succ]
        refine ah_take (i := 3) (v := ?_) (some 48) rfl rfl (by kernel_rfl) (by kernel_rfl) (by kernel_rfl) (fun _ _ _ h => h) (by kernel_rfl) ?_ (by assumption) ?_
        rotate_left
        · (intro w hSw; (try dsimp only at hSw); go_simp; (first | done | with_reducible rfl))
        simp only [Act.put, List.setIfInBounds_toArray, List.set_cons_zero, List.set_cons_succ]
        refine ah_take (i := 4) (v := ?_) (some 49) rfl rfl (by kernel_rfl) (by kernel_rfl) (by kernel_rfl) (fun _ _ _ h => h) (by kernel_rfl) ?_ (by assumption) ?_
        rotate_left
        · (intro w hSw; (try dsimp only at hSw); go_simp; (first | done | with_reducible rfl))
        simp only [Act.put, List.setIfInBounds_toArray, List.set_cons_zero, List.set_cons_succ]
        refine ah_take (i := 5) (v := ?_) (some 50) rfl rfl (by kernel_rfl) (by kernel_rfl) (by kernel_rfl) (fun _ _ _ h => h) (by kernel_rfl) ?_ (by assumption) ?_
        rotate_left
        · (intro w hSw; (try dsimp only at hSw); go_simp; (first | done | with_reducible rfl))
        simp only [Act.put, List.setIfInBounds_toArray, List.set_cons_zero, List.set_cons_succ]
        refine ah_take (i := 6) (v := ?_) (some 51) rfl rfl (by kernel_rfl) (by kernel_rfl) (by kernel_rfl) (fun _ _ _ h => h) (by kernel_rfl) ?_ (by assumption) ?_
        rotate_left
        · (intro w hSw; (try dsimp only at hSw); go_simp; (first | done | with_reducible rfl))
        simp only [Act.put, List.setIfInBounds_toArray, List.set_cons_zero, List.set_cons_succ]
        refine ah_take (i := 7) (v := ?_) (some 52) rfl rfl (by kernel_rfl) (by kernel_rfl) (by kernel_rfl) (fun _ _ _ h => h) (by kernel_rfl) ?_ (by assumption) ?_
        rotate_left
        · (intro w hSw; (try dsimp only at hSw); go_simp; (first | done | with_reducible rfl))
        simp only [Act.put, List.setIfInBounds_toArray, List.set_cons_zero, List.set_cons_succ]
        refine ah_take (i := 8) (v := ?_) (some 53) rfl rfl (by kernel_rfl) (by kernel_rfl) (by kernel_rfl) (fun _ _ _ h => h) (by kernel_rfl) ?_ (by assumption) ?_
        rotate_left
        · (intro w hSw; (try dsimp only at hSw); go_simp; (first | done | with_reducible rfl))
        simp only [Act.put, List.setIfInBounds_toArray, List.set_cons_zero, List.set_cons_succ]
        refine ah_take (i := 9) (v := ?_) (some 54) rfl rfl (by kernel_rfl) (by kernel_rfl) (by kernel_rfl) (fun _ _ _ h => h) (by kernel_rfl) ?_ (by assumption) ?_
        rotate_left
        · (intro w hSw; (try dsimp only at hSw); go_simp; (first | done | with_reducible rfl))
        simp only [Act.put, List.setIfInBounds_toArray, List.set_cons_zero, List.set_cons_succ]
        refine ah_take (i := 10) (v := ?_) (some 55) rfl rfl (by kernel_rfl) (by kernel_rfl) (by kernel_rfl) (fun _ _ _ h => h) (by kernel_rfl) ?_ (by assumption) ?_
        rotate_left
        · (intro w hSw; (try dsimp only at hSw); go_simp; (first | done | with_reducible rfl))
        simp only [Act.put, List.setIfInBounds_toArray, List.set_cons_zero, List.set_cons_succ]
        refine ah_take (i := 11) (v := ?_) (some 56) rfl rfl (by kernel_rfl) (by kernel_rfl) (by kernel_rfl) (fun _ _ _ h => h) (by kernel_rfl) ?_ (by assumption) ?_
        rotate_left
        · (intro w hSw; (try dsimp only at hSw); go_simp; (first | done | with_reducible rfl))
        simp only [Act.put, List.setIfInBounds_toArray, List.set_cons_zero, List.set_cons_succ]
        refine ah_take (i := 12) (v := ?_) (some 57) rfl rfl (by kernel_rfl) (by kernel_rfl) (by kernel_rfl) (fun _ _ _ h => h) (by kernel_rfl) ?_ (by assumption) ?_
        rotate_left
        · (intro w hSw; (try dsimp only at hSw); go_simp; (first | done | with_reducible rfl))
        simp only [Act.put, List.setIfInBounds_toArray, List.set_cons_zero, List.set_cons_succ]
        refine ah_take (i := 13) (v := ?_) (some 58) rfl rfl (by kernel_rfl) (by kernel_rfl) (by kernel_rfl) (fun _ _ _ h => h) (by kernel_rfl) ?_ (by assumption) ?_
        rotate_left
        · (intro w hSw; (try dsimp only at hSw); go_simp; (first | done | with_reducible rfl))
        simp only [Act.put, List.setIfInBounds_toArray, List.set_cons_zero, List.set_cons_succ]
        refine ah_take (i := 14) (v := ?_) (some 59) rfl rfl (by kernel_rfl) (by kernel_rfl) (by kernel_rfl) (fun _ _ _ h => h) (by kernel_rfl) ?_ (by assumption) ?_
        rotate_left
        · (intro w hSw; (try dsimp only at hSw); go_simp; (first | done | with_reducible rfl))
        simp only [Act.put, List.setIfInBounds_toArray, List.set_cons_zero, List.set_cons_succ]
        refine ah_take (i := 15) (v := ?_) (some 60) rfl rfl (by kernel_rfl) (by kernel_rfl) (by kernel_rfl) (fun _ _ _ h => h) (by kernel_rfl) ?_ (by assumption) ?_
        rotate_left
        · (intro w hSw; (try dsimp only at hSw); go_simp; (first | done | with_reducible rfl))
        simp only [Act.put, List.setIfInBounds_toArray, List.set_cons_zero, List.set_cons_succ]
        refine ah_take (i := 16) (v := ?_) (some 61) rfl rfl (by kernel_rfl) (by kernel_rfl) (by kernel_rfl) (fun _ _ _ h => h) (by kernel_rfl) ?_ (by assumption) ?_
        rotate_left
        · (intro w hSw; (try dsimp only at hSw); go_simp; (first | done | with_reducible rfl))
        simp only [Act.put, List.setIfInBounds_toArray, List.set_cons_zero, List.set_cons_succ]
        refine ah_take (i := 17) (v := ?_) (some 62) rfl rfl (by kernel_rfl) (by kernel_rfl) (by kernel_rfl) (fun _ _ _ h => h) (by kernel_rfl) ?_ (by assumption) ?_
        rotate_left
        · (intro w hSw; (try dsimp only at hSw); go_simp; (first | done | with_reducible rfl))
        simp only [Act.put, List.setIfInBounds_toArray, List.set_cons_zero, List.set_cons_succ]
        refine ah_skip (i := 18) (some 63) rfl rfl (by kernel_rfl) (by kernel_rfl) (by kernel_rfl) (fun _ _ _ h => h) (by kernel_rfl) (by assumption) ?_
        simp only [Act.put, List.setIfInBounds_toArray, List.set_cons_zero, List.set_cons_succ]
        refine ah_skip (i := 19) (some 64) rfl rfl (by kernel_rfl) (by kernel_rfl) (by kernel_rfl) (fun _ _ _ h => h) (by kernel_rfl) (by assumption) ?_
        simp only [Act.put, List.setIfInBounds_toArray, List.set_cons_zero, List.set_cons_succ]
        refine ah_skip (i := 20) (some 65) rfl rfl (by kernel_rfl) (by kernel_rfl) (by kernel_rfl) (fun _ _ _ h => h) (by kernel_rfl) (by assumption) ?_
        simp only [Act.put, List.setIfInBounds_toArray, List.set_cons_zero, List.set_cons_succ]
        refine ah_skip (i := 21) (some 66) rfl rfl (by kernel_rfl) (by kernel_rfl) (by kernel_rfl) (fun _ _ _ h => h) (by kernel_rfl) (by assumption) ?_
        simp only [Act.put, List.setIfInBounds_toArray, List.set_cons_zero, List.set_cons_succ]
        refine ah_skip (i := 22) (some 67) rfl rfl (by kernel_rfl) (by kernel_rfl) (by kernel_rfl) (fun _ _ _ h => h) (by kernel_rfl) (by assumption) ?_
        simp only [Act.put, List.setIfInBounds_toArray, List.set_cons_zero, List.set_cons_succ]
        refine ah_skip (i := 23) (some 68) rfl rfl (by kernel_rfl) (by kernel_rfl) (by kernel_rfl) (fun _ _ _ h => h) (by kernel_rfl) (by assumption) ?_
        simp only [Act.put, List.setIfInBounds_toArray, List.set_cons_zero, List.set_cons_succ]
        refine ah_skip (i := 24) (some 69) rfl rfl (by kernel_rfl) (by kernel_rfl) (by kernel_rfl) (fun _ _ _ h => h) (by kernel_rfl) (by assumption) ?_
        simp only [Act.put, List.setIfInBounds_toArray, List.set_cons_zero, List.set_cons_succ]
        refine ah_skip (i := 25) (some 70) rfl rfl (by kernel_rfl) (by kernel_rfl) (by kernel_rfl) (fun _ _ _ h => h) (by kernel_rfl) (by assumption) ?_
        simp only [Act.put, List.setIfInBounds_toArray, List.set_cons_zero, List.set_cons_succ]
        refine ah_skip (i := 26) (some 71) rfl rfl (by kernel_rfl) (by kernel_rfl) (by kernel_rfl) (fun _ _ _ h => h) (by kernel_rfl) (by assumption) ?_
        simp only [Act.put, List.setIfInBounds_toArray, List.set_cons_zero, List.set_cons_succ]
        refine ah_skip (i := 27) (some 72) rfl rfl (by kernel_rfl) (by kernel_rfl) (by kernel_rfl) (fun _ _ _ h => h) (by kernel_rfl) (by assumption) ?_
        simp only [Act.put, List.setIfInBounds_toArray, List.set_cons_zero, List.set_cons_succ]
        refine ah_take (i := 28) (v := ?_) (some 73) rfl rfl (by kernel_rfl) (by kernel_rfl) (by kernel_rfl) (fun _ _ _ h => h) (by kernel_rfl) ?_ (by assumption) ?_
        rotate_left
        · (intro w hSw; (try dsimp only at hSw); go_simp; (first | done | with_reducible rfl))
        simp only [Act.put, List.setIfInBounds_toArray, List.set_cons_zero, List.set_cons_succ]
        refine ah_take (i := 29) (v := ?_) (some 74) rfl rfl (by kernel_rfl) (by kernel_rfl) (by kernel_rfl) (fun _ _ _ h => h) (by kernel_rfl) ?_ (by assumption) ?_
        rotate_left
        · (intro w hSw; (try dsimp only at hSw); go_simp; (first | done | with_reducible rfl))
        simp only [Act.put, List.setIfInBounds_toArray, List.set_cons_zero, List.set_cons_succ]
        refine wpAnyH_done (by kernel_rfl) ?_ _
        clear hS0 ax a0 a1
        try clear hHeld
        have hsz2 := kD.size
        go_wp2_with (at_builtin; refine wpList_append_own _ rfl _ _ 33 rfl wP.heap.size 37 i0 (.agg #[.int .i64 0, .int .i64 0]) 2 16 Try.underlying33 hi'.out hz0'.out hz1'.out hz2'.out rfl (by decide) _ _ _ rfl (hrow'.alloc _) ⟨wr.heap.size, 0, none⟩ 1 1 [.int .i64 (t a), .int .i64 (s a)] rfl rfl (new_two _ _ _ _) (one_two _ _) (by unfold maxLen; omega) (by omega) (by simp; omega) ?_; intro v' w2 hrow2 hg2 _)
        have kB2 : Below wP.heap.size wP w2 := (kD.alloc hsz2 _).grown hg2 (by simp; omega) (fun j e => (hrow'.lt j e).1)
        go_roundw
        case rel => exact ⟨0 + 1, by omega, rfl, by show World.ownsRow _ _ _ _ _ _ (_ ++ [.int .i64 (Pol.sub l t 0), .int .i64 (Pol.sub l s 0)]); rw [et.out, es.out]; exact hrow2, kB2⟩
        case measure => simp [intOf] <;> omega
      · obtain ⟨j, rfl⟩ : ∃ j, k = j + 1 := ⟨k - 1, by omega⟩
        have hb1 := hs1 hlt
        rw [Nat.add_sub_cancel] at hb1 hcm
        rw [ha] at hb1
        generalize l.getD j 0 = b at *
        have ax : (a : Int) < m := by omega
        have a0 : decide ((a : Int) < 0) = false := decide_eq_false (by omega)
        have a1 : decide (m ≤ a) = false := decide_eq_false (by omega)
        have a2 : decide (a ≤ b) = false := decide_eq_false (by omega)
        have v1 : IntKind.i64.wrap (j : Int) = j := IntWalk.i64_in _ (by omega)
        have v2 : (j : Int) < l.length := by omega
        have v3 : (0 : Int) ≤ (j : Int) + 1 := by omega
        have v4 : (j : Int) + 1 < l.length := by omega
        have y1 : wr.cell? ⟨gP, j, none⟩ = some (.int .i64 (b : Int)) := (kB.cell (p := ⟨gP, j, none⟩) hgP).trans hcm
        clear hs1 hb1 hcm c0 c2 ha
        have kD : Below wP.heap.size wP wr.drew := Below.drew kB
        have hrow' : Rows2 wr.drew wP.heap.size u14 (j + 1) (Pol.sub l t) (Pol.sub l s) := hrow
        go_wp2_with fail
        refine wp_region_held_drew (S := (fun w' : World => w'.cell? ⟨gP, j, none⟩ = some (.int .i64 (b : Int)) ∧ w'.cell? ⟨gP, j + 1, none⟩ = some (.int .i64 (a : Int)))) (by kernel_rfl) ⟨y1, y0⟩ (fun hS0 => ?_)
        refine ah_take (i := 0) (v := ?_) (some 45) rfl rfl (by kernel_rfl) (by kernel_rfl) (by kernel_rfl) (fun _ _ _ h => h) (by kernel_rfl) ?_ (by assumption) ?_
        rotate_left
        · (intro w hSw; (try dsimp only at hSw); go_simp; (first | done | with_reducible rfl))
        simp only [Act.put, List.setIfInBounds_toArray, List.set_cons_zero, List.set_cons_succ]
        refine ah_take (i := 1) (v := ?_) (some 46) rfl rfl (by kernel_rfl) (by kernel_rfl) (by kernel_rfl) (fun _ _ _ h => h) (by kernel_rfl) ?_ (by assumption) ?_
        rotate_left
        · (intro w hSw; (try dsimp only at hSw); go_simp; (first | done | with_reducible rfl))
        simp only [Act.put, List.setIfInBounds_toArray, List.set_cons_zero, List.set_cons_succ]
        refine ah_take (i := 2) (v := ?_) (some 47) rfl rfl (by kernel_rfl) (by kernel_rfl) (by kernel_rfl) (fun _ _ _ h => h) (by kernel_rfl) ?_ (by assumption) ?_
        rotate_left
        · (intro w hSw; (try dsimp only at hSw); go_simp; (first | done | with_reducible rfl))
        simp only [Act.put, List.setIfInBounds_toArray, List.set_cons_zero, List.set_cons_succ]
        refine ah_take (i := 3) (v := ?_) (some 48) rfl rfl (by kernel_rfl) (by kernel_rfl) (by kernel_rfl) (fun _ _ _ h => h) (by kernel_rfl) ?_ (by assumption) ?_
        rotate_left
        · (intro w hSw; (try dsimp only at hSw); go_simp; (first | done | with_reducible rfl))
        simp only [Act.put, List.setIfInBounds_toArray, List.set_cons_zero, List.set_cons_succ]
        refine ah_take (i := 4) (v := ?_) (some 49) rfl rfl (by kernel_rfl) (by kernel_rfl) (by kernel_rfl) (fun _ _ _ h => h) (by kernel_rfl) ?_ (by assumption) ?_
        rotate_left
        · (intro w hSw; (try dsimp only at hSw); go_simp; (first | done | with_reducible rfl))
        simp only [Act.put, List.setIfInBounds_toArray, List.set_cons_zero, List.set_cons_succ]
        refine ah_take (i := 5) (v := ?_) (some 50) rfl rfl (by kernel_rfl) (by kernel_rfl) (by kernel_rfl) (fun _ _ _ h => h) (by kernel_rfl) ?_ (by assumption) ?_
        rotate_left
        · (intro w hSw; (try dsimp only at hSw); go_simp; (first | done | with_reducible rfl))
        simp only [Act.put, List.setIfInBounds_toArray, List.set_cons_zero, List.set_cons_succ]
        refine ah_take (i := 6) (v := ?_) (some 51) rfl rfl (by kernel_rfl) (by kernel_rfl) (by kernel_rfl) (fun _ _ _ h => h) (by kernel_rfl) ?_ (by assumption) ?_
        rotate_left
        · (intro w hSw; (try dsimp only at hSw); go_simp; (first | done | with_reducible rfl))
        simp only [Act.put, List.setIfInBounds_toArray, List.set_cons_zero, List.set_cons_succ]
        refine ah_take (i := 7) (v := ?_) (some 52) rfl rfl (by kernel_rfl) (by kernel_rfl) (by kernel_rfl) (fun _ _ _ h => h) (by kernel_rfl) ?_ (by assumption) ?_
        rotate_left
        · (intro w hSw; (try dsimp only at hSw); go_simp; (first | done | with_reducible rfl))
        simp only [Act.put, List.setIfInBounds_toArray, List.set_cons_zero, List.set_cons_succ]
        refine ah_take (i := 8) (v := ?_) (some 53) rfl rfl (by kernel_rfl) (by kernel_rfl) (by kernel_rfl) (fun _ _ _ h => h) (by kernel_rfl) ?_ (by assumption) ?_
        rotate_left
        · (intro w hSw; (try dsimp only at hSw); go_simp; (first | done | with_reducible rfl))
        simp only [Act.put, List.setIfInBounds_toArray, List.set_cons_zero, List.set_cons_succ]
        refine ah_take (i := 9) (v := ?_) (some 54) rfl rfl (by kernel_rfl) (by kernel_rfl) (by kernel_rfl) (fun _ _ _ h => h) (by kernel_rfl) ?_ (by assumption) ?_
        rotate_left
        · (intro w hSw; (try dsimp only at hSw); go_simp; (first | done | with_reducible rfl))
        simp only [Act.put, List.setIfInBounds_toArray, List.set_cons_zero, List.set_cons_succ]
        refine ah_take (i := 10) (v := ?_) (some 55) rfl rfl (by kernel_rfl) (by kernel_rfl) (by kernel_rfl) (fun _ _ _ h => h) (by kernel_rfl) ?_ (by assumption) ?_
        rotate_left
        · (intro w hSw; (try dsimp only at hSw); go_simp; (first | done | with_reducible rfl))
        simp only [Act.put, List.setIfInBounds_toArray, List.set_cons_zero, List.set_cons_succ]
        refine ah_take (i := 11) (v := ?_) (some 56) rfl rfl (by kernel_rfl) (by kernel_rfl) (by kernel_rfl) (fun _ _ _ h => h) (by kernel_rfl) ?_ (by assumption) ?_
        rotate_left
        · (intro w hSw; (try dsimp only at hSw); go_simp; (first | done | with_reducible rfl))
        simp only [Act.put, List.setIfInBounds_toArray, List.set_cons_zero, List.set_cons_succ]
        refine ah_take (i := 12) (v := ?_) (some 57) rfl rfl (by kernel_rfl) (by kernel_rfl) (by kernel_rfl) (fun _ _ _ h => h) (by kernel_rfl) ?_ (by assumption) ?_
        rotate_left
        · (intro w hSw; (try dsimp only at hSw); go_simp; (first | done | with_reducible rfl))
        simp only [Act.put, List.setIfInBounds_toArray, List.set_cons_zero, List.set_cons_succ]
        refine ah_take (i := 13) (v := ?_) (some 58) rfl rfl (by kernel_rfl) (by kernel_rfl) (by kernel_rfl) (fun _ _ _ h => h) (by kernel_rfl) ?_ (by assumption) ?_
        rotate_left
        · (intro w hSw; (try dsimp only at hSw); go_simp; (first | done | with_reducible rfl))
        simp only [Act.put, List.setIfInBounds_toArray, List.set_cons_zero, List.set_cons_succ]
        refine ah_take (i := 14) (v := ?_) (some 59) rfl rfl (by kernel_rfl) (by kernel_rfl) (by kernel_rfl) (fun _ _ _ h => h) (by kernel_rfl) ?_ (by assumption) ?_
        rotate_left
        · (intro w hSw; (try dsimp only at hSw); go_simp; (first | done | with_reducible rfl))
        simp only [Act.put, List.setIfInBounds_toArray, List.set_cons_zero, List.set_cons_succ]
        refine ah_take (i := 15) (v := ?_) (some 60) rfl rfl (by kernel_rfl) (by kernel_rfl) (by kernel_rfl) (fun _ _ _ h => h) (by kernel_rfl) ?_ (by assumption) ?_
        rotate_left
        · (intro w hSw; (try dsimp only at hSw); go_simp; (first | done | with_reducible rfl))
        simp only [Act.put, List.setIfInBounds_toArray, List.set_cons_zero, List.set_cons_succ]
        refine ah_take (i := 16) (v := ?_) (some 61) rfl rfl (by kernel_rfl) (by kernel_rfl) (by kernel_rfl) (fun _ _ _ h => h) (by kernel_rfl) ?_ (by assumption) ?_
        rotate_left
        · (intro w hSw; (try dsimp only at hSw); go_simp; (first | done | with_reducible rfl))
        simp only [Act.put, List.setIfInBounds_toArray, List.set_cons_zero, List.set_cons_succ]
        refine ah_take (i := 17) (v := ?_) (some 62) rfl rfl (by kernel_rfl) (by kernel_rfl) (by kernel_rfl) (fun _ _ _ h => h) (by kernel_rfl) ?_ (by assumption) ?_
        rotate_left
        · (intro w hSw; (try dsimp only at hSw); go_simp; (first | done | with_reducible rfl))
        simp only [Act.put, List.setIfInBounds_toArray, List.set_cons_zero, List.set_cons_succ]
        refine ah_take (i := 18) (v := ?_) (some 63) rfl rfl (by kernel_rfl) (by kernel_rfl) (by kernel_rfl) (fun _ _ _ h => h) (by kernel_rfl) ?_ (by assumption) ?_
        rotate_left
        · (intro w hSw; (try dsimp only at hSw); go_simp; (first | done | with_reducible rfl))
        simp only [Act.put, List.setIfInBounds_toArray, List.set_cons_zero, List.set_cons_succ]
        refine ah_take (i := 19) (v := ?_) (some 64) rfl rfl (by kernel_rfl) (by kernel_rfl) (by kernel_rfl) (fun _ _ _ h => h) (by kernel_rfl) ?_ (by assumption) ?_
        rotate_left
        · (intro w hSw; (try dsimp only at hSw); go_simp; (first | done | with_reducible rfl))
        simp only [Act.put, List.setIfInBounds_toArray, List.set_cons_zero, List.set_cons_succ]
        refine ah_take (i := 20) (v := ?_) (some 65) rfl rfl (by kernel_rfl) (by kernel_rfl) (by kernel_rfl) (fun _ _ _ h => h) (by kernel_rfl) ?_ (by assumption) ?_
        rotate_left
        · (intro w hSw; (try dsimp only at hSw); go_simp; (first | done | with_reducible rfl))
        simp only [Act.put, List.setIfInBounds_toArray, List.set_cons_zero, List.set_cons_succ]
        refine ah_take (i := 21) (v := ?_) (some 66) rfl rfl (by kernel_rfl) (by kernel_rfl) (by kernel_rfl) (fun _ _ _ h => h) (by kernel_rfl) ?_ (by assumption) ?_
        rotate_left
        · (intro w hSw; (try dsimp only at hSw); go_simp; (first | done | with_reducible rfl))
        simp only [Act.put, List.setIfInBounds_toArray, List.set_cons_zero, List.set_cons_succ]
        refine ah_take (i := 22) (v := ?_) (some 67) rfl rfl (by kernel_rfl) (by kernel_rfl) (by kernel_rfl) (fun _ _ _ h => h) (by kernel_rfl) ?_ (by assumption) ?_
        rotate_left
        · (intro w hSw; (try dsimp only at hSw); go_simp; (first | done | with_reducible rfl))
        simp only [Act.put, List.setIfInBounds_toArray, List.set_cons_zero, List.set_cons_succ]
        refine ah_take (i := 23) (v := ?_) (some 68) rfl rfl (by kernel_rfl) (by kernel_rfl) (by kernel_rfl) (fun _ _ _ h => h) (by kernel_rfl) ?_ (by assumption) ?_
        rotate_left
        · (intro w hSw; (try dsimp only at hSw); go_simp; (first | done | with_reducible rfl))
        simp only [Act.put, List.setIfInBounds_toArray, List.set_cons_zero, List.set_cons_succ]
        refine ah_take (i := 24) (v := ?_) (some 69) rfl rfl (by kernel_rfl) (by kernel_rfl) (by kernel_rfl) (fun _ _ _ h => h) (by kernel_rfl) ?_ (by assumption) ?_
        rotate_left
        · (intro w hSw; (try dsimp only at hSw); go_simp; (first | done | with_reducible rfl))
        simp only [Act.put, List.setIfInBounds_toArray, List.set_cons_zero, List.set_cons_succ]
        refine ah_take (i := 25) (v := ?_) (some 70) rfl rfl (by kernel_rfl) (by kernel_rfl) (by kernel_rfl) (fun _ _ _ h => h) (by kernel_rfl) ?_ (by assumption) ?_
        rotate_left
        · (intro w hSw; (try dsimp only at hSw); go_simp; (first | done | with_reducible rfl))
        simp only [Act.put, List.setIfInBounds_toArray, List.set_cons_zero, List.set_cons_succ]
        refine ah_take (i := 26) (v := ?_) (some 71) rfl rfl (by kernel_rfl) (by kernel_rfl) (by kernel_rfl) (fun _ _ _ h => h) (by kernel_rfl) ?_ (by assumption) ?_
        rotate_left
        · (intro w hSw; (try dsimp only at hSw); go_simp; (first | done | with_reducible rfl))
        simp only [Act.put, List.setIfInBounds_toArray, List.set_cons_zero, List.set_cons_succ]
        refine ah_take (i := 27) (v := ?_) (some 72) rfl rfl (by kernel_rfl) (by kernel_rfl) (by kernel_rfl) (fun _ _ _ h => h) (by kernel_rfl) ?_ (by assumption) ?_
        rotate_left
        · (intro w hSw; (try dsimp only at hSw); go_simp; (first | done | with_reducible rfl))
        simp only [Act.put, List.setIfInBounds_toArray, List.set_cons_zero, List.set_cons_succ]
        refine ah_take (i := 28) (v := ?_) (some 73) rfl rfl (by kernel_rfl) (by kernel_rfl) (by kernel_rfl) (fun _ _ _ h => h) (by kernel_rfl) ?_ (by assumption) ?_
        rotate_left
        · (intro w hSw; (try dsimp only at hSw); go_simp; (first | done | with_reducible rfl))
        simp only [Act.put, List.setIfInBounds_toArray, List.set_cons_zero, List.set_cons_succ]
        refine ah_take (i := 29) (v := ?_) (some 74) rfl rfl (by kernel_rfl) (by kernel_rfl) (by kernel_rfl) (fun _ _ _ h => h) (by kernel_rfl) ?_ (by assumption) ?_
        rotate_left
        · (intro w hSw; (try dsimp only at hSw); go_simp; (first | done | with_reducible rfl))
        simp only [Act.put, List.setIfInBounds_toArray, List.set_cons_zero, List.set_cons_succ]
        refine wpAnyH_done (by kernel_rfl) ?_ _
        clear hS0 ax a0 a1 a2 v1 v2 y1
        try clear hHeld
        have hsz2 := kD.size
        go_wp2_with (at_builtin; refine wpList_append_own _ rfl _ _ 33 rfl wP.heap.size 37 i0 (.agg #[.int .i64 0, .int .i64 0]) 2 16 Try.underlying33 hi'.out hz0'.out hz1'.out hz2'.out rfl (by decide) _ _ _ rfl (hrow'.alloc _) ⟨wr.heap.size, 0, none⟩ 1 1 [.int .i64 (t a), .int .i64 (s a)] rfl rfl (new_two _ _ _ _) (one_two _ _) (by unfold maxLen; omega) (by omega) (by simp; omega) ?_; intro v' w2 hrow2 hg2 _)
        have kB2 : Below wP.heap.size wP w2 := (kD.alloc hsz2 _).grown hg2 (by simp; omega) (fun j e => (hrow'.lt j e).1)
        go_roundw
        case rel => exact ⟨(j + 1) + 1, by omega, by go_num, by show World.ownsRow _ _ _ _ _ _ (_ ++ [.int .i64 (Pol.sub l t (j + 1)), .int .i64 (Pol.sub l s (j + 1))]); rw [et.out, es.out]; exact hrow2, kB2⟩
        case measure => simp [intOf] <;> omega
    · obtain rfl : k = l.length := by omega
      obtain ⟨A2, c2, rfl, hfl2⟩ := hrow.flow (by omega)
      obtain ⟨nl, hnl⟩ : ∃ nl, Pol.idx B S J (Pol.sub l t) (Pol.sub l s) l.length = nl := ⟨_, rfl⟩
      have hlen := HSI.out
      rw [hnl] at hlen
      have HN := Lib.hid hnl
      have HF2 := Lib.hid hfl2
      clear hfl2 hnl hrow
      go_wp2_with fail
      refine (filter_at B S J _ l.length _ (Pol.sub l t) (Pol.sub l s) _ hok HF2.out HSF.out HN.out).mono ?_
      rintro e wQ ⟨A5, c5, rfl, _, kQ⟩
      rw [hlen]
      have kF : Below wP.heap.size wP wQ := kB.trans (kQ.mono kB.size)
      have HF3 := Lib.hid (HFL2.out.below kF)
      have hTB := fun (k : Nat) (hk : k < m) => (show -1099511627776 ≤ t k ∧ t k ≤ 1099511627776 by have := HTB.out k (by omega); omega)
      have HT2 := Lib.hid hTB
      clear hTB hlen
      cases hc : Pol.Conf B S J t s m with
      | false =>
        have HC := Lib.hid hc
        clear hc
        go_wp2_with fail
        refine (conforms_to (b := false) B S J _ m _ t s _ hok HF3.out HT2.out HC.out).mono ?_
        rintro e wR ⟨rfl, kR⟩
        go_wp2_with fail
        go_ret
        exact ⟨rfl, (KW.out.trans (kF.mono KW.out.size)).trans (kR.mono (Nat.le_trans KW.out.size kF.size))⟩
      | true =>
        have hlm : l.length = m := HCF.out hc
        have HC := Lib.hid hc
        have HLM := Lib.hid hlm
        clear hc
        rw [hlm]
        go_wp2_with fail
        refine (conforms_to (b := true) B S J _ m _ t s _ hok HF3.out HT2.out HC.out).mono ?_
        rintro e wR ⟨rfl, kR⟩
        go_wp2_with fail
        go_ret
        exact ⟨rfl, (KW.out.trans (kF.mono KW.out.size)).trans (kR.mono (Nat.le_trans KW.out.size kF.size))⟩
end Go.Proofs.Ytknfhbhaencdjaa
