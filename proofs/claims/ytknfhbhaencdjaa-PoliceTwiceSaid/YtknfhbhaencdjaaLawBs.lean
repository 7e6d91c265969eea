/-
  The walk of the law PoliceBounds: at every three ints and two slices of ints it returns true and leaves what was there as it was. No condition.
-/
import Derived.Test.YtknfhbhaencdjaaAwake
import Derived.Test.YtknfhbhaencdjaaCon9
import Derived.Test.YtknfhbhaencdjaaReg
namespace Go.Proofs.Ytknfhbhaencdjaa
open Go.RowKit

theorem idx_mono {B S J : Int} {t s : Nat → Int} {n i k : Nat} (hik : i ≤ k) (hk : k < (Pol.idx B S J t s n).length) : (Pol.idx B S J t s n).getD i 0 ≤ (Pol.idx B S J t s n).getD k 0 := by
  rcases Nat.eq_or_lt_of_le hik with rfl | h
  · exact Nat.le_refl _
  · have hp : (Pol.idx B S J t s n).Pairwise (· < ·) := List.Pairwise.filter _ List.pairwise_lt_range
    have := List.pairwise_iff_getElem.1 hp i k (by omega) hk h
    simp only [List.getD, List.getElem?_eq_getElem hk, List.getElem?_eq_getElem (show i < (Pol.idx B S J t s n).length by omega), Option.getD_some]
    omega

/-- what the law asks of its rounds, of the flow that it has built -/
theorem bs_facts {B S J : Int} {t s : Nat → Int} {m : Nat} (hB : 1 ≤ B) (hS : 0 ≤ S) (hJ : 0 ≤ J) (hf : Pol.Fine t s m) {i k : Nat} (hik : i ≤ k) (hk : k < (Pol.idx B S J t s m).length) :
    Pol.Qs s (Pol.idx B S J t s m) (k + 1) - Pol.Qs s (Pol.idx B S J t s m) i ≤ bnd B S J (t ((Pol.idx B S J t s m).getD k 0) - t ((Pol.idx B S J t s m).getD i 0)) ∧
      s ((Pol.idx B S J t s m).getD k 0) ≤ S ∧ 0 ≤ t ((Pol.idx B S J t s m).getD k 0) - t ((Pol.idx B S J t s m).getD i 0) := by
  obtain ⟨h1, h2⟩ := Pol.bytes_le hB hS hJ hf hik hk
  refine ⟨h1, h2, ?_⟩
  have h3 := idx_mono (B := B) (S := S) (J := J) (t := t) (s := s) (n := m) hik hk
  have h4 := idx_lt hk
  have h5 := Pol.clk_mono hf (a := (Pol.idx B S J t s m).getD i 0 + 1) (b := (Pol.idx B S J t s m).getD k 0 + 1) (by omega) (by omega)
  have h6 : t ((Pol.idx B S J t s m).getD i 0) ≤ t ((Pol.idx B S J t s m).getD k 0) := h5
  omega
theorem Qs_bd {s : Nat → Int} {l : List Nat} (h0 : ∀ k, 1 ≤ s k ∧ s k ≤ 100) : ∀ j, 0 ≤ Pol.Qs s l j ∧ Pol.Qs s l j ≤ 100 * j
  | 0 => ⟨Int.le_refl _, by simp [Pol.Qs]⟩
  | j + 1 => by
    have := Qs_bd (l := l) h0 j
    have := h0 (l.getD j 0)
    show 0 ≤ Pol.Qs s l j + s _ ∧ Pol.Qs s l j + s _ ≤ _
    omega
theorem Qs_step {s : Nat → Int} {l : List Nat} : ∀ {i j : Nat}, i ≤ j → (∀ k, 1 ≤ s k) → Pol.Qs s l i ≤ Pol.Qs s l j
  | i, 0, h, _ => by obtain rfl : i = 0 := by omega
                     exact Int.le_refl _
  | i, j + 1, h, h0 => by
    rcases Nat.eq_or_lt_of_le h with rfl | h'
    · exact Int.le_refl _
    · have := Qs_step (s := s) (l := l) (i := i) (j := j) (by omega) h0
      have := h0 (l.getD j 0)
      show _ ≤ Pol.Qs s l j + s _
      omega

set_option maxRecDepth 100000 in
set_option maxHeartbeats 8000000 in
theorem lawBounds (b0 s0 j0 : Int) (A3 : Option Addr) (n3 c3 : Nat) (g : Nat → Int) (A4 : Option Addr) (n4 c4 : Nat) (d : Nat → Int) (w : World) (hg : Ints w A3 n3 g) (hd : Ints w A4 n4 d) :
    Calls Try.prog 6 #[.int .i64 b0, .int .i64 s0, .int .i64 j0, .slice A3 n3 c3, .slice A4 n4 c4] w fun e w' => e = .returned (.bool true) ∧ Below w.heap.size w w' := by
  have hok := contract_okC b0 s0 j0
  obtain ⟨B, hB, hB1, hB2⟩ : ∃ B, 1 + b0 % 300 = B ∧ 1 ≤ B ∧ B ≤ 300 := ⟨_, rfl, by omega, by omega⟩
  obtain ⟨S, hS, hS1, hS2⟩ : ∃ S, 1 + s0 % 80 = S ∧ 1 ≤ S ∧ S ≤ 80 := ⟨_, rfl, by omega, by omega⟩
  obtain ⟨J, hJ, hJ1, hJ2⟩ : ∃ J, j0 % 501 = J ∧ 0 ≤ J ∧ J ≤ 500 := ⟨_, rfl, by omega, by omega⟩
  rw [hB, hS, hJ] at hok
  have HB := Lib.hid hB
  have HS := Lib.hid hS
  have HJ := Lib.hid hJ
  have HG := Lib.hid hg
  have HD := Lib.hid hd
  clear hB hS hJ hg hd
  obtain ⟨m, hm⟩ : ∃ m, min n3 80 = m := ⟨_, rfl⟩
  obtain ⟨t, ht⟩ : ∃ t, fTm g = t := ⟨_, rfl⟩
  obtain ⟨s, hs⟩ : ∃ s, fSz d n4 = s := ⟨_, rfl⟩
  obtain ⟨l, hl⟩ : ∃ l, Pol.idx B S J t s m = l := ⟨_, rfl⟩
  have hm80 : m ≤ 80 := by omega
  have hfine : Pol.Fine t s m := by rw [← ht, ← hs]; exact f_fine g d n4 m hm80
  have hsb : ∀ k, 1 ≤ s k ∧ s k ≤ 100 := by rw [← hs]; exact fSz_bd d n4
  have htb : ∀ k, k < 80 → 0 ≤ t k ∧ t k ≤ 32000 := fun k hk => by rw [← ht]; have := fAcc_bd g (k + 1); show 0 ≤ fAcc g (k + 1) ∧ fAcc g (k + 1) ≤ _; omega
  have hll : l.length ≤ m := by rw [← hl]; exact idx_len ..
  have HM := Lib.hid hm
  have HT := Lib.hid ht
  have HSS := Lib.hid hs
  have HL := Lib.hid hl
  have HF := Lib.hid hfine
  have HSB := Lib.hid hsb
  have HTB := Lib.hid htb
  have HLT : Hid (∀ k, k < l.length → l.getD k 0 < m) := Lib.hid (by rw [← hl]; exact fun k hk => idx_lt hk)
  have HBF : Hid (∀ i k, i ≤ k → k < l.length → Pol.Qs s l (k + 1) - Pol.Qs s l i ≤ bnd B S J (t (l.getD k 0) - t (l.getD i 0)) ∧ s (l.getD k 0) ≤ S ∧ 0 ≤ t (l.getD k 0) - t (l.getD i 0)) :=
    Lib.hid (by rw [← hl]; exact fun i k h1 h2 => bs_facts hB1 (by omega) hJ1 hfine h1 h2)
  clear hm ht hs hl hfine hsb htb
  go_enter Try.func6, Try.ntmps6
  go_wp2_with fail
  refine (awake_any _).mono ?_
  rintro e wA ⟨rfl, kA⟩
  go_wp2_with fail
  refine (contract_any _ _ _ _).mono ?_
  rintro e w' ⟨rfl, rfl⟩
  rw [HB.out, HS.out, HJ.out]
  go_wp2_with fail
  refine (flow_any _ _ _ _ _ _ _ _ _ (HG.out.below kA) (HD.out.below kA)).mono ?_
  rintro e wF ⟨v, rfl, hrow, kF⟩
  rw [HM.out, HT.out, HSS.out] at hrow
  obtain ⟨A, c, rfl, hflow⟩ := hrow.flow (by omega)
  go_wp2_with fail
  refine (filter_at B S J A m c t s _ hok hflow HF.out HL.out).mono ?_
  rintro e wP ⟨A', c', rfl, hidx, kP⟩
  have kW : Below w.heap.size w wP := (kA.trans (kF.mono kA.size)).trans (kP.mono (Nat.le_trans kA.size kF.size))
  have hflow2 := hflow.below kP
  have HFL := Lib.hid hflow2.2
  have HIX := Lib.hid hidx
  have KW := Lib.hid kW
  clear hflow2 hidx hflow hrow kF kA kP kW
  go_wp2_with fail
  go_loopw [14] (fun i wr => ∃ k : Nat, k ≤ l.length ∧ i = .int .i64 k ∧ Below wP.heap.size wP wr)
    (fun i _ => (80 - intOf i).toNat)
  case atStart => exact ⟨0, Nat.zero_le _, rfl, Below.refl _ _⟩
  case round =>
    obtain ⟨i, hi, rfl, kB⟩ := hrel
    by_cases hlt : i < l.length
    · go_wp2_with fail
      obtain ⟨wo, rfl⟩ : ∃ wo : World, wo = wr := ⟨_, rfl⟩
      go_loopw [15, 16] (fun b j wr => ∃ k : Nat, i ≤ k ∧ k ≤ l.length ∧ j = .int .i64 k ∧ b = .int .i64 (Pol.Qs s l k - Pol.Qs s l i) ∧ Below wP.heap.size wP wr)
        (fun _ j _ => (80 - intOf j).toNat)
      case atStart => exact ⟨i, Nat.le_refl _, by omega, rfl, by rw [Int.sub_self], kB⟩
      case round =>
        obtain ⟨k, hik, hk, rfl, rfl, kB2⟩ := hrel
        by_cases hlt2 : k < l.length
        · obtain ⟨gP, rfl, hgP, hcP⟩ := HIX.out (by omega)
          obtain ⟨gF, rfl, hgF, hcF⟩ := HFL.out (by omega)
          have x1 := HLT.out k hlt2
          have x2 := HLT.out i hlt
          obtain ⟨f1, f2, f3⟩ := HBF.out i k hik hlt2
          have q1 := Qs_bd (s := s) (l := l) HSB.out k
          have q2 := Qs_step (s := s) (l := l) hik (fun k => (HSB.out k).1)
          have q3 := Qs_bd (s := s) (l := l) HSB.out i
          have q4 : Pol.Qs s l (k + 1) = Pol.Qs s l k + s (l.getD k 0) := rfl
          have c0 := hcP k hlt2
          have c1 := hcP i hlt
          have c2 := hcF _ x1
          have c3 := hcF _ x2
          have s1 := HSB.out (l.getD k 0)
          have t1 := HTB.out (l.getD k 0) (by omega)
          have t2 := HTB.out (l.getD i 0) (by omega)
          clear hcP hcF
          generalize l.getD k 0 = a at *
          generalize l.getD i 0 = b at *
          obtain ⟨f1, f2, f3⟩ : Pol.Qs s l (k + 1) - Pol.Qs s l i ≤ bnd B S J (t a - t b) ∧ s a ≤ S ∧ 0 ≤ t a - t b := ⟨f1, f2, f3⟩
          have y0 : wr.cell? ⟨gP, k, none⟩ = some (.int .i64 (a : Int)) := (kB2.cell (p := ⟨gP, k, none⟩) hgP).trans c0
          have y1 : wr.cell? ⟨gP, i, none⟩ = some (.int .i64 (b : Int)) := (kB2.cell (p := ⟨gP, i, none⟩) hgP).trans c1
          have y2 : wr.cell? ⟨gF, a * 2, none⟩ = some (.int .i64 (t a)) := (kB2.cell (p := ⟨gF, a * 2, none⟩) hgF).trans c2.1
          have y3 : wr.cell? ⟨gF, a * 2 + 1, none⟩ = some (.int .i64 (s a)) := (kB2.cell (p := ⟨gF, a * 2 + 1, none⟩) hgF).trans c2.2
          have y4 : wr.cell? ⟨gF, b * 2, none⟩ = some (.int .i64 (t b)) := (kB2.cell (p := ⟨gF, b * 2, none⟩) hgF).trans c3.1
          obtain ⟨q1, q1'⟩ := q1
          obtain ⟨q3, q3'⟩ := q3
          obtain ⟨s1, s1'⟩ := s1
          obtain ⟨t1, t1'⟩ := t1
          obtain ⟨t2, t2'⟩ := t2
          clear c0 c1 c2 c3
          obtain ⟨Z, hZ⟩ : ∃ Z, bnd B S J (t a - t b) = Z := ⟨_, rfl⟩
          rw [hZ] at f1
          have HZ := Lib.hid hZ
          have Q4 := Lib.hid q4
          have hQk : Pol.Qs s l k - Pol.Qs s l i + s a ≤ Z := by rw [q4] at f1; omega
          clear hZ q4 f1
          generalize Pol.Qs s l k = Qk at *
          generalize Pol.Qs s l i = Qi at *
          have keepS : ∀ W W1 : World, (fun w' : World => Below wP.heap.size wP w' ∧ w'.cell? ⟨gP, k, none⟩ = some (.int .i64 (a : Int)) ∧ w'.cell? ⟨gP, i, none⟩ = some (.int .i64 (b : Int)) ∧ w'.cell? ⟨gF, a * 2, none⟩ = some (.int .i64 (t a)) ∧ w'.cell? ⟨gF, a * 2 + 1, none⟩ = some (.int .i64 (s a)) ∧ w'.cell? ⟨gF, b * 2, none⟩ = some (.int .i64 (t b))) W → Below W.heap.size W W1 → (fun w' : World => Below wP.heap.size wP w' ∧ w'.cell? ⟨gP, k, none⟩ = some (.int .i64 (a : Int)) ∧ w'.cell? ⟨gP, i, none⟩ = some (.int .i64 (b : Int)) ∧ w'.cell? ⟨gF, a * 2, none⟩ = some (.int .i64 (t a)) ∧ w'.cell? ⟨gF, a * 2 + 1, none⟩ = some (.int .i64 (s a)) ∧ w'.cell? ⟨gF, b * 2, none⟩ = some (.int .i64 (t b))) W1 := fun W W1 ⟨h0, h1, h2, h3, h4, h5⟩ hb =>
            have e1 : gP < W.heap.size := Nat.lt_of_lt_of_le hgP h0.size
            have e2 : gF < W.heap.size := Nat.lt_of_lt_of_le hgF h0.size
            ⟨h0.trans (hb.mono h0.size), (hb.cell (p := ⟨gP, k, none⟩) e1).trans h1, (hb.cell (p := ⟨gP, i, none⟩) e1).trans h2, (hb.cell (p := ⟨gF, a * 2, none⟩) e2).trans h3, (hb.cell (p := ⟨gF, a * 2 + 1, none⟩) e2).trans h4, (hb.cell (p := ⟨gF, b * 2, none⟩) e2).trans h5⟩
          have KS := Lib.hid keepS
          clear keepS
          go_wp2_with fail
          have ew : IntKind.i64.wrap (t a - t b) = t a - t b := IntWalk.i64_in _ (by omega)
          refine wp_region_held_drew (S := (fun w' : World => Below wP.heap.size wP w' ∧ w'.cell? ⟨gP, k, none⟩ = some (.int .i64 (a : Int)) ∧ w'.cell? ⟨gP, i, none⟩ = some (.int .i64 (b : Int)) ∧ w'.cell? ⟨gF, a * 2, none⟩ = some (.int .i64 (t a)) ∧ w'.cell? ⟨gF, a * 2 + 1, none⟩ = some (.int .i64 (s a)) ∧ w'.cell? ⟨gF, b * 2, none⟩ = some (.int .i64 (t b)))) (by kernel_rfl) ⟨Below.drew kB2, y0, y1, y2, y3, y4⟩ (fun hS0 => ?_)
          refine ah_take (i := 0) (v := ?_) (some 66) rfl rfl (by kernel_rfl) (by kernel_rfl) (by kernel_rfl) (fun _ _ _ h => h) (by kernel_rfl) ?_ (by assumption) ?_
          rotate_left
          · (intro w hSw; (try dsimp only at hSw); go_simp; (first | done | with_reducible rfl))
          simp only [Act.put, List.setIfInBounds_toArray, List.set_cons_zero, List.set_cons_succ]
          refine ah_take (i := 1) (v := ?_) (some 67) rfl rfl (by kernel_rfl) (by kernel_rfl) (by kernel_rfl) (fun _ _ _ h => h) (by kernel_rfl) ?_ (by assumption) ?_
          rotate_left
          · (intro w hSw; (try dsimp only at hSw); go_simp; (first | done | with_reducible rfl))
          simp only [Act.put, List.setIfInBounds_toArray, List.set_cons_zero, List.set_cons_succ]
          refine ah_take (i := 2) (v := ?_) (some 68) rfl rfl (by kernel_rfl) (by kernel_rfl) (by kernel_rfl) (fun _ _ _ h => h) (by kernel_rfl) ?_ (by assumption) ?_
          rotate_left
          · (intro w hSw; (try dsimp only at hSw); go_simp; (first | done | with_reducible rfl))
          simp only [Act.put, List.setIfInBounds_toArray, List.set_cons_zero, List.set_cons_succ]
          refine ah_take (i := 3) (v := ?_) (some 69) rfl rfl (by kernel_rfl) (by kernel_rfl) (by kernel_rfl) (fun _ _ _ h => h) (by kernel_rfl) ?_ (by assumption) ?_
          rotate_left
          · (intro w hSw; (try dsimp only at hSw); go_simp; (first | done | with_reducible rfl))
          simp only [Act.put, List.setIfInBounds_toArray, List.set_cons_zero, List.set_cons_succ]
          refine ah_take (i := 4) (v := ?_) (some 70) rfl rfl (by kernel_rfl) (by kernel_rfl) (by kernel_rfl) (fun _ _ _ h => h) (by kernel_rfl) ?_ (by assumption) ?_
          rotate_left
          · (intro w hSw; (try dsimp only at hSw); go_simp; (first | done | with_reducible rfl))
          simp only [Act.put, List.setIfInBounds_toArray, List.set_cons_zero, List.set_cons_succ]
          refine ah_take (i := 5) (v := ?_) (some 71) rfl rfl (by kernel_rfl) (by kernel_rfl) (by kernel_rfl) (fun _ _ _ h => h) (by kernel_rfl) ?_ (by assumption) ?_
          rotate_left
          · (intro w hSw; (try dsimp only at hSw); go_simp; (first | done | with_reducible rfl))
          simp only [Act.put, List.setIfInBounds_toArray, List.set_cons_zero, List.set_cons_succ]
          refine ah_take (i := 6) (v := ?_) (some 72) rfl rfl (by kernel_rfl) (by kernel_rfl) (by kernel_rfl) (fun _ _ _ h => h) (by kernel_rfl) ?_ (by assumption) ?_
          rotate_left
          · (intro w hSw; (try dsimp only at hSw); go_simp; (first | done | with_reducible rfl))
          simp only [Act.put, List.setIfInBounds_toArray, List.set_cons_zero, List.set_cons_succ]
          refine ah_take (i := 7) (v := ?_) (some 73) rfl rfl (by kernel_rfl) (by kernel_rfl) (by kernel_rfl) (fun _ _ _ h => h) (by kernel_rfl) ?_ (by assumption) ?_
          rotate_left
          · (intro w hSw; (try dsimp only at hSw); go_simp; (first | done | with_reducible rfl))
          simp only [Act.put, List.setIfInBounds_toArray, List.set_cons_zero, List.set_cons_succ]
          refine ah_take (i := 8) (v := ?_) (some 74) rfl rfl (by kernel_rfl) (by kernel_rfl) (by kernel_rfl) (fun _ _ _ h => h) (by kernel_rfl) ?_ (by assumption) ?_
          rotate_left
          · (intro w hSw; (try dsimp only at hSw); go_simp; (first | done | with_reducible rfl))
          simp only [Act.put, List.setIfInBounds_toArray, List.set_cons_zero, List.set_cons_succ]
          refine ah_take (i := 9) (v := ?_) (some 75) rfl rfl (by kernel_rfl) (by kernel_rfl) (by kernel_rfl) (fun _ _ _ h => h) (by kernel_rfl) ?_ (by assumption) ?_
          rotate_left
          · (intro w hSw; (try dsimp only at hSw); go_simp; (first | done | with_reducible rfl))
          simp only [Act.put, List.setIfInBounds_toArray, List.set_cons_zero, List.set_cons_succ]
          refine ah_take (i := 10) (v := ?_) (some 76) rfl rfl (by kernel_rfl) (by kernel_rfl) (by kernel_rfl) (fun _ _ _ h => h) (by kernel_rfl) ?_ (by assumption) ?_
          rotate_left
          · (intro w hSw; (try dsimp only at hSw); go_simp; (first | done | with_reducible rfl))
          simp only [Act.put, List.setIfInBounds_toArray, List.set_cons_zero, List.set_cons_succ]
          refine ah_take (i := 11) (v := ?_) (some 77) rfl rfl (by kernel_rfl) (by kernel_rfl) (by kernel_rfl) (fun _ _ _ h => h) (by kernel_rfl) ?_ (by assumption) ?_
          rotate_left
          · (intro w hSw; (try dsimp only at hSw); go_simp; (first | done | with_reducible rfl))
          simp only [Act.put, List.setIfInBounds_toArray, List.set_cons_zero, List.set_cons_succ]
          refine ah_take (i := 12) (v := ?_) (some 78) rfl rfl (by kernel_rfl) (by kernel_rfl) (by kernel_rfl) (fun _ _ _ h => h) (by kernel_rfl) ?_ (by assumption) ?_
          rotate_left
          · (intro w hSw; (try dsimp only at hSw); go_simp; (first | done | with_reducible rfl))
          simp only [Act.put, List.setIfInBounds_toArray, List.set_cons_zero, List.set_cons_succ]
          refine ah_take (i := 13) (v := ?_) (some 79) rfl rfl (by kernel_rfl) (by kernel_rfl) (by kernel_rfl) (fun _ _ _ h => h) (by kernel_rfl) ?_ (by assumption) ?_
          rotate_left
          · (intro w hSw; (try dsimp only at hSw); go_simp; (first | done | with_reducible rfl))
          simp only [Act.put, List.setIfInBounds_toArray, List.set_cons_zero, List.set_cons_succ]
          refine ah_take (i := 14) (v := ?_) (some 80) rfl rfl (by kernel_rfl) (by kernel_rfl) (by kernel_rfl) (fun _ _ _ h => h) (by kernel_rfl) ?_ (by assumption) ?_
          rotate_left
          · (intro w hSw; (try dsimp only at hSw); go_simp; (first | done | with_reducible rfl))
          simp only [Act.put, List.setIfInBounds_toArray, List.set_cons_zero, List.set_cons_succ]
          refine ah_take (i := 15) (v := ?_) (some 81) rfl rfl (by kernel_rfl) (by kernel_rfl) (by kernel_rfl) (fun _ _ _ h => h) (by kernel_rfl) ?_ (by assumption) ?_
          rotate_left
          · (intro w hSw; (try dsimp only at hSw); go_simp; (first | done | with_reducible rfl))
          simp only [Act.put, List.setIfInBounds_toArray, List.set_cons_zero, List.set_cons_succ]
          refine ah_take (i := 16) (v := ?_) (some 82) rfl rfl (by kernel_rfl) (by kernel_rfl) (by kernel_rfl) (fun _ _ _ h => h) (by kernel_rfl) ?_ (by assumption) ?_
          rotate_left
          · (intro w hSw; (try dsimp only at hSw); go_simp; (first | done | with_reducible rfl))
          simp only [Act.put, List.setIfInBounds_toArray, List.set_cons_zero, List.set_cons_succ]
          refine ah_take (i := 17) (v := ?_) (some 83) rfl rfl (by kernel_rfl) (by kernel_rfl) (by kernel_rfl) (fun _ _ _ h => h) (by kernel_rfl) ?_ (by assumption) ?_
          rotate_left
          · (intro w hSw; (try dsimp only at hSw); go_simp; (first | done | with_reducible rfl))
          simp only [Act.put, List.setIfInBounds_toArray, List.set_cons_zero, List.set_cons_succ]
          refine ah_take (i := 18) (v := ?_) (some 84) rfl rfl (by kernel_rfl) (by kernel_rfl) (by kernel_rfl) (fun _ _ _ h => h) (by kernel_rfl) ?_ (by assumption) ?_
          rotate_left
          · (intro w hSw; (try dsimp only at hSw); go_simp; (first | done | with_reducible rfl))
          simp only [Act.put, List.setIfInBounds_toArray, List.set_cons_zero, List.set_cons_succ]
          refine ah_take (i := 19) (v := ?_) (some 85) rfl rfl (by kernel_rfl) (by kernel_rfl) (by kernel_rfl) (fun _ _ _ h => h) (by kernel_rfl) ?_ (by assumption) ?_
          rotate_left
          · (intro w hSw; (try dsimp only at hSw); go_simp; (first | done | with_reducible rfl))
          simp only [Act.put, List.setIfInBounds_toArray, List.set_cons_zero, List.set_cons_succ]
          refine wpAnyH_ready (rs := [20]) (by kernel_rfl) (by simp) ?_
          refine AllReadyH.cons rfl (fun K hK => ?_) AllReadyH.nil
          go_simp
          (go_at_call 10; refine (bound_ok B S J (t a - t b) _ hok (by omega) (by omega)).mono ?_; rintro e w1 ⟨rfl, kb1⟩; rw [HZ.out])
          refine hK.out _ _ (KS.out _ _ (by assumption) kb1) (fun hHeld2 => ?_)
          try simp only [Act.put, List.setIfInBounds_toArray, List.set_cons_zero, List.set_cons_succ]
          clear hK K
          refine ah_take (i := 21) (v := ?_) (some 65) rfl rfl (by kernel_rfl) (by kernel_rfl) (by kernel_rfl) (fun _ _ _ h => h) (by kernel_rfl) ?_ (by assumption) ?_
          rotate_left
          · (intro w hSw; (try dsimp only at hSw); go_simp; (first | done | with_reducible rfl))
          simp only [Act.put, List.setIfInBounds_toArray, List.set_cons_zero, List.set_cons_succ]
          refine ah_take (i := 22) (v := ?_) (some 87) rfl rfl (by kernel_rfl) (by kernel_rfl) (by kernel_rfl) (fun _ _ _ h => h) (by kernel_rfl) ?_ (by assumption) ?_
          rotate_left
          · (intro w hSw; (try dsimp only at hSw); go_simp; (first | done | with_reducible rfl))
          simp only [Act.put, List.setIfInBounds_toArray, List.set_cons_zero, List.set_cons_succ]
          refine ah_take (i := 23) (v := ?_) (some 88) rfl rfl (by kernel_rfl) (by kernel_rfl) (by kernel_rfl) (fun _ _ _ h => h) (by kernel_rfl) ?_ (by assumption) ?_
          rotate_left
          · (intro w hSw; (try dsimp only at hSw); go_simp; (first | done | with_reducible rfl))
          simp only [Act.put, List.setIfInBounds_toArray, List.set_cons_zero, List.set_cons_succ]
          refine ah_take (i := 24) (v := ?_) (some 17) rfl rfl (by kernel_rfl) (by kernel_rfl) (by kernel_rfl) (fun _ _ _ h => h) (by kernel_rfl) ?_ (by assumption) ?_
          rotate_left
          · (intro w hSw; (try dsimp only at hSw); go_simp; (first | done | with_reducible rfl))
          simp only [Act.put, List.setIfInBounds_toArray, List.set_cons_zero, List.set_cons_succ]
          refine ah_take (i := 25) (v := ?_) (some 18) rfl rfl (by kernel_rfl) (by kernel_rfl) (by kernel_rfl) (fun _ _ _ h => h) (by kernel_rfl) ?_ (by assumption) ?_
          rotate_left
          · (intro w hSw; (try dsimp only at hSw); go_simp; (first | done | with_reducible rfl))
          simp only [Act.put, List.setIfInBounds_toArray, List.set_cons_zero, List.set_cons_succ]
          refine wpAnyH_done (by kernel_rfl) ?_ _
          obtain ⟨kD, y0', y1', y2', y3', y4'⟩ := hHeld2
          clear y0 y1 y2 y3 y4 hS0 y1' y2' y4'
          go_wp2_with fail
          go_roundw
          case rel => exact ⟨k + 1, by omega, by omega, by go_num, by rw [Q4.out]; congr 1; omega, kD⟩
          case measure => simp [intOf]; omega
        · go_wp2_with fail
          go_roundw
          case rel => exact ⟨i + 1, by omega, by go_num, kB2⟩
          case measure => simp [intOf]; omega
    · go_wp2_with fail
      go_ret
      exact ⟨rfl, KW.out.trans (kB.mono KW.out.size)⟩
end Go.Proofs.Ytknfhbhaencdjaa
