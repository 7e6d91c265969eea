/-
  The contract of Conforms at a contract that is one.
-/
import Derived.Test.YtknfhbhaencdjaaCon1
import Derived.Test.YtknfhbhaencdjaaReg
namespace Go.Proofs.Ytknfhbhaencdjaa
open Go.RowKit
set_option linter.unusedSimpArgs false

def fitB (S J N t s : Int) : Bool := decide (max (t - J) N ≤ t) && decide (0 ≤ t) && decide (t ≤ 1073741824) && decide (1 ≤ s) && decide (s ≤ S)

set_option maxHeartbeats 1000000 in
theorem fits_any (cb nb : Nat) (B S J N t s : Int) (w : World) (h : okC B S J = true) (hc : Blk w cb 49 #[.int .i64 B, .int .i64 S, .int .i64 J]) (hn : Blk w nb 3 #[.int .i64 N]) (ht1 : -1099511627776 ≤ t) (ht2 : t ≤ 1099511627776) (hN1 : -1048576 ≤ N) (hN2 : N ≤ 1099511640576) :
    Calls Try.prog 25 #[.agg #[.int .i64 t, .int .i64 s], .pointer (some ⟨cb, 0, none⟩), .pointer (some ⟨nb, 0, none⟩)] w fun e w' => e = .returned (.bool (fitB S J N t s)) ∧ Blk w' nb 3 #[.int .i64 (max (t - J) N + B)] ∧ w.grownBy w' (some nb) := by
  obtain ⟨o1, o2, o3, o4, o5, o6⟩ := okC_true h
  clear h
  have b0 : w.cell? ⟨cb, 0, none⟩ = some (.int .i64 B) := hc.cell 0
  have b1 : w.cell? ⟨cb, 1, none⟩ = some (.int .i64 S) := hc.cell 1
  have b2 : w.cell? ⟨cb, 2, none⟩ = some (.int .i64 J) := hc.cell 2
  have n0 : w.cell? ⟨nb, 0, none⟩ = some (.int .i64 N) := hn.cell 0
  have nf : w.frozen? ⟨nb, 0, none⟩ = false := hn.free 0
  have l1 : cb < w.heap.size := hc.lt
  have l2 : nb < w.heap.size := hn.lt
  have HN := Lib.hid hn
  clear hc hn
  go_enter Try.func25, Try.ntmps25
  go_wp2
  all_goals go_ret
  all_goals refine ⟨ret_bool (by rw [Bool.eq_iff_iff]; simp [fitB]; omega), by first | (rw [Int.max_eq_right (by omega)]; exact (HN.out.put 0 _).alloc _) | (rw [Int.max_eq_left (by omega)]; exact (HN.out.put 0 _).alloc _), gb_alloc (gb_put (World.grownBy.refl _ _) 0 _) _⟩
theorem fits_b (b : Bool) (cb nb : Nat) (B S J N t s : Int) (w : World) (h : okC B S J = true) (hc : Blk w cb 49 #[.int .i64 B, .int .i64 S, .int .i64 J]) (hn : Blk w nb 3 #[.int .i64 N]) (ht1 : -1099511627776 ≤ t) (ht2 : t ≤ 1099511627776) (hN1 : -1048576 ≤ N) (hN2 : N ≤ 1099511640576) (hb : fitB S J N t s = b) :
    Calls Try.prog 25 #[.agg #[.int .i64 t, .int .i64 s], .pointer (some ⟨cb, 0, none⟩), .pointer (some ⟨nb, 0, none⟩)] w fun e w' => e = .returned (.bool b) ∧ Blk w' nb 3 #[.int .i64 (max (t - J) N + B)] ∧ w.grownBy w' (some nb) := by
  subst hb
  exact fits_any cb nb B S J N t s w h hc hn ht1 ht2 hN1 hN2

/-- a flow that lies in memory: the slice with the address A and the length n holds the frames (t k, s k) -/
def Flow (w : World) (A : Option Addr) (n : Nat) (t s : Nat → Int) : Prop :=
  n ≤ 1000000 ∧ (0 < n → ∃ g, A = some ⟨g, 0, none⟩ ∧ g < w.heap.size ∧ ∀ k, k < n → w.cell? ⟨g, k * 2, none⟩ = some (.int .i64 (t k)) ∧ w.cell? ⟨g, k * 2 + 1, none⟩ = some (.int .i64 (s k)))

theorem conf_eq (B S J : Int) (t s : Nat → Int) (k : Nat) : Pol.conf B S J t s k = (fitB S J (Pol.nxt B J t k) (t k) (s k) && decide (0 < k → t (k - 1) ≤ t k)) := rfl
theorem nxt_bd {B S J : Int} {t s : Nat → Int} {k : Nat} (hB : 1 ≤ B) (hB2 : B ≤ 12800) (h : ∀ i, i < k → Pol.conf B S J t s i = true) : -1048576 ≤ Pol.nxt B J t k ∧ Pol.nxt B J t k ≤ 1099511640576 := by
  induction k with
  | zero => exact ⟨Int.le_refl _, by show (-1048576 : Int) ≤ _; omega⟩
  | succ k ih =>
    obtain ⟨h1, _⟩ := ih (fun i hi => h i (by omega))
    obtain ⟨c1, _, c3, _⟩ := Pol.conf_facts (h k (by omega))
    have e : Pol.nxt B J t (k + 1) = Pol.rr B J t k + B := rfl
    have e2 : Pol.rr B J t k = max (t k - J) (Pol.nxt B J t k) := rfl
    rw [e]
    omega

theorem Conf_false {B S J : Int} {t s : Nat → Int} {n k : Nat} (hk : k < n) (h : Pol.conf B S J t s k = false) : Pol.Conf B S J t s n = false := by
  cases hc : Pol.Conf B S J t s n with
  | false => rfl
  | true => have := Pol.Conf_iff.1 hc k hk; rw [h] at this; cases this

set_option maxHeartbeats 4000000 in
theorem conforms_any (B S J : Int) (A : Option Addr) (n c : Nat) (t s : Nat → Int) (w : World) (h : okC B S J = true) (hF : Flow w A n t s) (ht : ∀ k, k < n → -1099511627776 ≤ t k ∧ t k ≤ 1099511627776) :
    Calls Try.prog 17 #[.int .i64 B, .int .i64 S, .int .i64 J, .slice A n c] w fun e w' => e = .returned (.bool (Pol.Conf B S J t s n)) ∧ Below w.heap.size w w' := by
  obtain ⟨hn, hF⟩ := hF
  have HF := Lib.hid hF
  have HT := Lib.hid ht
  clear hF ht
  go_enter Try.func17, Try.ntmps17
  go_wp2
  go_loopw [21] (fun i wr => ∃ k : Nat, k ≤ n ∧ i = .int .i64 k ∧ Blk wr w.heap.size 49 #[.int .i64 B, .int .i64 S, .int .i64 J] ∧ Blk wr (w.heap.size + 1) 3 #[.int .i64 (Pol.nxt B J t k)] ∧ Below w.heap.size w wr ∧ (∀ i, i < k → Pol.conf B S J t s i = true))
    (fun i _ => n - (intOf i).toNat)
  case atStart => exact ⟨0, Nat.zero_le _, rfl, (Blk.made _ _ _).alloc _, Blk.made_at _ _ _ (by simp), ((Below.refl _ _).alloc (Nat.le_refl _) _).alloc (by simp) _, fun i hi => by omega⟩
  case round =>
    obtain ⟨k, hk, rfl, hc, hnb, hB, hall⟩ := hrel
    obtain ⟨hN1, hN2⟩ := nxt_bd (B := B) (S := S) (J := J) (t := t) (s := s) (k := k) (okC_true h).1 (okC_true h).2.1 hall
    by_cases hlt : k < n
    · obtain ⟨g, rfl, hg, hcell⟩ := HF.out (by omega)
      obtain ⟨ht1, ht2⟩ := HT.out k hlt
      obtain ⟨x0, x1⟩ := hcell k hlt
      have y0 : wr.cell? ⟨g, k * 2, none⟩ = some (.int .i64 (t k)) := (hB.cell (p := ⟨g, k * 2, none⟩) hg).trans x0
      have y1 : wr.cell? ⟨g, k * 2 + 1, none⟩ = some (.int .i64 (s k)) := (hB.cell (p := ⟨g, k * 2 + 1, none⟩) hg).trans x1
      have HH := Lib.hid hall
      have hz := hB.size
      have hsz : w.heap.size + 1 < wr.heap.size := hnb.lt
      have HCell := Lib.hid hcell
      clear hall x0 x1 hcell
      cases hb : fitB S J (Pol.nxt B J t k) (t k) (s k) with
      | false =>
        have HC : Hid (Pol.conf B S J t s k = false) := Lib.hid (by rw [conf_eq, hb]; rfl)
        go_wp2
        refine wp_region_held_drew (S := fun w' : World => w'.cell? ⟨wr.heap.size, 0, none⟩ = some (.int .i64 (t k)) ∧ w'.cell? ⟨wr.heap.size, 1, none⟩ = some (.int .i64 (s k))) (by kernel_rfl) (by go_keep) (fun hS0 => ?_)
        refine ah_take (i := 0) (v := ?_) (some 26) rfl rfl (by kernel_rfl) (by kernel_rfl) (by kernel_rfl) (fun _ _ _ h => h) (by kernel_rfl) ?_ (by assumption) ?_
        rotate_left
        · (intro w hSw; (try dsimp only at hSw); go_simp; (first | done | with_reducible rfl))
        simp only [Act.put, List.setIfInBounds_toArray, List.set_cons_zero, List.set_cons_succ]
        refine ah_take (i := 1) (v := ?_) (some 27) rfl rfl (by kernel_rfl) (by kernel_rfl) (by kernel_rfl) (fun _ _ _ h => h) (by kernel_rfl) ?_ (by assumption) ?_
        rotate_left
        · (intro w hSw; (try dsimp only at hSw); go_simp; (first | done | with_reducible rfl))
        simp only [Act.put, List.setIfInBounds_toArray, List.set_cons_zero, List.set_cons_succ]
        refine wpAnyH_ready (rs := [2]) (by kernel_rfl) (by simp) ?_
        refine AllReadyH.cons rfl (fun K hK => ?_) AllReadyH.nil
        go_simp
        (go_at_call 25; refine (fits_b false _ _ _ _ _ _ _ _ _ h (hc.alloc _).drew (hnb.alloc _).drew ht1 ht2 hN1 hN2 hb).mono ?_; rintro e w1 ⟨rfl, hn1, hg1⟩; have q0 : w1.cell? ⟨wr.heap.size, 0, none⟩ = some (.int .i64 (t k)) := (hg1.cell_far ⟨wr.heap.size, 0, none⟩ (by simp) (by simp; omega)).trans (by simp); have q1 : w1.cell? ⟨wr.heap.size, 1, none⟩ = some (.int .i64 (s k)) := (hg1.cell_far ⟨wr.heap.size, 1, none⟩ (by simp) (by simp; omega)).trans (by simp))
        refine hK.out _ _ ⟨q0, q1⟩ (fun hHeld => ?_)
        try simp only [Act.put, List.setIfInBounds_toArray, List.set_cons_zero, List.set_cons_succ]
        clear hK K
        refine ah_take (i := 3) (v := ?_) (some 29) rfl rfl (by kernel_rfl) (by kernel_rfl) (by kernel_rfl) (fun _ _ _ h => h) (by kernel_rfl) ?_ (by assumption) ?_
        rotate_left
        · (intro w hSw; (try dsimp only at hSw); go_simp; (first | done | with_reducible rfl))
        simp only [Act.put, List.setIfInBounds_toArray, List.set_cons_zero, List.set_cons_succ]
        refine ah_take (i := 4) (v := ?_) (some 30) rfl rfl (by kernel_rfl) (by kernel_rfl) (by kernel_rfl) (fun _ _ _ h => h) (by kernel_rfl) ?_ (by assumption) ?_
        rotate_left
        · (intro w hSw; (try dsimp only at hSw); go_simp; (first | done | with_reducible rfl))
        simp only [Act.put, List.setIfInBounds_toArray, List.set_cons_zero, List.set_cons_succ]
        refine ah_skip (i := 5) (some 31) rfl rfl (by kernel_rfl) (by kernel_rfl) (by kernel_rfl) (fun _ _ _ h => h) (by kernel_rfl) (by assumption) ?_
        simp only [Act.put, List.setIfInBounds_toArray, List.set_cons_zero, List.set_cons_succ]
        refine ah_skip (i := 6) (some 32) rfl rfl (by kernel_rfl) (by kernel_rfl) (by kernel_rfl) (fun _ _ _ h => h) (by kernel_rfl) (by assumption) ?_
        simp only [Act.put, List.setIfInBounds_toArray, List.set_cons_zero, List.set_cons_succ]
        refine ah_skip (i := 7) (some 33) rfl rfl (by kernel_rfl) (by kernel_rfl) (by kernel_rfl) (fun _ _ _ h => h) (by kernel_rfl) (by assumption) ?_
        simp only [Act.put, List.setIfInBounds_toArray, List.set_cons_zero, List.set_cons_succ]
        refine ah_skip (i := 8) (some 34) rfl rfl (by kernel_rfl) (by kernel_rfl) (by kernel_rfl) (fun _ _ _ h => h) (by kernel_rfl) (by assumption) ?_
        simp only [Act.put, List.setIfInBounds_toArray, List.set_cons_zero, List.set_cons_succ]
        refine ah_skip (i := 9) (some 35) rfl rfl (by kernel_rfl) (by kernel_rfl) (by kernel_rfl) (fun _ _ _ h => h) (by kernel_rfl) (by assumption) ?_
        simp only [Act.put, List.setIfInBounds_toArray, List.set_cons_zero, List.set_cons_succ]
        refine ah_skip (i := 10) (some 36) rfl rfl (by kernel_rfl) (by kernel_rfl) (by kernel_rfl) (fun _ _ _ h => h) (by kernel_rfl) (by assumption) ?_
        simp only [Act.put, List.setIfInBounds_toArray, List.set_cons_zero, List.set_cons_succ]
        refine ah_skip (i := 11) (some 37) rfl rfl (by kernel_rfl) (by kernel_rfl) (by kernel_rfl) (fun _ _ _ h => h) (by kernel_rfl) (by assumption) ?_
        simp only [Act.put, List.setIfInBounds_toArray, List.set_cons_zero, List.set_cons_succ]
        refine ah_skip (i := 12) (some 38) rfl rfl (by kernel_rfl) (by kernel_rfl) (by kernel_rfl) (fun _ _ _ h => h) (by kernel_rfl) (by assumption) ?_
        simp only [Act.put, List.setIfInBounds_toArray, List.set_cons_zero, List.set_cons_succ]
        refine ah_skip (i := 13) (some 39) rfl rfl (by kernel_rfl) (by kernel_rfl) (by kernel_rfl) (fun _ _ _ h => h) (by kernel_rfl) (by assumption) ?_
        simp only [Act.put, List.setIfInBounds_toArray, List.set_cons_zero, List.set_cons_succ]
        refine ah_skip (i := 14) (some 40) rfl rfl (by kernel_rfl) (by kernel_rfl) (by kernel_rfl) (fun _ _ _ h => h) (by kernel_rfl) (by assumption) ?_
        simp only [Act.put, List.setIfInBounds_toArray, List.set_cons_zero, List.set_cons_succ]
        refine ah_skip (i := 15) (some 41) rfl rfl (by kernel_rfl) (by kernel_rfl) (by kernel_rfl) (fun _ _ _ h => h) (by kernel_rfl) (by assumption) ?_
        simp only [Act.put, List.setIfInBounds_toArray, List.set_cons_zero, List.set_cons_succ]
        refine ah_skip (i := 16) (some 42) rfl rfl (by kernel_rfl) (by kernel_rfl) (by kernel_rfl) (fun _ _ _ h => h) (by kernel_rfl) (by assumption) ?_
        simp only [Act.put, List.setIfInBounds_toArray, List.set_cons_zero, List.set_cons_succ]
        refine ah_skip (i := 17) (some 43) rfl rfl (by kernel_rfl) (by kernel_rfl) (by kernel_rfl) (fun _ _ _ h => h) (by kernel_rfl) (by assumption) ?_
        simp only [Act.put, List.setIfInBounds_toArray, List.set_cons_zero, List.set_cons_succ]
        refine ah_take (i := 18) (v := ?_) (some 44) rfl rfl (by kernel_rfl) (by kernel_rfl) (by kernel_rfl) (fun _ _ _ h => h) (by kernel_rfl) ?_ (by assumption) ?_
        rotate_left
        · (intro w hSw; (try dsimp only at hSw); go_simp; (first | done | with_reducible rfl))
        simp only [Act.put, List.setIfInBounds_toArray, List.set_cons_zero, List.set_cons_succ]
        refine wpAnyH_done (by kernel_rfl) ?_ _
        clear hHeld hS0 y0 y1 hb
        go_wp2
        go_ret
        have hB1 := ((hB.alloc hz (.cells #[.int .i64 (t k), .int .i64 (s k)] 37)).drew).grown hg1 (by simp; omega) (fun j e => by cases e; omega)
        exact ⟨ret_bool (Conf_false hlt HC.out).symm, hB1⟩
      | true =>
        rcases k with _ | m
        · have e0 : Pol.conf B S J t s 0 = true := by rw [conf_eq, hb]; simp
          have HE := Lib.hid e0
          clear e0
          go_wp2
          refine wp_region_held_drew (S := fun w' : World => w'.cell? ⟨wr.heap.size, 0, none⟩ = some (.int .i64 (t 0)) ∧ w'.cell? ⟨wr.heap.size, 1, none⟩ = some (.int .i64 (s 0))) (by kernel_rfl) (by go_keep) (fun hS0 => ?_)
          refine ah_take (i := 0) (v := ?_) (some 26) rfl rfl (by kernel_rfl) (by kernel_rfl) (by kernel_rfl) (fun _ _ _ h => h) (by kernel_rfl) ?_ (by assumption) ?_
          rotate_left
          · (intro w hSw; (try dsimp only at hSw); go_simp; (first | done | with_reducible rfl))
          simp only [Act.put, List.setIfInBounds_toArray, List.set_cons_zero, List.set_cons_succ]
          refine ah_take (i := 1) (v := ?_) (some 27) rfl rfl (by kernel_rfl) (by kernel_rfl) (by kernel_rfl) (fun _ _ _ h => h) (by kernel_rfl) ?_ (by assumption) ?_
          rotate_left
          · (intro w hSw; (try dsimp only at hSw); go_simp; (first | done | with_reducible rfl))
          simp only [Act.put, List.setIfInBounds_toArray, List.set_cons_zero, List.set_cons_succ]
          refine wpAnyH_ready (rs := [2]) (by kernel_rfl) (by simp) ?_
          refine AllReadyH.cons rfl (fun K hK => ?_) AllReadyH.nil
          go_simp
          (go_at_call 25; refine (fits_b true _ _ _ _ _ _ _ _ _ h (hc.alloc _).drew (hnb.alloc _).drew ht1 ht2 hN1 hN2 hb).mono ?_; rintro e w1 ⟨rfl, hn1, hg1⟩; have q0 : w1.cell? ⟨wr.heap.size, 0, none⟩ = some (.int .i64 (t 0)) := (hg1.cell_far ⟨wr.heap.size, 0, none⟩ (by simp) (by simp; omega)).trans (by simp); have q1 : w1.cell? ⟨wr.heap.size, 1, none⟩ = some (.int .i64 (s 0)) := (hg1.cell_far ⟨wr.heap.size, 1, none⟩ (by simp) (by simp; omega)).trans (by simp))
          refine hK.out _ _ ⟨q0, q1⟩ (fun hHeld => ?_)
          try simp only [Act.put, List.setIfInBounds_toArray, List.set_cons_zero, List.set_cons_succ]
          clear hK K
          refine ah_take (i := 3) (v := ?_) (some 29) rfl rfl (by kernel_rfl) (by kernel_rfl) (by kernel_rfl) (fun _ _ _ h => h) (by kernel_rfl) ?_ (by assumption) ?_
          rotate_left
          · (intro w hSw; (try dsimp only at hSw); go_simp; (first | done | with_reducible rfl))
          simp only [Act.put, List.setIfInBounds_toArray, List.set_cons_zero, List.set_cons_succ]
          refine ah_take (i := 4) (v := ?_) (some 30) rfl rfl (by kernel_rfl) (by kernel_rfl) (by kernel_rfl) (fun _ _ _ h => h) (by kernel_rfl) ?_ (by assumption) ?_
          rotate_left
          · (intro w hSw; (try dsimp only at hSw); go_simp; (first | done | with_reducible rfl))
          simp only [Act.put, List.setIfInBounds_toArray, List.set_cons_zero, List.set_cons_succ]
          refine ah_take (i := 5) (v := ?_) (some 31) rfl rfl (by kernel_rfl) (by kernel_rfl) (by kernel_rfl) (fun _ _ _ h => h) (by kernel_rfl) ?_ (by assumption) ?_
          rotate_left
          · (intro w hSw; (try dsimp only at hSw); go_simp; (first | done | with_reducible rfl))
          simp only [Act.put, List.setIfInBounds_toArray, List.set_cons_zero, List.set_cons_succ]
          refine ah_take (i := 6) (v := ?_) (some 32) rfl rfl (by kernel_rfl) (by kernel_rfl) (by kernel_rfl) (fun _ _ _ h => h) (by kernel_rfl) ?_ (by assumption) ?_
          rotate_left
          · (intro w hSw; (try dsimp only at hSw); go_simp; (first | done | with_reducible rfl))
          simp only [Act.put, List.setIfInBounds_toArray, List.set_cons_zero, List.set_cons_succ]
          refine ah_take (i := 7) (v := ?_) (some 33) rfl rfl (by kernel_rfl) (by kernel_rfl) (by kernel_rfl) (fun _ _ _ h => h) (by kernel_rfl) ?_ (by assumption) ?_
          rotate_left
          · (intro w hSw; (try dsimp only at hSw); go_simp; (first | done | with_reducible rfl))
          simp only [Act.put, List.setIfInBounds_toArray, List.set_cons_zero, List.set_cons_succ]
          refine ah_skip (i := 8) (some 34) rfl rfl (by kernel_rfl) (by kernel_rfl) (by kernel_rfl) (fun _ _ _ h => h) (by kernel_rfl) (by assumption) ?_
          simp only [Act.put, List.setIfInBounds_toArray, List.set_cons_zero, List.set_cons_succ]
          refine ah_skip (i := 9) (some 35) rfl rfl (by kernel_rfl) (by kernel_rfl) (by kernel_rfl) (fun _ _ _ h => h) (by kernel_rfl) (by assumption) ?_
          simp only [Act.put, List.setIfInBounds_toArray, List.set_cons_zero, List.set_cons_succ]
          refine ah_skip (i := 10) (some 36) rfl rfl (by kernel_rfl) (by kernel_rfl) (by kernel_rfl) (fun _ _ _ h => h) (by kernel_rfl) (by assumption) ?_
          simp only [Act.put, List.setIfInBounds_toArray, List.set_cons_zero, List.set_cons_succ]
          refine ah_skip (i := 11) (some 37) rfl rfl (by kernel_rfl) (by kernel_rfl) (by kernel_rfl) (fun _ _ _ h => h) (by kernel_rfl) (by assumption) ?_
          simp only [Act.put, List.setIfInBounds_toArray, List.set_cons_zero, List.set_cons_succ]
          refine ah_skip (i := 12) (some 38) rfl rfl (by kernel_rfl) (by kernel_rfl) (by kernel_rfl) (fun _ _ _ h => h) (by kernel_rfl) (by assumption) ?_
          simp only [Act.put, List.setIfInBounds_toArray, List.set_cons_zero, List.set_cons_succ]
          refine ah_skip (i := 13) (some 39) rfl rfl (by kernel_rfl) (by kernel_rfl) (by kernel_rfl) (fun _ _ _ h => h) (by kernel_rfl) (by assumption) ?_
          simp only [Act.put, List.setIfInBounds_toArray, List.set_cons_zero, List.set_cons_succ]
          refine ah_skip (i := 14) (some 40) rfl rfl (by kernel_rfl) (by kernel_rfl) (by kernel_rfl) (fun _ _ _ h => h) (by kernel_rfl) (by assumption) ?_
          simp only [Act.put, List.setIfInBounds_toArray, List.set_cons_zero, List.set_cons_succ]
          refine ah_skip (i := 15) (some 41) rfl rfl (by kernel_rfl) (by kernel_rfl) (by kernel_rfl) (fun _ _ _ h => h) (by kernel_rfl) (by assumption) ?_
          simp only [Act.put, List.setIfInBounds_toArray, List.set_cons_zero, List.set_cons_succ]
          refine ah_skip (i := 16) (some 42) rfl rfl (by kernel_rfl) (by kernel_rfl) (by kernel_rfl) (fun _ _ _ h => h) (by kernel_rfl) (by assumption) ?_
          simp only [Act.put, List.setIfInBounds_toArray, List.set_cons_zero, List.set_cons_succ]
          refine ah_take (i := 17) (v := ?_) (some 43) rfl rfl (by kernel_rfl) (by kernel_rfl) (by kernel_rfl) (fun _ _ _ h => h) (by kernel_rfl) ?_ (by assumption) ?_
          rotate_left
          · (intro w hSw; (try dsimp only at hSw); go_simp; (first | done | with_reducible rfl))
          simp only [Act.put, List.setIfInBounds_toArray, List.set_cons_zero, List.set_cons_succ]
          refine ah_take (i := 18) (v := ?_) (some 44) rfl rfl (by kernel_rfl) (by kernel_rfl) (by kernel_rfl) (fun _ _ _ h => h) (by kernel_rfl) ?_ (by assumption) ?_
          rotate_left
          · (intro w hSw; (try dsimp only at hSw); go_simp; (first | done | with_reducible rfl))
          simp only [Act.put, List.setIfInBounds_toArray, List.set_cons_zero, List.set_cons_succ]
          refine wpAnyH_done (by kernel_rfl) ?_ _
          clear hHeld hS0 y0 y1 hb
          go_wp2
          have hB1 := ((hB.alloc hz (.cells #[.int .i64 (t 0), .int .i64 (s 0)] 37)).drew).grown hg1 (by simp; omega) (fun j e => by cases e; omega)
          go_roundw
          case rel => exact ⟨1, by omega, rfl, ((hc.alloc _).drew).grown hg1 (by simp), hn1, hB1, fun i hi => (by have e : i = 0 := (by omega); subst e; exact HE.out)⟩
          case measure => simp [intOf]; omega
        · obtain ⟨z0, _⟩ := HCell.out m (by omega)
          have z1 : wr.cell? ⟨g, m * 2, none⟩ = some (.int .i64 (t m)) := (hB.cell (p := ⟨g, m * 2, none⟩) hg).trans z0
          have v1 : IntKind.i64.wrap (m : Int) = m := IntWalk.i64_in _ (by omega)
          have v2 : (m : Int) < n := by omega
          have HE : Hid (∀ b : Bool, b = decide (t m ≤ t (m + 1)) → Pol.conf B S J t s (m + 1) = b) := Lib.hid (by rintro b rfl; rw [conf_eq, hb]; simp)
          clear z0
          go_wp2
          refine wp_region_held_drew (S := fun w' : World => w'.cell? ⟨wr.heap.size, 0, none⟩ = some (.int .i64 (t (m + 1))) ∧ w'.cell? ⟨wr.heap.size, 1, none⟩ = some (.int .i64 (s (m + 1))) ∧ w'.cell? ⟨g, m * 2, none⟩ = some (.int .i64 (t m))) (by kernel_rfl) (by go_keep) (fun hS0 => ?_)
          refine ah_take (i := 0) (v := ?_) (some 26) rfl rfl (by kernel_rfl) (by kernel_rfl) (by kernel_rfl) (fun _ _ _ h => h) (by kernel_rfl) ?_ (by assumption) ?_
          rotate_left
          · (intro w hSw; (try dsimp only at hSw); go_simp; (first | done | with_reducible rfl))
          simp only [Act.put, List.setIfInBounds_toArray, List.set_cons_zero, List.set_cons_succ]
          refine ah_take (i := 1) (v := ?_) (some 27) rfl rfl (by kernel_rfl) (by kernel_rfl) (by kernel_rfl) (fun _ _ _ h => h) (by kernel_rfl) ?_ (by assumption) ?_
          rotate_left
          · (intro w hSw; (try dsimp only at hSw); go_simp; (first | done | with_reducible rfl))
          simp only [Act.put, List.setIfInBounds_toArray, List.set_cons_zero, List.set_cons_succ]
          refine wpAnyH_ready (rs := [2]) (by kernel_rfl) (by simp) ?_
          refine AllReadyH.cons rfl (fun K hK => ?_) AllReadyH.nil
          go_simp
          (go_at_call 25; refine (fits_b true _ _ _ _ _ _ _ _ _ h (hc.alloc _).drew (hnb.alloc _).drew ht1 ht2 hN1 hN2 hb).mono ?_; rintro e w1 ⟨rfl, hn1, hg1⟩; have q0 : w1.cell? ⟨wr.heap.size, 0, none⟩ = some (.int .i64 (t (m + 1))) := (hg1.cell_far ⟨wr.heap.size, 0, none⟩ (by simp) (by simp; omega)).trans (by simp); have q1 : w1.cell? ⟨wr.heap.size, 1, none⟩ = some (.int .i64 (s (m + 1))) := (hg1.cell_far ⟨wr.heap.size, 1, none⟩ (by simp) (by simp; omega)).trans (by simp); have q2 : w1.cell? ⟨g, m * 2, none⟩ = some (.int .i64 (t m)) := (hg1.cell_far ⟨g, m * 2, none⟩ (by simp; omega) (by simp; omega)).trans (cell_alloc_drew z1 _))
          refine hK.out _ _ ⟨q0, q1, q2⟩ (fun hHeld => ?_)
          try simp only [Act.put, List.setIfInBounds_toArray, List.set_cons_zero, List.set_cons_succ]
          clear hK K
          refine ah_take (i := 3) (v := ?_) (some 29) rfl rfl (by kernel_rfl) (by kernel_rfl) (by kernel_rfl) (fun _ _ _ h => h) (by kernel_rfl) ?_ (by assumption) ?_
          rotate_left
          · (intro w hSw; (try dsimp only at hSw); go_simp; (first | done | with_reducible rfl))
          simp only [Act.put, List.setIfInBounds_toArray, List.set_cons_zero, List.set_cons_succ]
          refine ah_take (i := 4) (v := ?_) (some 30) rfl rfl (by kernel_rfl) (by kernel_rfl) (by kernel_rfl) (fun _ _ _ h => h) (by kernel_rfl) ?_ (by assumption) ?_
          rotate_left
          · (intro w hSw; (try dsimp only at hSw); go_simp; (first | done | with_reducible rfl))
          simp only [Act.put, List.setIfInBounds_toArray, List.set_cons_zero, List.set_cons_succ]
          refine ah_take (i := 5) (v := ?_) (some 31) rfl rfl (by kernel_rfl) (by kernel_rfl) (by kernel_rfl) (fun _ _ _ h => h) (by kernel_rfl) ?_ (by assumption) ?_
          rotate_left
          · (intro w hSw; (try dsimp only at hSw); go_simp; (first | done | with_reducible rfl))
          simp only [Act.put, List.setIfInBounds_toArray, List.set_cons_zero, List.set_cons_succ]
          refine ah_take (i := 6) (v := ?_) (some 32) rfl rfl (by kernel_rfl) (by kernel_rfl) (by kernel_rfl) (fun _ _ _ h => h) (by kernel_rfl) ?_ (by assumption) ?_
          rotate_left
          · (intro w hSw; (try dsimp only at hSw); go_simp; (first | done | with_reducible rfl))
          simp only [Act.put, List.setIfInBounds_toArray, List.set_cons_zero, List.set_cons_succ]
          refine ah_take (i := 7) (v := ?_) (some 33) rfl rfl (by kernel_rfl) (by kernel_rfl) (by kernel_rfl) (fun _ _ _ h => h) (by kernel_rfl) ?_ (by assumption) ?_
          rotate_left
          · (intro w hSw; (try dsimp only at hSw); go_simp; (first | done | with_reducible rfl))
          simp only [Act.put, List.setIfInBounds_toArray, List.set_cons_zero, List.set_cons_succ]
          refine ah_take (i := 8) (v := ?_) (some 34) rfl rfl (by kernel_rfl) (by kernel_rfl) (by kernel_rfl) (fun _ _ _ h => h) (by kernel_rfl) ?_ (by assumption) ?_
          rotate_left
          · (intro w hSw; (try dsimp only at hSw); go_simp; (first | done | with_reducible rfl))
          simp only [Act.put, List.setIfInBounds_toArray, List.set_cons_zero, List.set_cons_succ]
          refine ah_take (i := 9) (v := ?_) (some 35) rfl rfl (by kernel_rfl) (by kernel_rfl) (by kernel_rfl) (fun _ _ _ h => h) (by kernel_rfl) ?_ (by assumption) ?_
          rotate_left
          · (intro w hSw; (try dsimp only at hSw); go_simp; (first | done | with_reducible rfl))
          simp only [Act.put, List.setIfInBounds_toArray, List.set_cons_zero, List.set_cons_succ]
          refine ah_take (i := 10) (v := ?_) (some 36) rfl rfl (by kernel_rfl) (by kernel_rfl) (by kernel_rfl) (fun _ _ _ h => h) (by kernel_rfl) ?_ (by assumption) ?_
          rotate_left
          · (intro w hSw; (try dsimp only at hSw); go_simp; (first | done | with_reducible rfl))
          simp only [Act.put, List.setIfInBounds_toArray, List.set_cons_zero, List.set_cons_succ]
          refine ah_take (i := 11) (v := ?_) (some 37) rfl rfl (by kernel_rfl) (by kernel_rfl) (by kernel_rfl) (fun _ _ _ h => h) (by kernel_rfl) ?_ (by assumption) ?_
          rotate_left
          · (intro w hSw; (try dsimp only at hSw); go_simp; (first | done | with_reducible rfl))
          simp only [Act.put, List.setIfInBounds_toArray, List.set_cons_zero, List.set_cons_succ]
          refine ah_take (i := 12) (v := ?_) (some 38) rfl rfl (by kernel_rfl) (by kernel_rfl) (by kernel_rfl) (fun _ _ _ h => h) (by kernel_rfl) ?_ (by assumption) ?_
          rotate_left
          · (intro w hSw; (try dsimp only at hSw); go_simp; (first | done | with_reducible rfl))
          simp only [Act.put, List.setIfInBounds_toArray, List.set_cons_zero, List.set_cons_succ]
          refine ah_take (i := 13) (v := ?_) (some 39) rfl rfl (by kernel_rfl) (by kernel_rfl) (by kernel_rfl) (fun _ _ _ h => h) (by kernel_rfl) ?_ (by assumption) ?_
          rotate_left
          · (intro w hSw; (try dsimp only at hSw); go_simp; (first | done | with_reducible rfl))
          simp only [Act.put, List.setIfInBounds_toArray, List.set_cons_zero, List.set_cons_succ]
          refine ah_take (i := 14) (v := ?_) (some 40) rfl rfl (by kernel_rfl) (by kernel_rfl) (by kernel_rfl) (fun _ _ _ h => h) (by kernel_rfl) ?_ (by assumption) ?_
          rotate_left
          · (intro w hSw; (try dsimp only at hSw); go_simp; (first | done | with_reducible rfl))
          simp only [Act.put, List.setIfInBounds_toArray, List.set_cons_zero, List.set_cons_succ]
          refine ah_take (i := 15) (v := ?_) (some 41) rfl rfl (by kernel_rfl) (by kernel_rfl) (by kernel_rfl) (fun _ _ _ h => h) (by kernel_rfl) ?_ (by assumption) ?_
          rotate_left
          · (intro w hSw; (try dsimp only at hSw); go_simp; (first | done | with_reducible rfl))
          simp only [Act.put, List.setIfInBounds_toArray, List.set_cons_zero, List.set_cons_succ]
          refine ah_take (i := 16) (v := ?_) (some 42) rfl rfl (by kernel_rfl) (by kernel_rfl) (by kernel_rfl) (fun _ _ _ h => h) (by kernel_rfl) ?_ (by assumption) ?_
          rotate_left
          · (intro w hSw; (try dsimp only at hSw); go_simp; (first | done | with_reducible rfl))
          simp only [Act.put, List.setIfInBounds_toArray, List.set_cons_zero, List.set_cons_succ]
          refine ah_take (i := 17) (v := ?_) (some 43) rfl rfl (by kernel_rfl) (by kernel_rfl) (by kernel_rfl) (fun _ _ _ h => h) (by kernel_rfl) ?_ (by assumption) ?_
          rotate_left
          · (intro w hSw; (try dsimp only at hSw); go_simp; (first | done | with_reducible rfl))
          simp only [Act.put, List.setIfInBounds_toArray, List.set_cons_zero, List.set_cons_succ]
          refine ah_take (i := 18) (v := ?_) (some 44) rfl rfl (by kernel_rfl) (by kernel_rfl) (by kernel_rfl) (fun _ _ _ h => h) (by kernel_rfl) ?_ (by assumption) ?_
          rotate_left
          · (intro w hSw; (try dsimp only at hSw); go_simp; (first | done | with_reducible rfl))
          simp only [Act.put, List.setIfInBounds_toArray, List.set_cons_zero, List.set_cons_succ]
          refine wpAnyH_done (by kernel_rfl) ?_ _
          clear hHeld hS0 y0 y1 hb z1 v1
          go_wp2
          · have hx : t (m + 1) < t m := by assumption
            go_ret
            have hB1 := ((hB.alloc hz (.cells #[.int .i64 (t (m + 1)), .int .i64 (s (m + 1))] 37)).drew).grown hg1 (by simp; omega) (fun j e => by cases e; omega)
            exact ⟨ret_bool (Conf_false hlt (HE.out false (by simp; omega))).symm, hB1⟩
          · have hx : t m ≤ t (m + 1) := by assumption
            have hB1 := ((hB.alloc hz (.cells #[.int .i64 (t (m + 1)), .int .i64 (s (m + 1))] 37)).drew).grown hg1 (by simp; omega) (fun j e => by cases e; omega)
            go_roundw
            case rel => exact ⟨m + 1 + 1, by omega, by go_num, ((hc.alloc _).drew).grown hg1 (by simp), hn1, hB1, fun i hi => (Nat.lt_or_ge i (m + 1)).elim (fun h' => HH.out i h') (fun h' => (by have e : i = m + 1 := (by omega); subst e; exact HE.out true (by simp [hx])))⟩
            case measure => simp [intOf]; omega
    · obtain rfl : k = n := by omega
      have HH := Lib.hid hall
      have d0 : wr.cell? ⟨w.heap.size, 0, none⟩ = some (.int .i64 B) := hc.cell 0
      have d1 : wr.cell? ⟨w.heap.size, 1, none⟩ = some (.int .i64 S) := hc.cell 1
      have d2 : wr.cell? ⟨w.heap.size, 2, none⟩ = some (.int .i64 J) := hc.cell 2
      clear hall
      go_wp2_with (go_at_call 22; refine (valid_true _ _ _ _ h).mono ?_; rintro e w' ⟨rfl, rfl⟩)
      go_ret
      exact ⟨ret_bool (Pol.Conf_iff.2 HH.out).symm, hB.alloc hB.size _⟩
end Go.Proofs.Ytknfhbhaencdjaa
