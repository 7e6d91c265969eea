/-
  The contract of awake (layer 20): it returns true, and leaves what was there as it was. No condition.
-/
import Derived.Test.YtgljfjmffiofkaaF5
import Derived.Test.YtgljfjmffiofkaaDs
namespace Go.Proofs.Ytgljfjmffiofkaa
open Go.RowKit

/-- the numbers of the chapter's example, and what is expected of each -/
def wl : Nat → Int
  | 0 => 5
  | 1 => 6
  | 2 => 8
  | 3 => 8
  | 4 => 11
  | 5 => 12
  | 6 => 0
  | 7 => 2
  | _ => 255
def ww : Nat → Bool
  | 3 => false
  | 4 => false
  | 8 => false
  | _ => true
def wp : Nat → Int
  | 0 => 0
  | k + 1 => wl k
theorem ww_adm : ∀ k, k < 9 → adm (decide (0 < k)) (wp k) (wl k) = ww k ∧ isN (wl k) = true := by decide

set_option maxHeartbeats 4000000 in
theorem awake_any (w : World) : Calls Try.prog 16 #[] w fun e w' => e = .returned (.bool true) ∧ Below w.heap.size w w' := by
  go_enter Try.func16, Try.ntmps16
  go_wp2_with fail
  refine (new_any _).mono ?_
  rintro e w1 ⟨fb, rfl, hfb, kN, hf⟩
  go_wp2_with fail
  obtain ⟨W2, hW2⟩ : ∃ W2, (w1.alloc (.cells #[.int .i64 5, .int .i64 6, .int .i64 8, .int .i64 8, .int .i64 11, .int .i64 12, .int .i64 0, .int .i64 2, .int .i64 255] 3)).alloc (.cells #[.bool true, .bool true, .bool true, .bool false, .bool false, .bool true, .bool true, .bool true, .bool false] 4) = W2 := ⟨_, rfl⟩
  have b1 : Blk W2 w1.heap.size 3 #[.int .i64 5, .int .i64 6, .int .i64 8, .int .i64 8, .int .i64 11, .int .i64 12, .int .i64 0, .int .i64 2, .int .i64 255] := by rw [← hW2]; exact (Blk.made w1 3 _).alloc _
  have b2 : Blk W2 (w1.heap.size + 1) 4 #[.bool true, .bool true, .bool true, .bool false, .bool false, .bool true, .bool true, .bool true, .bool false] := by rw [← hW2]; exact Blk.made_at _ _ _ (by simp)
  have c1 : ∀ k, k < 9 → W2.cell? ⟨w1.heap.size, k, none⟩ = some (.int .i64 (wl k)) := fun k hk => by
    rw [b1.cell]
    match k, hk with
    | 0, _ => rfl
    | 1, _ => rfl
    | 2, _ => rfl
    | 3, _ => rfl
    | 4, _ => rfl
    | 5, _ => rfl
    | 6, _ => rfl
    | 7, _ => rfl
    | 8, _ => rfl
  have c2 : ∀ k, k < 9 → W2.cell? ⟨w1.heap.size + 1, k, none⟩ = some (.bool (ww k)) := fun k hk => by
    rw [b2.cell]
    match k, hk with
    | 0, _ => rfl
    | 1, _ => rfl
    | 2, _ => rfl
    | 3, _ => rfl
    | 4, _ => rfl
    | 5, _ => rfl
    | 6, _ => rfl
    | 7, _ => rfl
    | 8, _ => rfl
  have hf2 : Flt W2 fb 0 0 0 false := by rw [← hW2]; exact (hf.alloc _).alloc _
  have k2 : Below w.heap.size w W2 := by rw [← hW2]; exact (kN.alloc kN.size _).alloc (by have := kN.size; simp; omega) _
  have l1 := b1.lt
  have l2 := b2.lt
  have lf := hf.lt
  try rw [hW2]
  have C1 := Lib.hid c1
  have C2 := Lib.hid c2
  clear b1 b2 c1 c2 hW2 kN hf
  go_loopw [4] (fun i wr => ∃ k : Nat, k ≤ 9 ∧ i = .int .i64 k ∧ (∃ a r : Int, 0 ≤ a ∧ a ≤ k ∧ 0 ≤ r ∧ r ≤ k ∧ Flt wr fb a r (wp k) (decide (0 < k))) ∧ W2.grownBy wr (some fb))
    (fun i _ => 9 - (intOf i).toNat)
  case atStart => exact ⟨0, by omega, rfl, ⟨0, 0, by omega, by omega, by omega, by omega, hf2⟩, World.grownBy.refl _ _⟩
  case round =>
    obtain ⟨k, hk, rfl, ⟨a, r, a0, a1, r0, r1, hfr⟩, hg⟩ := hrel
    by_cases hlt : k < 9
    · obtain ⟨hw, hN⟩ := ww_adm k hlt
      have y1 : wr.cell? ⟨w1.heap.size, k, none⟩ = some (.int .i64 (wl k)) := (World.cell?_of_block (hg.block w1.heap.size l1 (by intro e; injection e; omega))).trans (C1.out k hlt)
      obtain ⟨b, hb⟩ : ∃ b, ww k = b := ⟨_, rfl⟩
      rw [hb] at hw
      have HW := Lib.hid hw
      have HNn := Lib.hid hN
      have HB := Lib.hid hb
      clear hw hN hb
      go_wp2_with fail
      refine (accept_ok b fb (wl k) a r (wp k) (decide (0 < k)) wr hfr HNn.out a0 (by omega) r0 (by omega) HW.out).mono ?_
      rintro e w2 ⟨rfl, hf3, hg3⟩
      have hg4 := hg.trans hg3
      have y2 : w2.cell? ⟨w1.heap.size + 1, k, none⟩ = some (.bool b) := (World.cell?_of_block (hg4.block (w1.heap.size + 1) l2 (by intro e; injection e; omega))).trans (by rw [C2.out k hlt, HB.out])
      have hf4 : Flt w2 fb (if b = true then a + 1 else a) (if b = true then r else r + 1) (wp (k + 1)) (decide (0 < k + 1)) := by rw [decide_eq_true (by omega : 0 < k + 1)]; exact hf3
      have HF4 := Lib.hid hf4
      clear y1 hf3 hf4 hfr
      cases b with
      | true =>
        go_wp2_with fail
        go_roundw
        case rel => exact ⟨k + 1, by omega, by go_num, ⟨a + 1, r, by omega, by omega, by omega, by omega, HF4.out⟩, hg4⟩
        case measure => simp [intOf]; omega
      | false =>
        go_wp2_with fail
        go_roundw
        case rel => exact ⟨k + 1, by omega, by go_num, ⟨a, r + 1, by omega, by omega, by omega, by omega, HF4.out⟩, hg4⟩
        case measure => simp [intOf]; omega
    · have kr : Below w.heap.size w wr := k2.grown hg k2.size (fun j e => by cases e; exact hfb)
      have KR := Lib.hid kr
      clear kr hg hfr
      go_wp2_with fail
      refine (new_any _).mono ?_
      rintro e x1 ⟨g, rfl, hg1, kg, fg⟩
      go_wp2_with fail
      refine (new_any _).mono ?_
      rintro e x2 ⟨h, rfl, hh1, kh, fh⟩
      go_wp2_with fail
      refine (new_any _).mono ?_
      rintro e x3 ⟨q, rfl, hq1, kq, fq⟩
      have wg : w.heap.size ≤ g := Nat.le_trans KR.out.size hg1
      have lg := fg.lt
      have lh := fh.lt
      have lq := fq.lt
      have sgh := kh.size
      have shq := kq.size
      have K3 := (KR.out.trans (kg.mono KR.out.size))
      have K4 := K3.trans (kh.mono K3.size)
      have K5 := K4.trans (kq.mono K4.size)
      have fg3 : Flt x3 g 0 0 0 false := (fg.below kh (by omega)).below kq (by omega)
      have fh3 : Flt x3 h 0 0 0 false := fh.below kq (by omega)
      have ngh : g ≠ h := by omega
      have ngq : g ≠ q := by omega
      have nhq : h ≠ q := by omega
      have wh : w.heap.size ≤ h := by omega
      have wq : w.heap.size ≤ q := by omega
      have N1 := Lib.hid ngh
      have N2 := Lib.hid ngq
      have N3 := Lib.hid nhq
      have V5 := Lib.hid K5
      clear kg kh kq fg fh K3 K4 K5 ngh ngq nhq KR
      go_wp2_with fail
      refine (accept_ok true g 255 0 0 0 false x3 fg3 (by decide) (by omega) (by omega) (by omega) (by omega) (by decide)).mono ?_
      rintro e y1 ⟨rfl, ng1, gr1⟩
      have nh1 := fh3.grown gr1 (by intro e; injection e with e; exact (Ne.symm N1.out) e)
      have nq1 := fq.grown gr1 (by intro e; injection e with e; exact (Ne.symm N2.out) e)
      have V6 := Lib.hid (V5.out.grown gr1 V5.out.size (fun j e => by cases e; exact wg))
      clear gr1
      go_wp2_with fail
      refine (accept_ok true h 255 0 0 0 false y1 nh1 (by decide) (by omega) (by omega) (by omega) (by omega) (by decide)).mono ?_
      rintro e y2 ⟨rfl, nh2, gr2⟩
      have ng2 := ng1.grown gr2 (by intro e; injection e with e; exact N1.out e)
      have nq2 := nq1.grown gr2 (by intro e; injection e with e; exact (Ne.symm N3.out) e)
      have V7 := Lib.hid (V6.out.grown gr2 V6.out.size (fun j e => by cases e; exact wh))
      clear gr2
      go_wp2_with fail
      refine (accept_ok true q 255 0 0 0 false y2 nq2 (by decide) (by omega) (by omega) (by omega) (by omega) (by decide)).mono ?_
      rintro e y3 ⟨rfl, nq3, gr3⟩
      have ng3 := ng2.grown gr3 (by intro e; injection e with e; exact N2.out e)
      have nh3 := nh2.grown gr3 (by intro e; injection e with e; exact N3.out e)
      have V8 := Lib.hid (V7.out.grown gr3 V7.out.size (fun j e => by cases e; exact wq))
      clear gr3
      go_wp2_with fail
      refine (accept_ok true g 1 1 0 255 true y3 ng3 (by decide) (by omega) (by omega) (by omega) (by omega) (by decide)).mono ?_
      rintro e y4 ⟨rfl, ng4, gr4⟩
      have nh4 := nh3.grown gr4 (by intro e; injection e with e; exact (Ne.symm N1.out) e)
      have nq4 := nq3.grown gr4 (by intro e; injection e with e; exact (Ne.symm N2.out) e)
      have V9 := Lib.hid (V8.out.grown gr4 V8.out.size (fun j e => by cases e; exact wg))
      clear gr4
      go_wp2_with fail
      refine (accept_ok true h 2 1 0 255 true y4 nh4 (by decide) (by omega) (by omega) (by omega) (by omega) (by decide)).mono ?_
      rintro e y5 ⟨rfl, nh5, gr5⟩
      have ng5 := ng4.grown gr5 (by intro e; injection e with e; exact N1.out e)
      have nq5 := nq4.grown gr5 (by intro e; injection e with e; exact (Ne.symm N3.out) e)
      have V10 := Lib.hid (V9.out.grown gr5 V9.out.size (fun j e => by cases e; exact wh))
      clear gr5
      go_wp2_with fail
      refine (accept_ok false q 3 1 0 255 true y5 nq5 (by decide) (by omega) (by omega) (by omega) (by omega) (by decide)).mono ?_
      rintro e y6 ⟨rfl, nq6, gr6⟩
      have ng6 := ng5.grown gr6 (by intro e; injection e with e; exact N2.out e)
      have nh6 := nh5.grown gr6 (by intro e; injection e with e; exact N3.out e)
      have V11 := Lib.hid (V10.out.grown gr6 V10.out.size (fun j e => by cases e; exact wq))
      clear gr6
      go_wp2_with fail
      refine (distance_any 254 2 _).mono ?_
      rintro e z0 ⟨rfl, kz0⟩
      rw [show dst 254 2 = 3 from by decide]
      have D0 := Lib.hid (V11.out.trans (kz0.mono V11.out.size))
      clear kz0
      go_wp2_with fail
      refine (distance_any 0 255 _).mono ?_
      rintro e z1 ⟨rfl, kz1⟩
      rw [show dst 0 255 = 255 from by decide]
      have D1 := Lib.hid (D0.out.trans (kz1.mono D0.out.size))
      clear kz1
      go_wp2_with fail
      refine (distance_any 3 0 _).mono ?_
      rintro e z2 ⟨rfl, kz2⟩
      rw [show dst 3 0 = (-1) from by decide]
      have D2 := Lib.hid (D1.out.trans (kz2.mono D1.out.size))
      clear kz2
      go_wp2_with fail
      refine (distance_any 7 7 _).mono ?_
      rintro e z3 ⟨rfl, kz3⟩
      rw [show dst 7 7 = 0 from by decide]
      have D3 := Lib.hid (D2.out.trans (kz3.mono D2.out.size))
      clear kz3
      go_wp2_with fail
      refine (distance_any 2 1 _).mono ?_
      rintro e z4 ⟨rfl, kz4⟩
      rw [show dst 2 1 = 254 from by decide]
      have D4 := Lib.hid (D3.out.trans (kz4.mono D3.out.size))
      clear kz4
      go_wp2_with fail
      go_ret
      exact ⟨rfl, D4.out⟩
end Go.Proofs.Ytgljfjmffiofkaa
