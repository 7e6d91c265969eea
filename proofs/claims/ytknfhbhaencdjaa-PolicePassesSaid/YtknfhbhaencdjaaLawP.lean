/-
  The walk of the law PolicePasses: at every three ints and three slices of ints it returns true and leaves what was there as it was. No condition.
-/
import Derived.Test.YtknfhbhaencdjaaAwake
import Derived.Test.YtknfhbhaencdjaaOpn
import Derived.Test.YtknfhbhaencdjaaPlP
namespace Go.Proofs.Ytknfhbhaencdjaa
open Go.RowKit

set_option maxRecDepth 100000 in
set_option maxHeartbeats 8000000 in
theorem lawPasses (b0 s0 j0 : Int) (A3 : Option Addr) (n3 c3 : Nat) (g : Nat → Int) (A4 : Option Addr) (n4 c4 : Nat) (d : Nat → Int) (A5 : Option Addr) (n5 c5 : Nat) (z : Nat → Int) (w : World) (hg : Ints w A3 n3 g) (hd : Ints w A4 n4 d) (hz : Ints w A5 n5 z) :
    Calls Try.prog 4 #[.int .i64 b0, .int .i64 s0, .int .i64 j0, .slice A3 n3 c3, .slice A4 n4 c4, .slice A5 n5 c5] w fun e w' => e = .returned (.bool true) ∧ Below w.heap.size w w' := by
  obtain ⟨i0, hi, hz0, hz1, hz2⟩ := info_parts Try.info37
  have hok := contract_okC b0 s0 j0
  obtain ⟨B, hB, hB1, hB2⟩ : ∃ B, 1 + b0 % 300 = B ∧ 1 ≤ B ∧ B ≤ 300 := ⟨_, rfl, by omega, by omega⟩
  obtain ⟨S, hS, hS1, hS2⟩ : ∃ S, 1 + s0 % 80 = S ∧ 1 ≤ S ∧ S ≤ 80 := ⟨_, rfl, by omega, by omega⟩
  obtain ⟨J, hJ, hJ1, hJ2⟩ : ∃ J, j0 % 501 = J ∧ 0 ≤ J ∧ J ≤ 500 := ⟨_, rfl, by omega, by omega⟩
  rw [hB, hS, hJ] at hok
  obtain ⟨l3, hg⟩ := hg
  obtain ⟨l4, hd⟩ := hd
  obtain ⟨l5, hz⟩ := hz
  have HG := Lib.hid hg
  have HD := Lib.hid hd
  have HZ := Lib.hid hz
  have HB := Lib.hid hB
  have HS := Lib.hid hS
  have HJ := Lib.hid hJ
  have hi' := Lib.hid hi
  have hz0' := Lib.hid hz0
  have hz1' := Lib.hid hz1
  have hz2' := Lib.hid hz2
  clear hg hd hz hB hS hJ hi hz0 hz1 hz2
  go_enter Try.func4, Try.ntmps4
  go_wp2_with fail
  refine (awake_any _).mono ?_
  rintro e wA ⟨rfl, kA⟩
  go_wp2_with fail
  refine (contract_any _ _ _ _).mono ?_
  rintro e w' ⟨rfl, rfl⟩
  rw [HB.out, HS.out, HJ.out]
  go_wp2_with fail
  refine (new_ok _ _ _ _ hok).mono ?_
  rintro e wN ⟨pb, rfl, hpb, kN, hacc⟩
  have kW : Below w.heap.size w wN := kA.trans (kN.mono kA.size)
  have hpw : w.heap.size ≤ pb := Nat.le_trans kA.size hpb
  go_wp2_with fail
  go_loopw [15, 16, 17, 18] (fun r l v i wr => ∃ k : Nat, k ≤ n3 ∧ k ≤ 80 ∧ i = .int .i64 k ∧ r = .int .i64 (Pp.rt B g k) ∧ l = .int .i64 (Pp.lt B J g d n4 k) ∧
      Acc wr pb B S J (Pp.lv B S J g d z n4 n5 k) (Pp.lt B J g d n4 k) ∧ Rows2 wr w.heap.size v k (fun i => Pp.lt B J g d n4 (i + 1)) (Pp.sz S z n5) ∧ Below w.heap.size w wr)
    (fun _ _ _ i _ => 80 - (intOf i).toNat)
  case atStart => exact ⟨0, Nat.zero_le _, Nat.zero_le _, rfl, rfl, rfl, hacc, World.ownsRow_nil _ _ _ _, kW⟩
  case round =>
    obtain ⟨k, hk, hk80, rfl, rfl, rfl, hac, hrow, kB⟩ := hrel
    by_cases hlt : k < n3 ∧ k < 80
    · obtain ⟨h3, h80⟩ := hlt
      obtain ⟨b, off, rfl, hb, hcell⟩ := HG.out (by omega)
      have y0 : wr.cell? ⟨b, off + k, none⟩ = some (.int .i64 (g k)) := (kB.cell (p := ⟨b, off + k, none⟩) hb).trans (hcell k h3)
      clear hcell
      have r1 := Pp.rt_bd (g := g) hB1 hB2 k
      obtain ⟨r1, r2⟩ := r1
      have r3 : 0 ≤ g k % 401 := by omega
      have r4 : g k % 401 < 401 := by omega
      have hlb := Pp.lv_bd (B := B) (S := S) (J := J) (g := g) (d := d) (z := z) (n4 := n4) (n5 := n5) hB1 hS1 hJ1 k
      obtain ⟨hl1, hl2⟩ := hlb
      have hlt1 := Pp.lt_bd (B := B) (J := J) (g := g) (d := d) (n4 := n4) hB1 hJ1 k
      obtain ⟨hlt1, hlt2⟩ := hlt1
      have hne : u17.ownBlock ≠ some pb := own_ne hrow hac (by decide)
      have hsz := kB.size
      by_cases h4 : k < n4
      · by_cases h5 : k < n5
        ·
          obtain ⟨b4, o4, rfl, hb4, hc4⟩ := HD.out (by omega)
          have y4 : wr.cell? ⟨b4, o4 + k, none⟩ = some (.int .i64 (d k)) := (kB.cell (p := ⟨b4, o4 + k, none⟩) hb4).trans (hc4 k h4)
          have m4 : 0 ≤ d k % (J + 1) := Int.emod_nonneg _ (by omega)
          have m4' : d k % (J + 1) < J + 1 := Int.emod_lt_of_pos _ (by omega)
          have e4 : Pp.own B J g d n4 k = Pp.rt B g k + (B + g k % 401) + d k % (J + 1) := by show (if _ then _ else _) = _; rw [if_pos h4]; rfl
          clear hc4
          obtain ⟨b5, o5, rfl, hb5, hc5⟩ := HZ.out (by omega)
          have y5 : wr.cell? ⟨b5, o5 + k, none⟩ = some (.int .i64 (z k)) := (kB.cell (p := ⟨b5, o5 + k, none⟩) hb5).trans (hc5 k h5)
          have m5 : 0 ≤ z k % S := Int.emod_nonneg _ (by omega)
          have m5' : z k % S < S := Int.emod_lt_of_pos _ (by omega)
          have e5 : Pp.sz S z n5 k = 1 + z k % S := by show (if _ then _ else _) = _; rw [if_pos h5]
          clear hc5
          have E5 := Lib.hid e5
          clear e5
          by_cases hm : Pp.lt B J g d n4 k < (Pp.rt B g k + (B + g k % 401) + d k % (J + 1))
          · have eL : Pp.lt B J g d n4 (k + 1) = (Pp.rt B g k + (B + g k % 401) + d k % (J + 1)) := by show max _ (Pp.own B J g d n4 k) = _; rw [e4]; omega
            have EL := Lib.hid eL
            have hgood : Pol.good B S J (Pp.lv B S J g d z n4 n5 k) (Pp.lt B J g d n4 k) (Pp.rt B g k + (B + g k % 401) + d k % (J + 1)) (1 + z k % S) = true := by have q := (Pp.lv_ge (g := g) (d := d) (z := z) (n4 := n4) (n5 := n5) hB1 hS1 hJ1 k).2; rw [E5.out, eL] at q; exact q
            have HGood := Lib.hid hgood
            have hnext : Pol.next B S J (Pp.lv B S J g d z n4 n5 k) (Pp.lt B J g d n4 k) (Pp.rt B g k + (B + g k % 401) + d k % (J + 1)) (1 + z k % S) = Pp.lv B S J g d z n4 n5 (k + 1) := by have q : Pp.lv B S J g d z n4 n5 (k + 1) = Pol.next B S J (Pp.lv B S J g d z n4 n5 k) (Pp.lt B J g d n4 k) (Pp.lt B J g d n4 (k + 1)) (Pp.sz S z n5 k) := rfl; rw [E5.out, eL] at q; exact q.symm
            have HNext := Lib.hid hnext
            clear eL e4 hgood hnext
            go_wp2_with (first
              | (go_at_call 15; refine (pick_any _ _ _ (by omega) (by omega)).mono ?_; rintro e w' ⟨rfl, rfl⟩)
              | (go_at_call 16; refine (pass_to (b := true) pb _ _ _ _ _ _ _ _ hok hac hl1 hl2 (by omega) (by omega) (by omega) (by omega) (by omega) HGood.out HNext.out).mono ?_; rintro e w1 ⟨rfl, hac1, hg1⟩)
              | (at_builtin; refine wpList_append_own _ rfl _ _ 33 rfl w.heap.size 37 i0 (.agg #[.int .i64 0, .int .i64 0]) 2 16 Try.underlying33 hi'.out hz0'.out hz1'.out hz2'.out rfl (by decide) _ _ _ rfl ((hrow.kept hg1 (.inr hne)).alloc _) ⟨w1.heap.size, 0, none⟩ 1 1 [.int .i64 (Pp.rt B g k + (B + g k % 401) + d k % (J + 1)), .int .i64 (1 + z k % S)] rfl rfl (new_two _ _ _ _) (one_two _ _) (by unfold maxLen; omega) (by omega) (by have := hg1.size; simp; omega) ?_; intro v' w2 hrow2 hg2 _))
            have kB1 : Below w.heap.size w w1 := kB.grown hg1 hsz (fun j e => by cases e; exact hpw)
            have kB2 : Below w.heap.size w w2 := (kB1.alloc kB1.size _).grown hg2 (by have := kB1.size; simp; omega) (fun j e => (hrow.lt j e).1)
            go_roundw
            case rel => exact ⟨k + 1, by omega, by omega, by go_num, rfl, by rw [EL.out], by rw [EL.out]; exact (hac1.alloc _).grown hg2 (Ne.symm hne), by show World.ownsRow _ _ _ _ _ _ (_ ++ [.int .i64 (Pp.lt B J g d n4 (k + 1)), .int .i64 (Pp.sz S z n5 k)]); rw [EL.out, E5.out]; exact hrow2, kB2⟩
            case measure => simp [intOf]; omega
          · have eL : Pp.lt B J g d n4 (k + 1) = (Pp.lt B J g d n4 k) := by show max _ (Pp.own B J g d n4 k) = _; rw [e4]; omega
            have EL := Lib.hid eL
            have hgood : Pol.good B S J (Pp.lv B S J g d z n4 n5 k) (Pp.lt B J g d n4 k) (Pp.lt B J g d n4 k) (1 + z k % S) = true := by have q := (Pp.lv_ge (g := g) (d := d) (z := z) (n4 := n4) (n5 := n5) hB1 hS1 hJ1 k).2; rw [E5.out, eL] at q; exact q
            have HGood := Lib.hid hgood
            have hnext : Pol.next B S J (Pp.lv B S J g d z n4 n5 k) (Pp.lt B J g d n4 k) (Pp.lt B J g d n4 k) (1 + z k % S) = Pp.lv B S J g d z n4 n5 (k + 1) := by have q : Pp.lv B S J g d z n4 n5 (k + 1) = Pol.next B S J (Pp.lv B S J g d z n4 n5 k) (Pp.lt B J g d n4 k) (Pp.lt B J g d n4 (k + 1)) (Pp.sz S z n5 k) := rfl; rw [E5.out, eL] at q; exact q.symm
            have HNext := Lib.hid hnext
            clear eL e4 hgood hnext
            go_wp2_with (first
              | (go_at_call 15; refine (pick_any _ _ _ (by omega) (by omega)).mono ?_; rintro e w' ⟨rfl, rfl⟩)
              | (go_at_call 16; refine (pass_to (b := true) pb _ _ _ _ _ _ _ _ hok hac hl1 hl2 (by omega) (by omega) (by omega) (by omega) (by omega) HGood.out HNext.out).mono ?_; rintro e w1 ⟨rfl, hac1, hg1⟩)
              | (at_builtin; refine wpList_append_own _ rfl _ _ 33 rfl w.heap.size 37 i0 (.agg #[.int .i64 0, .int .i64 0]) 2 16 Try.underlying33 hi'.out hz0'.out hz1'.out hz2'.out rfl (by decide) _ _ _ rfl ((hrow.kept hg1 (.inr hne)).alloc _) ⟨w1.heap.size, 0, none⟩ 1 1 [.int .i64 (Pp.lt B J g d n4 k), .int .i64 (1 + z k % S)] rfl rfl (new_two _ _ _ _) (one_two _ _) (by unfold maxLen; omega) (by omega) (by have := hg1.size; simp; omega) ?_; intro v' w2 hrow2 hg2 _))
            have kB1 : Below w.heap.size w w1 := kB.grown hg1 hsz (fun j e => by cases e; exact hpw)
            have kB2 : Below w.heap.size w w2 := (kB1.alloc kB1.size _).grown hg2 (by have := kB1.size; simp; omega) (fun j e => (hrow.lt j e).1)
            go_roundw
            case rel => exact ⟨k + 1, by omega, by omega, by go_num, rfl, by rw [EL.out], by rw [EL.out]; exact (hac1.alloc _).grown hg2 (Ne.symm hne), by show World.ownsRow _ _ _ _ _ _ (_ ++ [.int .i64 (Pp.lt B J g d n4 (k + 1)), .int .i64 (Pp.sz S z n5 k)]); rw [EL.out, E5.out]; exact hrow2, kB2⟩
            case measure => simp [intOf]; omega
        ·
          obtain ⟨b4, o4, rfl, hb4, hc4⟩ := HD.out (by omega)
          have y4 : wr.cell? ⟨b4, o4 + k, none⟩ = some (.int .i64 (d k)) := (kB.cell (p := ⟨b4, o4 + k, none⟩) hb4).trans (hc4 k h4)
          have m4 : 0 ≤ d k % (J + 1) := Int.emod_nonneg _ (by omega)
          have m4' : d k % (J + 1) < J + 1 := Int.emod_lt_of_pos _ (by omega)
          have e4 : Pp.own B J g d n4 k = Pp.rt B g k + (B + g k % 401) + d k % (J + 1) := by show (if _ then _ else _) = _; rw [if_pos h4]; rfl
          clear hc4
          have e5 : Pp.sz S z n5 k = S := by show (if _ then _ else _) = _; rw [if_neg h5]
          have E5 := Lib.hid e5
          clear e5
          by_cases hm : Pp.lt B J g d n4 k < (Pp.rt B g k + (B + g k % 401) + d k % (J + 1))
          · have eL : Pp.lt B J g d n4 (k + 1) = (Pp.rt B g k + (B + g k % 401) + d k % (J + 1)) := by show max _ (Pp.own B J g d n4 k) = _; rw [e4]; omega
            have EL := Lib.hid eL
            have hgood : Pol.good B S J (Pp.lv B S J g d z n4 n5 k) (Pp.lt B J g d n4 k) (Pp.rt B g k + (B + g k % 401) + d k % (J + 1)) S = true := by have q := (Pp.lv_ge (g := g) (d := d) (z := z) (n4 := n4) (n5 := n5) hB1 hS1 hJ1 k).2; rw [E5.out, eL] at q; exact q
            have HGood := Lib.hid hgood
            have hnext : Pol.next B S J (Pp.lv B S J g d z n4 n5 k) (Pp.lt B J g d n4 k) (Pp.rt B g k + (B + g k % 401) + d k % (J + 1)) S = Pp.lv B S J g d z n4 n5 (k + 1) := by have q : Pp.lv B S J g d z n4 n5 (k + 1) = Pol.next B S J (Pp.lv B S J g d z n4 n5 k) (Pp.lt B J g d n4 k) (Pp.lt B J g d n4 (k + 1)) (Pp.sz S z n5 k) := rfl; rw [E5.out, eL] at q; exact q.symm
            have HNext := Lib.hid hnext
            clear eL e4 hgood hnext
            go_wp2_with (first
              | (go_at_call 15; refine (pick_any _ _ _ (by omega) (by omega)).mono ?_; rintro e w' ⟨rfl, rfl⟩)
              | (go_at_call 16; refine (pass_to (b := true) pb _ _ _ _ _ _ _ _ hok hac hl1 hl2 (by omega) (by omega) (by omega) (by omega) (by omega) HGood.out HNext.out).mono ?_; rintro e w1 ⟨rfl, hac1, hg1⟩)
              | (at_builtin; refine wpList_append_own _ rfl _ _ 33 rfl w.heap.size 37 i0 (.agg #[.int .i64 0, .int .i64 0]) 2 16 Try.underlying33 hi'.out hz0'.out hz1'.out hz2'.out rfl (by decide) _ _ _ rfl ((hrow.kept hg1 (.inr hne)).alloc _) ⟨w1.heap.size, 0, none⟩ 1 1 [.int .i64 (Pp.rt B g k + (B + g k % 401) + d k % (J + 1)), .int .i64 S] rfl rfl (new_two _ _ _ _) (one_two _ _) (by unfold maxLen; omega) (by omega) (by have := hg1.size; simp; omega) ?_; intro v' w2 hrow2 hg2 _))
            have kB1 : Below w.heap.size w w1 := kB.grown hg1 hsz (fun j e => by cases e; exact hpw)
            have kB2 : Below w.heap.size w w2 := (kB1.alloc kB1.size _).grown hg2 (by have := kB1.size; simp; omega) (fun j e => (hrow.lt j e).1)
            go_roundw
            case rel => exact ⟨k + 1, by omega, by omega, by go_num, rfl, by rw [EL.out], by rw [EL.out]; exact (hac1.alloc _).grown hg2 (Ne.symm hne), by show World.ownsRow _ _ _ _ _ _ (_ ++ [.int .i64 (Pp.lt B J g d n4 (k + 1)), .int .i64 (Pp.sz S z n5 k)]); rw [EL.out, E5.out]; exact hrow2, kB2⟩
            case measure => simp [intOf]; omega
          · have eL : Pp.lt B J g d n4 (k + 1) = (Pp.lt B J g d n4 k) := by show max _ (Pp.own B J g d n4 k) = _; rw [e4]; omega
            have EL := Lib.hid eL
            have hgood : Pol.good B S J (Pp.lv B S J g d z n4 n5 k) (Pp.lt B J g d n4 k) (Pp.lt B J g d n4 k) S = true := by have q := (Pp.lv_ge (g := g) (d := d) (z := z) (n4 := n4) (n5 := n5) hB1 hS1 hJ1 k).2; rw [E5.out, eL] at q; exact q
            have HGood := Lib.hid hgood
            have hnext : Pol.next B S J (Pp.lv B S J g d z n4 n5 k) (Pp.lt B J g d n4 k) (Pp.lt B J g d n4 k) S = Pp.lv B S J g d z n4 n5 (k + 1) := by have q : Pp.lv B S J g d z n4 n5 (k + 1) = Pol.next B S J (Pp.lv B S J g d z n4 n5 k) (Pp.lt B J g d n4 k) (Pp.lt B J g d n4 (k + 1)) (Pp.sz S z n5 k) := rfl; rw [E5.out, eL] at q; exact q.symm
            have HNext := Lib.hid hnext
            clear eL e4 hgood hnext
            go_wp2_with (first
              | (go_at_call 15; refine (pick_any _ _ _ (by omega) (by omega)).mono ?_; rintro e w' ⟨rfl, rfl⟩)
              | (go_at_call 16; refine (pass_to (b := true) pb _ _ _ _ _ _ _ _ hok hac hl1 hl2 (by omega) (by omega) (by omega) (by omega) (by omega) HGood.out HNext.out).mono ?_; rintro e w1 ⟨rfl, hac1, hg1⟩)
              | (at_builtin; refine wpList_append_own _ rfl _ _ 33 rfl w.heap.size 37 i0 (.agg #[.int .i64 0, .int .i64 0]) 2 16 Try.underlying33 hi'.out hz0'.out hz1'.out hz2'.out rfl (by decide) _ _ _ rfl ((hrow.kept hg1 (.inr hne)).alloc _) ⟨w1.heap.size, 0, none⟩ 1 1 [.int .i64 (Pp.lt B J g d n4 k), .int .i64 S] rfl rfl (new_two _ _ _ _) (one_two _ _) (by unfold maxLen; omega) (by omega) (by have := hg1.size; simp; omega) ?_; intro v' w2 hrow2 hg2 _))
            have kB1 : Below w.heap.size w w1 := kB.grown hg1 hsz (fun j e => by cases e; exact hpw)
            have kB2 : Below w.heap.size w w2 := (kB1.alloc kB1.size _).grown hg2 (by have := kB1.size; simp; omega) (fun j e => (hrow.lt j e).1)
            go_roundw
            case rel => exact ⟨k + 1, by omega, by omega, by go_num, rfl, by rw [EL.out], by rw [EL.out]; exact (hac1.alloc _).grown hg2 (Ne.symm hne), by show World.ownsRow _ _ _ _ _ _ (_ ++ [.int .i64 (Pp.lt B J g d n4 (k + 1)), .int .i64 (Pp.sz S z n5 k)]); rw [EL.out, E5.out]; exact hrow2, kB2⟩
            case measure => simp [intOf]; omega
      · by_cases h5 : k < n5
        ·
          have e4 : Pp.own B J g d n4 k = Pp.rt B g k + (B + g k % 401) := by show (if _ then _ else _) = _; rw [if_neg h4]; rfl
          obtain ⟨b5, o5, rfl, hb5, hc5⟩ := HZ.out (by omega)
          have y5 : wr.cell? ⟨b5, o5 + k, none⟩ = some (.int .i64 (z k)) := (kB.cell (p := ⟨b5, o5 + k, none⟩) hb5).trans (hc5 k h5)
          have m5 : 0 ≤ z k % S := Int.emod_nonneg _ (by omega)
          have m5' : z k % S < S := Int.emod_lt_of_pos _ (by omega)
          have e5 : Pp.sz S z n5 k = 1 + z k % S := by show (if _ then _ else _) = _; rw [if_pos h5]
          clear hc5
          have E5 := Lib.hid e5
          clear e5
          by_cases hm : Pp.lt B J g d n4 k < (Pp.rt B g k + (B + g k % 401))
          · have eL : Pp.lt B J g d n4 (k + 1) = (Pp.rt B g k + (B + g k % 401)) := by show max _ (Pp.own B J g d n4 k) = _; rw [e4]; omega
            have EL := Lib.hid eL
            have hgood : Pol.good B S J (Pp.lv B S J g d z n4 n5 k) (Pp.lt B J g d n4 k) (Pp.rt B g k + (B + g k % 401)) (1 + z k % S) = true := by have q := (Pp.lv_ge (g := g) (d := d) (z := z) (n4 := n4) (n5 := n5) hB1 hS1 hJ1 k).2; rw [E5.out, eL] at q; exact q
            have HGood := Lib.hid hgood
            have hnext : Pol.next B S J (Pp.lv B S J g d z n4 n5 k) (Pp.lt B J g d n4 k) (Pp.rt B g k + (B + g k % 401)) (1 + z k % S) = Pp.lv B S J g d z n4 n5 (k + 1) := by have q : Pp.lv B S J g d z n4 n5 (k + 1) = Pol.next B S J (Pp.lv B S J g d z n4 n5 k) (Pp.lt B J g d n4 k) (Pp.lt B J g d n4 (k + 1)) (Pp.sz S z n5 k) := rfl; rw [E5.out, eL] at q; exact q.symm
            have HNext := Lib.hid hnext
            clear eL e4 hgood hnext
            go_wp2_with (first
              | (go_at_call 15; refine (pick_any _ _ _ (by omega) (by omega)).mono ?_; rintro e w' ⟨rfl, rfl⟩)
              | (go_at_call 16; refine (pass_to (b := true) pb _ _ _ _ _ _ _ _ hok hac hl1 hl2 (by omega) (by omega) (by omega) (by omega) (by omega) HGood.out HNext.out).mono ?_; rintro e w1 ⟨rfl, hac1, hg1⟩)
              | (at_builtin; refine wpList_append_own _ rfl _ _ 33 rfl w.heap.size 37 i0 (.agg #[.int .i64 0, .int .i64 0]) 2 16 Try.underlying33 hi'.out hz0'.out hz1'.out hz2'.out rfl (by decide) _ _ _ rfl ((hrow.kept hg1 (.inr hne)).alloc _) ⟨w1.heap.size, 0, none⟩ 1 1 [.int .i64 (Pp.rt B g k + (B + g k % 401)), .int .i64 (1 + z k % S)] rfl rfl (new_two _ _ _ _) (one_two _ _) (by unfold maxLen; omega) (by omega) (by have := hg1.size; simp; omega) ?_; intro v' w2 hrow2 hg2 _))
            have kB1 : Below w.heap.size w w1 := kB.grown hg1 hsz (fun j e => by cases e; exact hpw)
            have kB2 : Below w.heap.size w w2 := (kB1.alloc kB1.size _).grown hg2 (by have := kB1.size; simp; omega) (fun j e => (hrow.lt j e).1)
            go_roundw
            case rel => exact ⟨k + 1, by omega, by omega, by go_num, rfl, by rw [EL.out], by rw [EL.out]; exact (hac1.alloc _).grown hg2 (Ne.symm hne), by show World.ownsRow _ _ _ _ _ _ (_ ++ [.int .i64 (Pp.lt B J g d n4 (k + 1)), .int .i64 (Pp.sz S z n5 k)]); rw [EL.out, E5.out]; exact hrow2, kB2⟩
            case measure => simp [intOf]; omega
          · have eL : Pp.lt B J g d n4 (k + 1) = (Pp.lt B J g d n4 k) := by show max _ (Pp.own B J g d n4 k) = _; rw [e4]; omega
            have EL := Lib.hid eL
            have hgood : Pol.good B S J (Pp.lv B S J g d z n4 n5 k) (Pp.lt B J g d n4 k) (Pp.lt B J g d n4 k) (1 + z k % S) = true := by have q := (Pp.lv_ge (g := g) (d := d) (z := z) (n4 := n4) (n5 := n5) hB1 hS1 hJ1 k).2; rw [E5.out, eL] at q; exact q
            have HGood := Lib.hid hgood
            have hnext : Pol.next B S J (Pp.lv B S J g d z n4 n5 k) (Pp.lt B J g d n4 k) (Pp.lt B J g d n4 k) (1 + z k % S) = Pp.lv B S J g d z n4 n5 (k + 1) := by have q : Pp.lv B S J g d z n4 n5 (k + 1) = Pol.next B S J (Pp.lv B S J g d z n4 n5 k) (Pp.lt B J g d n4 k) (Pp.lt B J g d n4 (k + 1)) (Pp.sz S z n5 k) := rfl; rw [E5.out, eL] at q; exact q.symm
            have HNext := Lib.hid hnext
            clear eL e4 hgood hnext
            go_wp2_with (first
              | (go_at_call 15; refine (pick_any _ _ _ (by omega) (by omega)).mono ?_; rintro e w' ⟨rfl, rfl⟩)
              | (go_at_call 16; refine (pass_to (b := true) pb _ _ _ _ _ _ _ _ hok hac hl1 hl2 (by omega) (by omega) (by omega) (by omega) (by omega) HGood.out HNext.out).mono ?_; rintro e w1 ⟨rfl, hac1, hg1⟩)
              | (at_builtin; refine wpList_append_own _ rfl _ _ 33 rfl w.heap.size 37 i0 (.agg #[.int .i64 0, .int .i64 0]) 2 16 Try.underlying33 hi'.out hz0'.out hz1'.out hz2'.out rfl (by decide) _ _ _ rfl ((hrow.kept hg1 (.inr hne)).alloc _) ⟨w1.heap.size, 0, none⟩ 1 1 [.int .i64 (Pp.lt B J g d n4 k), .int .i64 (1 + z k % S)] rfl rfl (new_two _ _ _ _) (one_two _ _) (by unfold maxLen; omega) (by omega) (by have := hg1.size; simp; omega) ?_; intro v' w2 hrow2 hg2 _))
            have kB1 : Below w.heap.size w w1 := kB.grown hg1 hsz (fun j e => by cases e; exact hpw)
            have kB2 : Below w.heap.size w w2 := (kB1.alloc kB1.size _).grown hg2 (by have := kB1.size; simp; omega) (fun j e => (hrow.lt j e).1)
            go_roundw
            case rel => exact ⟨k + 1, by omega, by omega, by go_num, rfl, by rw [EL.out], by rw [EL.out]; exact (hac1.alloc _).grown hg2 (Ne.symm hne), by show World.ownsRow _ _ _ _ _ _ (_ ++ [.int .i64 (Pp.lt B J g d n4 (k + 1)), .int .i64 (Pp.sz S z n5 k)]); rw [EL.out, E5.out]; exact hrow2, kB2⟩
            case measure => simp [intOf]; omega
        ·
          have e4 : Pp.own B J g d n4 k = Pp.rt B g k + (B + g k % 401) := by show (if _ then _ else _) = _; rw [if_neg h4]; rfl
          have e5 : Pp.sz S z n5 k = S := by show (if _ then _ else _) = _; rw [if_neg h5]
          have E5 := Lib.hid e5
          clear e5
          by_cases hm : Pp.lt B J g d n4 k < (Pp.rt B g k + (B + g k % 401))
          · have eL : Pp.lt B J g d n4 (k + 1) = (Pp.rt B g k + (B + g k % 401)) := by show max _ (Pp.own B J g d n4 k) = _; rw [e4]; omega
            have EL := Lib.hid eL
            have hgood : Pol.good B S J (Pp.lv B S J g d z n4 n5 k) (Pp.lt B J g d n4 k) (Pp.rt B g k + (B + g k % 401)) S = true := by have q := (Pp.lv_ge (g := g) (d := d) (z := z) (n4 := n4) (n5 := n5) hB1 hS1 hJ1 k).2; rw [E5.out, eL] at q; exact q
            have HGood := Lib.hid hgood
            have hnext : Pol.next B S J (Pp.lv B S J g d z n4 n5 k) (Pp.lt B J g d n4 k) (Pp.rt B g k + (B + g k % 401)) S = Pp.lv B S J g d z n4 n5 (k + 1) := by have q : Pp.lv B S J g d z n4 n5 (k + 1) = Pol.next B S J (Pp.lv B S J g d z n4 n5 k) (Pp.lt B J g d n4 k) (Pp.lt B J g d n4 (k + 1)) (Pp.sz S z n5 k) := rfl; rw [E5.out, eL] at q; exact q.symm
            have HNext := Lib.hid hnext
            clear eL e4 hgood hnext
            go_wp2_with (first
              | (go_at_call 15; refine (pick_any _ _ _ (by omega) (by omega)).mono ?_; rintro e w' ⟨rfl, rfl⟩)
              | (go_at_call 16; refine (pass_to (b := true) pb _ _ _ _ _ _ _ _ hok hac hl1 hl2 (by omega) (by omega) (by omega) (by omega) (by omega) HGood.out HNext.out).mono ?_; rintro e w1 ⟨rfl, hac1, hg1⟩)
              | (at_builtin; refine wpList_append_own _ rfl _ _ 33 rfl w.heap.size 37 i0 (.agg #[.int .i64 0, .int .i64 0]) 2 16 Try.underlying33 hi'.out hz0'.out hz1'.out hz2'.out rfl (by decide) _ _ _ rfl ((hrow.kept hg1 (.inr hne)).alloc _) ⟨w1.heap.size, 0, none⟩ 1 1 [.int .i64 (Pp.rt B g k + (B + g k % 401)), .int .i64 S] rfl rfl (new_two _ _ _ _) (one_two _ _) (by unfold maxLen; omega) (by omega) (by have := hg1.size; simp; omega) ?_; intro v' w2 hrow2 hg2 _))
            have kB1 : Below w.heap.size w w1 := kB.grown hg1 hsz (fun j e => by cases e; exact hpw)
            have kB2 : Below w.heap.size w w2 := (kB1.alloc kB1.size _).grown hg2 (by have := kB1.size; simp; omega) (fun j e => (hrow.lt j e).1)
            go_roundw
            case rel => exact ⟨k + 1, by omega, by omega, by go_num, rfl, by rw [EL.out], by rw [EL.out]; exact (hac1.alloc _).grown hg2 (Ne.symm hne), by show World.ownsRow _ _ _ _ _ _ (_ ++ [.int .i64 (Pp.lt B J g d n4 (k + 1)), .int .i64 (Pp.sz S z n5 k)]); rw [EL.out, E5.out]; exact hrow2, kB2⟩
            case measure => simp [intOf]; omega
          · have eL : Pp.lt B J g d n4 (k + 1) = (Pp.lt B J g d n4 k) := by show max _ (Pp.own B J g d n4 k) = _; rw [e4]; omega
            have EL := Lib.hid eL
            have hgood : Pol.good B S J (Pp.lv B S J g d z n4 n5 k) (Pp.lt B J g d n4 k) (Pp.lt B J g d n4 k) S = true := by have q := (Pp.lv_ge (g := g) (d := d) (z := z) (n4 := n4) (n5 := n5) hB1 hS1 hJ1 k).2; rw [E5.out, eL] at q; exact q
            have HGood := Lib.hid hgood
            have hnext : Pol.next B S J (Pp.lv B S J g d z n4 n5 k) (Pp.lt B J g d n4 k) (Pp.lt B J g d n4 k) S = Pp.lv B S J g d z n4 n5 (k + 1) := by have q : Pp.lv B S J g d z n4 n5 (k + 1) = Pol.next B S J (Pp.lv B S J g d z n4 n5 k) (Pp.lt B J g d n4 k) (Pp.lt B J g d n4 (k + 1)) (Pp.sz S z n5 k) := rfl; rw [E5.out, eL] at q; exact q.symm
            have HNext := Lib.hid hnext
            clear eL e4 hgood hnext
            go_wp2_with (first
              | (go_at_call 15; refine (pick_any _ _ _ (by omega) (by omega)).mono ?_; rintro e w' ⟨rfl, rfl⟩)
              | (go_at_call 16; refine (pass_to (b := true) pb _ _ _ _ _ _ _ _ hok hac hl1 hl2 (by omega) (by omega) (by omega) (by omega) (by omega) HGood.out HNext.out).mono ?_; rintro e w1 ⟨rfl, hac1, hg1⟩)
              | (at_builtin; refine wpList_append_own _ rfl _ _ 33 rfl w.heap.size 37 i0 (.agg #[.int .i64 0, .int .i64 0]) 2 16 Try.underlying33 hi'.out hz0'.out hz1'.out hz2'.out rfl (by decide) _ _ _ rfl ((hrow.kept hg1 (.inr hne)).alloc _) ⟨w1.heap.size, 0, none⟩ 1 1 [.int .i64 (Pp.lt B J g d n4 k), .int .i64 S] rfl rfl (new_two _ _ _ _) (one_two _ _) (by unfold maxLen; omega) (by omega) (by have := hg1.size; simp; omega) ?_; intro v' w2 hrow2 hg2 _))
            have kB1 : Below w.heap.size w w1 := kB.grown hg1 hsz (fun j e => by cases e; exact hpw)
            have kB2 : Below w.heap.size w w2 := (kB1.alloc kB1.size _).grown hg2 (by have := kB1.size; simp; omega) (fun j e => (hrow.lt j e).1)
            go_roundw
            case rel => exact ⟨k + 1, by omega, by omega, by go_num, rfl, by rw [EL.out], by rw [EL.out]; exact (hac1.alloc _).grown hg2 (Ne.symm hne), by show World.ownsRow _ _ _ _ _ _ (_ ++ [.int .i64 (Pp.lt B J g d n4 (k + 1)), .int .i64 (Pp.sz S z n5 k)]); rw [EL.out, E5.out]; exact hrow2, kB2⟩
            case measure => simp [intOf]; omega
    · have hend : (k < n3 ∧ k < 80) = False := eq_false hlt
      have hcf := Pp.conforms (g := g) (d := d) (z := z) (n4 := n4) (n5 := n5) hB1 hB2 hS1 hJ1 hJ2 k hk80
      have HCf := Lib.hid hcf
      have HL : Hid (∀ i, i < k → -1099511627776 ≤ Pp.lt B J g d n4 (i + 1) ∧ Pp.lt B J g d n4 (i + 1) ≤ 1099511627776) := Lib.hid (fun i hi => by
        have q1 := Pp.lt_bd (B := B) (J := J) (g := g) (d := d) (n4 := n4) hB1 hJ1 (i + 1)
        have q2 := Pp.rt_bd (g := g) hB1 hB2 (i + 1)
        omega)
      obtain ⟨A, c, hv, hfl⟩ := hrow.flow (by omega)
      subst hv
      clear hcf hend
      by_cases h3 : k < n3
      · have h80 : ¬ k < 80 := by omega
        go_wp2_with (go_at_call 17; refine (conforms_to (b := true) _ _ _ _ _ _ _ _ _ hok hfl HL.out HCf.out).mono ?_; rintro e w1 ⟨rfl, hB1'⟩)
        go_ret
        exact ⟨rfl, kB.trans (hB1'.mono kB.size)⟩
      · go_wp2_with (go_at_call 17; refine (conforms_to (b := true) _ _ _ _ _ _ _ _ _ hok hfl HL.out HCf.out).mono ?_; rintro e w1 ⟨rfl, hB1'⟩)
        go_ret
        exact ⟨rfl, kB.trans (hB1'.mono kB.size)⟩
end Go.Proofs.Ytknfhbhaencdjaa
