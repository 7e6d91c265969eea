/-
  Sets of whatever length: the contracts of valid, Change and Order where the sets form no change.
-/
import Derived.Test.YtcjbjhkmnfegnaaOB
namespace Go.Proofs.Ytcjbjhkmnfegnaa
open Go.RowKit Go.Shelf
section
open Go.RowKit Go.Maps
set_option maxHeartbeats 1000000 in
theorem valid_big (A : Option Addr) (n c : Nat) (S : Nat → U) (w : World) (hU : UnitsIn w A n S) (hF : Fits S n) (hn : n ≤ 9223372036854775807) :
    Calls Try.prog 32 #[.slice A n c] w fun e w' => e = .returned (.bool (decide (n ≤ 8) && dis S n)) ∧ Below w.heap.size w w' := by
  obtain ⟨n1, hU⟩ := hU
  have HU := Lib.hid hU
  have HF := Lib.hid hF
  clear hU hF
  have hmm := @run_makeMap_plain Try.prog
  go_enter Try.func32, Try.ntmps32
  go_wp2_with fail
  clear hmm
  go_loopw [9] (fun i wr => ∃ (k : Nat) (D : DataW Unit), k ≤ n ∧ i = .int .i64 k ∧ wr.ownsMap Try.prog 9 (plainElem Try.prog 3) w.heap.size k D ∧ Cnt S k D ∧ Below w.heap.size w wr)
    (fun i _ => n - (intOf i).toNat)
  case atStart => exact ⟨0, .map [], Nat.zero_le _, rfl, World.ownsMap_made _ _ _ _, Cnt.start S, (Below.refl _ _).alloc (Nat.le_refl _) _⟩
  case round =>
    obtain ⟨k, D, hk, rfl, hown, hcnt, kr⟩ := hrel
    have HC := Lib.hid hcnt
    have KR := Lib.hid kr
    clear hcnt kr
    by_cases hlt : k < n
    · obtain ⟨ob, off, rfl, hb, hcell⟩ := HU.out (by omega)
      obtain ⟨c0, c1⟩ := hcell k hlt
      have y0 : wr.cell? ⟨ob, off + k * 2, none⟩ = some (.string (S k).1) := (KR.out.cell (p := ⟨ob, off + k * 2, none⟩) hb).trans c0
      have y1 : wr.cell? ⟨ob, off + k * 2 + 1, none⟩ = some (.int .i64 (S k).2) := (KR.out.cell (p := ⟨ob, off + k * 2 + 1, none⟩) hb).trans c1
      clear hcell c0 c1
      have hkey := Lib.hid (key9 (HF.out k hlt))
      have hT := Lib.hid (hown.tidy law9)
      have KA := Lib.hid (KR.out.alloc KR.out.size (.cells #[.string (S k).1, .int .i64 (S k).2] 40))
      go_wp2_with (first
        | (at_lookup; refine wpList_lookup_own_int _ rfl _ _ 72 rfl 9 3 .i64 law9 Try.underlying72 Try.underlying3 (zero3 _) w.heap.size k _ rfl (hown.alloc _) _ _ rfl hkey.out ?_; intro cv hat hwc; obtain ⟨v0, v1⟩ := HC.out.val _ _ hat; have HAT := Lib.hid hat; clear hat hwc)
        | (at_mapUpdate; refine wpList_mapUpdate_own _ rfl _ _ _ 72 rfl 9 3 law9 Try.underlying72 _ w.heap.size k _ rfl (hown.alloc _) (by unfold maxLen; omega) _ _ _ rfl rfl hkey.out _ [] (plainElem_int Try.underlying3 (wf64 (by omega) (by omega))) ?_; intro w1 hown1 hgrow1))
      have HCS := Lib.hid (HC.out.step hT.out HAT.out)
      have KG := Lib.hid (KA.out.grown hgrow1 KA.out.size (fun j e => by cases e; exact Nat.le_refl _))
      go_roundw
      case rel => exact ⟨k + 1, _, by omega, by go_num, hown1, HCS.out, KG.out⟩
      case measure => simp [intOf]; omega
    · obtain rfl : k = n := by omega
      have hlen := hown.len Try.underlying72 3
      have hle := HC.out.le
      have heq := Lib.hid HC.out.eq
      obtain ⟨sz, hsz⟩ : ∃ sz, size D = sz := ⟨_, rfl⟩
      rw [hsz] at hlen hle heq
      by_cases h8 : k ≤ 8
      · by_cases hs : sz = k
        · subst hs
          have hd : Hid (dis S sz = true) := Lib.hid (by rw [← heq.out]; simp)
          clear hsz
          go_wp2_with fail
          go_ret
          exact ⟨by simp [hd.out], KR.out⟩
        · have hd : Hid (dis S k = false) := Lib.hid (by rw [← heq.out]; simpa using hs)
          have hs' : (sz == k) = false := by simpa using hs
          have hs2 : ((sz : Int) == (k : Int)) = false := by simpa using (show (sz : Int) ≠ k by omega)
          go_wp2_with fail
          go_ret
          exact ⟨by simp [hd.out], KR.out⟩
      · go_wp2_with fail
        go_ret
        exact ⟨by simp, KR.out⟩

set_option maxHeartbeats 1000000 in
theorem change_big (A1 A2 A3 : Option Addr) (n1 c1 n2 c2 m c3 : Nat) (S T : Nat → U) (w : World) (hS : UnitsIn w A1 n1 S) (hT : UnitsIn w A2 n2 T) (hF : Fits S n1) (hn : n1 ≤ 9223372036854775807) :
    Calls Try.prog 28 #[.agg #[.slice A1 n1 c1, .slice A2 n2 c2, .slice A3 m c3]] w fun e w' => e = .returned (.bool (chg n1 n2 S T)) ∧ Below w.heap.size w w' := by
  obtain ⟨W, hW⟩ : ∃ W, w.alloc (.cells #[.slice A1 n1 c1, .slice A2 n2 c2, .slice A3 m c3] 56) = W := ⟨_, rfl⟩
  have b : Blk W w.heap.size 56 #[.slice A1 n1 c1, .slice A2 n2 c2, .slice A3 m c3] := by rw [← hW]; exact Blk.made _ _ _
  have k : Below w.heap.size w W := by rw [← hW]; exact (Below.refl _ _).alloc (Nat.le_refl _) _
  have HS := Lib.hid (hS.below k (Nat.le_refl _))
  have HT := Lib.hid (hT.below k (Nat.le_refl _))
  have HF := Lib.hid hF
  have HW := Lib.hid hW
  have B := Lib.hid b
  have K := Lib.hid k
  clear hS hT hF hW b k
  go_enter Try.func28, Try.ntmps28
  go_wp2_with fail
  rw [HW.out]
  refine (valid_big A1 n1 c1 S W HS.out HF.out hn).mono ?_
  rintro e w1 ⟨rfl, k1⟩
  have b1 := B.out.below k1 B.out.lt
  have z0 : w1.cell? ⟨w.heap.size, 0, none⟩ = some (.slice A1 n1 c1) := b1.cell 0
  have z1 : w1.cell? ⟨w.heap.size, 1, none⟩ = some (.slice A2 n2 c2) := b1.cell 1
  have HS1 := Lib.hid (HS.out.below k1 (Nat.le_refl _))
  have HT1 := Lib.hid (HT.out.below k1 (Nat.le_refl _))
  have K1 := Lib.hid (K.out.trans (k1.mono K.out.size))
  clear b1 k1
  obtain ⟨x, hx⟩ : ∃ x, (decide (n1 ≤ 8) && dis S n1) = x := ⟨_, rfl⟩
  have HE : Hid (chg n1 n2 S T = (x && (decide (n1 = n2) && eqm S T n1))) := Lib.hid (by unfold chg; rw [hx])
  rw [hx]
  clear hx
  cases x with
  | false =>
    go_wp2_with fail
    go_ret
    exact ⟨by rw [HE.out]; rfl, K1.out⟩
  | true =>
    go_wp2_with fail
    refine (equal_any A1 A2 n1 c1 n2 c2 S T w1 HS1.out HT1.out).mono ?_
    rintro e w2 ⟨rfl, k2⟩
    have K2 := Lib.hid (K1.out.trans (k2.mono K1.out.size))
    clear k2 z0 z1
    obtain ⟨y, hy⟩ : ∃ y, (decide (n1 = n2) && eqm S T n1) = y := ⟨_, rfl⟩
    rw [hy] at HE
    rw [hy]
    clear hy
    go_wp2_with fail
    go_ret
    exact ⟨by rw [HE.out]; rfl, K2.out⟩


end
attribute [local go_sem] Oper.semAt_some
set_option maxRecDepth 100000 in
set_option maxHeartbeats 2000000 in
theorem order_bad2 (A1 A2 A3 : Option Addr) (n c1 n2 c2 m c3 : Nat) (S T : Nat → U) (w : World) (hS : UnitsIn w A1 n S) (hT : UnitsIn w A2 n2 T) (hF : Fits S n) (hn : n ≤ 9223372036854775807) (hv : chg n n2 S T = false) :
    Calls Try.prog 12 #[.slice A3 m c3, .slice A1 n c1, .slice A2 n2 c2] w fun e w' => e = .returned (.tuple #[.slice none 0 0, .int .i64 2]) ∧ Below w.heap.size w w' := by
  have HS := Lib.hid hS
  have HT := Lib.hid hT
  have HF := Lib.hid hF
  have HV := Lib.hid hv
  clear hS hT hF hv
  refine (callsIn_wide (n := 5)).1 ?_
  refine callsIn_of_wp_marks Try.func12 rfl trivial ?_ rfl
  simp only [Try.ntmps12, List.size_toArray, List.length_cons, List.length_nil, Nat.reduceAdd, Nat.reduceSub, Array.replicate_succ, Array.replicate_zero, List.push_toArray, List.append_toArray, List.nil_append, List.cons_append]
  gi_wp2_with fail
  obtain ⟨W, hW⟩ : ∃ W, w.alloc (.cells #[.slice A1 n c1, .slice A2 n2 c2, .slice A3 m c3] 56) = W := ⟨_, rfl⟩
  rw [hW]
  have k : Below w.heap.size w W := by rw [← hW]; exact (Below.refl _ _).alloc (Nat.le_refl _) _
  refine ⟨trivial, ?_⟩
  refine (callsIn_wide.2 (change_big A1 A2 A3 n c1 n2 c2 m c3 S T W (HS.out.below k (Nat.le_refl _)) (HT.out.below k (Nat.le_refl _)) HF.out hn)).mono ?_
  rintro e w1 ⟨rfl, k1⟩
  rw [HV.out]
  have K1 := Lib.hid (k.trans (k1.mono k.size))
  clear k k1 hW
  gi_wp2_with fail
  refine marks_leave (B := w.heap.size) [] _ trivial (fun W' hs => ⟨_, res_two rfl, ?_⟩)
  exact ⟨rfl, K1.out.trans hs.1⟩
end Go.Proofs.Ytcjbjhkmnfegnaa
