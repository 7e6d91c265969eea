/-
  The contract of the document's Recent (nacelleref21), at a selector that agrees with the program's: it lists what Recent lists. Conditions: the skew is one, the clock is none before 0, at most a million deliveries. And of Pick (nacellekit).
-/
import Derived.Test.YtllabfbebidjiaaR2
import Derived.OwnWalk
namespace Go.Proofs.Ytllabfbebidjiaa
open Go.RowKit
set_option maxRecDepth 100000 in
set_option maxHeartbeats 4000000 in
theorem refRecent_any (s : St) (r : RS) (A : Option Addr) (c : Nat) (t : Int) (w : World) (hL : DelIn w A c r.L) (hr : Rel s r) (hok : r.Ok) (hl : r.L.length ≤ 1000000) :
    Calls Try.prog 47 #[rV r A c, .int .i64 t] w (RPost (recents s t) w) := by
  obtain ⟨i0, hi, hz0, hz1, hz2⟩ := info_parts Try.info3'
  have hi' := Lib.hid hi
  have hz0' := Lib.hid hz0
  have hz1' := Lib.hid hz1
  have hz2' := Lib.hid hz2
  clear hi hz0 hz1 hz2
  have hnow := hr.now
  have hhit := hr.hits
  obtain ⟨skew, now, drp, L⟩ := r
  have n0 : 0 ≤ now := hok.n0
  have k0 : 0 ≤ skew := hok.k0
  have k1 : skew ≤ 1073741824 := hok.k1
  have hl' : L.length ≤ 1000000 := hl
  dsimp only at hnow hhit hL
  have HD := Lib.hid hL
  have HH := Lib.hid hhit
  unfold rV recents
  rw [hnow]
  obtain ⟨nx, hnx⟩ : ∃ nx, s.nxt = nx := ⟨_, rfl⟩
  rw [hnx] at HH ⊢
  obtain ⟨len, hlen⟩ : ∃ len, L.length = len := ⟨_, rfl⟩
  have HLen := Lib.hid hlen
  dsimp only
  rw [hlen]
  have hlb : len ≤ 1000000 := by rw [← hlen]; exact hl'
  clear hok hl hl' hr hL hhit hnow hnx hlen
  by_cases h0 : now ≤ t
  · by_cases h1 : t ≤ 1073741824
    · have hm : mvs now t = true := by simp [mvs, h0, h1]
      rw [hm, if_pos rfl]
      have HR : Hid (∀ M, M = 256 → rcs nx t 256 = rcs nx t M) := Lib.hid (fun M h => by rw [h])
      obtain ⟨z, hz⟩ : ∃ z, rcs nx t 256 = z := ⟨_, rfl⟩
      rw [hz] at HR ⊢
      clear hz hm
      have t0 : 0 ≤ t := by omega
      go_enter Try.func47, Try.ntmps47
      go_wp2_with fail
      obtain ⟨W, hW⟩ : ∃ W, w.alloc (.cells #[.int .i64 skew, .int .i64 now, .int .i64 drp, .slice A len c] 84) = W := ⟨_, rfl⟩
      rw [hW]
      have b1 : Blk W w.heap.size 84 #[.int .i64 skew, .int .i64 now, .int .i64 drp, .slice A len c] := by rw [← hW]; exact Blk.made _ _ _
      have kW : Below w.heap.size w W := by rw [← hW]; exact (Below.refl _ _).alloc (Nat.le_refl _) _
      have B1 := Lib.hid b1
      have KW := Lib.hid kW
      clear b1 kW hW
      go_loopw [5, 6] (fun v i wr => ∃ k : Nat, k ≤ 256 ∧ i = .int .i64 k ∧ wr.ownsRow w.heap.size 3 1 v (rcs nx t k).length (nV (rcs nx t k)) ∧ Blk wr w.heap.size 84 #[.int .i64 skew, .int .i64 now, .int .i64 drp, .slice A len c] ∧ Below w.heap.size w wr)
        (fun _ i _ => 256 - (intOf i).toNat)
      case atStart => exact ⟨0, Nat.zero_le _, rfl, World.ownsRow_nil _ _ _ _, B1.out, KW.out⟩
      case round =>
        obtain ⟨k, hk, rfl, hrow, hb, kr⟩ := hrel
        have v0 : wr.cell? ⟨w.heap.size, 0, none⟩ = some (.int .i64 skew) := hb.cell 0
        have v1 : wr.cell? ⟨w.heap.size, 1, none⟩ = some (.int .i64 now) := hb.cell 1
        have v2 : wr.cell? ⟨w.heap.size, 2, none⟩ = some (.int .i64 drp) := hb.cell 2
        have v3 : wr.cell? ⟨w.heap.size, 3, none⟩ = some (.slice A len c) := hb.cell 3
        have HROW := Lib.hid hrow
        have HB := Lib.hid hb
        have KR := Lib.hid kr
        clear hrow hb kr
        by_cases hlt : k < 256
        · have g3 : (k : Int) < 256 := by omega
          have hcall := refRec_any A c skew now drp k t L wr (HD.out.below KR.out (Nat.le_refl _)) k0 k1 t0 h1 (by rw [HLen.out]; exact hlb)
          rw [HLen.out] at hcall
          have HC := Lib.hid hcall
          have hle := rcs_len nx t k
          have hany := HH.out k t h0
          clear hcall
          by_cases htx : t < nx k
          · have hA1 : L.any (hit skew k t) = true := hany.2 htx
            have HR1 : Hid (rcs nx t (k + 1) = rcs nx t k ++ [k]) := Lib.hid (by rw [rcs, if_pos htx])
            rw [hA1] at HC
            clear hany hA1 htx
            obtain ⟨lr, hlr⟩ : ∃ lr, (rcs nx t k).length = lr := ⟨_, rfl⟩
            have HLR := Lib.hid hlr
            rw [hlr] at hle HROW
            clear hlr
            go_wp2_with fail
            refine HC.out.mono ?_
            rintro e w5 ⟨rfl, k5⟩
            have hr5 := HROW.out.kept (row := none) ⟨k5.os, k5.tape, k5.output, k5.size, fun i hi _ => k5.block i hi⟩ (Classical.em _)
            have HB5 := Lib.hid (HB.out.below k5 HB.out.lt)
            have K5 := Lib.hid (KR.out.trans (k5.mono KR.out.size))
            clear k5
            go_wp2_with (at_builtin; refine wpList_append_own _ rfl _ _ 27 rfl w.heap.size 3 i0 (.int .i64 0) 1 8 Try.underlying27 hi'.out hz0'.out hz1'.out hz2'.out rfl (by decide) _ _ _ rfl (hr5.alloc _) ⟨w5.heap.size, 0, none⟩ 1 1 [.int .i64 (k : Int)] rfl rfl (new_one _ _ _) (one_one _) (by unfold maxLen; omega) (by omega) (by have := K5.out.size; simp; omega) ?_; intro v' w6 hrow2 hg2 _)
            have hb6 : Blk w6 w.heap.size 84 #[.int .i64 skew, .int .i64 now, .int .i64 drp, .slice A len c] := (HB5.out.alloc _).grown hg2 (Ne.symm (own_ne (hr5.alloc (.cells #[.int .i64 (k : Int)] 3)) (HB5.out.alloc _) (by decide)))
            have kB2 : Below w.heap.size w w6 := (K5.out.alloc K5.out.size _).grown hg2 (by have := K5.out.size; simp; omega) (fun j e => (hr5.lt j e).1)
            go_roundw
            case rel => exact ⟨k + 1, by omega, by go_num, by rw [HR1.out, List.length_append, HLR.out, show nV (rcs nx t k ++ [k]) = nV (rcs nx t k) ++ [.int .i64 (k : Int)] by simp [nV]]; exact hrow2, hb6, kB2⟩
            case measure => simp [intOf]; omega
          · have hA1 : L.any (hit skew k t) = false := by
              cases hh : L.any (hit skew k t) with
              | false => rfl
              | true => exact absurd (hany.1 hh) htx
            have HR1 : Hid (rcs nx t (k + 1) = rcs nx t k) := Lib.hid (by rw [rcs, if_neg htx])
            rw [hA1] at HC
            clear hany hA1 htx
            go_wp2_with fail
            refine HC.out.mono ?_
            rintro e w5 ⟨rfl, k5⟩
            have HR5 := Lib.hid (HROW.out.kept (row := none) ⟨k5.os, k5.tape, k5.output, k5.size, fun i hi _ => k5.block i hi⟩ (Classical.em _))
            have HB5 := Lib.hid (HB.out.below k5 HB.out.lt)
            have K5 := Lib.hid (KR.out.trans (k5.mono KR.out.size))
            clear k5
            go_wp2_with fail
            go_roundw
            case rel => exact ⟨k + 1, by omega, by go_num, by rw [HR1.out]; exact HR5.out, HB5.out, K5.out⟩
            case measure => simp [intOf]; omega
        · have hk2 : k = 256 := by omega
          have hge : ¬ (k : Int) < 256 := by omega
          have hrow := HROW.out
          rw [← HR.out k hk2] at hrow
          obtain ⟨A1, c1, rfl, hn⟩ := own_nums hrow
          have HN := Lib.hid hn
          clear hrow hn hk2
          go_wp2_with fail
          go_ret
          exact ⟨⟨_, _, rfl, HN.out⟩, KR.out⟩
    · have hm : mvs now t = false := by simp [mvs, h1]
      rw [hm, if_neg (by simp)]
      clear hm
      go_enter Try.func47, Try.ntmps47
      go_wp2_with fail
      obtain ⟨W, hW⟩ : ∃ W, w.alloc (.cells #[.int .i64 skew, .int .i64 now, .int .i64 drp, .slice A len c] 84) = W := ⟨_, rfl⟩
      rw [hW]
      have b1 : Blk W w.heap.size 84 #[.int .i64 skew, .int .i64 now, .int .i64 drp, .slice A len c] := by rw [← hW]; exact Blk.made _ _ _
      have KW : Hid (Below w.heap.size w W) := Lib.hid (by rw [← hW]; exact (Below.refl _ _).alloc (Nat.le_refl _) _)
      have v1 : W.cell? ⟨w.heap.size, 1, none⟩ = some (.int .i64 now) := b1.cell 1
      clear b1 hW
      go_loopw [5, 6] (fun v i wr => v = .slice none 0 0 ∧ i = .int .i64 0 ∧ W = wr) (fun _ _ _ => 0)
      case atStart => exact ⟨rfl, rfl, rfl⟩
      case round =>
        obtain ⟨rfl, rfl, rfl⟩ := hrel
        go_wp2_with fail
        go_ret
        exact ⟨⟨none, 0, rfl, fun h => absurd h (by simp)⟩, KW.out⟩
  · have hm : mvs now t = false := by simp [mvs, h0]
    rw [hm, if_neg (by simp)]
    clear hm
    go_enter Try.func47, Try.ntmps47
    go_wp2_with fail
    obtain ⟨W, hW⟩ : ∃ W, w.alloc (.cells #[.int .i64 skew, .int .i64 now, .int .i64 drp, .slice A len c] 84) = W := ⟨_, rfl⟩
    rw [hW]
    have b1 : Blk W w.heap.size 84 #[.int .i64 skew, .int .i64 now, .int .i64 drp, .slice A len c] := by rw [← hW]; exact Blk.made _ _ _
    have KW : Hid (Below w.heap.size w W) := Lib.hid (by rw [← hW]; exact (Below.refl _ _).alloc (Nat.le_refl _) _)
    have v1 : W.cell? ⟨w.heap.size, 1, none⟩ = some (.int .i64 now) := b1.cell 1
    clear b1 hW
    go_loopw [5, 6] (fun v i wr => v = .slice none 0 0 ∧ i = .int .i64 0 ∧ W = wr) (fun _ _ _ => 0)
    case atStart => exact ⟨rfl, rfl, rfl⟩
    case round =>
      obtain ⟨rfl, rfl, rfl⟩ := hrel
      go_wp2_with fail
      go_ret
      exact ⟨⟨none, 0, rfl, fun h => absurd h (by simp)⟩, KW.out⟩
/-- Pick: a number below m, whatever n -/
def pick (n m : Int) : Int := if m < 1 then 0 else if n.tmod m < 0 then n.tmod m + m else n.tmod m
theorem pick_bd (n : Int) {m : Int} (h : 1 ≤ m) : 0 ≤ pick n m ∧ pick n m < m := by
  have h1 := Int.tmod_lt_of_pos n (show (0 : Int) < m by omega)
  have h2 := Int.neg_tmod n m
  have h3 := Int.tmod_lt_of_pos (-n) (show (0 : Int) < m by omega)
  unfold pick
  rw [if_neg (by omega)]
  split <;> omega
end Go.Proofs.Ytllabfbebidjiaa
