/-
  The law RedundancyNone: the walk, which answers true. No condition.
-/
import Derived.Test.YtllabfbebidjiaaCa
namespace Go.Proofs.Ytllabfbebidjiaa
open Go.RowKit
def oS1 : St := (offer (.new 5) 3 4).1
theorem oTab : (offer (.new 5) 3 4).2 = (true, 0) ∧ recents oS1 9 = [3] := by decide +kernel
theorem selZero {w : World} {b : Nat} (h : Blk w b 58 Z58) : w.cell? ⟨b, 260, none⟩ = some (.pointer none) := by
  rw [h.cell]
  unfold Z58
  rw [Array.getElem?_push, if_pos (by simp)]
set_option maxRecDepth 100000 in
set_option maxHeartbeats 4000000 in
theorem lawNone (q t : Int) (w : World) : Calls Try.prog 11 #[.int .i64 q, .int .i64 t] w fun e w' => e = .returned (.bool true) ∧ Below w.heap.size w w' := by
  have hz := fun W => zero58 W
  have hl : Z58.size = 261 := by simp [Z58]
  have HZ := Lib.hid (fun (W : World) (b : Nat) => @selZero W b)
  generalize Z58 = Zv at *
  go_enter Try.func11, Try.ntmps11
  go_wp2_with fail
  refine (awake_any w).mono ?_
  rintro e w1 ⟨rfl, k1⟩
  have K1 := Lib.hid k1
  clear k1
  have hz1 := hz w1
  clear hz
  go_wp2_with fail
  obtain ⟨W, hW⟩ : ∃ W, (w1.alloc (.cells Zv 58)).alloc (.cells #[.pointer none, .pointer (some ⟨w1.heap.size, 0, none⟩)] 39) = W := ⟨_, rfl⟩
  rw [hW]
  have bz : Blk W w1.heap.size 58 Zv := by rw [← hW]; exact (Blk.made _ _ _).alloc _
  have bl : Blk W (w1.heap.size + 1) 39 #[.pointer none, .pointer (some ⟨w1.heap.size, 0, none⟩)] := by rw [← hW]; exact Blk.made_at _ _ _ (by simp)
  have kW : Below w1.heap.size w1 W := by rw [← hW]; exact ((Below.refl _ _).alloc (Nat.le_refl _) _).alloc (by simp) _
  have cz := HZ.out W w1.heap.size bz
  have c0 : W.cell? ⟨w1.heap.size + 1, 0, none⟩ = some (.pointer none) := bl.cell 0
  have c1 : W.cell? ⟨w1.heap.size + 1, 1, none⟩ = some (.pointer (some ⟨w1.heap.size, 0, none⟩)) := bl.cell 1
  have CZ := Lib.hid cz
  have C0 := Lib.hid c0
  have C1 := Lib.hid c1
  have LZ := Lib.hid bz.lt
  have LL := Lib.hid bl.lt
  have KW := Lib.hid (K1.out.trans (kW.mono K1.out.size))
  clear bz bl kW cz c0 c1 hW hz1 HZ hl
  generalize w1.heap.size = zb at *
  go_loopw [27] (fun i wr => ∃ k : Nat, k ≤ 2 ∧ i = .int .i64 k ∧ Below W.heap.size W wr) (fun i _ => 2 - (intOf i).toNat)
  case atStart => exact ⟨0, by omega, rfl, Below.refl _ _⟩
  case round =>
    obtain ⟨k, hk, rfl, kr⟩ := hrel
    have KR := Lib.hid kr
    clear kr
    by_cases hlt : k < 2
    · have g2 : decide ((k : Int) < 0) = false := decide_eq_false (by omega)
      have g3 : (k : Int) < 2 := by omega
      have yz := (KR.out.cell (p := ⟨zb, 260, none⟩) LZ.out).trans CZ.out
      have YZ := Lib.hid yz
      clear yz
      by_cases h0 : k = 0
      · have y0 : wr.cell? ⟨zb + 1, k, none⟩ = some (.pointer none) := by rw [h0]; exact (KR.out.cell (p := ⟨zb + 1, 0, none⟩) LL.out).trans C0.out
        clear h0
        go_wp2_with fail
        refine (offer_nil q t wr).mono ?_
        rintro e w2 ⟨rfl, rfl⟩
        go_wp2_with fail
        refine (selCounts_nil wr).mono ?_
        rintro e w3 ⟨rfl, hs3⟩
        have K3 := Lib.hid (KR.out.trans (hs3.below.mono KR.out.size))
        clear hs3
        go_wp2_with fail
        refine (recents_nil t w3).mono ?_
        rintro e w4 ⟨⟨A4, c4, rfl, _⟩, k4⟩
        have K4 := Lib.hid (K3.out.trans (k4.mono K3.out.size))
        clear k4
        rw [show ([] : List Nat).length = 0 from rfl]
        go_wp2_with fail
        go_roundw
        case rel => exact ⟨k + 1, by omega, by go_num, K4.out⟩
        case measure => simp [intOf]; omega
      · have h1 : k = 1 := by omega
        have y0 : wr.cell? ⟨zb + 1, k, none⟩ = some (.pointer (some ⟨zb, 0, none⟩)) := by rw [h1]; exact (KR.out.cell (p := ⟨zb + 1, 1, none⟩) LL.out).trans C1.out
        clear h0 h1
        go_wp2_with fail
        refine (offer_no zb q t wr YZ.out).mono ?_
        rintro e w2 ⟨rfl, rfl⟩
        go_wp2_with fail
        refine (selCounts_no zb wr YZ.out).mono ?_
        rintro e w3 ⟨rfl, hs3⟩
        have K3 := Lib.hid (KR.out.trans (hs3.below.mono KR.out.size))
        have YZ3 := Lib.hid (hs3.cell YZ.out)
        clear hs3
        go_wp2_with fail
        refine (recents_no zb t w3 YZ3.out).mono ?_
        rintro e w4 ⟨⟨A4, c4, rfl, _⟩, k4⟩
        have K4 := Lib.hid (K3.out.trans (k4.mono K3.out.size))
        clear k4
        rw [show ([] : List Nat).length = 0 from rfl]
        go_wp2_with fail
        go_roundw
        case rel => exact ⟨k + 1, by omega, by go_num, K4.out⟩
        case measure => simp [intOf]; omega
    · obtain rfl : k = 2 := by omega
      go_wp2_with fail
      refine (selNew_ok 5 wr (by omega) (by omega)).mono ?_
      rintro e w2 ⟨sb, rfl, hsb, k2, s2⟩
      go_wp2_with fail
      refine (selNew_ok 5 w2 (by omega) (by omega)).mono ?_
      rintro e w3 ⟨ub, rfl, hub, k3, u3⟩
      have kW := KW.out.trans (KR.out.mono KW.out.size)
      have k12 := kW.trans (k2.mono kW.size)
      have K3 := Lib.hid (k12.trans (k3.mono k12.size))
      have S3 := Lib.hid (s2.kept k3)
      have U3 := Lib.hid u3
      have NE : Hid (sb ≠ ub) := Lib.hid (by have := s2.lt; omega)
      have SB : Hid (w.heap.size ≤ sb) := Lib.hid (Nat.le_trans kW.size hsb)
      have UB : Hid (w.heap.size ≤ ub) := Lib.hid (Nat.le_trans k12.size hub)
      have HO := Lib.hid (fun (V : World) (b : Nat) (h : SelW V b (.new 5)) => offer_any b (.new 5) 3 4 V h (St.Ok.new (by omega) (by omega)) (by simp [St.new]) (by simp [St.new]))
      have OT := Lib.hid oTab.1
      have OR := Lib.hid oTab.2
      have OS : Hid ((offer (.new 5) 3 4).1 = oS1) := Lib.hid rfl
      have HD : Hid ((St.new 5).del = 0 ∧ (St.new 5).drp = 0) := Lib.hid ⟨rfl, rfl⟩
      clear k2 k3 s2 u3 hsb hub kW k12
      obtain ⟨os, hos⟩ : ∃ os, offer (.new 5) 3 4 = os := ⟨_, rfl⟩
      rw [hos] at HO OT OS
      obtain ⟨s1, r⟩ := os
      obtain rfl : r = (true, 0) := OT.out
      obtain rfl : s1 = oS1 := OS.out
      generalize oS1 = s1 at *
      generalize St.new 5 = sn at *
      clear hos OT OS
      go_wp2_with fail
      refine (HO.out w3 sb S3.out).mono ?_
      rintro e w4 ⟨rfl, s4, g4⟩
      have S4 := Lib.hid s4
      have U4 := Lib.hid (U3.out.grown g4 (fun e => NE.out (by injection e with e; exact e.symm)))
      have K4 := Lib.hid (offer_below K3.out g4 SB.out)
      clear s4 g4
      go_wp2_with fail
      refine (selCounts_any ub sn w4 U4.out).mono ?_
      rintro e w5 ⟨rfl, hs5⟩
      rw [HD.out.1, HD.out.2]
      have S5 := Lib.hid (hs5.sel S4.out)
      have U5 := Lib.hid (hs5.sel U4.out)
      have K5 := Lib.hid (K4.out.trans (hs5.below.mono K4.out.size))
      clear hs5
      go_wp2_with fail
      refine (HO.out w5 ub U5.out).mono ?_
      rintro e w6 ⟨rfl, u6, g6⟩
      have S6 := Lib.hid (S5.out.grown g6 (fun e => NE.out (by injection e)))
      have K6 := Lib.hid (offer_below K5.out g6 UB.out)
      clear u6 g6
      go_wp2_with fail
      refine (recents_any sb s1 9 w6 S6.out).mono ?_
      rw [OR.out]
      rintro e w7 ⟨⟨A7, c7, rfl, n7⟩, k7⟩
      have N7 := Lib.hid n7
      have K7 := Lib.hid (K6.out.trans (k7.mono K6.out.size))
      clear n7 k7
      go_wp2_with fail
      have b9 := Blk.made w7 3 #[.int .i64 3]
      have k9 : Below w7.heap.size w7 (w7.alloc (.cells #[.int .i64 3] 3)) := (Below.refl _ _).alloc (Nat.le_refl _) _
      refine (ints_any A7 _ c7 1 [3] [3] _ (N7.out.below k9 (Nat.le_refl _)) (nums_built (z := [3]) b9) (by simp)).mono ?_
      rintro e w10 ⟨rfl, k10⟩
      rw [show decide (([3] : List Nat) = [3]) = true from rfl]
      have K10 := Lib.hid (K7.out.trans ((k9.trans (k10.mono k9.size)).mono K7.out.size))
      clear b9 k9 k10
      go_wp2_with fail
      go_ret
      exact ⟨rfl, K10.out⟩
end Go.Proofs.Ytllabfbebidjiaa
