/-
  The contract of the laws' own helper awake: the example answers as it says. No condition.
-/
import Derived.Test.YtllabfbebidjiaaS6
namespace Go.Proofs.Ytllabfbebidjiaa
open Go.RowKit
def aS (k : Nat) : Int := [1, 1, 2, 1, 2, 2].getD k 0
def aT (k : Nat) : Int := [5, 15, 15, 16, 25, 26].getD k 0
def aW (k : Nat) : Bool := [true, false, true, true, false, true].getD k false
def sA : Nat → St
  | 0 => .new 10
  | k + 1 => (offer (sA k) (aS k) (aT k)).1
theorem sA_tab : ∀ k : Fin 6, (offer (sA k.val) (aS k.val) (aT k.val)).2 = (aW k.val, 0) := by decide +kernel
theorem sA_off {k : Nat} (h : k < 6) : offer (sA k) (aS k) (aT k) = (sA (k + 1), aW k, 0) := by
  have := sA_tab ⟨k, h⟩
  rw [sA]
  exact Prod.ext rfl this
theorem sA_ok : ∀ k, (sA k).Ok
  | 0 => St.Ok.new (by omega) (by omega)
  | k + 1 => (sA_ok k).offer _ _
theorem sA_cnt : ∀ k, (sA k).del + (sA k).drp ≤ k
  | 0 => by simp [sA, St.new]
  | k + 1 => by
    have h1 := sA_cnt k
    have h2 := offer_cnt (sA k) (aS k) (aT k)
    rw [sA]
    omega
theorem sA_rec : recents (sA 6) 26 = [1, 2] ∧ recents (sA 6) 27 = [2] := by decide +kernel
def mN (k : Nat) : Int := [0, 1, 0, 1, 1].getD k 0
def mQ (k : Nat) : Int := [1, 1, 4, 2, 3].getD k 0
def mT (k : Nat) : Int := [0, 3, 20, 21, 30].getD k 0
theorem mA_ok : ∀ k : Fin 5, mok 10 mN mQ mT k.val = true := by decide +kernel
theorem mA_out : mout 10 mN mQ mT 5 = [true, false, false, true, true] := by decide +kernel
theorem nums_built {W : World} {g : Nat} {t : TypeId} {z : List Nat} (h : Blk W g t (nV z).toArray) : NumsIn W (some ⟨g, 0, none⟩) z := fun _ => ⟨g, rfl, h.lt, fun k hk => by
  rw [h.cell]
  simp [nV, hk]⟩
set_option maxRecDepth 100000 in
set_option maxHeartbeats 4000000 in
theorem awake_any (w : World) : Calls Try.prog 12 #[] w fun e w' => e = .returned (.bool true) ∧ Below w.heap.size w w' := by
  go_enter Try.func12, Try.ntmps12
  go_wp2_with fail
  refine (selNew_ok 10 w (by omega) (by omega)).mono ?_
  rintro e w1 ⟨sb, rfl, hsb, k1, s1⟩
  go_wp2_with fail
  obtain ⟨W, hW⟩ : ∃ W, (w1.alloc (.cells #[.int .i64 1, .int .i64 5, .int .i64 1, .int .i64 15, .int .i64 2, .int .i64 15, .int .i64 1, .int .i64 16, .int .i64 2, .int .i64 25, .int .i64 2, .int .i64 26] 64)).alloc (.cells #[.bool true, .bool false, .bool true, .bool true, .bool false, .bool true] 4) = W := ⟨_, rfl⟩
  rw [hW]
  have b1 : Blk W w1.heap.size 64 #[.int .i64 1, .int .i64 5, .int .i64 1, .int .i64 15, .int .i64 2, .int .i64 15, .int .i64 1, .int .i64 16, .int .i64 2, .int .i64 25, .int .i64 2, .int .i64 26] := by rw [← hW]; exact (Blk.made _ _ _).alloc _
  have b2 : Blk W (w1.heap.size + 1) 4 #[.bool true, .bool false, .bool true, .bool true, .bool false, .bool true] := by rw [← hW]; exact Blk.made_at _ _ _ (by simp)
  have kW : Below w1.heap.size w1 W := by rw [← hW]; exact ((Below.refl _ _).alloc (Nat.le_refl _) _).alloc (by simp) _
  have hc1 : ∀ k, k < 6 → W.cell? ⟨w1.heap.size, k * 2, none⟩ = some (.int .i64 (aS k)) ∧ W.cell? ⟨w1.heap.size, k * 2 + 1, none⟩ = some (.int .i64 (aT k)) := fun k hk => by
    rw [b1.cell, b1.cell]
    match k, hk with
    | 0, _ => exact ⟨rfl, rfl⟩
    | 1, _ => exact ⟨rfl, rfl⟩
    | 2, _ => exact ⟨rfl, rfl⟩
    | 3, _ => exact ⟨rfl, rfl⟩
    | 4, _ => exact ⟨rfl, rfl⟩
    | 5, _ => exact ⟨rfl, rfl⟩
  have hc2 : ∀ k, k < 6 → W.cell? ⟨w1.heap.size + 1, k, none⟩ = some (.bool (aW k)) := fun k hk => by
    rw [b2.cell]
    match k, hk with
    | 0, _ => rfl
    | 1, _ => rfl
    | 2, _ => rfl
    | 3, _ => rfl
    | 4, _ => rfl
    | 5, _ => rfl
  have HC1 := Lib.hid hc1
  have HC2 := Lib.hid hc2
  have L1 := Lib.hid b1.lt
  have L2 := Lib.hid b2.lt
  have SW := Lib.hid (s1.kept kW)
  have KW := Lib.hid (k1.trans (kW.mono k1.size))
  have N1 : Hid (w1.heap.size ≠ sb) := Lib.hid (by have := s1.lt; omega)
  have N2 : Hid (w1.heap.size + 1 ≠ sb) := Lib.hid (by have := s1.lt; omega)
  clear b1 b2 kW hc1 hc2 hW k1 s1
  generalize w1.heap.size = lb at *
  go_loopw [5] (fun i wr => ∃ k : Nat, k ≤ 6 ∧ i = .int .i64 k ∧ SelW wr sb (sA k) ∧ W.grownBy wr (some sb))
    (fun i _ => 6 - (intOf i).toNat)
  case atStart => exact ⟨0, Nat.zero_le _, rfl, SW.out, World.grownBy.refl _ _⟩
  case round =>
    obtain ⟨k, hk, rfl, hs, hg⟩ := hrel
    have HS := Lib.hid hs
    have HG := Lib.hid hg
    clear hs hg
    by_cases hlt : k < 6
    · obtain ⟨c0, c1⟩ := HC1.out k hlt
      have bl := HG.out.block lb L1.out (fun e => N1.out (by injection e))
      have bl2 := HG.out.block (lb + 1) L2.out (fun e => N2.out (by injection e))
      have y0 := (World.cell?_of_block (a := ⟨lb, k * 2, none⟩) bl).trans c0
      have y1 := (World.cell?_of_block (a := ⟨lb, k * 2 + 1, none⟩) bl).trans c1
      have y2 := (World.cell?_of_block (a := ⟨lb + 1, k, none⟩) bl2).trans (HC2.out k hlt)
      have z0 := Lib.hid c0
      have z1 := Lib.hid c1
      have z2 := Lib.hid (HC2.out k hlt)
      clear c0 c1 bl bl2
      have g2 : decide ((k : Int) < 0) = false := decide_eq_false (by omega)
      have g3 : (k : Int) < 6 := by omega
      have HO := Lib.hid (fun (V : World) (hV : SelW V sb (sA k)) => offer_any sb (sA k) (aS k) (aT k) V hV (sA_ok k) (by have := sA_cnt k; have := (sA_ok k).r0; omega) (by have := sA_cnt k; have := (sA_ok k).d0; omega))
      rw [sA_off hlt] at HO
      generalize aS k = q at *
      generalize aT k = t at *
      generalize aW k = b at *
      go_wp2_with fail
      go_region_held3 (fun w' : World => w'.cell? ⟨lb, k * 2, none⟩ = some (.int .i64 q) ∧ w'.cell? ⟨lb, k * 2 + 1, none⟩ = some (.int .i64 t))
        (first | exact ⟨y0, y1⟩ | exact ⟨v0, v1⟩)
        ((go_at_call 17; refine (HO.out _ (by exact HS.out)).mono ?_; rintro e w5 ⟨rfl, hs5, hb5⟩
          have hg5 : W.grownBy w5 (some sb) := (gb_drew HG.out).trans hb5
          have bl := hg5.block lb L1.out (fun e => N1.out (by injection e))
          have bl2 := hg5.block (lb + 1) L2.out (fun e => N2.out (by injection e))
          have v0 : w5.cell? ⟨lb, k * 2, none⟩ = some (.int .i64 q) := (World.cell?_of_block (a := ⟨lb, k * 2, none⟩) bl).trans z0.out
          have v1 : w5.cell? ⟨lb, k * 2 + 1, none⟩ = some (.int .i64 t) := (World.cell?_of_block (a := ⟨lb, k * 2 + 1, none⟩) bl).trans z1.out
          have v2 : w5.cell? ⟨lb + 1, k, none⟩ = some (.bool b) := (World.cell?_of_block (a := ⟨lb + 1, k, none⟩) bl2).trans z2.out
          have HS5 := Lib.hid hs5
          have HG5 := Lib.hid hg5
          clear hs5 hb5 hg5 bl bl2))
      rename_i hHeld
      clear hHeld v0 v1
      go_wp2_with fail
      go_roundw
      case rel => exact ⟨k + 1, by omega, by go_num, HS5.out, HG5.out⟩
      case measure => simp [intOf]; omega
    · obtain rfl : k = 6 := by omega
      have KR : Hid (Below w.heap.size w wr) := Lib.hid (KW.out.grown HG.out KW.out.size (fun i e => by injection e with e; omega))
      clear HG
      go_wp2_with fail
      obtain ⟨W3, hW3⟩ : ∃ W3, wr.alloc (.cells #[.int .i64 0, .int .i64 1, .int .i64 0, .int .i64 1, .int .i64 1, .int .i64 3, .int .i64 0, .int .i64 4, .int .i64 20, .int .i64 1, .int .i64 2, .int .i64 21, .int .i64 1, .int .i64 3, .int .i64 30] 31) = W3 := ⟨_, rfl⟩
      rw [hW3]
      have b3 : Blk W3 wr.heap.size 31 #[.int .i64 0, .int .i64 1, .int .i64 0, .int .i64 1, .int .i64 1, .int .i64 3, .int .i64 0, .int .i64 4, .int .i64 20, .int .i64 1, .int .i64 2, .int .i64 21, .int .i64 1, .int .i64 3, .int .i64 30] := by rw [← hW3]; exact Blk.made _ _ _
      have S3 := Lib.hid (show SelW W3 sb (sA 6) by rw [← hW3]; exact HS.out.alloc _)
      have K3 := Lib.hid (show Below w.heap.size w W3 by rw [← hW3]; exact KR.out.alloc KR.out.size _)
      have harr : ArrIn W3 (some ⟨wr.heap.size, 0, none⟩) 5 mN mQ mT := ⟨by omega, fun _ => ⟨wr.heap.size, 0, rfl, b3.lt, fun k hk => by
        rw [b3.cell, b3.cell, b3.cell]
        match k, hk with
        | 0, _ => exact ⟨rfl, rfl, rfl⟩
        | 1, _ => exact ⟨rfl, rfl, rfl⟩
        | 2, _ => exact ⟨rfl, rfl, rfl⟩
        | 3, _ => exact ⟨rfl, rfl, rfl⟩
        | 4, _ => exact ⟨rfl, rfl, rfl⟩⟩⟩
      refine (merge_ok 10 _ 5 5 mN mQ mT W3 harr (by omega) (by omega) (by omega)).mono ?_
      clear b3 hW3 harr KR HS
      rintro e w4 ⟨k4, (⟨_, A4, c4, rfl, hb4⟩ | ⟨⟨j, hj, hbad⟩, _⟩)⟩
      rotate_left
      · rw [mA_ok ⟨j, hj⟩] at hbad
        cases hbad
      rw [mA_out] at hb4
      obtain ⟨g4, rfl, hg4, hc4⟩ := hb4 (by simp)
      have L4 := Lib.hid hg4
      have c40 := Lib.hid (show w4.cell? ⟨g4, 0, none⟩ = some (.bool true) from hc4 0 (by simp))
      have c41 := Lib.hid (show w4.cell? ⟨g4, 1, none⟩ = some (.bool false) from hc4 1 (by simp))
      have c42 := Lib.hid (show w4.cell? ⟨g4, 2, none⟩ = some (.bool false) from hc4 2 (by simp))
      have c43 := Lib.hid (show w4.cell? ⟨g4, 3, none⟩ = some (.bool true) from hc4 3 (by simp))
      have c44 := Lib.hid (show w4.cell? ⟨g4, 4, none⟩ = some (.bool true) from hc4 4 (by simp))
      have S4 := Lib.hid (S3.out.kept k4)
      have K4 := Lib.hid (K3.out.trans (k4.mono K3.out.size))
      clear hb4 hg4 hc4 k4 S3 K3
      go_wp2_with fail
      refine (recents_any sb (sA 6) 26 w4 S4.out).mono ?_
      rw [sA_rec.1]
      rintro e w5 ⟨⟨A5, c5, rfl, n5⟩, k5⟩
      have N5 := Lib.hid n5
      have K5 := Lib.hid k5
      clear n5 k5
      go_wp2_with fail
      have b6 := Blk.made w5 3 #[.int .i64 1, .int .i64 2]
      have k6 : Below w5.heap.size w5 (w5.alloc (.cells #[.int .i64 1, .int .i64 2] 3)) := (Below.refl _ _).alloc (Nat.le_refl _) _
      refine (ints_any A5 _ c5 2 [1, 2] [1, 2] _ (N5.out.below k6 (Nat.le_refl _)) (nums_built (z := [1, 2]) b6) (by simp)).mono ?_
      rintro e w7 ⟨rfl, k7⟩
      rw [show decide (([1, 2] : List Nat) = [1, 2]) = true from rfl]
      have K7 : Hid (Below w4.heap.size w4 w7) := Lib.hid (K5.out.trans ((k6.trans (k7.mono k6.size)).mono K5.out.size))
      have S7 := Lib.hid (S4.out.kept K7.out)
      clear b6 k6 k7 N5 K5
      go_wp2_with fail
      refine (recents_any sb (sA 6) 27 w7 S7.out).mono ?_
      rw [sA_rec.2]
      rintro e w8 ⟨⟨A8, c8, rfl, n8⟩, k8⟩
      have N8 := Lib.hid n8
      have K8 := Lib.hid k8
      clear n8 k8
      go_wp2_with fail
      have b9 := Blk.made w8 3 #[.int .i64 2]
      have k9 : Below w8.heap.size w8 (w8.alloc (.cells #[.int .i64 2] 3)) := (Below.refl _ _).alloc (Nat.le_refl _) _
      refine (ints_any A8 _ c8 1 [2] [2] _ (N8.out.below k9 (Nat.le_refl _)) (nums_built (z := [2]) b9) (by simp)).mono ?_
      rintro e w10 ⟨rfl, k10⟩
      rw [show decide (([2] : List Nat) = [2]) = true from rfl]
      have K10 : Hid (Below w4.heap.size w4 w10) := Lib.hid (K7.out.trans ((K8.out.trans ((k9.trans (k10.mono k9.size)).mono K8.out.size)).mono K7.out.size))
      clear b9 k9 k10 N8 K8
      have d0 := (K10.out.cell (p := ⟨g4, 0, none⟩) L4.out).trans c40.out
      have d1 := (K10.out.cell (p := ⟨g4, 1, none⟩) L4.out).trans c41.out
      have d2 := (K10.out.cell (p := ⟨g4, 2, none⟩) L4.out).trans c42.out
      have d3 := (K10.out.cell (p := ⟨g4, 3, none⟩) L4.out).trans c43.out
      have d4 := (K10.out.cell (p := ⟨g4, 4, none⟩) L4.out).trans c44.out
      go_wp2_with fail
      go_ret
      exact ⟨rfl, K4.out.trans (K10.out.mono K4.out.size)⟩
end Go.Proofs.Ytllabfbebidjiaa
