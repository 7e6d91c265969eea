/-
  The contract of the law's own helper same: a selector agrees with the document's where they are related (Rel). Conditions: as at the document's Recent. And of Pick (nacellekit): below its bound.
-/
import Derived.Test.YtllabfbebidjiaaR5
import Derived.Deep.CutRange
namespace Go.Proofs.Ytllabfbebidjiaa
open Go.RowKit
theorem recents_len (s : St) (t : Int) : (recents s t).length ≤ 256 := by
  unfold recents
  split
  · exact rcs_len _ _ _
  · simp
theorem ints_same (A B : Option Addr) (c c2 : Nat) (z : List Nat) (w : World) (hz : NumsIn w A z) (hy : NumsIn w B z) (hl : z.length ≤ 256) :
    Calls Try.prog 23 #[.slice A z.length c, .slice B z.length c2] w fun e w' => e = .returned (.bool true) ∧ Below w.heap.size w w' :=
  (ints_any A B c c2 z z w hz hy hl).mono fun e w' h => ⟨by rw [h.1]; simp, h.2⟩
theorem pick_any (x : Int) (w : World) : Calls Try.prog 39 #[.int .i64 x, .int .i64 40] w fun e w' => ∃ y, (0 ≤ y ∧ y < 40) ∧ e = .returned (.int .i64 y) ∧ w = w' := by
  have hb := pick_bd x (m := 40) (by omega)
  unfold pick at hb
  rw [if_neg (by omega)] at hb
  have b1 := Int.tmod_lt_of_pos x (show (0 : Int) < 40 by omega)
  have b2 := Int.neg_tmod x 40
  have b3 := Int.tmod_lt_of_pos (-x) (show (0 : Int) < 40 by omega)
  by_cases h : x.tmod 40 < 0
  · rw [if_pos h] at hb
    go_enter Try.func39, Try.ntmps39
    go_wp2_with fail
    exact bodyPost_ret (v := .int .i64 (x.tmod 40 + 40)) (by simp [results, Try.results39, go_sem]) rfl ⟨_, hb, rfl, rfl⟩
  · rw [if_neg h] at hb
    have h' : decide (x.tmod 40 < 0) = false := decide_eq_false h
    go_enter Try.func39, Try.ntmps39
    go_wp2_with fail
    exact bodyPost_ret (v := .int .i64 (x.tmod 40)) (by simp [results, Try.results39, go_sem]) rfl ⟨_, hb, rfl, rfl⟩
set_option maxRecDepth 100000 in
set_option maxHeartbeats 4000000 in
theorem same21_any (b : Nat) (s : St) (r : RS) (A : Option Addr) (c : Nat) (t : Int) (w : World) (hs : SelW w b s) (hL : DelIn w A c r.L) (hr : Rel s r) (hok : r.Ok) (hl : r.L.length ≤ 1000000) :
    Calls Try.prog 38 #[.pointer (some ⟨b, 0, none⟩), rV r A c, .int .i64 t] w fun e w' => e = .returned (.bool true) ∧ Below w.heap.size w w' := by
  have HS := Lib.hid hs
  have HL := Lib.hid hL
  have hdel := hr.del
  have hdrp := hr.drp
  have HR2 := Lib.hid (fun (V : World) (h : DelIn V A c r.L) => refRecent_any s r A c t V h hr hok hl)
  have HRC := Lib.hid (fun (V : World) (h : SelW V b s) => recents_any b s t V h)
  have hz := recents_len s t
  obtain ⟨z, hzz⟩ : ∃ z, recents s t = z := ⟨_, rfl⟩
  rw [hzz] at HR2 HRC hz
  have HC := Lib.hid (fun (V : World) (h : SelW V b s) => selCounts_any b s V h)
  rw [hdel, hdrp] at HC
  obtain ⟨len, hlen⟩ : ∃ len, r.L.length = len := ⟨_, rfl⟩
  obtain ⟨sk, hsk⟩ : ∃ x, r.skew = x := ⟨_, rfl⟩
  obtain ⟨nw, hnw⟩ : ∃ x, r.now = x := ⟨_, rfl⟩
  obtain ⟨dp, hdp⟩ : ∃ x, r.drp = x := ⟨_, rfl⟩
  have HZ := Lib.hid hz
  unfold rV at HR2 ⊢
  rw [hlen, hdp] at HC
  rw [hlen, hsk, hnw, hdp] at HR2 ⊢
  obtain ⟨W, hW⟩ : ∃ W, w.alloc (.cells #[.int .i64 sk, .int .i64 nw, .int .i64 dp, .slice A len c] 84) = W := ⟨_, rfl⟩
  have bx : Blk W w.heap.size 84 #[.int .i64 sk, .int .i64 nw, .int .i64 dp, .slice A len c] := by rw [← hW]; exact Blk.made _ _ _
  have kW : Below w.heap.size w W := by rw [← hW]; exact (Below.refl _ _).alloc (Nat.le_refl _) _
  have HW := Lib.hid hW
  have BX := Lib.hid bx
  have KW := Lib.hid kW
  have BL := Lib.hid bx.lt
  have SW := Lib.hid (hs.kept kW)
  have DW := Lib.hid (hL.below kW (Nat.le_refl _))
  clear hs hL hr hok hl hzz hdel hdrp hlen hsk hnw hdp hW bx kW hz HS HL
  go_enter Try.func38, Try.ntmps38
  go_wp2_with fail
  rw [HW.out]
  refine (HC.out W SW.out).mono ?_
  rintro e w1 ⟨rfl, hsm⟩
  have K1 := Lib.hid (KW.out.trans (hsm.below.mono KW.out.size))
  have S1 := Lib.hid (hsm.sel SW.out)
  have D1 := Lib.hid (DW.out.below hsm.below (Nat.le_refl _))
  have b1 := hsm.blk BX.out
  have BL1 : Hid (w.heap.size < w1.heap.size) := Lib.hid b1.lt
  have v0 : w1.cell? ⟨w.heap.size, 0, none⟩ = some (.int .i64 sk) := b1.cell 0
  have v1 : w1.cell? ⟨w.heap.size, 1, none⟩ = some (.int .i64 nw) := b1.cell 1
  have v2 : w1.cell? ⟨w.heap.size, 2, none⟩ = some (.int .i64 dp) := b1.cell 2
  have v3 : w1.cell? ⟨w.heap.size, 3, none⟩ = some (.slice A len c) := b1.cell 3
  have YR : Hid (∀ V : World, Below w1.heap.size w1 V → (V.cell? ⟨w.heap.size, 0, none⟩ = some (.int .i64 sk) ∧ V.cell? ⟨w.heap.size, 1, none⟩ = some (.int .i64 nw) ∧ V.cell? ⟨w.heap.size, 2, none⟩ = some (.int .i64 dp) ∧ V.cell? ⟨w.heap.size, 3, none⟩ = some (.slice A len c))) := Lib.hid (fun V hV =>
    ⟨(hV.cell (p := ⟨w.heap.size, 0, none⟩) BL1.out).trans v0, (hV.cell (p := ⟨w.heap.size, 1, none⟩) BL1.out).trans v1, (hV.cell (p := ⟨w.heap.size, 2, none⟩) BL1.out).trans v2, (hV.cell (p := ⟨w.heap.size, 3, none⟩) BL1.out).trans v3⟩)
  have SD := Lib.hid (fun (V : World) (hV : Below w1.heap.size w1 V) => S1.out.kept hV)
  have DD := Lib.hid (fun (V : World) (hV : Below w1.heap.size w1 V) => D1.out.below hV (Nat.le_refl _))
  have KK0 := Lib.hid ((Below.refl w1.heap.size w1).drew)
  have Y0 := Lib.hid (YR.out w1.drew KK0.out)
  have HA0 := Lib.hid (HRC.out w1.drew (SD.out _ KK0.out))
  have HB0 := Lib.hid (HR2.out w1.drew (DD.out _ KK0.out))
  have hb0 : (len == len) = true := by simp
  clear hsm b1
  go_upto_region 2 with fail
  go_region_held3 (fun w' : World => (w'.cell? ⟨w.heap.size, 0, none⟩ = some (.int .i64 sk) ∧ w'.cell? ⟨w.heap.size, 1, none⟩ = some (.int .i64 nw) ∧ w'.cell? ⟨w.heap.size, 2, none⟩ = some (.int .i64 dp) ∧ w'.cell? ⟨w.heap.size, 3, none⟩ = some (.slice A len c)))
    (first | with_reducible exact Y6.out | with_reducible exact YA.out | with_reducible exact YB.out | with_reducible exact Y0.out | fail)
    ((first
      | (go_at_call 20
         first
         | (refine HA0.out.mono ?_; rintro e wa ⟨⟨A1, c1, rfl, n1⟩, ka⟩
            have KA := Lib.hid (KK0.out.trans ka)
            have YA := Lib.hid (YR.out wa KA.out)
            have NA := Lib.hid n1
            have HB1 := Lib.hid (HR2.out wa (DD.out wa KA.out))
            clear ka n1)
         | (refine HA1.out.mono ?_; rintro e wa ⟨⟨A1, c1, rfl, n1⟩, ka⟩
            have KA := Lib.hid (KB.out.trans (ka.mono KB.out.size))
            have YA := Lib.hid (YR.out wa KA.out)
            have KE := Lib.hid KA.out
            have HI := Lib.hid (ints_same A1 A2 c1 c2 z wa n1 (NB.out.below ka (Nat.le_refl _)) HZ.out)
            clear ka n1))
      | (go_at_call 47
         first
         | (refine HB0.out.mono ?_; rintro e wb ⟨⟨A2, c2, rfl, n2⟩, kb⟩
            have KB := Lib.hid (KK0.out.trans kb)
            have YB := Lib.hid (YR.out wb KB.out)
            have NB := Lib.hid n2
            have HA1 := Lib.hid (HRC.out wb (SD.out wb KB.out))
            clear kb n2)
         | (refine HB1.out.mono ?_; rintro e wb ⟨⟨A2, c2, rfl, n2⟩, kb⟩
            have KB := Lib.hid (KA.out.trans (kb.mono KA.out.size))
            have YB := Lib.hid (YR.out wb KB.out)
            have KE := Lib.hid KB.out
            have HI := Lib.hid (ints_same A1 A2 c1 c2 z wb (NA.out.below kb (Nat.le_refl _)) n2 HZ.out)
            clear kb n2))
      | (go_at_call 23
         refine HI.out.mono ?_; rintro e w6 ⟨rfl, k6⟩
         have KF := Lib.hid (KE.out.trans (k6.mono KE.out.size))
         have Y6 := Lib.hid (YR.out w6 KF.out)
         clear k6)))
  all_goals (rename_i hHeld; clear hHeld)
  all_goals go_wp2_with fail
  all_goals go_ret
  all_goals exact ⟨rfl, K1.out.trans (KF.out.mono K1.out.size)⟩
end Go.Proofs.Ytllabfbebidjiaa
