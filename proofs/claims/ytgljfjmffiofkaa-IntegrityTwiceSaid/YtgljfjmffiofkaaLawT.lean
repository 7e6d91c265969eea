/-
  The walk of the law IntegrityTwice: at every slice of operations and two uint8s it returns true and leaves what was there as it was. No condition.
-/
import Derived.Test.YtgljfjmffiofkaaAw
import Derived.Test.YtgljfjmffiofkaaOp
namespace Go.Proofs.Ytgljfjmffiofkaa
open Go.RowKit
theorem adm_again {b : Int} (b0 : 0 ≤ b) (b1 : b ≤ 255) : adm true b b = decide (b = 0) := by
  have e1 : nx b = if b = 255 then 1 else b + 1 := nx_num b0 b1
  have e2 : nx (nx b) = if nx b = 255 then 1 else nx b + 1 := nx_num (by rw [e1]; split <;> omega) (by rw [e1]; split <;> omega)
  unfold adm
  rw [Bool.eq_iff_iff]
  simp only [Bool.or_eq_true, decide_eq_true_eq, Bool.not_true]
  rw [e2, e1]
  constructor
  · intro h
    split at h <;> simp at h <;> omega
  · intro h
    simp [h]

set_option maxHeartbeats 4000000 in
theorem lawTwice (A : Option Addr) (n c : Nat) (X Z : Nat → Int) (a b : Int) (w : World) (hO : Ops w A n X Z) (a0 : 0 ≤ a) (a1 : a ≤ 255) (b0 : 0 ≤ b) (b1 : b ≤ 255) :
    Calls Try.prog 7 #[.slice A n c, .int .u8 a, .int .u8 b] w fun e w' => e = .returned (.bool true) ∧ Below w.heap.size w w' := by
  obtain ⟨n1, hO⟩ := hO
  have HA := Lib.hid (isN_mk a0 a1)
  have HBn := Lib.hid (isN_mk b0 b1)
  have HO := Lib.hid hO
  clear hO
  go_enter Try.func7, Try.ntmps7
  go_wp2_with fail
  refine (awake_any _).mono ?_
  rintro e wA ⟨rfl, kA⟩
  by_cases hbig : 1000 < n
  · go_wp2_with fail
    go_ret
    exact ⟨rfl, kA⟩
  · go_wp2_with fail
    refine (new_any _).mono ?_
    rintro e wN ⟨fb, rfl, hfb, kN, hf⟩
    go_wp2_with fail
    refine (new_any _).mono ?_
    rintro e wM ⟨gb, rfl, hgb, kM, hg⟩
    have K1 := Lib.hid ((kA.trans (kN.mono kA.size)).trans (kM.mono (Nat.le_trans kA.size kN.size)))
    have hpw : w.heap.size ≤ fb := Nat.le_trans kA.size hfb
    have hlf := hf.lt
    have hlg := hg.lt
    have hqw : w.heap.size ≤ gb := by have := kN.size; have := kA.size; omega
    have hne : Hid (fb ≠ gb) := Lib.hid (by omega)
    have hf' : Flt wM fb 0 0 0 false := hf.below kM hlf
    have HG := Lib.hid hg
    have HF := Lib.hid hf'
    clear kA kN kM hf hf' hg
    go_wp2_with fail
    go_loopw [26] (fun i wr => ∃ (k : Nat) (ac re p : Int) (s : Bool), k ≤ n ∧ i = .int .i64 k ∧ 0 ≤ ac ∧ ac ≤ k ∧ 0 ≤ re ∧ re ≤ k ∧ Flt wr fb ac re p s ∧ Flt wr gb 0 0 0 false ∧ Below w.heap.size w wr)
      (fun i _ => n - (intOf i).toNat)
    case atStart => exact ⟨0, 0, 0, 0, false, by omega, rfl, by omega, by omega, by omega, by omega, HF.out, HG.out, K1.out⟩
    case round =>
      obtain ⟨k, ac, re, p, s, hk, rfl, c0, c1, r0, r1, hfr, hgr, kr⟩ := hrel
      have HFr := Lib.hid hfr
      have HGr := Lib.hid hgr
      have KR := Lib.hid kr
      clear hfr hgr kr
      by_cases hlt : k < n
      · obtain ⟨ob, off, rfl, hb, hcell⟩ := HO.out (by omega)
        obtain ⟨y0, y1, x0, x1⟩ := hcell k hlt
        have y0' : wr.cell? ⟨ob, off + k * 2, none⟩ = some (.int .u8 (X k)) := (KR.out.cell (p := ⟨ob, off + k * 2, none⟩) hb).trans y0
        have y1' : wr.cell? ⟨ob, off + k * 2 + 1, none⟩ = some (.int .i64 (Z k)) := (KR.out.cell (p := ⟨ob, off + k * 2 + 1, none⟩) hb).trans y1
        clear hcell y0 y1
        generalize X k = x at *
        generalize Z k = z at *
        have hfa : Flt (wr.alloc (.cells #[.int .u8 x, .int .i64 z] 39)) fb ac re p s := HFr.out.alloc _
        have HFa := Lib.hid hfa
        have HGa := Lib.hid (HGr.out.alloc (.cells #[.int .u8 x, .int .i64 z] 39))
        have KA := Lib.hid (KR.out.alloc KR.out.size (.cells #[.int .u8 x, .int .i64 z] 39))
        clear hfa
        by_cases h7 : x % 8 = 7
        · have h7' : (x % 8 == 7) = true := by simpa using h7
          clear h7
          go_wp2_with fail
          refine (reset_any _ _ _ _ _ _ HFa.out).mono ?_
          rintro e w2 ⟨rfl, hf2, hg2⟩
          have HF2 := Lib.hid hf2
          have HG2 := Lib.hid (HGa.out.grown hg2 (by intro e; injection e with e; exact hne.out e.symm))
          have KR2 := Lib.hid (KA.out.grown hg2 KA.out.size (fun j e => by cases e; exact hpw))
          clear hf2 hg2
          go_wp2_with fail
          go_roundw
          case rel => exact ⟨k + 1, ac, re, 0, false, by omega, by go_num, by omega, by omega, by omega, by omega, HF2.out, HG2.out, KR2.out⟩
          case measure => simp [intOf]; omega
        · have h7' : (x % 8 == 7) = false := by simpa using h7
          clear h7
          go_wp2_with fail
          cases hz : isN z with
          | true =>
            have HZ := Lib.hid hz
            clear hz
            obtain ⟨d, hd⟩ : ∃ d, adm s p z = d := ⟨_, rfl⟩
            refine (accept_ok d fb z ac re p s _ HFa.out HZ.out (by omega) (by omega) (by omega) (by omega) hd).mono ?_
            rintro e w2 ⟨rfl, hf2, hg2⟩
            clear hd
            have HF2 := Lib.hid hf2
            have HG2 := Lib.hid (HGa.out.grown hg2 (by intro e; injection e with e; exact hne.out e.symm))
            have KR2 := Lib.hid (KA.out.grown hg2 KA.out.size (fun j e => by cases e; exact hpw))
            clear hf2 hg2
            go_wp2_with fail
            go_roundw
            case rel => exact ⟨k + 1, _, _, _, _, by omega, by go_num, by split <;> omega, by split <;> omega, by split <;> omega, by split <;> omega, HF2.out, HG2.out, KR2.out⟩
            case measure => simp [intOf]; omega
          | false =>
            have HZ := Lib.hid hz
            clear hz
            refine (accept_bad fb z ac re p s _ HFa.out HZ.out).mono ?_
            rintro e w2 ⟨rfl, hf2, hg2⟩
            have HF2 := Lib.hid hf2
            have HG2 := Lib.hid (HGa.out.below hg2 HGa.out.lt)
            have KR2 := Lib.hid (KA.out.trans (hg2.mono KA.out.size))
            clear hf2 hg2
            go_wp2_with fail
            go_roundw
            case rel => exact ⟨k + 1, _, _, _, _, by omega, by go_num, by omega, by omega, by omega, by omega, HF2.out, HG2.out, KR2.out⟩
            case measure => simp [intOf]; omega
      · have hk' : k ≤ 1000 := by omega
        obtain ⟨d, hd⟩ : ∃ d, adm s p a = d := ⟨_, rfl⟩
        have HD := Lib.hid hd
        clear hd
        go_wp2_with fail
        refine (accept_ok d fb a ac re p s _ HFr.out HA.out (by omega) (by omega) (by omega) (by omega) HD.out).mono ?_
        rintro e w2 ⟨rfl, hf2, hg2⟩
        obtain ⟨a2, ha2⟩ : ∃ a2 : Int, (if d = true then ac + 1 else ac) = a2 := ⟨_, rfl⟩
        obtain ⟨r2, hr2⟩ : ∃ r2 : Int, (if d = true then re else re + 1) = r2 := ⟨_, rfl⟩
        rw [ha2, hr2] at hf2
        have q1 : 0 ≤ a2 ∧ a2 ≤ 1001 := by rw [← ha2]; split <;> omega
        have q2 : 0 ≤ r2 ∧ r2 ≤ 1001 := by rw [← hr2]; split <;> omega
        have HF2 := Lib.hid hf2
        have HG2 := Lib.hid (HGr.out.grown hg2 (by intro e; injection e with e; exact hne.out e.symm))
        have KR2 := Lib.hid (KR.out.grown hg2 KR.out.size (fun j e => by cases e; exact hpw))
        clear hf2 hg2 ha2 hr2
        go_wp2_with fail
        refine (accept_ok true gb a 0 0 0 false _ HG2.out HA.out (by omega) (by omega) (by omega) (by omega) (by simp [adm])).mono ?_
        rintro e w3 ⟨rfl, hg3, hw3⟩
        have HG3 : Hid (Flt w3 gb 1 0 a true) := Lib.hid hg3
        have HF3 := Lib.hid (HF2.out.grown hw3 (by intro e; injection e with e; exact hne.out e))
        have KR3 := Lib.hid (KR2.out.grown hw3 KR2.out.size (fun j e => by cases e; exact hqw))
        clear hg3 hw3
        obtain ⟨x, hx⟩ : ∃ x, adm true a b = x := ⟨_, rfl⟩
        have HX := Lib.hid hx
        clear hx
        go_wp2_with fail
        refine (accept_ok x fb b a2 r2 a true _ HF3.out HBn.out (by omega) (by omega) (by omega) (by omega) HX.out).mono ?_
        rintro e w4 ⟨rfl, hf4, hw4⟩
        obtain ⟨a4, ha4⟩ : ∃ a4 : Int, (if x = true then a2 + 1 else a2) = a4 := ⟨_, rfl⟩
        obtain ⟨r4, hr4⟩ : ∃ r4 : Int, (if x = true then r2 else r2 + 1) = r4 := ⟨_, rfl⟩
        rw [ha4, hr4] at hf4
        have q3 : 0 ≤ a4 ∧ a4 ≤ 1002 := by rw [← ha4]; split <;> omega
        have q4 : 0 ≤ r4 ∧ r4 ≤ 1002 := by rw [← hr4]; split <;> omega
        have HF4 := Lib.hid hf4
        have HG4 := Lib.hid (HG3.out.grown hw4 (by intro e; injection e with e; exact hne.out e.symm))
        have KR4 := Lib.hid (KR3.out.grown hw4 KR3.out.size (fun j e => by cases e; exact hpw))
        clear hf4 hw4 ha4 hr4
        go_wp2_with fail
        refine (accept_ok x gb b 1 0 a true _ HG4.out HBn.out (by omega) (by omega) (by omega) (by omega) HX.out).mono ?_
        rintro e w5 ⟨rfl, hg5, hw5⟩
        have HF5 := Lib.hid (HF4.out.grown hw5 (by intro e; injection e with e; exact hne.out e))
        have KR5 := Lib.hid (KR4.out.grown hw5 KR4.out.size (fun j e => by cases e; exact hqw))
        clear hg5 hw5
        go_wp2_with fail
        refine (accept_ok (decide (b = 0)) fb b a4 r4 b true _ HF5.out HBn.out (by omega) (by omega) (by omega) (by omega) (adm_again b0 b1)).mono ?_
        rintro e w6 ⟨rfl, hf6, hw6⟩
        have KR6 := Lib.hid (KR5.out.grown hw6 KR5.out.size (fun j e => by cases e; exact hpw))
        clear hf6 hw6
        by_cases hb : b = 0
        · subst hb
          obtain rfl : x = true := by have := HX.out; simp [adm] at this; exact this
          go_wp2_with fail
          go_ret
          exact ⟨rfl, KR6.out⟩
        · have hb' : (b == 0) = false := by simpa using hb
          have hb2 : decide (b = 0) = false := by simpa using hb
          rw [hb2]
          clear hb2
          go_wp2_with fail
          go_ret
          exact ⟨rfl, KR6.out⟩
end Go.Proofs.Ytgljfjmffiofkaa
