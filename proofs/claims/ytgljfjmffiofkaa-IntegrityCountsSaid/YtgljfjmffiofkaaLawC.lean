/-
  The walk of the law IntegrityCounts: at every slice of operations it returns true and leaves what was there as it was. No condition.
-/
import Derived.Test.YtgljfjmffiofkaaAw
import Derived.Test.YtgljfjmffiofkaaOp
namespace Go.Proofs.Ytgljfjmffiofkaa
open Go.RowKit
/-- the last number (-1: none) is the filter's -/
def LastInv (s : Bool) (p l : Int) : Prop := (s = false ∧ l = -1) ∨ (s = true ∧ l = p ∧ isN p = true)

set_option maxRecDepth 100000 in
set_option maxHeartbeats 4000000 in
theorem lawCounts (A : Option Addr) (n c : Nat) (X Z : Nat → Int) (w : World) (hO : Ops w A n X Z) :
    Calls Try.prog 10 #[.slice A n c] w fun e w' => e = .returned (.bool true) ∧ Below w.heap.size w w' := by
  obtain ⟨n1, hO⟩ := hO
  have HO := Lib.hid hO
  clear hO
  go_enter Try.func10, Try.ntmps10
  go_wp2_with fail
  refine (awake_any _).mono ?_
  rintro e wA ⟨rfl, kA⟩
  by_cases hbig : 1000 < n
  · go_wp2_with fail
    go_ret
    exact ⟨rfl, kA⟩
  · go_wp2_with fail
    refine (new_any _).mono ?_
    rintro e wN ⟨fb, rfl, hfb, kN, hf⟩
    have K1 := Lib.hid (kA.trans (kN.mono kA.size))
    have hpw : w.heap.size ≤ fb := Nat.le_trans kA.size hfb
    have HF := Lib.hid hf
    clear kA kN hf
    go_wp2_with fail
    go_loopw [4, 5, 24] (fun gv la i wr => ∃ (k : Nat) (ac re p l : Int) (s : Bool), k ≤ n ∧ i = .int .i64 k ∧ gv = .int .i64 (ac + re) ∧ la = .int .i64 l ∧ 0 ≤ ac ∧ ac ≤ k ∧ 0 ≤ re ∧ re ≤ k ∧ LastInv s p l ∧ Flt wr fb ac re p s ∧ Below w.heap.size w wr)
      (fun _ _ i _ => n - (intOf i).toNat)
    case atStart => exact ⟨0, 0, 0, 0, -1, false, by omega, rfl, rfl, rfl, by omega, by omega, by omega, by omega, .inl ⟨rfl, rfl⟩, HF.out, K1.out⟩
    case round =>
      obtain ⟨k, ac, re, p, l, s, hk, rfl, rfl, rfl, c0, c1, r0, r1, hinv, hfr, kr⟩ := hrel
      have HFr := Lib.hid hfr
      have KR := Lib.hid kr
      have HI := Lib.hid hinv
      clear hfr kr hinv
      by_cases hlt : k < n
      · obtain ⟨ob, off, rfl, hb, hcell⟩ := HO.out (by omega)
        obtain ⟨y0, y1, x0, x1⟩ := hcell k hlt
        have y0' : wr.cell? ⟨ob, off + k * 2, none⟩ = some (.int .u8 (X k)) := (KR.out.cell (p := ⟨ob, off + k * 2, none⟩) hb).trans y0
        have y1' : wr.cell? ⟨ob, off + k * 2 + 1, none⟩ = some (.int .i64 (Z k)) := (KR.out.cell (p := ⟨ob, off + k * 2 + 1, none⟩) hb).trans y1
        clear hcell y0 y1
        generalize X k = x at *
        generalize Z k = z at *
        obtain ⟨W, hW⟩ : ∃ W, wr.alloc (.cells #[.int .u8 x, .int .i64 z] 39) = W := ⟨_, rfl⟩
        have hfa : Flt W fb ac re p s := by rw [← hW]; exact HFr.out.alloc _
        have hba : Blk W wr.heap.size 39 #[.int .u8 x, .int .i64 z] := by rw [← hW]; exact Blk.made _ _ _
        have hka : Below w.heap.size w W := by rw [← hW]; exact KR.out.alloc KR.out.size _
        have hlf := HFr.out.lt
        have hne : Hid (some wr.heap.size ≠ some fb) := Lib.hid (by intro e; injection e; omega)
        have HW := Lib.hid hW
        clear hW
        go_wp2_with fail
        rw [HW.out]
        refine (counts_any _ _ _ _ _ _ hfa).mono ?_
        rintro e w1 ⟨rfl, hs1⟩
        have hf1 : Flt w1 fb ac re p s := hs1.blk hfa
        have hb1 := hs1.blk hba
        have z0 : w1.cell? ⟨wr.heap.size, 0, none⟩ = some (.int .u8 x) := hb1.cell 0
        have z1 : w1.cell? ⟨wr.heap.size, 1, none⟩ = some (.int .i64 z) := hb1.cell 1
        have HF1 := Lib.hid hf1
        have HB1 := Lib.hid hb1
        have K1' := Lib.hid (hka.trans (hs1.below.mono hka.size))
        clear hf1 hb1 hs1 hka hba hfa
        by_cases h7 : x % 8 = 7
        · have h7' : (x % 8 == 7) = true := by simpa using h7
          clear h7
          go_wp2_with fail
          refine (reset_any _ _ _ _ _ _ HF1.out).mono ?_
          rintro e w2 ⟨rfl, hf2, hg2⟩
          have HF2 := Lib.hid hf2
          have KR2 := Lib.hid (K1'.out.grown hg2 K1'.out.size (fun j e => by cases e; exact hpw))
          clear hf2 hg2
          go_wp2_with fail
          refine (counts_any _ _ _ _ _ _ HF2.out).mono ?_
          rintro e w3 ⟨rfl, hs3⟩
          have hf3 : Flt w3 fb ac re 0 false := hs3.blk HF2.out
          have HF3 := Lib.hid hf3
          have KR3 := Lib.hid (KR2.out.trans (hs3.below.mono KR2.out.size))
          clear hf3 hs3
          go_wp2_with fail
          refine (previous_any _ _ _ _ _ _ HF3.out).mono ?_
          rintro e w4 ⟨rfl, rfl⟩
          go_wp2_with fail
          go_roundw
          case rel => exact ⟨k + 1, ac, re, 0, -1, false, by omega, by go_num, rfl, rfl, by omega, by omega, by omega, by omega, .inl ⟨rfl, rfl⟩, HF3.out, KR3.out⟩
          case measure => simp [intOf]; omega
        · have h7' : (x % 8 == 7) = false := by simpa using h7
          clear h7
          cases hz : isN z with
          | true =>
            have HZ := Lib.hid hz
            obtain ⟨z2, z3⟩ := isN_true hz
            clear hz
            obtain ⟨d, hd⟩ : ∃ d, adm s p z = d := ⟨_, rfl⟩
            have HD := Lib.hid hd
            clear hd
            cases d with
            | true =>
              go_wp2_with fail
              refine (accept_ok true fb z ac re p s _ HF1.out HZ.out (by omega) (by omega) (by omega) (by omega) HD.out).mono ?_
              rintro e w2 ⟨rfl, hf2, hg2⟩
              have hf2' : Flt w2 fb (ac + 1) re z true := by simpa using hf2
              have HF2 := Lib.hid hf2'
              have z1' : w2.cell? ⟨wr.heap.size, 1, none⟩ = some (.int .i64 z) := (HB1.out.grown hg2 hne.out).cell 1
              have KR2 := Lib.hid (K1'.out.grown hg2 K1'.out.size (fun j e => by cases e; exact hpw))
              clear hf2 hf2' hg2
              go_wp2_with fail
              refine (counts_any _ _ _ _ _ _ HF2.out).mono ?_
              rintro e w3 ⟨rfl, hs3⟩
              have hf3 : Flt w3 fb (ac + 1) re z true := hs3.blk HF2.out
              have HF3 := Lib.hid hf3
              have KR3 := Lib.hid (KR2.out.trans (hs3.below.mono KR2.out.size))
              clear hf3 hs3
              go_wp2_with fail
              refine (previous_any _ _ _ _ _ _ HF3.out).mono ?_
              rintro e w4 ⟨rfl, rfl⟩
              have e1 : ac + 1 + re = ac + re + 1 := by omega
              have e2 : max z 0 = z := by omega
              go_wp2_with fail
              go_roundw
              case rel => exact ⟨k + 1, ac + 1, re, z, z, true, by omega, by go_num, by go_num, rfl, by omega, by omega, by omega, by omega, .inr ⟨rfl, rfl, HZ.out⟩, HF3.out, KR3.out⟩
              case measure => simp [intOf]; omega
            | false =>
              go_wp2_with fail
              refine (accept_ok false fb z ac re p s _ HF1.out HZ.out (by omega) (by omega) (by omega) (by omega) HD.out).mono ?_
              rintro e w2 ⟨rfl, hf2, hg2⟩
              have hf2' : Flt w2 fb ac (re + 1) z true := by simpa using hf2
              have HF2 := Lib.hid hf2'
              have z1' : w2.cell? ⟨wr.heap.size, 1, none⟩ = some (.int .i64 z) := (HB1.out.grown hg2 hne.out).cell 1
              have KR2 := Lib.hid (K1'.out.grown hg2 K1'.out.size (fun j e => by cases e; exact hpw))
              clear hf2 hf2' hg2
              go_wp2_with fail
              refine (counts_any _ _ _ _ _ _ HF2.out).mono ?_
              rintro e w3 ⟨rfl, hs3⟩
              have hf3 : Flt w3 fb ac (re + 1) z true := hs3.blk HF2.out
              have HF3 := Lib.hid hf3
              have KR3 := Lib.hid (KR2.out.trans (hs3.below.mono KR2.out.size))
              clear hf3 hs3
              go_wp2_with fail
              refine (previous_any _ _ _ _ _ _ HF3.out).mono ?_
              rintro e w4 ⟨rfl, rfl⟩
              have e1 : ac + (re + 1) = ac + re + 1 := by omega
              have e2 : max z 0 = z := by omega
              go_wp2_with fail
              go_roundw
              case rel => exact ⟨k + 1, ac, re + 1, z, z, true, by omega, by go_num, by go_num, rfl, by omega, by omega, by omega, by omega, .inr ⟨rfl, rfl, HZ.out⟩, HF3.out, KR3.out⟩
              case measure => simp [intOf]; omega
          | false =>
            have HZ := Lib.hid hz
            clear hz
            go_wp2_with fail
            refine (accept_bad fb z ac re p s _ HF1.out HZ.out).mono ?_
            rintro e w2 ⟨rfl, hf2, hg2⟩
            have HF2 := Lib.hid hf2
            have KR2 := Lib.hid (K1'.out.trans (hg2.mono K1'.out.size))
            clear hf2 hg2
            go_wp2_with fail
            refine (counts_any _ _ _ _ _ _ HF2.out).mono ?_
            rintro e w3 ⟨rfl, hs3⟩
            have hf3 : Flt w3 fb ac re p s := hs3.blk HF2.out
            have HF3 := Lib.hid hf3
            have KR3 := Lib.hid (KR2.out.trans (hs3.below.mono KR2.out.size))
            clear hf3 hs3
            rcases HI.out with ⟨rfl, rfl⟩ | ⟨rfl, rfl, hp⟩
            · go_wp2_with fail
              refine (previous_any _ _ _ _ _ _ HF3.out).mono ?_
              rintro e w4 ⟨rfl, rfl⟩
              go_wp2_with fail
              go_roundw
              case rel => exact ⟨k + 1, ac, re, p, -1, false, by omega, by go_num, rfl, rfl, by omega, by omega, by omega, by omega, .inl ⟨rfl, rfl⟩, HF3.out, KR3.out⟩
              case measure => simp [intOf]; omega
            · obtain ⟨p0, p1⟩ := isN_true hp
              have HP := Lib.hid hp
              clear hp
              go_wp2_with fail
              refine (previous_any _ _ _ _ _ _ HF3.out).mono ?_
              rintro e w4 ⟨rfl, rfl⟩
              have e2 : max l 0 = l := by omega
              go_wp2_with fail
              go_roundw
              case rel => exact ⟨k + 1, ac, re, l, l, true, by omega, by go_num, rfl, rfl, by omega, by omega, by omega, by omega, .inr ⟨rfl, rfl, HP.out⟩, HF3.out, KR3.out⟩
              case measure => simp [intOf]; omega
      · go_wp2_with fail
        go_ret
        exact ⟨rfl, KR.out⟩
end Go.Proofs.Ytgljfjmffiofkaa
