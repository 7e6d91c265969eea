/-
  The walk of the law IntegrityNone: at every integer it returns true and leaves what was there as it was. No condition.
-/
import Derived.Test.YtgljfjmffiofkaaAw
namespace Go.Proofs.Ytgljfjmffiofkaa
open Go.RowKit

set_option maxRecDepth 100000 in
set_option maxHeartbeats 4000000 in
theorem lawNone (n : Int) (w : World) :
    Calls Try.prog 11 #[.int .i64 n] w fun e w' => e = .returned (.bool true) ∧ Below w.heap.size w w' := by
  go_enter Try.func11, Try.ntmps11
  go_wp2_with fail
  refine (awake_any _).mono ?_
  rintro e wA ⟨rfl, kA⟩
  go_wp2_with fail
  obtain ⟨W, hW⟩ : ∃ W, (wA.alloc (.cells #[.int .i64 0, .int .i64 0, .int .i64 0, .bool false, .pointer none] 54)).alloc (.cells #[.pointer none, .pointer (some ⟨wA.heap.size, 0, none⟩)] 26) = W := ⟨_, rfl⟩
  have hka : Below w.heap.size w W := by rw [← hW]; exact (kA.alloc kA.size _).alloc (by have := kA.size; simp; omega) _
  have b0 : Blk W wA.heap.size 54 #[.int .i64 0, .int .i64 0, .int .i64 0, .bool false, .pointer none] := by rw [← hW]; exact (Blk.made _ _ _).alloc _
  have b1 : Blk W (wA.heap.size + 1) 26 #[.pointer none, .pointer (some ⟨wA.heap.size, 0, none⟩)] := by rw [← hW]; exact Blk.made_at _ _ _ (by simp)
  rw [hW]
  have B0 := Lib.hid b0
  have B1 := Lib.hid b1
  have KA := Lib.hid hka
  clear b0 b1 hka hW
  go_loopw [25] (fun i wr => ∃ k : Nat, k ≤ 2 ∧ i = .int .i64 k ∧ Below W.heap.size W wr)
    (fun i _ => 2 - (intOf i).toNat)
  case atStart => exact ⟨0, by omega, rfl, Below.refl _ _⟩
  case round =>
    obtain ⟨k, hk, rfl, kr⟩ := hrel
    have KR := Lib.hid kr
    have c0 := B0.out.below kr B0.out.lt
    have c1 := B1.out.below kr B1.out.lt
    clear kr
    rcases (show k = 0 ∨ k = 1 ∨ k = 2 by omega) with rfl | rfl | rfl
    · have z0 : wr.cell? ⟨wA.heap.size + 1, 0, none⟩ = some (.pointer none) := c1.cell 0
      clear c0 c1
      go_wp2_with fail
      refine (accept_nil _ _).mono ?_
      rintro e w1 ⟨rfl, k1⟩
      have K1 := Lib.hid (KR.out.trans (k1.mono KR.out.size))
      clear k1
      go_wp2_with fail
      refine (previous_nil _).mono ?_
      rintro e w2 ⟨rfl, rfl⟩
      go_wp2_with fail
      refine (counts_nil _).mono ?_
      rintro e w2 ⟨rfl, rfl⟩
      go_wp2_with fail
      refine (reset_nil _).mono ?_
      rintro e w2 ⟨rfl, rfl⟩
      go_wp2_with fail
      go_roundw
      case rel => exact ⟨1, by omega, rfl, K1.out⟩
      case measure => simp [intOf]
    · have z0 : wr.cell? ⟨wA.heap.size + 1, 1, none⟩ = some (.pointer (some ⟨wA.heap.size, 0, none⟩)) := c1.cell 1
      have z4 : Hid (wr.cell? ⟨wA.heap.size, 4, none⟩ = some (.pointer none)) := Lib.hid (c0.cell 4)
      have C0 := Lib.hid c0
      clear c0 c1
      go_wp2_with fail
      refine (accept_no _ _ _ z4.out).mono ?_
      rintro e w1 ⟨rfl, k1⟩
      have K1 := Lib.hid (KR.out.trans (k1.mono KR.out.size))
      have z5 : Hid (w1.cell? ⟨wA.heap.size, 4, none⟩ = some (.pointer none)) := Lib.hid ((C0.out.below k1 C0.out.lt).cell 4)
      clear k1
      go_wp2_with fail
      refine (previous_no _ _ z5.out).mono ?_
      rintro e w2 ⟨rfl, rfl⟩
      go_wp2_with fail
      refine (counts_no _ _ z5.out).mono ?_
      rintro e w2 ⟨rfl, rfl⟩
      go_wp2_with fail
      refine (reset_no _ _ z5.out).mono ?_
      rintro e w2 ⟨rfl, rfl⟩
      go_wp2_with fail
      go_roundw
      case rel => exact ⟨2, by omega, rfl, K1.out⟩
      case measure => simp [intOf]
    · clear c0 c1
      have KW := Lib.hid (KA.out.trans (KR.out.mono KA.out.size))
      go_wp2_with fail
      refine (new_any _).mono ?_
      rintro e w1 ⟨fb, rfl, hfb, k1, hf⟩
      go_wp2_with fail
      refine (new_any _).mono ?_
      rintro e w2 ⟨gb, rfl, hgb, k2, hg⟩
      have hlf := hf.lt
      have hwf : w.heap.size ≤ fb := Nat.le_trans KW.out.size hfb
      have hne : Hid (some gb ≠ some fb) := Lib.hid (by intro e; injection e; omega)
      have HF := Lib.hid (hf.below k2 hlf)
      have HG := Lib.hid hg
      have K2 := Lib.hid ((KW.out.trans (k1.mono KW.out.size)).trans (k2.mono (Nat.le_trans KW.out.size k1.size)))
      clear hf hg k1 k2
      go_wp2_with fail
      refine (accept_ok true fb 7 0 0 0 false _ HF.out (by decide) (by omega) (by omega) (by omega) (by omega) (by decide)).mono ?_
      rintro e w3 ⟨rfl, hf3, hg3⟩
      have HG3 := Lib.hid (HG.out.grown hg3 hne.out)
      have K3 := Lib.hid (K2.out.grown hg3 K2.out.size (fun j e => by cases e; exact hwf))
      clear hf3 hg3
      go_wp2_with fail
      refine (previous_any gb 0 0 0 false _ HG3.out).mono ?_
      rintro e w4 ⟨rfl, rfl⟩
      go_wp2_with fail
      refine (counts_any gb 0 0 0 false _ HG3.out).mono ?_
      rintro e w4 ⟨rfl, hs⟩
      have K4 := Lib.hid (K3.out.trans (hs.below.mono K3.out.size))
      clear hs
      go_wp2_with fail
      go_ret
      exact ⟨rfl, K4.out⟩
end Go.Proofs.Ytgljfjmffiofkaa
