/-
  Contracts of the document's own filter (New, Accept), and of same: does a filter agree with it. No condition.
-/
import Derived.Test.YtgljfjmffiofkaaF5
namespace Go.Proofs.Ytgljfjmffiofkaa
open Go.RowKit
set_option linter.unusedVariables false
/-- the document's previous number: -1 where there is none -/
def rp (s : Bool) (p : Int) : Int := if s = true then p else -1
set_option maxHeartbeats 400000 in
theorem refNew_any (w : World) : Calls Try.prog 21 #[] w fun e w' => e = .returned (.agg #[.int .i64 (rp false 0), .int .i64 0, .int .i64 0]) ∧ Below w.heap.size w w' := by
  rw [show rp false 0 = -1 from rfl]
  go_enter Try.func21, Try.ntmps21
  go_wp2
  exact bodyPost_ret (v := .agg #[.int .i64 (-1), .int .i64 0, .int .i64 0]) (by simp [results, Try.results21, go_sem]) rfl ⟨rfl, (Below.refl _ _).alloc (Nat.le_refl _) _⟩

set_option maxHeartbeats 1000000 in
theorem refAcc_new (n a r : Int) (w : World) (h0 : 0 ≤ a) (h1 : a ≤ 1000000000000) (h2 : 0 ≤ r) (h3 : r ≤ 1000000000000) :
    Calls Try.prog 36 #[.agg #[.int .i64 (-1), .int .i64 a, .int .i64 r], .int .i64 n] w fun e w' => e = .returned (.tuple #[.agg #[.int .i64 n, .int .i64 (a + 1), .int .i64 r], .bool true]) ∧ Below w.heap.size w w' := by
  go_enter Try.func36, Try.ntmps36
  go_wp2_with (go_at_call 13; refine (refNext_any _ _).mono ?_; rintro e w' ⟨rfl, rfl⟩)
  exact bodyPost_ret (v := .tuple #[.agg #[.int .i64 (n), .int .i64 (a + 1), .int .i64 r], .bool true]) (by simp [results, Try.results36, go_sem]) rfl ⟨rfl, ((Below.refl _ _).alloc (Nat.le_refl _) _).alloc (by simp) _⟩
set_option maxHeartbeats 1000000 in
theorem refAcc_zero (p n a r : Int) (w : World) (h0 : 0 ≤ a) (h1 : a ≤ 1000000000000) (h2 : 0 ≤ r) (h3 : r ≤ 1000000000000) (p0 : 0 ≤ p) (hn : n = 0) :
    Calls Try.prog 36 #[.agg #[.int .i64 p, .int .i64 a, .int .i64 r], .int .i64 n] w fun e w' => e = .returned (.tuple #[.agg #[.int .i64 n, .int .i64 (a + 1), .int .i64 r], .bool true]) ∧ Below w.heap.size w w' := by
  subst hn
  go_enter Try.func36, Try.ntmps36
  go_wp2_with (go_at_call 13; refine (refNext_any _ _).mono ?_; rintro e w' ⟨rfl, rfl⟩)
  exact bodyPost_ret (v := .tuple #[.agg #[.int .i64 (0), .int .i64 (a + 1), .int .i64 r], .bool true]) (by simp [results, Try.results36, go_sem]) rfl ⟨rfl, ((Below.refl _ _).alloc (Nat.le_refl _) _).alloc (by simp) _⟩
set_option maxHeartbeats 1000000 in
theorem refAcc_one (p n a r : Int) (w : World) (h0 : 0 ≤ a) (h1 : a ≤ 1000000000000) (h2 : 0 ≤ r) (h3 : r ≤ 1000000000000) (p0 : 0 ≤ p) (hz : (n == 0) = false) (hn : n = nx p) :
    Calls Try.prog 36 #[.agg #[.int .i64 p, .int .i64 a, .int .i64 r], .int .i64 n] w fun e w' => e = .returned (.tuple #[.agg #[.int .i64 n, .int .i64 (a + 1), .int .i64 r], .bool true]) ∧ Below w.heap.size w w' := by
  subst hn
  go_enter Try.func36, Try.ntmps36
  go_wp2_with (go_at_call 13; refine (refNext_any _ _).mono ?_; rintro e w' ⟨rfl, rfl⟩)
  exact bodyPost_ret (v := .tuple #[.agg #[.int .i64 (nx p), .int .i64 (a + 1), .int .i64 r], .bool true]) (by simp [results, Try.results36, go_sem]) rfl ⟨rfl, ((Below.refl _ _).alloc (Nat.le_refl _) _).alloc (by simp) _⟩
set_option maxHeartbeats 1000000 in
theorem refAcc_two (p n a r : Int) (w : World) (h0 : 0 ≤ a) (h1 : a ≤ 1000000000000) (h2 : 0 ≤ r) (h3 : r ≤ 1000000000000) (p0 : 0 ≤ p) (hz : (n == 0) = false) (hy : (n == nx p) = false) (hn : n = nx (nx p)) :
    Calls Try.prog 36 #[.agg #[.int .i64 p, .int .i64 a, .int .i64 r], .int .i64 n] w fun e w' => e = .returned (.tuple #[.agg #[.int .i64 n, .int .i64 (a + 1), .int .i64 r], .bool true]) ∧ Below w.heap.size w w' := by
  subst hn
  go_enter Try.func36, Try.ntmps36
  go_wp2_with (go_at_call 13; refine (refNext_any _ _).mono ?_; rintro e w' ⟨rfl, rfl⟩)
  exact bodyPost_ret (v := .tuple #[.agg #[.int .i64 (nx (nx p)), .int .i64 (a + 1), .int .i64 r], .bool true]) (by simp [results, Try.results36, go_sem]) rfl ⟨rfl, ((Below.refl _ _).alloc (Nat.le_refl _) _).alloc (by simp) _⟩
set_option maxHeartbeats 1000000 in
theorem refAcc_no (p n a r : Int) (w : World) (h0 : 0 ≤ a) (h1 : a ≤ 1000000000000) (h2 : 0 ≤ r) (h3 : r ≤ 1000000000000) (p0 : 0 ≤ p) (hz : (n == 0) = false) (hy : (n == nx p) = false) (hx : (n == nx (nx p)) = false) :
    Calls Try.prog 36 #[.agg #[.int .i64 p, .int .i64 a, .int .i64 r], .int .i64 n] w fun e w' => e = .returned (.tuple #[.agg #[.int .i64 n, .int .i64 a, .int .i64 (r + 1)], .bool false]) ∧ Below w.heap.size w w' := by
  go_enter Try.func36, Try.ntmps36
  go_wp2_with (go_at_call 13; refine (refNext_any _ _).mono ?_; rintro e w' ⟨rfl, rfl⟩)
  exact bodyPost_ret (v := .tuple #[.agg #[.int .i64 (n), .int .i64 a, .int .i64 (r + 1)], .bool false]) (by simp [results, Try.results36, go_sem, p0]) rfl ⟨rfl, ((Below.refl _ _).alloc (Nat.le_refl _) _).alloc (by simp) _⟩

theorem refAcc_to (b : Bool) (s : Bool) (p n a r : Int) (w : World) (h0 : 0 ≤ a) (h1 : a ≤ 1000000000000) (h2 : 0 ≤ r) (h3 : r ≤ 1000000000000) (hp : s = true → isN p = true) (hb : adm s p n = b) :
    Calls Try.prog 36 #[.agg #[.int .i64 (rp s p), .int .i64 a, .int .i64 r], .int .i64 n] w fun e w' => e = .returned (.tuple #[.agg #[.int .i64 (rp true n), .int .i64 (if b then a + 1 else a), .int .i64 (if b then r else r + 1)], .bool b]) ∧ Below w.heap.size w w' := by
  cases s with
  | false =>
    obtain rfl : b = true := by rw [← hb]; rfl
    exact refAcc_new n a r w h0 h1 h2 h3
  | true =>
    have p0 := (isN_true (hp rfl)).1
    by_cases hz : n = 0
    · obtain rfl : b = true := by rw [← hb]; simp [adm, hz]
      exact refAcc_zero p n a r w h0 h1 h2 h3 p0 hz
    · by_cases hy : n = nx p
      · obtain rfl : b = true := by rw [← hb]; simp [adm, hy]
        exact refAcc_one p n a r w h0 h1 h2 h3 p0 (by simpa using hz) hy
      · by_cases hx : n = nx (nx p)
        · obtain rfl : b = true := by rw [← hb]; simp [adm, hx]
          exact refAcc_two p n a r w h0 h1 h2 h3 p0 (by simpa using hz) (by simpa using hy) hx
        · obtain rfl : b = false := by rw [← hb]; simp [adm, hx, hy, hz]
          exact refAcc_no p n a r w h0 h1 h2 h3 p0 (by simpa using hz) (by simpa using hy) (by simpa using hx)

set_option maxHeartbeats 1000000 in
theorem same_new (fb : Nat) (a r p : Int) (w : World) (hf : Flt w fb a r p false) :
    Calls Try.prog 23 #[.pointer (some ⟨fb, 0, none⟩), .agg #[.int .i64 (-1), .int .i64 a, .int .i64 r]] w fun e w' => e = .returned (.bool true) ∧ Below w.heap.size w w' := by
  have HF := Lib.hid hf
  clear hf
  go_enter Try.func23, Try.ntmps23
  go_wp2_with fail
  obtain ⟨W, hW⟩ : ∃ W, w.alloc (.cells #[.int .i64 (-1), .int .i64 a, .int .i64 r] 43) = W := ⟨_, rfl⟩
  have hf1 : Flt W fb a r p false := by rw [← hW]; exact HF.out.alloc _
  have hb1 : Blk W w.heap.size 43 #[.int .i64 (-1), .int .i64 a, .int .i64 r] := by rw [← hW]; exact Blk.made _ _ _
  have k1 : Below w.heap.size w W := by rw [← hW]; exact (Below.refl _ _).alloc (Nat.le_refl _) _
  rw [hW]
  have HF1 := Lib.hid hf1
  have HB1 := Lib.hid hb1
  have K1 := Lib.hid k1
  clear hf1 hb1 k1 hW
  refine (previous_any _ _ _ _ _ _ HF1.out).mono ?_
  rintro e w1 ⟨rfl, rfl⟩
  go_wp2_with fail
  refine (counts_any _ _ _ _ _ _ HF1.out).mono ?_
  rintro e w2 ⟨rfl, hs⟩
  have hb2 := hs.blk HB1.out
  have K2 := Lib.hid (K1.out.trans (hs.below.mono K1.out.size))
  have z0 : w2.cell? ⟨w.heap.size, 0, none⟩ = some (.int .i64 (-1)) := hb2.cell 0
  have z1 : w2.cell? ⟨w.heap.size, 1, none⟩ = some (.int .i64 a) := hb2.cell 1
  have z2 : w2.cell? ⟨w.heap.size, 2, none⟩ = some (.int .i64 r) := hb2.cell 2
  clear hb2 hs
  go_wp2_with fail
  go_ret
  exact ⟨rfl, K2.out⟩
set_option maxHeartbeats 1000000 in
theorem same_some (fb : Nat) (a r p : Int) (w : World) (hf : Flt w fb a r p true) (hp : isN p = true) :
    Calls Try.prog 23 #[.pointer (some ⟨fb, 0, none⟩), .agg #[.int .i64 p, .int .i64 a, .int .i64 r]] w fun e w' => e = .returned (.bool true) ∧ Below w.heap.size w w' := by
  have HF := Lib.hid hf
  obtain ⟨p0, p1⟩ := isN_true hp
  have e2 : max p 0 = p := by omega
  have E2 := Lib.hid e2
  clear hf hp e2
  go_enter Try.func23, Try.ntmps23
  go_wp2_with fail
  obtain ⟨W, hW⟩ : ∃ W, w.alloc (.cells #[.int .i64 p, .int .i64 a, .int .i64 r] 43) = W := ⟨_, rfl⟩
  have hf1 : Flt W fb a r p true := by rw [← hW]; exact HF.out.alloc _
  have hb1 : Blk W w.heap.size 43 #[.int .i64 p, .int .i64 a, .int .i64 r] := by rw [← hW]; exact Blk.made _ _ _
  have k1 : Below w.heap.size w W := by rw [← hW]; exact (Below.refl _ _).alloc (Nat.le_refl _) _
  rw [hW]
  have HF1 := Lib.hid hf1
  have HB1 := Lib.hid hb1
  have K1 := Lib.hid k1
  clear hf1 hb1 k1 hW
  refine (previous_any _ _ _ _ _ _ HF1.out).mono ?_
  rintro e w1 ⟨rfl, rfl⟩
  go_wp2_with fail
  refine (counts_any _ _ _ _ _ _ HF1.out).mono ?_
  rintro e w2 ⟨rfl, hs⟩
  have hb2 := hs.blk HB1.out
  have K2 := Lib.hid (K1.out.trans (hs.below.mono K1.out.size))
  have z0 : w2.cell? ⟨w.heap.size, 0, none⟩ = some (.int .i64 p) := hb2.cell 0
  have z1 : w2.cell? ⟨w.heap.size, 1, none⟩ = some (.int .i64 a) := hb2.cell 1
  have z2 : w2.cell? ⟨w.heap.size, 2, none⟩ = some (.int .i64 r) := hb2.cell 2
  clear hb2 hs
  have e3 := E2.out
  go_wp2_with fail
  go_ret
  exact ⟨rfl, K2.out⟩
theorem same_to (fb : Nat) (a r p : Int) (s : Bool) (w : World) (hf : Flt w fb a r p s) (hp : s = true → isN p = true) :
    Calls Try.prog 23 #[.pointer (some ⟨fb, 0, none⟩), .agg #[.int .i64 (rp s p), .int .i64 a, .int .i64 r]] w fun e w' => e = .returned (.bool true) ∧ Below w.heap.size w w' := by
  cases s with
  | false => exact same_new fb a r p w hf
  | true => exact same_some fb a r p w hf (hp rfl)
end Go.Proofs.Ytgljfjmffiofkaa
