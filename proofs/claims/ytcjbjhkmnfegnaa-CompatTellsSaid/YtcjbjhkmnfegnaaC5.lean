/-
  The contracts of a change's valid, of what it calls (slices.EqualFunc, its inner function), and of Compatible. They take that the modules' names are no longer than a string can be.
-/
import Derived.Test.YtcjbjhkmnfegnaaC4
namespace Go.Proofs.Ytcjbjhkmnfegnaa
open Go.RowKit
/-- have the first k units the same modules -/
def eqm (S T : Nat → U) : Nat → Bool
  | 0 => true
  | k + 1 => eqm S T k && decide ((S k).1 = (T k).1)
theorem eqm_mono {S T : Nat → U} : ∀ {k n : Nat}, k ≤ n → eqm S T n = true → eqm S T k = true
  | k, 0, h, _ => by obtain rfl : k = 0 := by omega
                     rfl
  | k, n + 1, h, e => by
    rcases Nat.lt_or_ge k (n + 1) with h' | h'
    · exact eqm_mono (n := n) (by omega) (by simp only [eqm, Bool.and_eq_true] at e; exact e.1)
    · obtain rfl : k = n + 1 := by omega
      exact e
theorem eqm_bad {S T : Nat → U} {k n : Nat} (h : k < n) (e : ¬ (S k).1 = (T k).1) : eqm S T n = false := by
  cases hn : eqm S T n with
  | false => rfl
  | true =>
    have := eqm_mono (show k + 1 ≤ n by omega) hn
    simp [eqm, e] at this
/-- do the two sets form a change -/
def chg (n n2 : Nat) (S T : Nat → U) : Bool := (decide (n ≤ 8) && dis S n) && (decide (n = n2) && eqm S T n)

set_option maxHeartbeats 1000000 in
theorem same_any (u v : U) (w : World) :
    Calls Try.prog 38 #[uV u, uV v] w fun e w' => e = .returned (.bool (decide (u.1 = v.1))) ∧ Below w.heap.size w w' := by
  obtain ⟨ua, uv⟩ := u
  obtain ⟨va, vv⟩ := v
  have HE := Lib.hid (str_eq ua va)
  go_enter Try.func38, Try.ntmps38
  go_wp2_with fail
  go_ret
  exact ⟨ret_bool HE.out, ((Below.refl _ _).alloc (Nat.le_refl _) _).alloc (by simp) _⟩

set_option maxHeartbeats 1000000 in
theorem equal_any (A1 A2 : Option Addr) (n1 c1 n2 c2 : Nat) (S T : Nat → U) (w : World) (hS : UnitsIn w A1 n1 S) (hT : UnitsIn w A2 n2 T) :
    Calls Try.prog 39 #[.slice A1 n1 c1, .slice A2 n2 c2, .func (.func 38) #[] #[]] w fun e w' => e = .returned (.bool (decide (n1 = n2) && eqm S T n1)) ∧ Below w.heap.size w w' := by
  obtain ⟨l1, hS⟩ := hS
  obtain ⟨l2, hT⟩ := hT
  have HS := Lib.hid hS
  have HT := Lib.hid hT
  clear hS hT
  by_cases hn : n1 = n2
  · subst hn
    go_enter Try.func39, Try.ntmps39
    go_wp2_with fail
    go_loopw [17] (fun i wr => ∃ k : Nat, k ≤ n1 ∧ i = .int .i64 k ∧ eqm S T k = true ∧ Below w.heap.size w wr)
      (fun i _ => n1 - (intOf i).toNat)
    case atStart => exact ⟨0, Nat.zero_le _, rfl, rfl, Below.refl _ _⟩
    case round =>
      obtain ⟨k, hk, rfl, hi, kr⟩ := hrel
      have HI := Lib.hid hi
      have KR := Lib.hid kr
      clear hi kr
      by_cases hlt : k < n1
      · obtain ⟨ob, off, rfl, hb, hcell⟩ := HS.out (by omega)
        obtain ⟨c0, c1⟩ := hcell k hlt
        have y0 : wr.cell? ⟨ob, off + k * 2, none⟩ = some (.string (S k).1) := (KR.out.cell (p := ⟨ob, off + k * 2, none⟩) hb).trans c0
        have y1 : wr.cell? ⟨ob, off + k * 2 + 1, none⟩ = some (.int .i64 (S k).2) := (KR.out.cell (p := ⟨ob, off + k * 2 + 1, none⟩) hb).trans c1
        clear hcell c0 c1
        obtain ⟨ob2, off2, rfl, hb2, hcell⟩ := HT.out (by omega)
        obtain ⟨c0, c1⟩ := hcell k hlt
        have z0 : wr.cell? ⟨ob2, off2 + k * 2, none⟩ = some (.string (T k).1) := (KR.out.cell (p := ⟨ob2, off2 + k * 2, none⟩) hb2).trans c0
        have z1 : wr.cell? ⟨ob2, off2 + k * 2 + 1, none⟩ = some (.int .i64 (T k).2) := (KR.out.cell (p := ⟨ob2, off2 + k * 2 + 1, none⟩) hb2).trans c1
        have z2 : (wr.alloc (.cells #[.string (S k).1, .int .i64 (S k).2] 40)).cell? ⟨ob2, off2 + k * 2, none⟩ = some (.string (T k).1) := cell_alloc' z0 _
        have z3 : (wr.alloc (.cells #[.string (S k).1, .int .i64 (S k).2] 40)).cell? ⟨ob2, off2 + k * 2 + 1, none⟩ = some (.int .i64 (T k).2) := cell_alloc' z1 _
        clear hcell c0 c1
        have g0 : decide (n1 ≤ k) = false := decide_eq_false (by omega)
        have KA := Lib.hid ((KR.out.alloc KR.out.size (.cells #[.string (S k).1, .int .i64 (S k).2] 40)).alloc (by have := KR.out.size; simp; omega) (.cells #[.string (T k).1, .int .i64 (T k).2] 40))
        by_cases he : (S k).1 = (T k).1
        · have HE := Lib.hid (decide_eq_true he)
          have HE2 := Lib.hid he
          clear he
          go_wp2_with fail
          refine (same_any (S k) (T k) _).mono ?_
          rintro e w1 ⟨rfl, k1⟩
          rw [HE.out]
          have K1 := Lib.hid (KA.out.trans (k1.mono KA.out.size))
          clear k1 y0 y1 z0 z1 z2 z3
          go_wp2_with fail
          go_roundw
          case rel => exact ⟨k + 1, by omega, by go_num, by simp [eqm, HI.out, HE2.out], K1.out⟩
          case measure => simp [intOf]; omega
        · have HE := Lib.hid (decide_eq_false he)
          have HE2 := Lib.hid he
          clear he
          go_wp2_with fail
          refine (same_any (S k) (T k) _).mono ?_
          rintro e w1 ⟨rfl, k1⟩
          rw [HE.out]
          have K1 := Lib.hid (KA.out.trans (k1.mono KA.out.size))
          clear k1 y0 y1 z0 z1 z2 z3
          go_wp2_with fail
          go_ret
          exact ⟨by rw [eqm_bad hlt HE2.out]; simp, K1.out⟩
      · obtain rfl : k = n1 := by omega
        go_wp2_with fail
        go_ret
        exact ⟨by rw [HI.out]; simp, KR.out⟩
  · have hn2 : (n1 == n2) = false := by simpa using hn
    go_enter Try.func39, Try.ntmps39
    go_wp2_with fail
    go_ret
    exact ⟨by simp [hn], Below.refl _ _⟩

/-- a change as a value -/
abbrev cV (A1 : Option Addr) (n1 c1 : Nat) (A2 : Option Addr) (n2 c2 : Nat) (A3 : Option Addr) (m c3 : Nat) : Value := .agg #[.slice A1 n1 c1, .slice A2 n2 c2, .slice A3 m c3]

set_option maxHeartbeats 1000000 in
theorem change_any (A1 A2 A3 : Option Addr) (n1 c1 n2 c2 m c3 : Nat) (S T : Nat → U) (w : World) (hS : UnitsIn w A1 n1 S) (hT : UnitsIn w A2 n2 T) (hF : Fits S n1) (hn : n1 ≤ 140737488355328) :
    Calls Try.prog 28 #[.agg #[.slice A1 n1 c1, .slice A2 n2 c2, .slice A3 m c3]] w fun e w' => e = .returned (.bool (chg n1 n2 S T)) ∧ Below w.heap.size w w' := by
  obtain ⟨W, hW⟩ : ∃ W, w.alloc (.cells #[.slice A1 n1 c1, .slice A2 n2 c2, .slice A3 m c3] 56) = W := ⟨_, rfl⟩
  have b : Blk W w.heap.size 56 #[.slice A1 n1 c1, .slice A2 n2 c2, .slice A3 m c3] := by rw [← hW]; exact Blk.made _ _ _
  have k : Below w.heap.size w W := by rw [← hW]; exact (Below.refl _ _).alloc (Nat.le_refl _) _
  have HS := Lib.hid (hS.below k (Nat.le_refl _))
  have HT := Lib.hid (hT.below k (Nat.le_refl _))
  have HF := Lib.hid hF
  have HW := Lib.hid hW
  have B := Lib.hid b
  have K := Lib.hid k
  clear hS hT hF hW b k
  go_enter Try.func28, Try.ntmps28
  go_wp2_with fail
  rw [HW.out]
  refine (valid_any A1 n1 c1 S W HS.out HF.out hn).mono ?_
  rintro e w1 ⟨rfl, k1⟩
  have b1 := B.out.below k1 B.out.lt
  have z0 : w1.cell? ⟨w.heap.size, 0, none⟩ = some (.slice A1 n1 c1) := b1.cell 0
  have z1 : w1.cell? ⟨w.heap.size, 1, none⟩ = some (.slice A2 n2 c2) := b1.cell 1
  have HS1 := Lib.hid (HS.out.below k1 (Nat.le_refl _))
  have HT1 := Lib.hid (HT.out.below k1 (Nat.le_refl _))
  have K1 := Lib.hid (K.out.trans (k1.mono K.out.size))
  clear b1 k1
  obtain ⟨x, hx⟩ : ∃ x, (decide (n1 ≤ 8) && dis S n1) = x := ⟨_, rfl⟩
  have HE : Hid (chg n1 n2 S T = (x && (decide (n1 = n2) && eqm S T n1))) := Lib.hid (by unfold chg; rw [hx])
  rw [hx]
  clear hx
  cases x with
  | false =>
    go_wp2_with fail
    go_ret
    exact ⟨by rw [HE.out]; rfl, K1.out⟩
  | true =>
    go_wp2_with fail
    refine (equal_any A1 A2 n1 c1 n2 c2 S T w1 HS1.out HT1.out).mono ?_
    rintro e w2 ⟨rfl, k2⟩
    have K2 := Lib.hid (K1.out.trans (k2.mono K1.out.size))
    clear k2 z0 z1
    obtain ⟨y, hy⟩ : ∃ y, (decide (n1 = n2) && eqm S T n1) = y := ⟨_, rfl⟩
    rw [hy] at HE
    rw [hy]
    clear hy
    go_wp2_with fail
    go_ret
    exact ⟨by rw [HE.out]; rfl, K2.out⟩

set_option maxHeartbeats 1000000 in
theorem compatible_bad (A A2 : Option Addr) (m c n c2 : Nat) (S : Nat → U) (w : World) (hU : UnitsIn w A2 n S) (hF : Fits S n) (hn : n ≤ 140737488355328) (hv : (decide (n ≤ 8) && dis S n) = false) :
    Calls Try.prog 13 #[.slice A m c, .slice A2 n c2] w fun e w' => e = .returned (.tuple #[.bool false, .int .i64 2]) ∧ Below w.heap.size w w' := by
  have HU := Lib.hid hU
  have HF := Lib.hid hF
  have HV := Lib.hid hv
  clear hU hF hv
  go_enter Try.func13, Try.ntmps13
  go_wp2_with fail
  refine (valid_any A2 n c2 S w HU.out HF.out hn).mono ?_
  rintro e w1 ⟨rfl, k1⟩
  rw [HV.out]
  have K1 := Lib.hid k1
  clear k1
  go_wp2_with fail
  go_ret2
  exact ⟨rfl, K1.out⟩

set_option maxHeartbeats 1000000 in
theorem compatible_ok (A A2 : Option Addr) (m c n c2 : Nat) (Rw : Nat → R) (S : Nat → U) (w : World) (hR : RowsIn w A m Rw) (hU : UnitsIn w A2 n S) (hF : Fits S n) (hc : n ≤ c2) (hn : n ≤ 140737488355328) (hv : (decide (n ≤ 8) && dis S n) = true) :
    Calls Try.prog 13 #[.slice A m c, .slice A2 n c2] w fun e w' => e = .returned (.tuple #[.bool (cmp m Rw S n), .int .i64 0]) ∧ Below w.heap.size w w' := by
  have HR := Lib.hid hR
  have HU := Lib.hid hU
  have HF := Lib.hid hF
  have HV := Lib.hid hv
  clear hR hU hF hv
  go_enter Try.func13, Try.ntmps13
  go_wp2_with fail
  refine (valid_any A2 n c2 S w HU.out HF.out hn).mono ?_
  rintro e w1 ⟨rfl, k1⟩
  rw [HV.out]
  have HR1 := Lib.hid (HR.out.below k1 (Nat.le_refl _))
  have HU1 := Lib.hid (HU.out.below k1 (Nat.le_refl _))
  have K1 := Lib.hid k1
  clear k1
  go_wp2_with fail
  refine (compat_any A A2 m c n c2 Rw S w1 HR1.out HU1.out hc).mono ?_
  rintro e w2 ⟨rfl, k2⟩
  have K2 := Lib.hid (K1.out.trans (k2.mono K1.out.size))
  clear k2
  obtain ⟨y, hy⟩ : ∃ y, cmp m Rw S n = y := ⟨_, rfl⟩
  have HY := Lib.hid hy
  rw [hy]
  clear hy
  go_wp2_with fail
  go_ret2
  exact ⟨by rw [HY.out]; rfl, K2.out⟩
end Go.Proofs.Ytcjbjhkmnfegnaa
