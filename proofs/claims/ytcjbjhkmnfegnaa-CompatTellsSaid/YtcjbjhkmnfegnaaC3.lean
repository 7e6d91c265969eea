/-
  The contracts of compatible and of what it calls (slices.ContainsFunc, slices.IndexFunc, its inner function). No condition.
-/
import Derived.Test.YtcjbjhkmnfegnaaC2
namespace Go.Proofs.Ytcjbjhkmnfegnaa
open Go.RowKit
/-- a unit works with each of the first k -/
def inn (m : Nat) (Rw : Nat → R) (a : U) (S : Nat → U) : Nat → Bool
  | 0 => true
  | k + 1 => inn m Rw a S k && works m Rw a (S k)
/-- the first n units are compatible -/
def cmp (m : Nat) (Rw : Nat → R) (S : Nat → U) : Nat → Bool
  | 0 => true
  | i + 1 => cmp m Rw S i && inn m Rw (S i) S i
theorem inn_mono {m : Nat} {Rw : Nat → R} {a : U} {S : Nat → U} : ∀ {k n : Nat}, k ≤ n → inn m Rw a S n = true → inn m Rw a S k = true
  | k, 0, h, _ => by obtain rfl : k = 0 := by omega
                     rfl
  | k, n + 1, h, e => by
    rcases Nat.lt_or_ge k (n + 1) with h' | h'
    · exact inn_mono (n := n) (by omega) (by simp only [inn, Bool.and_eq_true] at e; exact e.1)
    · obtain rfl : k = n + 1 := by omega
      exact e
theorem inn_bad {m : Nat} {Rw : Nat → R} {a : U} {S : Nat → U} {k n : Nat} (h : k < n) (e : works m Rw a (S k) = false) : inn m Rw a S n = false := by
  cases hn : inn m Rw a S n with
  | false => rfl
  | true =>
    have := inn_mono (show k + 1 ≤ n by omega) hn
    simp [inn, e] at this
theorem cmp_mono {m : Nat} {Rw : Nat → R} {S : Nat → U} : ∀ {k n : Nat}, k ≤ n → cmp m Rw S n = true → cmp m Rw S k = true
  | k, 0, h, _ => by obtain rfl : k = 0 := by omega
                     rfl
  | k, n + 1, h, e => by
    rcases Nat.lt_or_ge k (n + 1) with h' | h'
    · exact cmp_mono (n := n) (by omega) (by simp only [cmp, Bool.and_eq_true] at e; exact e.1)
    · obtain rfl : k = n + 1 := by omega
      exact e
theorem cmp_bad {m : Nat} {Rw : Nat → R} {S : Nat → U} {k n : Nat} (h : k < n) (e : inn m Rw (S k) S k = false) : cmp m Rw S n = false := by
  cases hn : cmp m Rw S n with
  | false => rfl
  | true =>
    have := cmp_mono (show k + 1 ≤ n by omega) hn
    simp [cmp, e] at this

set_option maxHeartbeats 1000000 in
theorem notw_any (A : Option Addr) (m c rb ab : Nat) (Rw : Nat → R) (u v : U) (w : World) (hR : RowsIn w A m Rw) (hr : Blk w rb 22 #[.slice A m c]) (ha : Blk w ab 40 #[.string u.1, .int .i64 u.2]) :
    Calls Try.prog 41 #[uV v, .pointer (some ⟨rb, 0, none⟩), .pointer (some ⟨ab, 0, none⟩)] w fun e w' => e = .returned (.bool (!works m Rw u v)) ∧ Below w.heap.size w w' := by
  obtain ⟨ua, uv⟩ := u
  obtain ⟨va, vv⟩ := v
  obtain ⟨W, hW⟩ : ∃ W, w.alloc (.cells #[.string va, .int .i64 vv] 40) = W := ⟨_, rfl⟩
  have z0 : W.cell? ⟨rb, 0, none⟩ = some (.slice A m c) := by rw [← hW]; exact (hr.alloc _).cell 0
  have z1 : W.cell? ⟨ab, 0, none⟩ = some (.string ua) := by rw [← hW]; exact (ha.alloc _).cell 0
  have z2 : W.cell? ⟨ab, 1, none⟩ = some (.int .i64 uv) := by rw [← hW]; exact (ha.alloc _).cell 1
  have z3 : W.cell? ⟨w.heap.size, 0, none⟩ = some (.string va) := by rw [← hW]; exact (Blk.made w 40 #[.string va, .int .i64 vv]).cell 0
  have z4 : W.cell? ⟨w.heap.size, 1, none⟩ = some (.int .i64 vv) := by rw [← hW]; exact (Blk.made w 40 #[.string va, .int .i64 vv]).cell 1
  have kW : Below w.heap.size w W := by rw [← hW]; exact (Below.refl _ _).alloc (Nat.le_refl _) _
  have HR := Lib.hid (hR.below kW (Nat.le_refl _))
  have KW := Lib.hid kW
  rw [← hW] at z0 z1 z2
  have HW := Lib.hid hW
  clear hR hr ha kW z3 z4 hW
  go_enter Try.func41, Try.ntmps41
  go_wp2_with fail
  rw [HW.out]
  refine (works_any A m c Rw (ua, uv) (va, vv) W HR.out).mono ?_
  rintro e w1 ⟨rfl, k1⟩
  have K1 := Lib.hid (KW.out.trans (k1.mono KW.out.size))
  clear k1 z0 z1 z2
  obtain ⟨x, hx⟩ : ∃ x, works m Rw (ua, uv) (va, vv) = x := ⟨_, rfl⟩
  rw [hx]
  have HX := Lib.hid hx
  clear hx
  go_wp2_with fail
  go_ret
  exact ⟨by rw [HX.out]; rfl, K1.out⟩

set_option maxHeartbeats 1000000 in
theorem index_any (A A2 : Option Addr) (m c n c2 rb ab : Nat) (Rw : Nat → R) (u : U) (S : Nat → U) (w : World) (hR : RowsIn w A m Rw) (hU : UnitsIn w A2 n S) (hr : Blk w rb 22 #[.slice A m c]) (ha : Blk w ab 40 #[.string u.1, .int .i64 u.2]) :
    Calls Try.prog 43 #[.slice A2 n c2, .func (.func 41) #[] #[.pointer (some ⟨rb, 0, none⟩), .pointer (some ⟨ab, 0, none⟩)]] w fun e w' => (∃ i : Int, e = .returned (.int .i64 i) ∧ decide (0 ≤ i) = !inn m Rw u S n) ∧ Below w.heap.size w w' := by
  obtain ⟨n1, hU⟩ := hU
  have HR := Lib.hid hR
  have HU := Lib.hid hU
  have Hr := Lib.hid hr
  have Ha := Lib.hid ha
  clear hR hU hr ha
  go_enter Try.func43, Try.ntmps43
  go_wp2_with fail
  go_loopw [8] (fun i wr => ∃ k : Nat, k ≤ n ∧ i = .int .i64 k ∧ inn m Rw u S k = true ∧ Below w.heap.size w wr)
    (fun i _ => n - (intOf i).toNat)
  case atStart => exact ⟨0, Nat.zero_le _, rfl, rfl, Below.refl _ _⟩
  case round =>
    obtain ⟨k, hk, rfl, hi, kr⟩ := hrel
    have HI := Lib.hid hi
    have KR := Lib.hid kr
    clear hi kr
    by_cases hlt : k < n
    · obtain ⟨ob, off, rfl, hb, hcell⟩ := HU.out (by omega)
      obtain ⟨c0, c1⟩ := hcell k hlt
      have y0 : wr.cell? ⟨ob, off + k * 2, none⟩ = some (.string (S k).1) := (KR.out.cell (p := ⟨ob, off + k * 2, none⟩) hb).trans c0
      have y1 : wr.cell? ⟨ob, off + k * 2 + 1, none⟩ = some (.int .i64 (S k).2) := (KR.out.cell (p := ⟨ob, off + k * 2 + 1, none⟩) hb).trans c1
      clear hcell c0 c1
      have g0 : decide (n ≤ k) = false := decide_eq_false (by omega)
      cases hx : works m Rw u (S k) with
      | false =>
        have HX := Lib.hid hx
        clear hx
        go_wp2_with fail
        refine (notw_any A m c rb ab Rw u (S k) wr (HR.out.below KR.out (Nat.le_refl _)) (Hr.out.below KR.out Hr.out.lt) (Ha.out.below KR.out Ha.out.lt)).mono ?_
        rintro e w1 ⟨rfl, k1⟩
        rw [HX.out]
        have K1 := Lib.hid (KR.out.trans (k1.mono KR.out.size))
        clear k1 y0 y1
        go_wp2_with fail
        go_ret
        exact ⟨⟨_, rfl, by rw [inn_bad hlt HX.out]; simp⟩, K1.out⟩
      | true =>
        have HX := Lib.hid hx
        clear hx
        go_wp2_with fail
        refine (notw_any A m c rb ab Rw u (S k) wr (HR.out.below KR.out (Nat.le_refl _)) (Hr.out.below KR.out Hr.out.lt) (Ha.out.below KR.out Ha.out.lt)).mono ?_
        rintro e w1 ⟨rfl, k1⟩
        rw [HX.out]
        have K1 := Lib.hid (KR.out.trans (k1.mono KR.out.size))
        clear k1 y0 y1
        go_wp2_with fail
        go_roundw
        case rel => exact ⟨k + 1, by omega, by go_num, by simp [inn, HI.out, HX.out], K1.out⟩
        case measure => simp [intOf]; omega
    · obtain rfl : k = n := by omega
      go_wp2_with fail
      go_ret
      exact ⟨⟨_, rfl, by rw [HI.out]; rfl⟩, KR.out⟩

set_option maxHeartbeats 1000000 in
theorem contains_any (A A2 : Option Addr) (m c n c2 rb ab : Nat) (Rw : Nat → R) (u : U) (S : Nat → U) (w : World) (hR : RowsIn w A m Rw) (hU : UnitsIn w A2 n S) (hr : Blk w rb 22 #[.slice A m c]) (ha : Blk w ab 40 #[.string u.1, .int .i64 u.2]) :
    Calls Try.prog 40 #[.slice A2 n c2, .func (.func 41) #[] #[.pointer (some ⟨rb, 0, none⟩), .pointer (some ⟨ab, 0, none⟩)]] w fun e w' => e = .returned (.bool (!inn m Rw u S n)) ∧ Below w.heap.size w w' := by
  have HR := Lib.hid hR
  have HU := Lib.hid hU
  have Hr := Lib.hid hr
  have Ha := Lib.hid ha
  clear hR hU hr ha
  go_enter Try.func40, Try.ntmps40
  go_wp2_with fail
  refine (index_any A A2 m c n c2 rb ab Rw u S w HR.out HU.out Hr.out Ha.out).mono ?_
  rintro e w1 ⟨⟨i, rfl, hi⟩, k1⟩
  have HI := Lib.hid hi
  have K1 := Lib.hid k1
  clear hi k1
  go_wp2_with fail
  go_ret
  exact ⟨ret_bool HI.out, K1.out⟩

set_option maxHeartbeats 1000000 in
theorem compat_any (A A2 : Option Addr) (m c n c2 : Nat) (Rw : Nat → R) (S : Nat → U) (w : World) (hR : RowsIn w A m Rw) (hU : UnitsIn w A2 n S) (hc : n ≤ c2) :
    Calls Try.prog 30 #[.slice A m c, .slice A2 n c2] w fun e w' => e = .returned (.bool (cmp m Rw S n)) ∧ Below w.heap.size w w' := by
  obtain ⟨n1, hU'⟩ := id hU
  have HR := Lib.hid hR
  have HU0 := Lib.hid hU
  have HU := Lib.hid hU'
  clear hR hU hU'
  go_enter Try.func30, Try.ntmps30
  go_wp2_with fail
  obtain ⟨W, hW⟩ : ∃ W, w.alloc (.cells #[.slice A m c] 22) = W := ⟨_, rfl⟩
  try rw [hW]
  have b2 : Blk W w.heap.size 22 #[.slice A m c] := by rw [← hW]; exact Blk.made _ _ _
  have kW : Below w.heap.size w W := by rw [← hW]; exact (Below.refl _ _).alloc (Nat.le_refl _) _
  have B2 := Lib.hid b2
  have KW := Lib.hid kW
  clear b2 kW hW
  go_loopw [9] (fun i wr => ∃ k : Nat, k ≤ n ∧ i = .int .i64 k ∧ cmp m Rw S k = true ∧ Blk wr w.heap.size 22 #[.slice A m c] ∧ Below w.heap.size w wr)
    (fun i _ => n - (intOf i).toNat)
  case atStart => exact ⟨0, Nat.zero_le _, rfl, rfl, B2.out, KW.out⟩
  case round =>
    obtain ⟨k, hk, rfl, hi, h2, kr⟩ := hrel
    have HI := Lib.hid hi
    have H2 := Lib.hid h2
    have KR := Lib.hid kr
    clear hi h2 kr
    by_cases hlt : k < n
    · obtain ⟨ob, off, rfl, hb, hcell⟩ := HU.out (by omega)
      obtain ⟨c0, c1⟩ := hcell k hlt
      have y0 : wr.cell? ⟨ob, off + k * 2, none⟩ = some (.string (S k).1) := (KR.out.cell (p := ⟨ob, off + k * 2, none⟩) hb).trans c0
      have y1 : wr.cell? ⟨ob, off + k * 2 + 1, none⟩ = some (.int .i64 (S k).2) := (KR.out.cell (p := ⟨ob, off + k * 2 + 1, none⟩) hb).trans c1
      clear hcell c0 c1
      have g0 : decide (c2 < k) = false := decide_eq_false (by omega)
      obtain ⟨W1, hW1⟩ : ∃ W1, wr.alloc (.cells #[.string (S k).1, .int .i64 (S k).2] 40) = W1 := ⟨_, rfl⟩
      have q2 : Blk W1 w.heap.size 22 #[.slice A m c] := by rw [← hW1]; exact H2.out.alloc _
      have q6 : Blk W1 wr.heap.size 40 #[.string (S k).1, .int .i64 (S k).2] := by rw [← hW1]; exact Blk.made _ _ _
      have kq : Below w.heap.size w W1 := by rw [← hW1]; exact KR.out.alloc KR.out.size _
      have HW1 := Lib.hid hW1
      have Q2 := Lib.hid q2
      have Q6 := Lib.hid q6
      have KQ := Lib.hid kq
      clear q2 q6 kq hW1
      cases hx : inn m Rw (S k) S k with
      | false =>
        have HX := Lib.hid hx
        clear hx
        go_wp2_with fail
        rw [HW1.out]
        refine (contains_any A _ m c k _ w.heap.size wr.heap.size Rw (S k) S W1 (HR.out.below KQ.out (Nat.le_refl _)) ((HU0.out.less hk).below KQ.out (Nat.le_refl _)) Q2.out Q6.out).mono ?_
        rintro e w1 ⟨rfl, k1⟩
        rw [HX.out]
        have K1 := Lib.hid (KQ.out.trans (k1.mono KQ.out.size))
        clear k1 y0 y1
        go_wp2_with fail
        go_ret
        exact ⟨by rw [cmp_bad hlt HX.out]; rfl, K1.out⟩
      | true =>
        have HX := Lib.hid hx
        clear hx
        go_wp2_with fail
        rw [HW1.out]
        refine (contains_any A _ m c k _ w.heap.size wr.heap.size Rw (S k) S W1 (HR.out.below KQ.out (Nat.le_refl _)) ((HU0.out.less hk).below KQ.out (Nat.le_refl _)) Q2.out Q6.out).mono ?_
        rintro e w1 ⟨rfl, k1⟩
        rw [HX.out]
        have H21 := Lib.hid (Q2.out.below k1 Q2.out.lt)
        have K1 := Lib.hid (KQ.out.trans (k1.mono KQ.out.size))
        clear k1 y0 y1
        go_wp2_with fail
        go_roundw
        case rel => exact ⟨k + 1, by omega, by go_num, by simp [cmp, HI.out, HX.out], H21.out, K1.out⟩
        case measure => simp [intOf]; omega
    · obtain rfl : k = n := by omega
      go_wp2_with fail
      go_ret
      exact ⟨by rw [HI.out]; rfl, KR.out⟩
end Go.Proofs.Ytcjbjhkmnfegnaa
