/-
  The contracts of the law's own helpers: has, Ints, changed.
-/
import Derived.Test.YtcjbjhkmnfegnaaC8
import Derived.Test.YtcjbjhkmnfegnaaP2
import Derived.BigQuiet
namespace Go.Proofs.Ytcjbjhkmnfegnaa
open Go.RowKit Go.Shelf
theorem belowN {B n : Nat} {a w : World} (h : Below B a w) : Below B a (w.drewN n) := ⟨h.os, h.tape, h.output, h.size, h.block⟩
/-- whatever the slice holds -/
theorem has_any (A : Option Addr) (c : Nat) (z : List Nat) (x : Nat) (w : World) (hz : NumsIn w A z) (hl : z.length ≤ 256) :
    Calls Try.prog 15 #[.slice A z.length c, .int .i64 (x : Int)] w fun e w' => e = .returned (.bool (z.contains x)) ∧ Below w.heap.size w w' := by
  have HZ := Lib.hid hz
  obtain ⟨len, hlen⟩ : ∃ len, z.length = len := ⟨_, rfl⟩
  have HL := Lib.hid hlen
  rw [hlen] at hl
  rw [hlen]
  clear hz hlen
  go_enter Try.func15, Try.ntmps15
  go_wp2_with fail
  go_loopw [9] (fun i wr => ∃ k : Nat, k ≤ len ∧ i = .int .i64 k ∧ (z.take k).contains x = false ∧ Below w.heap.size w wr)
    (fun i _ => len - (intOf i).toNat)
  case atStart => exact ⟨0, Nat.zero_le _, rfl, by simp, Below.refl _ _⟩
  case round =>
    obtain ⟨k, hk, rfl, hno, kr⟩ := hrel
    by_cases hlt : k < len
    · obtain ⟨b, rfl, hb, hc⟩ := HZ.out (by rw [HL.out]; omega)
      have y0 := (kr.cell (p := ⟨b, k, none⟩) hb).trans (hc k (by rw [HL.out]; exact hlt))
      clear hc
      obtain ⟨y, hy⟩ : ∃ y, z.getD k 0 = y := ⟨_, rfl⟩
      rw [hy] at y0
      have hzk : z[k]? = some y := by
        rw [List.getElem?_eq_getElem (by rw [HL.out]; exact hlt)]
        rw [← hy, List.getD_eq_getElem?_getD, List.getElem?_eq_getElem (by rw [HL.out]; exact hlt)]
        rfl
      have HT : Hid (z.take (k + 1) = z.take k ++ [y]) := Lib.hid (by rw [List.take_add_one, hzk]; rfl)
      have HM : Hid (y ∈ z) := Lib.hid (List.mem_of_getElem? hzk)
      have HN := Lib.hid hno
      have HK := Lib.hid kr
      have g0 : decide (len ≤ k) = false := decide_eq_false (by omega)
      have g1 : decide ((k : Int) < 0) = false := decide_eq_false (by omega)
      have hki : (k : Int) < len := by omega
      clear hy hzk hno kr
      by_cases e : x = y
      · subst e
        go_wp2_with fail
        go_ret
        exact ⟨by rw [List.contains_iff_mem.2 HM.out]; rfl, HK.out⟩
      · have e' : ¬ (x : Int) = (y : Int) := fun h => e (by omega)
        have e2 : (x == y) = false := by simpa using e
        go_wp2_with fail
        go_roundw
        case rel => exact ⟨k + 1, by omega, by go_num, by rw [HT.out]; simp only [List.contains_eq_any_beq, List.any_append, List.any_cons, List.any_nil] at HN ⊢; rw [HN.out]; simp [e], HK.out⟩
        case measure => simp [intOf]; omega
    · obtain rfl : k = len := by omega
      have HC : Hid (z.contains x = false) := Lib.hid (by rw [← hno, List.take_of_length_le (by rw [HL.out]; exact Nat.le_refl _)])
      have HK := Lib.hid kr
      clear hno kr
      go_wp2_with fail
      go_ret
      exact ⟨by rw [HC.out]; rfl, HK.out⟩
theorem ints_any (A B : Option Addr) (c c2 : Nat) (z y : List Nat) (w : World) (hz : NumsIn w A z) (hy : NumsIn w B y) (hl : z.length ≤ 256) :
    Calls Try.prog 26 #[.slice A z.length c, .slice B y.length c2] w fun e w' => e = .returned (.bool (decide (z = y))) ∧ Below w.heap.size w w' := by
  have HZ := Lib.hid hz
  have HY := Lib.hid hy
  by_cases hne : z.length = y.length
  · obtain ⟨len, hlen⟩ : ∃ len, z.length = len := ⟨_, rfl⟩
    have HL := Lib.hid hlen
    have HL2 := Lib.hid (hne.symm.trans hlen)
    rw [hlen] at hl
    rw [HL2.out, hlen]
    clear hz hy hlen hne
    go_enter Try.func26, Try.ntmps26
    go_wp2_with fail
    go_loopw [13] (fun i wr => ∃ k : Nat, k ≤ len ∧ i = .int .i64 k ∧ z.take k = y.take k ∧ Below w.heap.size w wr)
      (fun i _ => len - (intOf i).toNat)
    case atStart => exact ⟨0, Nat.zero_le _, rfl, by simp, Below.refl _ _⟩
    case round =>
      obtain ⟨k, hk, rfl, hno, kr⟩ := hrel
      by_cases hlt : k < len
      · obtain ⟨b, rfl, hb, hc⟩ := HZ.out (by rw [HL.out]; omega)
        have y0 := (kr.cell (p := ⟨b, k, none⟩) hb).trans (hc k (by rw [HL.out]; exact hlt))
        clear hc
        obtain ⟨b2, rfl, hb2, hc⟩ := HY.out (by rw [HL2.out]; omega)
        have y1 := (kr.cell (p := ⟨b2, k, none⟩) hb2).trans (hc k (by rw [HL2.out]; exact hlt))
        clear hc
        obtain ⟨x1, hx1⟩ : ∃ x1, z.getD k 0 = x1 := ⟨_, rfl⟩
        obtain ⟨x2, hx2⟩ : ∃ x2, y.getD k 0 = x2 := ⟨_, rfl⟩
        rw [hx1] at y0
        rw [hx2] at y1
        have hzk : z[k]? = some x1 := by
          rw [← hx1, List.getD_eq_getElem?_getD, List.getElem?_eq_getElem (by rw [HL.out]; exact hlt)]
          rfl
        have hyk : y[k]? = some x2 := by
          rw [← hx2, List.getD_eq_getElem?_getD, List.getElem?_eq_getElem (by rw [HL2.out]; exact hlt)]
          rfl
        have HT1 : Hid (z.take (k + 1) = z.take k ++ [x1]) := Lib.hid (by rw [List.take_add_one, hzk]; rfl)
        have HT2 : Hid (y.take (k + 1) = y.take k ++ [x2]) := Lib.hid (by rw [List.take_add_one, hyk]; rfl)
        have HNE : Hid (x1 ≠ x2 → z ≠ y) := Lib.hid (fun h1 h2 => h1 (by rw [← hx1, ← hx2, h2]))
        have HN := Lib.hid hno
        have HK := Lib.hid kr
        have g0 : decide (len ≤ k) = false := decide_eq_false (by omega)
        have g1 : decide ((k : Int) < 0) = false := decide_eq_false (by omega)
        clear hx1 hx2 hzk hyk hno kr
        by_cases e : x1 = x2
        · subst e
          go_wp2_with (go_quiet (fail))
          go_roundw
          case rel => exact ⟨k + 1, by omega, by go_num, by rw [HT1.out, HT2.out, HN.out], belowN HK.out⟩
          case measure => simp [intOf]; omega
        · have e' : ¬ (x1 : Int) = (x2 : Int) := fun h => e (by omega)
          have e2 : (x1 == x2) = false := by simpa using e
          have HNEQ := Lib.hid (HNE.out e)
          go_wp2_with (go_quiet (fail))
          go_ret
          exact ⟨by rw [decide_eq_false HNEQ.out]; rfl, belowN HK.out⟩
      · obtain rfl : k = len := by omega
        have HC : Hid (z = y) := Lib.hid (by rw [List.take_of_length_le (by rw [HL.out]; exact Nat.le_refl _), List.take_of_length_le (by rw [HL2.out]; exact Nat.le_refl _)] at hno; exact hno)
        have HK := Lib.hid kr
        clear hno kr
        go_wp2_with fail
        go_ret
        exact ⟨by rw [decide_eq_true HC.out]; rfl, HK.out⟩
  · have HC : Hid (z ≠ y) := Lib.hid (fun h => hne (by rw [h]))
    obtain ⟨l1, h1⟩ : ∃ l1, z.length = l1 := ⟨_, rfl⟩
    obtain ⟨l2, h2⟩ : ∃ l2, y.length = l2 := ⟨_, rfl⟩
    rw [h1, h2] at hne ⊢
    clear h1 h2 hz hy hl
    have e' : ¬ (l1 : Int) = (l2 : Int) := fun h => hne (by omega)
    have e2 : (l1 == l2) = false := by simpa using hne
    go_enter Try.func26, Try.ntmps26
    go_wp2_with fail
    go_ret
    exact ⟨by rw [decide_eq_false HC.out]; rfl, Below.refl _ _⟩
end Go.Proofs.Ytcjbjhkmnfegnaa
