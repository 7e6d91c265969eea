/-
  The contract of the law's own helper changed.
-/
import Derived.Test.YtcjbjhkmnfegnaaM2
import Derived.Test.YtcjbjhkmnfegnaaIt
namespace Go.Proofs.Ytcjbjhkmnfegnaa
open Go.RowKit Go.Shelf
set_option maxHeartbeats 4000000 in
theorem changed_any (A1 A2 : Option Addr) (n c1 c2 : Nat) (S T : Nat → U) (w : World) (hS : UnitsIn w A1 n S) (hT : UnitsIn w A2 n T) (h8 : n ≤ 8) (hM : ∀ k, k < n → (S k).1 = (T k).1) :
    Calls Try.prog 14 #[.slice A1 n c1, .slice A2 n c2] w fun e w' => e = .returned (.int .i64 (gl S T n : Nat)) ∧ Below w.heap.size w w' := by
  have HS := Lib.hid hS
  have HT := Lib.hid hT
  have HM := Lib.hid hM
  clear hS hT hM
  go_enter Try.func14, Try.ntmps14
  go_wp2_with fail
  go_loopw [5, 9] (fun g i wr => ∃ k : Nat, k ≤ n ∧ i = .int .i64 k ∧ g = .int .i64 (gl S T k : Nat) ∧ Below w.heap.size w wr)
    (fun _ i _ => n - (intOf i).toNat)
  case atStart => exact ⟨0, Nat.zero_le _, rfl, rfl, Below.refl _ _⟩
  case round =>
    obtain ⟨k, hk, rfl, rfl, kr⟩ := hrel
    by_cases hlt : k < n
    · have k8 : k < 8 := by omega
      obtain ⟨ob, off, rfl, hob, hcell⟩ := HS.out.2 (by omega)
      obtain ⟨q6, q7⟩ := hcell k hlt
      clear hcell
      obtain ⟨ob2, off2, rfl, hob2, hcell⟩ := HT.out.2 (by omega)
      obtain ⟨q8, q9⟩ := hcell k hlt
      clear hcell
      have y6 := (kr.cell (p := ⟨ob, off + k * 2, none⟩) hob).trans q6
      have y7 := (kr.cell (p := ⟨ob, off + k * 2 + 1, none⟩) hob).trans q7
      have y8 := (kr.cell (p := ⟨ob2, off2 + k * 2, none⟩) hob2).trans q8
      have y9 := (kr.cell (p := ⟨ob2, off2 + k * 2 + 1, none⟩) hob2).trans q9
      have hmk := HM.out k hlt
      rw [← hmk] at y8
      clear q6 q7 q8 q9
      have gk := gl_lt S T (k := k) (by omega)
      obtain ⟨sa, hsa⟩ : ∃ sa, (S k).1 = sa := ⟨_, rfl⟩
      obtain ⟨sv, hsv⟩ : ∃ sv, (S k).2 = sv := ⟨_, rfl⟩
      obtain ⟨tv, htv⟩ : ∃ tv, (T k).2 = tv := ⟨_, rfl⟩
      have hdf : Hid (df S T k = !(sv == tv)) := Lib.hid (by unfold df; rw [hmk, hsv, htv]; simp)
      have HGL : Hid (gl S T (k + 1) = if df S T k = true then up (gl S T k) k else gl S T k) := Lib.hid rfl
      rw [hsa] at y6 y8
      rw [hsv] at y7
      rw [htv] at y9
      clear hsa hsv htv hmk
      have g0 : decide (n ≤ k) = false := decide_eq_false (by omega)
      have g1' : decide ((k : Int) < 0) = false := decide_eq_false (by omega)
      have g2 : decide ((k : Int) < (n : Int)) = true := decide_eq_true (by omega)
      have g3 : (k : Int) < (n : Int) := by omega
      obtain ⟨gg, hgg⟩ : ∃ gg, gl S T k = gg := ⟨_, rfl⟩
      rw [hgg] at gk HGL
      rw [hgg]
      clear hgg
      have KR := Lib.hid kr
      clear kr
      by_cases hv : sv = tv
      · subst hv
        have HGE : Hid (gl S T (k + 1) = gg) := Lib.hid (by rw [HGL.out, hdf.out]; simp)
        clear HGL
        go_wp2_with (go_quiet (fail))
        go_roundw
        case rel => exact ⟨k + 1, by omega, by go_num, by rw [HGE.out], belowN KR.out⟩
        case measure => simp [intOf]; omega
      · have HGE : Hid (gl S T (k + 1) = up gg k) := Lib.hid (by rw [HGL.out, hdf.out]; simp [hv])
        have hwr := wrap_two k8
        have hor := up_int gk k8
        clear HGL
        go_wp2_with (go_quiet (fail))
        go_roundw
        case rel => exact ⟨k + 1, by omega, by go_num, by rw [HGE.out], belowN KR.out⟩
        case measure => simp [intOf]; omega
    · obtain rfl : k = n := by omega
      have KR := Lib.hid kr
      obtain ⟨gg, hgg⟩ : ∃ gg, gl S T k = gg := ⟨_, rfl⟩
      have HGG := Lib.hid hgg
      rw [hgg]
      clear kr hgg
      go_wp2_with fail
      go_ret
      exact ⟨by rw [HGG.out]; rfl, KR.out⟩
end Go.Proofs.Ytcjbjhkmnfegnaa
