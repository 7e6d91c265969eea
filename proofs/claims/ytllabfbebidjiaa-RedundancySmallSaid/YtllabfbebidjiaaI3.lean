/-
  The contract of Accept, at a filter that New has made (every integer), at none and at one that New has not made. No condition.
-/
import Derived.Test.YtllabfbebidjiaaI2
import Derived.Test.YtllabfbebidjiaaReg
import Derived.Shelf.Abstract
namespace Go.Proofs.Ytllabfbebidjiaa
open Go.RowKit

/-- is the number accepted, p the one before, s: there is one -/
def adm (s : Bool) (p n : Int) : Bool := !s || decide (n = 0) || decide (n = nx p) || decide (n = nx (nx p))
def gsF : Nat → FuncId
  | 0 => 30
  | 1 => 31
  | 2 => 32
  | _ => 33
def lsF (qb nb : Nat) : Nat → Array Value
  | 0 => #[.pointer (some ⟨qb, 0, none⟩)]
  | 1 => #[.pointer (some ⟨nb, 0, none⟩)]
  | _ => #[.pointer (some ⟨nb, 0, none⟩), .pointer (some ⟨qb, 0, none⟩)]
def bsF (s : Bool) (p n : Int) : Nat → Bool
  | 0 => !s
  | 1 => decide (n = 0)
  | 2 => decide (n = nx p)
  | _ => decide (n = nx (nx p))
theorem bsF_some {s : Bool} {p n : Int} {k : Nat} (h : bsF s p n k = true) : adm s p n = true := by
  unfold adm
  match k with
  | 0 => simp only [bsF] at h; rw [h]; rfl
  | 1 => simp only [bsF] at h; rw [h]; cases s <;> rfl
  | 2 => simp only [bsF] at h; rw [h]; simp
  | k + 3 => simp only [bsF] at h; rw [h]; simp
theorem bsF_none {s : Bool} {p n : Int} (h : ∀ j, j < 4 → bsF s p n j = false) : adm s p n = false := by
  have h0 := h 0 (by omega)
  have h1 := h 1 (by omega)
  have h2 := h 2 (by omega)
  have h3 := h 3 (by omega)
  simp only [bsF] at h0 h1 h2 h3
  unfold adm
  rw [h0, h1, h2, h3]
  rfl

theorem index4 (sb qb nb fb c : Nat) (n a r p : Int) (s : Bool) (w : World) (hrow : ∀ k, k < 4 → w.cell? ⟨sb, k, none⟩ = some (.func (.func (gsF k)) #[] (lsF qb nb k)))
    (hq : w.cell? ⟨qb, 0, none⟩ = some (.pointer (some ⟨fb, 0, none⟩))) (hn : w.cell? ⟨nb, 0, none⟩ = some (.int .i64 n)) (hf : Flt w fb a r p s) :
    Calls Try.prog 49 #[.slice (some ⟨sb, 0, none⟩) 4 c, .func (.func 44) #[] #[]] w fun e w' => Same w w' ∧ ∃ i : Int, e = .returned (.int .i64 i) ∧ adm s p n = decide (0 ≤ i) := by
  refine (index_any sb 4 c gsF (lsF qb nb) (bsF s p n) w (by omega) hrow (fun k hk W hW => ?_)).mono ?_
  · have hq' := hW.cell hq
    have hn' := hW.cell hn
    have hf' : Flt W fb a r p s := hW.blk hf
    match k, hk with
    | 0, _ => exact one1 _ _ _ W (enters_of Try.func30 (by kernel_rfl) rfl) (cond1 qb fb a r p s W hq' hf')
    | 1, _ => exact one1 _ _ _ W (enters_of Try.func31 (by kernel_rfl) rfl) (cond2 nb n W hn')
    | 2, _ => exact one1 _ _ _ W (enters_of Try.func32 (by kernel_rfl) rfl) (cond3 nb qb fb n a r p s W hn' hq' hf')
    | 3, _ => exact one1 _ _ _ W (enters_of Try.func33 (by kernel_rfl) rfl) (cond4 nb qb fb n a r p s W hn' hq' hf')
  · rintro e w' ⟨hs, ⟨k, _, hb, rfl⟩ | ⟨hb, rfl⟩⟩
    · exact ⟨hs, _, rfl, by rw [bsF_some hb]; simp⟩
    · exact ⟨hs, _, rfl, by rw [bsF_none hb]; rfl⟩

set_option maxHeartbeats 400000 in
theorem contains4 (sb qb nb fb c : Nat) (n a r p : Int) (s : Bool) (w : World) (hrow : ∀ k, k < 4 → w.cell? ⟨sb, k, none⟩ = some (.func (.func (gsF k)) #[] (lsF qb nb k)))
    (hq : w.cell? ⟨qb, 0, none⟩ = some (.pointer (some ⟨fb, 0, none⟩))) (hn : w.cell? ⟨nb, 0, none⟩ = some (.int .i64 n)) (hf : Flt w fb a r p s) :
    Calls Try.prog 43 #[.slice (some ⟨sb, 0, none⟩) 4 c, .func (.func 44) #[] #[]] w fun e w' => e = .returned (.bool (adm s p n)) ∧ Same w w' := by
  have HR := Lib.hid hrow
  have HF := Lib.hid hf
  clear hrow hf
  go_enter Try.func43, Try.ntmps43
  go_wp2_with fail
  refine (index4 sb qb nb fb c n a r p s w HR.out hq hn HF.out).mono ?_
  rintro e w1 ⟨hs, i, rfl, ha⟩
  have HA := Lib.hid ha
  clear ha
  go_wp2_with fail
  go_ret
  exact ⟨ret_bool HA.out.symm, hs⟩

set_option maxHeartbeats 400000 in
theorem one4 (sb qb nb fb c : Nat) (n a r p : Int) (s : Bool) (w : World) (hrow : ∀ k, k < 4 → w.cell? ⟨sb, k, none⟩ = some (.func (.func (gsF k)) #[] (lsF qb nb k)))
    (hq : w.cell? ⟨qb, 0, none⟩ = some (.pointer (some ⟨fb, 0, none⟩))) (hn : w.cell? ⟨nb, 0, none⟩ = some (.int .i64 n)) (hf : Flt w fb a r p s) :
    Calls Try.prog 29 #[.slice (some ⟨sb, 0, none⟩) 4 c] w fun e w' => e = .returned (.bool (adm s p n)) ∧ Same w w' := by
  have HR := Lib.hid hrow
  have HF := Lib.hid hf
  clear hrow hf
  go_enter Try.func29, Try.ntmps29
  go_wp2_with fail
  refine (contains4 sb qb nb fb c n a r p s w HR.out hq hn HF.out).mono ?_
  rintro e w1 ⟨rfl, hs⟩
  go_wp2_with fail
  go_ret
  exact ⟨rfl, hs⟩
end Go.Proofs.Ytllabfbebidjiaa
