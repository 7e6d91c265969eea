/-
  The contract of Order, where the two sets form no change.
-/
import Derived.Test.YtcjbjhkmnfegnaaO1
namespace Go.Proofs.Ytcjbjhkmnfegnaa
open Go.RowKit Go.Shelf
attribute [local go_sem] Oper.semAt_some
set_option maxRecDepth 100000 in
set_option maxHeartbeats 2000000 in
theorem order_bad (A1 A2 A3 : Option Addr) (n c1 n2 c2 m c3 : Nat) (S T : Nat → U) (w : World) (hS : UnitsIn w A1 n S) (hT : UnitsIn w A2 n2 T) (hF : Fits S n) (hn : n ≤ 140737488355328) (hv : chg n n2 S T = false) :
    Calls Try.prog 12 #[.slice A3 m c3, .slice A1 n c1, .slice A2 n2 c2] w fun e w' => e = .returned (.tuple #[.slice none 0 0, .int .i64 2]) ∧ Below w.heap.size w w' := by
  have HS := Lib.hid hS
  have HT := Lib.hid hT
  have HF := Lib.hid hF
  have HV := Lib.hid hv
  clear hS hT hF hv
  refine (callsIn_wide (n := 5)).1 ?_
  refine callsIn_of_wp_marks Try.func12 rfl trivial ?_ rfl
  simp only [Try.ntmps12, List.size_toArray, List.length_cons, List.length_nil, Nat.reduceAdd, Nat.reduceSub, Array.replicate_succ, Array.replicate_zero, List.push_toArray, List.append_toArray, List.nil_append, List.cons_append]
  gi_wp2_with fail
  obtain ⟨W, hW⟩ : ∃ W, w.alloc (.cells #[.slice A1 n c1, .slice A2 n2 c2, .slice A3 m c3] 56) = W := ⟨_, rfl⟩
  rw [hW]
  have k : Below w.heap.size w W := by rw [← hW]; exact (Below.refl _ _).alloc (Nat.le_refl _) _
  refine ⟨trivial, ?_⟩
  refine (callsIn_wide.2 (change_any A1 A2 A3 n c1 n2 c2 m c3 S T W (HS.out.below k (Nat.le_refl _)) (HT.out.below k (Nat.le_refl _)) HF.out hn)).mono ?_
  rintro e w1 ⟨rfl, k1⟩
  rw [HV.out]
  have K1 := Lib.hid (k.trans (k1.mono k.size))
  clear k k1 hW
  gi_wp2_with fail
  refine marks_leave (B := w.heap.size) [] _ trivial (fun W' hs => ⟨_, res_two rfl, ?_⟩)
  exact ⟨rfl, K1.out.trans hs.1⟩
end Go.Proofs.Ytcjbjhkmnfegnaa
