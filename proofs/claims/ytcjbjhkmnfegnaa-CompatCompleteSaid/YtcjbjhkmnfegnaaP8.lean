/-
  Plain law: bits cleared, by tables. No program in sight.
-/
import Derived.Test.YtcjbjhkmnfegnaaP7
namespace Go.Proofs.Ytcjbjhkmnfegnaa
open Go.RowKit
/-- a number without a bit -/
def dn (b k : Nat) : Nat := if b.testBit k then b ^^^ 2 ^ k else b
theorem dn_tab : ∀ b : Fin 256, ∀ k : Fin 8, bits .andNot .i64 ((b.val : Nat) : Int) (2 ^ k.val) = ((dn b.val k.val : Nat) : Int) := by decide +kernel
theorem dn_int {b k : Nat} (hb : b < 256) (hk : k < 8) : bits .andNot .i64 (b : Int) (2 ^ k) = ((dn b k : Nat) : Int) := dn_tab ⟨b, hb⟩ ⟨k, hk⟩
theorem dn_up {a k : Nat} (h : a.testBit k = false) : dn (up a k) k = a := by
  unfold dn
  rw [up_bit]
  simp only [h, decide_true, Bool.false_or, if_true]
  refine Nat.eq_of_testBit_eq fun j => ?_
  rw [Nat.testBit_xor, up_bit, Nat.testBit_two_pow]
  by_cases e : k = j
  · subst e; simp [h]
  · simp [e]
theorem an_tab : ∀ b : Fin 256, ∀ g : Fin 256, b.val &&& g.val = b.val → bits .andNot .i64 ((b.val : Nat) : Int) ((g.val : Nat) : Int) = 0 := by decide +kernel
theorem an_sub {S T : Nat → U} {n b : Nat} (hn : n ≤ 8) (hb : b < 256) (h : Sub S T n b) : bits .andNot .i64 (b : Int) ((gl S T n : Nat) : Int) = 0 := by
  refine an_tab ⟨b, hb⟩ ⟨gl S T n, gl_lt S T hn⟩ (Nat.eq_of_testBit_eq fun j => ?_)
  show (b &&& gl S T n).testBit j = _
  rw [Nat.testBit_and]
  cases hj : b.testBit j with
  | false => rfl
  | true => rw [h j hj]; rfl
end Go.Proofs.Ytcjbjhkmnfegnaa
