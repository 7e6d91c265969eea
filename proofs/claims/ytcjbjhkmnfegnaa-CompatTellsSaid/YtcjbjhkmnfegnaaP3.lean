/-
  Plain law: Order's answer is one: a computed road. No program in sight.
-/
import Derived.Test.YtcjbjhkmnfegnaaP2
namespace Go.Proofs.Ytcjbjhkmnfegnaa
open Go.RowKit
/-- Order's road, computed -/
def ord (m : Nat) (Rw : Nat → R) (n : Nat) (S T : Nat → U) : Nat → List Nat → Nat → Option (List Nat)
  | 0, p, b => if b = gl S T n then some p else none
  | f + 1, p, b => if b = gl S T n then some p else match nxt m Rw n S T b with
    | none => none
    | some k => ord m Rw n S T f (p ++ [k]) (up b k)
/-- Order's answer, where the old set is compatible -/
def ordF (m : Nat) (Rw : Nat → R) (n : Nat) (S T : Nat → U) : Option (List Nat) := ord m Rw n S T 256 [] 0
variable {m n : Nat} {Rw : Nat → R} {S T : Nat → U}
theorem nxt_parts {b k : Nat} (h : nxt m Rw n S T b = some k) : k < n ∧ stp m Rw n S T b k = true ∧ lead m Rw n S T (up b k) = true := by
  unfold nxt at h
  cases hf : (elsS m Rw n S T b n).find? (fun x => lead m Rw n S T x.2) with
  | none => simp [hf] at h
  | some x =>
    simp [hf] at h
    obtain ⟨h1, h2, h3⟩ := elsS_mem (List.mem_of_find?_eq_some hf)
    have h4 := List.find?_some hf
    rw [h3] at h4
    subst h
    exact ⟨h1, h2, h4⟩
theorem Gp.bits (hn : n ≤ 8) {p : List Nat} {b : Nat} (h : Gp m Rw n S T p b) : b < 256 ∧ p.length ≤ b := by
  induction h with
  | start => exact ⟨by omega, Nat.le_refl _⟩
  | @more p b k h1 h2 h3 ih =>
    obtain ⟨h4, h5, _⟩ := nxt_parts h3
    have hu1 := up_lt ih.1 (show k < 8 by omega)
    have hu2 := up_le ih.1 (show k < 8 by omega)
    have hu3 : up b k ≠ b := fun e => by
      have := (up_same ih.1 (show k < 8 by omega)).1 e
      simp [stp, this] at h5
    refine ⟨hu1, ?_⟩
    simp only [List.length_append, List.length_cons, List.length_nil]
    omega
theorem Gp.ord_eq {p : List Nat} {b : Nat} (h : Gp m Rw n S T p b) : ∀ f, ord m Rw n S T (f + p.length) [] 0 = ord m Rw n S T f p b := by
  induction h with
  | start => intro f; rfl
  | @more p b k h1 h2 h3 ih =>
    intro f
    have := ih (f + 1)
    rw [show f + (p ++ [k]).length = f + 1 + p.length by simp; omega, this, ord, if_neg h2, h3]
theorem Gp.done (hn : n ≤ 8) {p : List Nat} (h : Gp m Rw n S T p (gl S T n)) : ordF m Rw n S T = some p := by
  have hb := h.bits hn
  have := h.ord_eq (256 - p.length)
  rw [show 256 - p.length + p.length = 256 by omega] at this
  unfold ordF
  rw [this]
  cases hf : 256 - p.length with
  | zero => simp [ord]
  | succ f => simp [ord]
theorem Gp.stuck (hn : n ≤ 8) {p : List Nat} {b : Nat} (h : Gp m Rw n S T p b) (hne : b ≠ gl S T n) (hx : nxt m Rw n S T b = none) : ordF m Rw n S T = none := by
  have hb := h.bits hn
  have := h.ord_eq (256 - p.length)
  rw [show 256 - p.length + p.length = 256 by omega] at this
  unfold ordF
  rw [this]
  cases hf : 256 - p.length with
  | zero => simp [ord, hne]
  | succ f => simp [ord, hne, hx]
/-- a road that is done is a road -/
theorem ord_gp : ∀ (f : Nat) {p0 p : List Nat} {b : Nat}, Gp m Rw n S T p0 b → ord m Rw n S T f p0 b = some p → Gp m Rw n S T p (gl S T n)
  | 0, p0, p, b, h, ho => by
    rw [ord] at ho
    split at ho
    · rename_i e
      cases ho
      exact e ▸ h
    · cases ho
  | f + 1, p0, p, b, h, ho => by
    rw [ord] at ho
    split at ho
    · rename_i e
      cases ho
      exact e ▸ h
    · rename_i e
      split at ho
      · cases ho
      · rename_i k hk
        exact ord_gp f (h.more e hk) ho
theorem ordF_gp {p : List Nat} (h : ordF m Rw n S T = some p) : Gp m Rw n S T p (gl S T n) := ord_gp 256 .start h
end Go.Proofs.Ytcjbjhkmnfegnaa
