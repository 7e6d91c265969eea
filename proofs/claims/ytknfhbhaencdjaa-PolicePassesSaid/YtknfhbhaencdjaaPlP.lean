/-
  The plain law behind PolicePasses: the flow that the law builds, and that each of its frames passes and the whole conforms. No program in sight.
-/
import Derived.Test.YtknfhbhaencdjaaPlain
namespace Go.Proofs.Ytknfhbhaencdjaa.Pp
variable (B S J : Int) (g d z : Nat → Int) (n4 n5 : Nat)
/-- the times r; the time of a frame before it waits for the one ahead; its time; its size -/
def rt : Nat → Int
  | 0 => 0
  | k + 1 => rt k + (B + g k % 401)
def own (k : Nat) : Int := if k < n4 then rt B g (k + 1) + d k % (J + 1) else rt B g (k + 1)
def lt : Nat → Int
  | 0 => 0
  | k + 1 => max (lt k) (own B J g d n4 k)
def sz (k : Nat) : Int := if k < n5 then 1 + z k % S else S
def lv : Nat → Int
  | 0 => S * (B + J)
  | k + 1 => Pol.next B S J (lv k) (lt B J g d n4 k) (lt B J g d n4 (k + 1)) (sz S z n5 k)
variable {B S J : Int} {g d z : Nat → Int} {n4 n5 : Nat}
theorem own_bd (hJ : 0 ≤ J) (k : Nat) : rt B g (k + 1) ≤ own B J g d n4 k ∧ own B J g d n4 k ≤ rt B g (k + 1) + J := by
  unfold own
  have h1 : 0 ≤ d k % (J + 1) := Int.emod_nonneg _ (by omega)
  have h2 : d k % (J + 1) < J + 1 := Int.emod_lt_of_pos _ (by omega)
  split <;> omega
theorem sz_bd (hS : 1 ≤ S) (k : Nat) : 1 ≤ sz S z n5 k ∧ sz S z n5 k ≤ S := by
  unfold sz
  have h1 : 0 ≤ z k % S := Int.emod_nonneg _ (by omega)
  have h2 : z k % S < S := Int.emod_lt_of_pos _ (by omega)
  split <;> omega
theorem rt_step (k : Nat) : rt B g k + B ≤ rt B g (k + 1) ∧ rt B g (k + 1) ≤ rt B g k + B + 400 := by
  show rt B g k + B ≤ rt B g k + (B + g k % 401) ∧ rt B g k + (B + g k % 401) ≤ _
  have : 0 ≤ g k % 401 ∧ g k % 401 < 401 := by omega
  omega
theorem rt_bd (hB : 1 ≤ B) (hB2 : B ≤ 300) : ∀ k, 0 ≤ rt B g k ∧ rt B g k ≤ 700 * k
  | 0 => by simp [rt]
  | k + 1 => by
    have := rt_bd hB hB2 k
    have := rt_step (B := B) (g := g) k
    omega
theorem lt_bd (hB : 1 ≤ B) (hJ : 0 ≤ J) : ∀ k, rt B g k ≤ lt B J g d n4 k ∧ lt B J g d n4 k ≤ rt B g k + J
  | 0 => by simp [rt, lt]; omega
  | k + 1 => by
    have h1 := lt_bd hB hJ k
    have h2 := own_bd (B := B) (g := g) (d := d) (n4 := n4) hJ k
    have h3 := rt_step (B := B) (g := g) k
    show _ ≤ max _ _ ∧ max _ _ ≤ _
    omega
theorem lv_ge (hB : 1 ≤ B) (hS : 1 ≤ S) (hJ : 0 ≤ J) : ∀ k, S * (lt B J g d n4 k - rt B g k) ≤ lv B S J g d z n4 n5 k ∧
    Pol.good B S J (lv B S J g d z n4 n5 k) (lt B J g d n4 k) (lt B J g d n4 (k + 1)) (sz S z n5 k) = true := by
  have step : ∀ k, S * (lt B J g d n4 k - rt B g k) ≤ lv B S J g d z n4 n5 k → Pol.good B S J (lv B S J g d z n4 n5 k) (lt B J g d n4 k) (lt B J g d n4 (k + 1)) (sz S z n5 k) = true ∧
      S * (lt B J g d n4 (k + 1) - rt B g (k + 1)) ≤ lv B S J g d z n4 n5 (k + 1) := fun k h =>
    Pol.pass_next (by omega) (by omega) hJ h (rt_step k).1 (lt_bd hB hJ (k + 1)).1 (lt_bd hB hJ (k + 1)).2 (sz_bd hS k).2 (by have := (sz_bd (z := z) (n5 := n5) hS k).1; omega)
  intro k
  induction k with
  | zero =>
    have h0 : S * (lt B J g d n4 0 - rt B g 0) ≤ lv B S J g d z n4 n5 0 := by
      show S * (0 - 0) ≤ S * (B + J)
      exact Pol.mul_mono (by omega) (by omega)
    exact ⟨h0, (step 0 h0).1⟩
  | succ k ih =>
    have h := (step k ih.1).2
    exact ⟨h, (step (k + 1) h).1⟩
theorem lt_mono (k : Nat) : lt B J g d n4 k ≤ lt B J g d n4 (k + 1) := by show _ ≤ max _ _; omega
theorem lv_bd (hB : 1 ≤ B) (hS : 1 ≤ S) (hJ : 0 ≤ J) : ∀ k, 0 ≤ lv B S J g d z n4 n5 k ∧ lv B S J g d z n4 n5 k ≤ S * (B + J)
  | 0 => ⟨Int.mul_nonneg (by omega) (by omega), Int.le_refl _⟩
  | k + 1 => ⟨Pol.next_nonneg (by omega) (by omega) hJ (lv_bd hB hS hJ k).1 (lt_mono k), Int.le_trans (Pol.next_le (by have := (sz_bd (z := z) (n5 := n5) hS k).1; omega) (by omega)) (Pol.adv_le ..)⟩
theorem conforms (hB : 1 ≤ B) (hB2 : B ≤ 300) (hS : 1 ≤ S) (hJ : 0 ≤ J) (hJ2 : J ≤ 500) (n : Nat) (hn : n ≤ 80) : Pol.Conf B S J (fun k => lt B J g d n4 (k + 1)) (sz S z n5) n = true :=
  Pol.conf_of_sent (r := fun k => rt B g (k + 1)) (by omega) (fun k _ => (rt_bd hB hB2 (k + 1)).1) (fun k _ => (rt_step (k + 1)).1)
    (fun k hk => ⟨(lt_bd hB hJ (k + 1)).1, (lt_bd hB hJ (k + 1)).2, by have := (lt_bd (d := d) (n4 := n4) (g := g) hB hJ (k + 1)).2; have := (rt_bd (g := g) hB hB2 (k + 1)).2; omega, (sz_bd hS k).1, (sz_bd hS k).2⟩)
    (fun k _ => lt_mono (k + 1))
end Go.Proofs.Ytknfhbhaencdjaa.Pp
