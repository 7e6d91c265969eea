/-
  Filter at a flow that the laws build (times not going back, sizes that are sizes): the row of the indices that pass, read by cells. No condition.
-/
import Derived.Test.YtknfhbhaencdjaaCon8
namespace Go.Proofs.Ytknfhbhaencdjaa
open Go.RowKit

/-- the slice at A holds the indices l -/
def IdxR (w : World) (A : Option Addr) (l : List Nat) : Prop :=
  0 < l.length → ∃ g, A = some ⟨g, 0, none⟩ ∧ g < w.heap.size ∧ ∀ k, k < l.length → w.cell? ⟨g, k, none⟩ = some (.int .i64 ((l.getD k 0 : Nat) : Int))
theorem IdxR.below {w w' : World} {A : Option Addr} {l : List Nat} (h : IdxR w A l) (hb : Below w.heap.size w w') : IdxR w' A l := fun hl => by
  obtain ⟨g, hA, hlt, hc⟩ := h hl
  exact ⟨g, hA, Nat.lt_of_lt_of_le hlt hb.size, fun k hk => (hb.cell (p := ⟨g, k, none⟩) hlt).trans (hc k hk)⟩
theorem fine_nobad {t s : Nat → Int} {m : Nat} (h : Pol.Fine t s m) : ∀ i, i < m → Pol.bad t s i = false := fun i hi => by
  obtain ⟨h1, h2, h3, h4⟩ := h i hi
  have e1 : ¬ t i < Pol.clk t i := by omega
  have e2 : ¬ 1073741824 < t i := by omega
  have e3 : ¬ s i < 1 := by omega
  have e4 : ¬ 2048 < s i := by omega
  simp [Pol.bad, e1, e2, e3, e4]
theorem own_idx {w : World} {base : Nat} {l : List Nat} {v : Value} (h : w.ownsRow base 3 1 v l.length (ints l)) : ∃ A c, v = .slice A l.length c ∧ IdxR w A l := by
  rcases h.2 with ⟨rfl, h0⟩ | ⟨g, cap, cur, rfl, _, hh, _⟩
  · rw [h0]
    exact ⟨none, 0, rfl, fun h => absurd h (by omega)⟩
  · refine ⟨_, _, rfl, fun _ => ⟨g, rfl, lt_of_block hh, fun k hk => ?_⟩⟩
    have e : (ints l)[k]? = some (.int .i64 ((l.getD k 0 : Nat) : Int)) := by
      unfold ints
      rw [List.getElem?_map, List.getElem?_eq_getElem hk]
      simp [List.getD, List.getElem?_eq_getElem hk]
    have h1 := h.cells (g := g) rfl _ _ e
    rw [add_eq, Nat.zero_add] at h1
    exact h1

theorem filter_at {l : List Nat} (B S J : Int) (A : Option Addr) (m c : Nat) (t s : Nat → Int) (w : World) (hok : okC B S J = true) (hF : Flow w A m t s) (hf : Pol.Fine t s m) (hl : Pol.idx B S J t s m = l) :
    Calls Try.prog 20 #[.int .i64 B, .int .i64 S, .int .i64 J, .slice A m c] w fun e w' => ∃ A' c', e = .returned (.tuple #[.slice A' l.length c', .int .i64 0]) ∧ IdxR w' A' l ∧ Below w.heap.size w w' := by
  subst hl
  refine (filter_ok B S J A m c t s w hok hF).mono ?_
  rintro e w' ⟨hb, ⟨_, v, rfl, hv⟩ | ⟨⟨i, hi, hbad⟩, _⟩⟩
  · obtain ⟨A', c', rfl, hr⟩ := own_idx hv
    exact ⟨A', c', rfl, hr, hb⟩
  · rw [fine_nobad hf i hi] at hbad
    cases hbad

theorem idx_lt {B S J : Int} {t s : Nat → Int} {n : Nat} {k : Nat} (hk : k < (Pol.idx B S J t s n).length) : (Pol.idx B S J t s n).getD k 0 < n := ((Pol.Qs_idx B S J t s n).2 k hk).2.2.1
theorem idx_len (B S J : Int) (t s : Nat → Int) (n : Nat) : (Pol.idx B S J t s n).length ≤ n := by
  unfold Pol.idx
  exact Nat.le_trans (List.length_filter_le _ _) (by simp)
end Go.Proofs.Ytknfhbhaencdjaa
