/-
  A slice of operations that came in (layer 20): what its cells hold. No condition.
-/
import Derived.Test.YtgljfjmffiofkaaSl
import Derived.Test.YtgljfjmffiofkaaProg
namespace Go.Proofs.Ytgljfjmffiofkaa
open Go.RowKit Go.ChangeShapes Go.WideShapes Go.Deep
def Ops (w : World) (A : Option Addr) (n : Nat) (X Z : Nat → Int) : Prop :=
  n ≤ 9223372036854775807 ∧ (0 < n → ∃ b off, A = some ⟨b, off, none⟩ ∧ b < w.heap.size ∧
    ∀ k, k < n → w.cell? ⟨b, off + k * 2, none⟩ = some (.int .u8 (X k)) ∧ w.cell? ⟨b, off + k * 2 + 1, none⟩ = some (.int .i64 (Z k)) ∧ 0 ≤ X k ∧ X k ≤ 255)
theorem Ops.below {w w' : World} {A : Option Addr} {n : Nat} {X Z : Nat → Int} (h : Ops w A n X Z) (hb : Below w.heap.size w w') : Ops w' A n X Z := by
  refine ⟨h.1, fun hn => ?_⟩
  obtain ⟨b, off, hA, hlt, hc⟩ := h.2 hn
  exact ⟨b, off, hA, Nat.lt_of_lt_of_le hlt hb.size, fun k hk => ⟨(hb.cell (p := ⟨b, off + k * 2, none⟩) hlt).trans (hc k hk).1, (hb.cell (p := ⟨b, off + k * 2 + 1, none⟩) hlt).trans (hc k hk).2.1, (hc k hk).2.2⟩⟩
theorem ops_in {H : Type} {enc : TypeId × Value → H} {w : World} {held : Bool} {A : Option Addr} {len cap fuel : Nat} {x : DataW H × List MemPlace}
    (h : DataW.trod enc Try.prog w 0 (fun _ => true) held fuel 37 [.slice A len cap] = some x) : ∃ X Z, Ops w A len X Z := by
  obtain ⟨hm, hc⟩ := fields_in Try.underlying37 Try.underlying39 (by kernel_rfl) (by kernel_rfl) (by simp) h
  unfold maxLen at hm
  rcases Nat.eq_zero_or_pos len with h0 | h0
  · exact ⟨fun _ => 0, fun _ => 0, by omega, fun h => by omega⟩
  obtain ⟨b, off, rfl, hb, hi⟩ := hc h0
  have each : ∀ k, k < len → ∃ q : Int × Int, w.cell? ⟨b, off + k * 2, none⟩ = some (.int .u8 q.1) ∧ w.cell? ⟨b, off + k * 2 + 1, none⟩ = some (.int .i64 q.2) ∧ 0 ≤ q.1 ∧ q.1 ≤ 255 := fun k hk => by
    obtain ⟨v0, y0, n0, c0, t0⟩ := hi k hk 0 _ rfl
    obtain ⟨v1, y1, n1, c1, t1⟩ := hi k hk 1 _ rfl
    obtain ⟨m0, e0, _, u0⟩ := DataW.trod_int Try.underlying5 t0
    obtain ⟨m1, e1, _, _⟩ := DataW.trod_int Try.underlying3 t1
    simp only [List.cons.injEq, and_true] at e0 e1
    subst e0 e1
    obtain ⟨b0, b1⟩ := bounds_u8 u0
    exact ⟨(m0, m1), c0, c1, b0, b1⟩
  obtain ⟨q, hq⟩ := choose_lt each
  exact ⟨fun k => (q k).1, fun k => (q k).2, by omega, fun _ => ⟨b, off, rfl, hb, hq⟩⟩
end Go.Proofs.Ytgljfjmffiofkaa
