/-
  Slices of frames that came in, for the law RedundancyOnce. No condition.
-/
import Derived.Test.YtllabfbebidjiaaLawE
namespace Go.Proofs.Ytllabfbebidjiaa
open Go.RowKit Go.ChangeShapes Go.WideShapes Go.Deep
theorem sents_in {H : Type} {enc : TypeId × Value → H} {w : World} {held : Bool} {A : Option Addr} {len cap fuel : Nat} {x : DataW H × List MemPlace}
    (h : DataW.trod enc Try.prog w 0 (fun _ => true) held fuel 26 [.slice A len cap] = some x) : ∃ G X Y P R, SentIn w A len G X Y P R := by
  obtain ⟨hm, hc⟩ := fields_in Try.underlying26 Try.underlying29 (by kernel_rfl) (by kernel_rfl) (by simp) h
  unfold maxLen at hm
  rcases Nat.eq_zero_or_pos len with h0 | h0
  · exact ⟨fun _ => 0, fun _ => 0, fun _ => 0, fun _ => false, fun _ => false, by omega, fun _ => ⟨⟨Int.le_refl _, by show (0 : Int) ≤ 65535; omega⟩, ⟨Int.le_refl _, by show (0 : Int) ≤ 65535; omega⟩, ⟨Int.le_refl _, by show (0 : Int) ≤ 65535; omega⟩⟩, fun h => by omega⟩
  obtain ⟨b, off, rfl, hb, hi⟩ := hc h0
  have each : ∀ k, k < len → ∃ q : (Int × Int × Int) × Bool × Bool, (w.cell? ⟨b, off + k * 5, none⟩ = some (.int .u16 q.1.1) ∧ w.cell? ⟨b, off + k * 5 + 1, none⟩ = some (.int .u16 q.1.2.1) ∧ w.cell? ⟨b, off + k * 5 + 2, none⟩ = some (.int .u16 q.1.2.2) ∧
      w.cell? ⟨b, off + k * 5 + 3, none⟩ = some (.bool q.2.1) ∧ w.cell? ⟨b, off + k * 5 + 4, none⟩ = some (.bool q.2.2)) ∧ (0 ≤ q.1.1 ∧ q.1.1 ≤ 65535) ∧ (0 ≤ q.1.2.1 ∧ q.1.2.1 ≤ 65535) ∧ (0 ≤ q.1.2.2 ∧ q.1.2.2 ≤ 65535) := fun k hk => by
    obtain ⟨v0, y0, n0, c0, t0⟩ := hi k hk 0 _ rfl
    obtain ⟨v1, y1, n1, c1, t1⟩ := hi k hk 1 _ rfl
    obtain ⟨v2, y2, n2, c2, t2⟩ := hi k hk 2 _ rfl
    obtain ⟨v3, y3, n3, c3, t3⟩ := hi k hk 3 _ rfl
    obtain ⟨v4, y4, n4, c4, t4⟩ := hi k hk 4 _ rfl
    obtain ⟨m0, e0, _, u0⟩ := DataW.trod_int Try.underlying25 t0
    obtain ⟨m1, e1, _, u1⟩ := DataW.trod_int Try.underlying25 t1
    obtain ⟨m2, e2, _, u2⟩ := DataW.trod_int Try.underlying25 t2
    obtain ⟨m3, e3, _⟩ := DataW.trod_bool Try.underlying4 t3
    obtain ⟨m4, e4, _⟩ := DataW.trod_bool Try.underlying4 t4
    simp only [List.cons.injEq, and_true] at e0 e1 e2 e3 e4
    subst e0 e1 e2 e3 e4
    exact ⟨((m0, m1, m2), m3, m4), ⟨c0, c1, c2, c3, c4⟩, bounds_u16 u0, bounds_u16 u1, bounds_u16 u2⟩
  obtain ⟨q, hq⟩ := choose_lt each
  refine ⟨fun k => if k < len then (q k).1.1 else 0, fun k => if k < len then (q k).1.2.1 else 0, fun k => if k < len then (q k).1.2.2 else 0, fun k => (q k).2.1, fun k => (q k).2.2, by omega, fun k => ?_, fun _ => ⟨b, off, rfl, hb, fun k hk => ?_⟩⟩
  · by_cases hk : k < len
    · simp only [if_pos hk]
      exact (hq k hk).2
    · simp only [if_neg hk]
      omega
  · simp only [if_pos hk]
    exact (hq k hk).1
end Go.Proofs.Ytllabfbebidjiaa
