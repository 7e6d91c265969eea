/-
  Slices of units and of rows that came in or were made: what their cells hold. No condition.
-/
import Derived.Test.YtcjbjhkmnfegnaaC1
import Derived.Test.YtcjbjhkmnfegnaaSl
namespace Go.Proofs.Ytcjbjhkmnfegnaa
open Go.RowKit Go.ChangeShapes Go.WideShapes Go.Deep
instance : Inhabited U := ⟨(ByteArray.empty, 0)⟩
def UnitsIn (w : World) (A : Option Addr) (n : Nat) (S : Nat → U) : Prop :=
  n ≤ 9223372036854775807 ∧ (0 < n → ∃ b off, A = some ⟨b, off, none⟩ ∧ b < w.heap.size ∧
    ∀ k, k < n → w.cell? ⟨b, off + k * 2, none⟩ = some (.string (S k).1) ∧ w.cell? ⟨b, off + k * 2 + 1, none⟩ = some (.int .i64 (S k).2))
theorem UnitsIn.below {w w' : World} {A : Option Addr} {n : Nat} {S : Nat → U} {B : Nat} (h : UnitsIn w A n S) (hb : Below B w w') (hB : w.heap.size ≤ B) : UnitsIn w' A n S := by
  refine ⟨h.1, fun hn => ?_⟩
  obtain ⟨b, off, hA, hlt, hc⟩ := h.2 hn
  exact ⟨b, off, hA, Nat.lt_of_lt_of_le hlt hb.size, fun k hk => ⟨(hb.cell (p := ⟨b, off + k * 2, none⟩) (Nat.lt_of_lt_of_le hlt hB)).trans (hc k hk).1, (hb.cell (p := ⟨b, off + k * 2 + 1, none⟩) (Nat.lt_of_lt_of_le hlt hB)).trans (hc k hk).2⟩⟩
/-- the row lies below block B -/
def Under (B : Nat) (A : Option Addr) : Prop := ∀ x, A = some x → x.block < B
theorem UnitsIn.keep {w w' : World} {A : Option Addr} {n : Nat} {S : Nat → U} {B : Nat} (h : UnitsIn w A n S) (hb : Below B w w') (hB : Under B A) : UnitsIn w' A n S := by
  refine ⟨h.1, fun hn => ?_⟩
  obtain ⟨b, off, hA, hlt, hc⟩ := h.2 hn
  have hlt2 : b < B := hB _ hA
  exact ⟨b, off, hA, Nat.lt_of_lt_of_le hlt hb.size, fun k hk => ⟨(hb.cell (p := ⟨b, off + k * 2, none⟩) hlt2).trans (hc k hk).1, (hb.cell (p := ⟨b, off + k * 2 + 1, none⟩) hlt2).trans (hc k hk).2⟩⟩
theorem UnitsIn.less {w : World} {A : Option Addr} {n m : Nat} {S : Nat → U} (h : UnitsIn w A n S) (hm : m ≤ n) : UnitsIn w A m S := by
  refine ⟨Nat.le_trans hm h.1, fun hn => ?_⟩
  obtain ⟨b, off, hA, hlt, hc⟩ := h.2 (Nat.lt_of_lt_of_le hn hm)
  exact ⟨b, off, hA, hlt, fun k hk => hc k (Nat.lt_of_lt_of_le hk hm)⟩
theorem UnitsIn.congr {w : World} {A : Option Addr} {n : Nat} {S T : Nat → U} (h : UnitsIn w A n S) (e : ∀ k, k < n → S k = T k) : UnitsIn w A n T := by
  refine ⟨h.1, fun hn => ?_⟩
  obtain ⟨b, off, hA, hlt, hc⟩ := h.2 hn
  exact ⟨b, off, hA, hlt, fun k hk => by rw [← e k hk]; exact hc k hk⟩
def RowsIn (w : World) (A : Option Addr) (n : Nat) (Rw : Nat → R) : Prop :=
  n ≤ 9223372036854775807 ∧ (0 < n → ∃ b off, A = some ⟨b, off, none⟩ ∧ b < w.heap.size ∧
    ∀ k, k < n → w.cell? ⟨b, off + k * 4, none⟩ = some (.string (Rw k).1.1) ∧ w.cell? ⟨b, off + k * 4 + 1, none⟩ = some (.int .i64 (Rw k).1.2) ∧
      w.cell? ⟨b, off + k * 4 + 2, none⟩ = some (.string (Rw k).2.1) ∧ w.cell? ⟨b, off + k * 4 + 3, none⟩ = some (.int .i64 (Rw k).2.2))
theorem RowsIn.below {w w' : World} {A : Option Addr} {n : Nat} {Rw : Nat → R} {B : Nat} (h : RowsIn w A n Rw) (hb : Below B w w') (hB : w.heap.size ≤ B) : RowsIn w' A n Rw := by
  refine ⟨h.1, fun hn => ?_⟩
  obtain ⟨b, off, hA, hlt, hc⟩ := h.2 hn
  have hl := Nat.lt_of_lt_of_le hlt hB
  exact ⟨b, off, hA, Nat.lt_of_lt_of_le hlt hb.size, fun k hk => ⟨(hb.cell (p := ⟨b, off + k * 4, none⟩) hl).trans (hc k hk).1, (hb.cell (p := ⟨b, off + k * 4 + 1, none⟩) hl).trans (hc k hk).2.1, (hb.cell (p := ⟨b, off + k * 4 + 2, none⟩) hl).trans (hc k hk).2.2.1, (hb.cell (p := ⟨b, off + k * 4 + 3, none⟩) hl).trans (hc k hk).2.2.2⟩⟩
theorem RowsIn.keep {w w' : World} {A : Option Addr} {n : Nat} {Rw : Nat → R} {B : Nat} (h : RowsIn w A n Rw) (hb : Below B w w') (hB : Under B A) : RowsIn w' A n Rw := by
  refine ⟨h.1, fun hn => ?_⟩
  obtain ⟨b, off, hA, hlt, hc⟩ := h.2 hn
  have hl : b < B := hB _ hA
  exact ⟨b, off, hA, Nat.lt_of_lt_of_le hlt hb.size, fun k hk => ⟨(hb.cell (p := ⟨b, off + k * 4, none⟩) hl).trans (hc k hk).1, (hb.cell (p := ⟨b, off + k * 4 + 1, none⟩) hl).trans (hc k hk).2.1, (hb.cell (p := ⟨b, off + k * 4 + 2, none⟩) hl).trans (hc k hk).2.2.1, (hb.cell (p := ⟨b, off + k * 4 + 3, none⟩) hl).trans (hc k hk).2.2.2⟩⟩
theorem units_in {H : Type} {enc : TypeId × Value → H} {w : World} {held : Bool} {A : Option Addr} {len cap fuel : Nat} {x : DataW H × List MemPlace}
    (h : DataW.trod enc Try.prog w 0 (fun _ => true) held fuel 23 [.slice A len cap] = some x) : len ≤ cap ∧ cap ≤ 9223372036854775807 ∧ ∃ S, UnitsIn w A len S := by
  obtain ⟨hl, hm, hc⟩ := fields_in Try.underlying23 Try.underlying40 (by kernel_rfl) (by kernel_rfl) (by simp) h
  unfold maxLen at hm
  rcases Nat.eq_zero_or_pos len with h0 | h0
  · exact ⟨hl, by omega, fun _ => default, by omega, fun h => by omega⟩
  obtain ⟨b, off, rfl, hb, hi⟩ := hc h0
  have each : ∀ k, k < len → ∃ q : U, w.cell? ⟨b, off + k * 2, none⟩ = some (.string q.1) ∧ w.cell? ⟨b, off + k * 2 + 1, none⟩ = some (.int .i64 q.2) := fun k hk => by
    obtain ⟨v0, y0, n0, c0, t0⟩ := hi k hk 0 _ rfl
    obtain ⟨v1, y1, n1, c1, t1⟩ := hi k hk 1 _ rfl
    obtain ⟨m0, e0, _, _⟩ := DataW.trod_string Try.underlying9 t0
    obtain ⟨m1, e1, _, _⟩ := DataW.trod_int Try.underlying3 t1
    simp only [List.cons.injEq, and_true] at e0 e1
    subst e0 e1
    exact ⟨(m0, m1), c0, c1⟩
  obtain ⟨q, hq⟩ := choose_lt each
  exact ⟨hl, by omega, q, by omega, fun _ => ⟨b, off, rfl, hb, hq⟩⟩
theorem rows_in {H : Type} {enc : TypeId × Value → H} {w : World} {held : Bool} {A : Option Addr} {len cap fuel : Nat} {x : DataW H × List MemPlace}
    (h : DataW.trod enc Try.prog w 0 (fun _ => true) held fuel 22 [.slice A len cap] = some x) : len ≤ cap ∧ cap ≤ 9223372036854775807 ∧ ∃ Rw, RowsIn w A len Rw := by
  obtain ⟨hl, hm, hc⟩ := fields_in Try.underlying22 Try.underlying37 (by kernel_rfl) (by kernel_rfl) (by simp) h
  unfold maxLen at hm
  rcases Nat.eq_zero_or_pos len with h0 | h0
  · exact ⟨hl, by omega, fun _ => default, by omega, fun h => by omega⟩
  obtain ⟨b, off, rfl, hb, hi⟩ := hc h0
  have each : ∀ k, k < len → ∃ q : R, w.cell? ⟨b, off + k * 4, none⟩ = some (.string q.1.1) ∧ w.cell? ⟨b, off + k * 4 + 1, none⟩ = some (.int .i64 q.1.2) ∧
      w.cell? ⟨b, off + k * 4 + 2, none⟩ = some (.string q.2.1) ∧ w.cell? ⟨b, off + k * 4 + 3, none⟩ = some (.int .i64 q.2.2) := fun k hk => by
    obtain ⟨v0, y0, n0, c0, t0⟩ := hi k hk 0 _ rfl
    obtain ⟨v1, y1, n1, c1, t1⟩ := hi k hk 1 _ rfl
    obtain ⟨v2, y2, n2, c2, t2⟩ := hi k hk 2 _ rfl
    obtain ⟨v3, y3, n3, c3, t3⟩ := hi k hk 3 _ rfl
    obtain ⟨m0, e0, _, _⟩ := DataW.trod_string Try.underlying9 t0
    obtain ⟨m1, e1, _, _⟩ := DataW.trod_int Try.underlying3 t1
    obtain ⟨m2, e2, _, _⟩ := DataW.trod_string Try.underlying9 t2
    obtain ⟨m3, e3, _, _⟩ := DataW.trod_int Try.underlying3 t3
    simp only [List.cons.injEq, and_true] at e0 e1 e2 e3
    subst e0 e1 e2 e3
    exact ⟨((m0, m1), (m2, m3)), c0, c1, c2, c3⟩
  obtain ⟨q, hq⟩ := choose_lt each
  exact ⟨hl, by omega, q, by omega, fun _ => ⟨b, off, rfl, hb, hq⟩⟩
end Go.Proofs.Ytcjbjhkmnfegnaa
