/-
  Slices that came in, and rows that the call itself makes: words for the walks (ints; frames of two ints), and what an append to such a row leaves. No condition.
-/
import Derived.Test.YtknfhbhaencdjaaCon4
import Derived.OwnWalk
namespace Go.Proofs.Ytknfhbhaencdjaa
open Go.RowKit

/-- what a row's frame tells of a slice of integers that came in -/
def IsRow (k : IntKind) (w : World) (a : Option Addr) (len cap : Nat) (zs : List Int) : Prop :=
  (a = none ∧ len = 0 ∧ cap = 0 ∧ zs = []) ∨
  ∃ x, a = some x ∧ len ≤ cap ∧ cap ≤ maxLen ∧ zs.length = cap ∧ (∀ i, i < zs.length → w.cell? (x.add i) = some (.int k (zs.getD i 0))) ∧ ∀ n ∈ zs, (Lit.int k n).wf = true

/-- the same, for a walk: the address is asked for inside a round alone -/
def Ints (w : World) (A : Option Addr) (n : Nat) (z : Nat → Int) : Prop :=
  n ≤ 9223372036854775807 ∧ (0 < n → ∃ b off, A = some ⟨b, off, none⟩ ∧ b < w.heap.size ∧ ∀ k, k < n → w.cell? ⟨b, off + k, none⟩ = some (.int .i64 (z k)))

theorem add_eq (b off k : Nat) : (⟨b, off, none⟩ : Addr).add k = ⟨b, off + k, none⟩ := by
  unfold Addr.add
  split
  · next h => subst h; rfl
  · rfl

theorem IsRow.ints {w : World} {a : Option Addr} {len cap : Nat} {zs : List Int} (h : IsRow .i64 w a len cap zs) : Ints w a len (fun i => zs.getD i 0) := by
  rcases h with ⟨rfl, rfl, rfl, rfl⟩ | ⟨x, rfl, hl, hm, hz, hc, _⟩
  · exact ⟨by omega, fun h => absurd h (by omega)⟩
  · unfold maxLen at hm
    refine ⟨by omega, fun h => ?_⟩
    obtain ⟨b, off, spot⟩ := x
    have h0 := hc 0 (by omega)
    have hs : spot = none := by simpa [Addr.add] using World.cell?_spot h0
    subst hs
    refine ⟨b, off, rfl, by have := World.block_lt_of_cell? w _ h0; rwa [add_eq] at this, fun k hk => ?_⟩
    have := hc k (by omega)
    rwa [add_eq] at this

theorem Ints.below {w w' : World} {A : Option Addr} {n : Nat} {z : Nat → Int} (h : Ints w A n z) (hb : Below w.heap.size w w') : Ints w' A n z := by
  refine ⟨h.1, fun hn => ?_⟩
  obtain ⟨b, off, hA, hlt, hc⟩ := h.2 hn
  exact ⟨b, off, hA, Nat.lt_of_lt_of_le hlt hb.size, fun k hk => (hb.cell (p := ⟨b, off + k, none⟩) hlt).trans (hc k hk)⟩

/-! ### rows of frames -/
def frs (t s : Nat → Int) : Nat → List Value
  | 0 => []
  | k + 1 => frs t s k ++ [.int .i64 (t k), .int .i64 (s k)]
theorem frs_len (t s : Nat → Int) : ∀ k, (frs t s k).length = k * 2
  | 0 => rfl
  | k + 1 => by rw [frs, List.length_append, frs_len t s k]; simp; omega
theorem frs_at (t s : Nat → Int) : ∀ n k, k < n → (frs t s n)[k * 2]? = some (.int .i64 (t k)) ∧ (frs t s n)[k * 2 + 1]? = some (.int .i64 (s k))
  | 0, k, h => by omega
  | n + 1, k, h => by
    have hl := frs_len t s n
    rw [frs]
    rcases Nat.lt_or_ge k n with h' | h'
    · obtain ⟨a, b⟩ := frs_at t s n k h'
      rw [List.getElem?_append_left (by omega), List.getElem?_append_left (by omega)]
      exact ⟨a, b⟩
    · obtain rfl : k = n := by omega
      rw [List.getElem?_append_right (by omega), List.getElem?_append_right (by omega), hl]
      simp
theorem frs_congr {t t' s s' : Nat → Int} : ∀ k, (∀ i, i < k → t i = t' i ∧ s i = s' i) → frs t s k = frs t' s' k
  | 0, _ => rfl
  | k + 1, h => by rw [frs, frs, frs_congr k (fun i hi => h i (by omega)), (h k (by omega)).1, (h k (by omega)).2]

/-- the row v holds the first n frames of (t, s) -/
def Rows2 (w : World) (base : Nat) (v : Value) (n : Nat) (t s : Nat → Int) : Prop := w.ownsRow base 37 2 v n (frs t s n)

theorem own_ne {w : World} {base : Nat} {e t : TypeId} {size n g : Nat} {v : Value} {xs : List Value} {cs : Array Value} (h : w.ownsRow base e size v n xs) (hg : Blk w g t cs) (hne : e ≠ t) : v.ownBlock ≠ some g := by
  rcases h.2 with ⟨rfl, _⟩ | ⟨g', cap, cur, rfl, _, hh, _⟩
  · simp [Value.ownBlock]
  · intro he
    have e1 : g' = g := by simpa [Value.ownBlock] using he
    subst e1
    unfold Blk at hg
    rw [hh] at hg
    injection hg with hg
    injection hg with _ ht
    exact hne ht

theorem Rows2.flow {w : World} {base n : Nat} {v : Value} {t s : Nat → Int} (h : Rows2 w base v n t s) (hn : n ≤ 1000000) : ∃ A c, v = .slice A n c ∧ Flow w A n t s := by
  rcases h.2 with ⟨rfl, h0⟩ | ⟨g, cap, cur, rfl, _, hh, _⟩
  · obtain rfl : n = 0 := h0
    exact ⟨none, 0, rfl, by omega, fun h => absurd h (by omega)⟩
  · refine ⟨_, _, rfl, hn, fun _ => ⟨g, rfl, lt_of_block hh, fun k hk => ?_⟩⟩
    obtain ⟨a, b⟩ := frs_at t s n k hk
    have h1 := h.cells (g := g) rfl _ _ a
    have h2 := h.cells (g := g) rfl _ _ b
    rw [add_eq, Nat.zero_add] at h1 h2
    exact ⟨h1, h2⟩

theorem Try.info37 : (Try.prog.info? 37).map (fun i => (i.zero, i.size, i.bytes)) = some (some (.agg #[.int .i64 0, .int .i64 0]), 2, 16) := by kernel_rfl
theorem Try.info3' : (Try.prog.info? 3).map (fun i => (i.zero, i.size, i.bytes)) = some (some (.int .i64 0), 1, 8) := by kernel_rfl

/-- the cells of a new block of two -/
theorem new_two (w : World) (x y : Value) (t : TypeId) : ∀ (j : Nat) (u : Value), [x, y][j]? = some u → (w.alloc (.cells #[x, y] t)).cell? ((⟨w.heap.size, 0, none⟩ : Addr).add j) = some u := by
  intro j u hj
  have hb := Blk.made w t #[x, y]
  rw [add_eq, Nat.zero_add, hb.cell]
  simpa using hj
theorem one_two (a b : Int) : ∀ u ∈ [Value.int .i64 a, Value.int .i64 b], u.oneCell' = true := by
  intro u hu
  simp at hu
  rcases hu with rfl | rfl <;> rfl
end Go.Proofs.Ytknfhbhaencdjaa
